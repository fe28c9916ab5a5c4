/-
  The walk of MatrixReckons.
-/
import Derived.Test.YtbnfnijjldimkaaMgen
import Derived.Test.YtbnfnijjldimkaaMlent
import Derived.Test.YtbnfnijjldimkaaMMat
namespace Go.Proofs.Ytbnfnijjldimkaa
open Go.RowKit
set_option linter.unusedVariables false
set_option linter.unusedSimpArgs false
theorem lent_rd' {w : World} {g : Nat} {L : List (BitVec 8)} {x : Value} {sp : List Value} (h : Row w g 5 ((ncells L ++ [x]) ++ sp)) : Rd w (some ⟨g, 0, none⟩) L :=
  Rd.of_row h (by rw [List.drop_zero, List.append_assoc, ← ncells_length L]; exact List.take_left)
theorem same_trueN (r c : Int) (n : Nat) (L : List (BitVec 8)) (aa ba : Option Addr) (acap bcap : Nat) (w : World) (hn : n = L.length) (hl : n ≤ maxLen) (ha : Rd w aa L) (hb : Rd w ba L) :
    Calls Try.prog 21 #[.agg #[.int .i64 r, .int .i64 c, .slice aa n acap], .agg #[.int .i64 r, .int .i64 c, .slice ba n bcap]] w fun e w' => e = .returned (.bool true) ∧ Below w.heap.size w w' := by
  subst hn
  exact same_true r c L aa ba acap bcap w hl ha hb
theorem two_boxes' (w : World) (va vb vc v0 v1 v2 : Value) : Row ((w.alloc (.cells #[va, vb, vc] 24)).alloc (.cells #[v0, v1, v2] 24)) w.heap.size 24 [va, vb, vc] ∧ Row ((w.alloc (.cells #[va, vb, vc] 24)).alloc (.cells #[v0, v1, v2] 24)) (w.heap.size + 1) 24 [v0, v1, v2] ∧ Below w.heap.size w ((w.alloc (.cells #[va, vb, vc] 24)).alloc (.cells #[v0, v1, v2] 24)) := by
  have hs : ∀ (W : World) (o : Obj), (W.alloc o).heap.size = W.heap.size + 1 := fun W o => by simp
  have hb0 := (Row.new w 24 [va, vb, vc]).alloc (.cells #[v0, v1, v2] 24)
  have hb1 := Row.new (w.alloc (.cells #[va, vb, vc] 24)) 24 [v0, v1, v2]
  rw [hs] at hb1
  exact ⟨hb0, hb1, ((Below.refl _ _).alloc (Nat.le_refl _) _).alloc (by simp) _⟩
set_option maxRecDepth 100000 in
set_option maxHeartbeats 1600000 in
theorem kept_any (r c : Int) (g n cap acap : Nat) (aa : Option Addr) (L : List (BitVec 8)) (sp : List Value) (w : World) (hn : n = L.length) (h16 : n ≤ 1600) (hc : n + 1 ≤ cap) (hcm : cap ≤ 9223372036854775807) (hrow : Row w g 5 ((ncells L ++ [.int .u8 77]) ++ sp)) (ha : Rd w aa L) :
    Calls Try.prog 34 #[.agg #[.int .i64 r, .int .i64 c, .slice (some ⟨g, 0, none⟩) n cap], .agg #[.int .i64 r, .int .i64 c, .slice aa n acap]] w fun e w' => e = .returned (.bool true) ∧ Below w.heap.size w w' := by
  have hcell : w.cell? ⟨g, n, none⟩ = some (.int .u8 77) := hrow.cell (by
    rw [List.append_assoc, List.getElem?_append_right (by rw [ncells_length, hn]; exact Nat.le_refl _), ncells_length, hn, Nat.sub_self]
    rfl)
  have hgl := hrow.lt
  have hrd := lent_rd' hrow
  have S0 := Lib.hid (two_boxes' w (.int .i64 r) (.int .i64 c) (.slice (some ⟨g, 0, none⟩) n cap) (.int .i64 r) (.int .i64 c) (.slice aa n acap))
  obtain ⟨x0, x1, x2⟩ := box3 S0.out.1
  obtain ⟨y0, y1, y2⟩ := box3 S0.out.2.1
  have HN := Lib.hid hn
  have HC := Lib.hid hcell
  have HR := Lib.hid hrd
  have HA := Lib.hid ha
  clear hn hcell hrd ha hrow
  go_enter Try.func34, Try.ntmps34
  go_wp2_with (go_at_call 21; have h9 := S0.out; clear S0; refine (same_trueN r c n L (some ⟨g, 0, none⟩) aa cap acap _ HN.out (by unfold maxLen; omega) (HR.out.after h9.2.2) (HA.out.after h9.2.2)).mono ?_; rintro e w1 ⟨rfl, hb⟩; have hbl := h9.2.2.trans (hb.mono h9.2.2.size); obtain ⟨z0, z1, z2⟩ := box3 (h9.1.after hb); have c77 := (hbl.cell (p := ⟨g, n, none⟩) hgl).trans HC.out; have S1 := Lib.hid hbl; clear h9 hb hbl)
  have e1 := IntWalk.i64_in ((n : Int) + 1) (by omega)
  have e2 : 0 ≤ (n : Int) + 1 := by omega
  have e3 : (n : Int) + 1 ≤ (cap : Int) := by omega
  have e4 : ((n : Int) + 1).toNat = n + 1 := by omega
  have e5 : 0 ≤ (n : Int) ∧ (n : Int) < (n : Int) + 1 := by omega
  have e6 : ((n : Int)).toNat = n := by omega
  go_quiet (fail)
  clear e1 e2 e3 e4 e5 e6
  go_wp2
  go_ret
  exact ⟨rfl, S1.out.trans ⟨rfl, rfl, rfl, Nat.le_refl _, fun _ _ => rfl⟩⟩
end Go.Proofs.Ytbnfnijjldimkaa
