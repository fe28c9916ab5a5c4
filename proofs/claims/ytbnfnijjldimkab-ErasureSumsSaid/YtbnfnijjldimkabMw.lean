/-
  The walks of the small functions of matrices: Right, row, zero, fault, add, own.
-/
import Derived.Test.YtbnfnijjldimkabMat
import Derived.StillTailTactics
import Derived.Laws.CopyOwn
import Derived.OwnWalk
import Derived.Outline
namespace Go.Proofs.Ytbnfnijjldimkab
open Go.RowKit
set_option linter.unusedVariables false
set_option linter.unusedSimpArgs false
theorem u8parts : (Try.prog.info? 5).map (fun i => (i.zero, i.size, i.bytes)) = some (some (.int .u8 0), 1, 1) := by kernel_rfl
theorem u8size : (Try.prog.info? 5).map (·.size) = some 1 := by kernel_rfl
set_option maxHeartbeats 400000 in
theorem in_any (n : Int) (w : World) :
    Calls Try.prog 70 #[.int .i64 n] w fun e w' => e = .returned (.bool (decide (1 ≤ n ∧ n ≤ 255))) ∧ w = w' := by
  by_cases h1 : 1 ≤ n
  · by_cases h2 : n ≤ 255
    · go_enter Try.func70, Try.ntmps70
      go_wp2
      go_ret
      exact ⟨by simp [h1, h2], rfl⟩
    · go_enter Try.func70, Try.ntmps70
      go_wp2
      go_ret
      exact ⟨by simp; omega, rfl⟩
  · go_enter Try.func70, Try.ntmps70
    go_wp2
    go_ret
    exact ⟨by simp; omega, rfl⟩
set_option maxHeartbeats 800000 in
theorem right_any (m : Mt) (a : Option Addr) (cap : Nat) (w : World) (hl : m.cells.length ≤ maxLen) :
    Calls Try.prog 51 #[m.val a cap] w fun e w' => e = .returned (.bool m.right) ∧ Below w.heap.size w w' := by
  obtain ⟨r, c, l⟩ := m
  show Calls Try.prog 51 #[.agg #[.int .i64 r, .int .i64 c, .slice a l.length cap]] w _
  simp only at hl
  unfold maxLen at hl
  have hR : (⟨r, c, l⟩ : Mt).right = (decide (1 ≤ r ∧ r ≤ 255) && (decide (1 ≤ c ∧ c ≤ 255) && decide ((l.length : Int) = r * c))) := by
    unfold Mt.right; simp only
    rw [Bool.eq_iff_iff]; simp only [decide_eq_true_eq, Bool.and_eq_true]; exact ⟨fun ⟨a, b, c, d, e⟩ => ⟨⟨a, b⟩, ⟨c, d⟩, e⟩, fun ⟨⟨a, b⟩, ⟨c, d⟩, e⟩ => ⟨a, b, c, d, e⟩⟩
  rw [hR]
  have HR := Lib.hid hR
  clear hR
  obtain ⟨b1, hb1⟩ : ∃ b, b = decide (1 ≤ r ∧ r ≤ 255) := ⟨_, rfl⟩
  obtain ⟨b2, hb2⟩ : ∃ b, b = decide (1 ≤ c ∧ c ≤ 255) := ⟨_, rfl⟩
  rw [← hb1, ← hb2]
  have HB1 := Lib.hid hb1
  have HB2 := Lib.hid hb2
  have hp : b1 = true → b2 = true → 0 ≤ r * c ∧ r * c ≤ 65025 := by
    intro e1 e2
    rw [hb1, decide_eq_true_eq] at e1
    rw [hb2, decide_eq_true_eq] at e2
    exact ⟨Int.mul_nonneg (by omega) (by omega), Int.le_trans (Int.mul_le_mul e1.2 e2.2 (by omega) (by omega)) (by omega)⟩
  clear hb1 hb2
  cases b1
  · clear hp
    go_enter Try.func51, Try.ntmps51
    go_wp2_with (go_at_call 70; refine (in_any _ _).mono ?_; rintro e w' ⟨he, rfl⟩; have h9 := HB1.out; clear HB1; rw [← h9] at he; subst he; clear h9)
    go_ret
    exact ⟨rfl, (Below.refl _ _).alloc (Nat.le_refl _) _⟩
  · cases b2
    · clear hp
      go_enter Try.func51, Try.ntmps51
      go_wp2_with (first
        | (go_at_call 70; have h9 := HB1.out; clear HB1; refine (in_any r _).mono ?_; rintro e w' ⟨he, rfl⟩; rw [← h9] at he; subst he; clear h9)
        | (go_at_call 70; have h9 := HB2.out; clear HB2; refine (in_any c _).mono ?_; rintro e w' ⟨he, rfl⟩; rw [← h9] at he; subst he; clear h9))
      go_ret
      exact ⟨rfl, (Below.refl _ _).alloc (Nat.le_refl _) _⟩
    · obtain ⟨p0, p1⟩ := hp rfl rfl
      clear hp
      go_enter Try.func51, Try.ntmps51
      go_wp2_with (first
        | (go_at_call 70; have h9 := HB1.out; clear HB1; refine (in_any r _).mono ?_; rintro e w' ⟨he, rfl⟩; rw [← h9] at he; subst he; clear h9)
        | (go_at_call 70; have h9 := HB2.out; clear HB2; refine (in_any c _).mono ?_; rintro e w' ⟨he, rfl⟩; rw [← h9] at he; subst he; clear h9))
      go_ret
      refine ⟨?_, (Below.refl _ _).alloc (Nat.le_refl _) _⟩
      congr 2
set_option maxHeartbeats 400000 in
theorem row_any (r c i g o n cap : Nat) (w : World) (hi : i < r) (hr : r ≤ 255) (hc : 1 ≤ c) (hc2 : c ≤ 510) (hn : n = r * c) (hcap : n ≤ cap) (hcap2 : cap ≤ 9223372036854775807) :
    Calls Try.prog 54 #[.agg #[.int .i64 r, .int .i64 c, .slice (some ⟨g, o, none⟩) n cap], .int .i64 i] w fun e w' => e = .returned (.slice (some ⟨g, o + i * c, none⟩) c (cap - i * c)) ∧ Below w.heap.size w w' := by
  have h1 : i * c + c ≤ n := by
    rw [hn]
    have : (i + 1) * c ≤ r * c := Nat.mul_le_mul_right c hi
    rw [Nat.add_mul] at this; omega
  have h2 : n ≤ 255 * 510 := by rw [hn]; exact Nat.mul_le_mul hr hc2
  obtain ⟨q, hq⟩ : ∃ q : Nat, q = i * c := ⟨_, rfl⟩
  have e1 : (i : Int) * (c : Int) = (q : Int) := by rw [hq]; simp
  have e2 : ((i : Int) + 1) * (c : Int) = ((q + c : Nat) : Int) := by rw [Int.add_mul, e1]; simp
  rw [← hq] at h1 ⊢
  clear hn hq
  go_enter Try.func54, Try.ntmps54
  go_wp2
  go_ret
  exact ⟨by rw [show q + c - q = c from by omega]; rfl, (Below.refl _ _).alloc (Nat.le_refl _) _⟩
theorem row0_any (r c i g n cap : Nat) (w : World) (hi : i < r) (hr : r ≤ 255) (hc : 1 ≤ c) (hc2 : c ≤ 510) (hn : n = r * c) (hcap : n ≤ cap) (hcap2 : cap ≤ 9223372036854775807) :
    Calls Try.prog 54 #[.agg #[.int .i64 r, .int .i64 c, .slice (some ⟨g, 0, none⟩) n cap], .int .i64 i] w fun e w' => ∃ q, q = i * c ∧ q + c ≤ n ∧ e = .returned (.slice (some ⟨g, q, none⟩) c (cap - q)) ∧ Below w.heap.size w w' := by
  refine (row_any r c i g 0 n cap w hi hr hc hc2 hn hcap hcap2).mono ?_
  rintro e w' ⟨rfl, hb⟩
  refine ⟨i * c, rfl, ?_, by rw [Nat.zero_add], hb⟩
  rw [hn]
  have : (i + 1) * c ≤ r * c := Nat.mul_le_mul_right c hi
  rw [Nat.add_mul] at this; omega
/-- a matrix in a block of its own -/
def mval (r c g : Nat) : Value := .agg #[.int .i64 r, .int .i64 c, .slice (some ⟨g, 0, none⟩) (r * c) (r * c)]
set_option maxHeartbeats 400000 in
theorem zero_any (r c : Nat) (w : World) (h1 : r ≤ 510) (h2 : c ≤ 510) :
    Calls Try.prog 53 #[.int .i64 r, .int .i64 c] w fun e w' => ∃ g, e = .returned (mval r c g) ∧ w.heap.size ≤ g ∧ Row0 w' g 5 (ncells (tab (r * c) fun _ => 0#8)) ∧ Below w.heap.size w w' := by
  obtain ⟨i0, hi, hz0, hz1, hz2⟩ := info_parts u8parts
  have h3 : r * c ≤ 510 * 510 := Nat.mul_le_mul h1 h2
  obtain ⟨q, hq⟩ : ∃ q : Nat, q = r * c := ⟨_, rfl⟩
  have e1 : (r : Int) * (c : Int) = (q : Int) := by rw [hq]; simp
  unfold mval
  rw [← hq] at h3 ⊢
  have hmk := fun W => run_make_bytes (P := Try.prog) 56 5 i0 Try.underlying56 hi hz0 hz1 hz2 q (by omega) W
  rw [← ncells_zero, ← tab_zero] at hmk
  obtain ⟨Z, hZ⟩ : ∃ Z, Z = ncells (tab q fun _ => 0#8) := ⟨_, rfl⟩
  rw [← hZ] at hmk ⊢
  clear hi hz0 hz1 hz2 hq hZ
  go_enter Try.func53, Try.ntmps53
  go_wp2
  exact bodyPost_ret (v := .agg #[.int .i64 r, .int .i64 c, .slice (some ⟨w.heap.size + 1, 0, none⟩) q q]) (by simp [results, Try.results53, go_sem]) rfl ⟨_, rfl, by omega, by have h := Row0.new (w.alloc (.cells #[.int .i64 r, .int .i64 c, .slice (some ⟨w.heap.size + 1, 0, none⟩) q q] 71)) 5 Z; rw [show (w.alloc (.cells #[.int .i64 r, .int .i64 c, .slice (some ⟨w.heap.size + 1, 0, none⟩) q q] 71)).heap.size = w.heap.size + 1 from by simp] at h; exact h, ((Below.refl _ _).alloc (Nat.le_refl _) _).alloc (by simp) _⟩
/-- an error: none (0), or a fault with a number -/
def FaultAt (w : World) (b : Nat) (c : Int) : Prop := Row w b 65 [.int .i64 c, .int .i64 0, .nilIface]
def ErrAt (B : Nat) (w : World) (v : Value) (c : Int) : Prop := (v = .nilIface ∧ c = 0) ∨ (c ≠ 0 ∧ ∃ b, v = .iface 62 (.pointer (some ⟨b, 0, none⟩)) ∧ B ≤ b ∧ FaultAt w b c)
theorem ErrAt.ok0 (B : Nat) (w : World) : ErrAt B w .nilIface 0 := Or.inl ⟨rfl, rfl⟩
theorem ErrAt.after {B : Nat} {w w' : World} {v : Value} {c : Int} (h : ErrAt B w v c) (hb : Below w.heap.size w w') : ErrAt B w' v c := by
  rcases h with h | ⟨hc, b, h1, h2, h3⟩
  · exact Or.inl h
  · exact Or.inr ⟨hc, b, h1, h2, Row.after h3 hb⟩
theorem ErrAt.mono {B B' : Nat} {w : World} {v : Value} {c : Int} (h : ErrAt B w v c) (hB : B' ≤ B) : ErrAt B' w v c := by
  rcases h with h | ⟨hc, b, h1, h2, h3⟩
  · exact Or.inl h
  · exact Or.inr ⟨hc, b, h1, by omega, h3⟩
set_option maxHeartbeats 400000 in
theorem fault_any (c : Int) (hc : c ≠ 0) (w : World) :
    Calls Try.prog 52 #[.int .i64 c] w fun e w' => ∃ v, e = .returned v ∧ ErrAt w.heap.size w' v c ∧ Below w.heap.size w w' := by
  have HC := Lib.hid hc
  clear hc
  go_enter Try.func52, Try.ntmps52
  go_wp2
  go_ret
  exact ⟨_, rfl, Or.inr ⟨HC.out, w.heap.size, rfl, Nat.le_refl _, Row.new w _ [.int .i64 c, .int .i64 0, .nilIface]⟩, (Below.refl _ _).alloc (Nat.le_refl _) _⟩
/-- a table to a part of which another one has been added, taken t times -/
def addF (f : Nat → BitVec 8) (o n : Nat) (t : BitVec 8) (of : Nat → BitVec 8) (j : Nat) : BitVec 8 := if o ≤ j ∧ j < o + n then f j ^^^ gm t (of (j - o)) else f j
theorem addF_zero (f : Nat → BitVec 8) (o : Nat) (t : BitVec 8) (of : Nat → BitVec 8) : addF f o 0 t of = f := by
  funext j; unfold addF; rw [if_neg (by omega)]
theorem addF_succ (f : Nat → BitVec 8) (o k : Nat) (t : BitVec 8) (of : Nat → BitVec 8) : (fun j => if j = o + k then f (o + k) ^^^ gm t (of k) else addF f o k t of j) = addF f o (k + 1) t of := by
  funext j; unfold addF
  by_cases e : j = o + k
  · subst e
    rw [if_pos rfl, if_pos ⟨by omega, by omega⟩, show o + k - o = k from by omega]
  · rw [if_neg e]
    by_cases h : o ≤ j ∧ j < o + k
    · rw [if_pos h, if_pos ⟨h.1, by omega⟩]
    · rw [if_neg h, if_neg (by omega)]
set_option maxRecDepth 100000 in
set_option maxHeartbeats 800000 in
theorem add_any (g o n cap g2 o2 n2 cap2 N : Nat) (f of : Nat → BitVec 8) (sp : List Value) (t : Int) (w : World) (h0 : 0 ≤ t) (h1 : t < 256) (hrow : Row w g 5 (ncells (tab N f) ++ sp)) (hN : o + n ≤ N) (hn : n ≤ n2) (hbig : n ≤ 100000)
    (hof : ∀ j, j < n → w.cell? ⟨g2, o2 + j, none⟩ = some (.int .u8 (nv (of j)))) (hd : g2 ≠ g ∨ o ≤ o2 ∨ o2 + n ≤ o) :
    Calls Try.prog 71 #[.slice (some ⟨g, o, none⟩) n cap, .slice (some ⟨g2, o2, none⟩) n2 cap2, .int .u8 t] w fun e w' => e = .returned (.tuple #[]) ∧ Row w' g 5 (ncells (tab N (addF f o n (bv t) of)) ++ sp) ∧ Fr [g] w w' := by
  have HR := Lib.hid hrow
  have HOF := Lib.hid hof
  clear hrow hof
  go_enter Try.func71, Try.ntmps71
  go_wp2
  go_loopw [9] (fun i wr => ∃ k : Nat, k ≤ n ∧ i = .int .i64 k ∧ Row wr g 5 (ncells (tab N (addF f o k (bv t) of)) ++ sp) ∧ Fr [g] w wr) (fun i _ => n - (intOf i).toNat)
  case atStart => exact ⟨0, by omega, rfl, by rw [addF_zero]; exact HR.out, Fr.refl _ _⟩
  case round =>
    obtain ⟨k, hk, rfl, hrow, hfr⟩ := hrel
    by_cases hlt : k < n
    · have hget : ∀ i, i < N → wr.cell? ⟨g, i, none⟩ = some (.int .u8 (nv (addF f o k (bv t) of i))) := fun i hi => hrow.cell (by rw [List.getElem?_append_left (by rw [ncells_length, tab_length]; exact hi), ncells_get _ _ (by rw [tab_length]; exact hi), tab_get _ _ _ hi])
      have c1 : wr.cell? ⟨g, o + k, none⟩ = some (.int .u8 (nv (f (o + k)))) := by
        rw [hget (o + k) (by omega)]; unfold addF; rw [if_neg (by omega)]
      have c2 : wr.cell? ⟨g2, o2 + k, none⟩ = some (.int .u8 (nv (of k))) := by
        by_cases e : g2 = g
        · subst e
          have hl : o2 + k < N ∨ ¬ o2 + k < N := by omega
          have h9 := HOF.out k hlt
          by_cases hl : o2 + k < N
          · rw [hget _ hl]
            have h8 : w.cell? ⟨g2, o2 + k, none⟩ = some (.int .u8 (nv (f (o2 + k)))) := HR.out.cell (by rw [List.getElem?_append_left (by rw [ncells_length, tab_length]; exact hl), ncells_get _ _ (by rw [tab_length]; exact hl), tab_get _ _ _ hl])
            rw [← h9, h8]; unfold addF; rw [if_neg (by omega)]
          · have hx := HR.out
            obtain ⟨fz, hh, _⟩ := hx
            obtain ⟨fz2, hh2, _⟩ := hrow
            rw [cell_of_row _ _ _ _ _ _ hh] at h9
            rw [cell_of_row _ _ _ _ _ _ hh2]
            rw [← h9]
            simp only [List.getElem?_toArray]
            rw [List.getElem?_append_right (by rw [ncells_length, tab_length]; omega), List.getElem?_append_right (by rw [ncells_length, tab_length]; omega)]
            simp only [ncells_length, tab_length]
        · exact cell_fr hfr (by simpa using e) (HOF.out k hlt)
      have hf : wr.frozen? ⟨g, o + k, none⟩ = false := hrow.free (by rw [List.length_append, ncells_length, tab_length]; omega)
      have HROW := Lib.hid hrow
      have HFR := Lib.hid hfr
      have hk2 : k < n2 := by omega
      clear hrow hfr hget hd
      go_wp2_with fail
      go_still_tail 12, (by kernel_rfl)
      still_call (still_of (mul_any _ _ h0 h1 (nv_lo _) (nv_hi _) _))
      repeat still_step
      refine wpStill_nil ?_
      change wpList _ _ _ _ _ wr.drew
      go_wp2
      go_roundw
      case measure => simp [intOf]; omega
      case rel =>
        refine ⟨k + 1, by omega, by go_num, ?_, (HFR.out.setCell (Or.inl (by simp)) _).drew⟩
        rw [bv_nv, u8_xor_nv]
        have hm := HROW.out.set (o + k) (.int .u8 (nv (f (o + k) ^^^ gm (bv t) (of k))))
        rw [List.set_append_left _ _ (by rw [ncells_length, tab_length]; omega), ncells_set, tab_set, addF_succ] at hm
        exact hm.drew
    · obtain rfl : k = n := by omega
      have HROW := Lib.hid hrow
      have HFR := Lib.hid hfr
      clear hrow hfr hd
      go_wp2
      go_end0
      exact ⟨rfl, HROW.out, HFR.out⟩
end Go.Proofs.Ytbnfnijjldimkab
