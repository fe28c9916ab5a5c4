/-
  The reference disk's Rot where it is refused, and its Image.
-/
import Derived.Test.YthppnjmepeeejaaRef3
import Derived.Lib.AppendStr
namespace Go.Proofs.Ythppnjmepeeejaa
open Go.RowKit
set_option maxRecDepth 100000 in
set_option maxHeartbeats 1600000 in
theorem rrot_bad (q r hg hc : Nat) (v : Value) (P : Pw) (D : Dk) (n : Nat) (a b : Int) (w : World) (hp : RPowAt w q P) (h : RDiskAt w q r hg hc v n D) (hcode : D.rotErr n a b ≠ 0) :
    Calls Try.prog 50 #[.pointer (some ⟨r, 0, none⟩), .int .i64 a, .int .i64 b] w fun e w' => e = .returned (.int .i64 (D.rotErr n a b)) ∧ RLeft q r hg v n P D w w' := by
  have c1 := h.top.cell (j := 1) rfl
  have c4 := h.top.cell (j := 4) rfl
  have HL := Lib.hid (RLeft.same hp h)
  cases hd : D.dead
  · rw [hd] at c4
    have hcase : a < 0 ∨ (n : Int) ≤ a ∨ b < 0 ∨ 512 ≤ b := by
      by_cases e : a < 0 ∨ (n : Int) ≤ a ∨ b < 0 ∨ 512 ≤ b
      · exact e
      · exfalso; apply hcode; unfold Dk.rotErr; simp [hd, e]
    have hr1 : D.rotErr n a b = 1 := by unfold Dk.rotErr; rw [hd, if_pos hcase]; rfl
    rw [hr1]
    clear h hp hcode hd hr1
    by_cases h1 : a < 0
    · clear hcase
      go_enter Try.func50, Try.ntmps50
      go_wp2
      go_ret
      exact ⟨rfl, HL.out⟩
    by_cases h2 : (n : Int) ≤ a
    · clear hcase
      go_enter Try.func50, Try.ntmps50
      go_wp2
      go_ret
      exact ⟨rfl, HL.out⟩
    by_cases h3 : b < 0
    · clear hcase
      go_enter Try.func50, Try.ntmps50
      go_wp2
      go_ret
      exact ⟨rfl, HL.out⟩
    · have h4 : 512 ≤ b := by omega
      clear hcase
      go_enter Try.func50, Try.ntmps50
      go_wp2
      go_ret
      exact ⟨rfl, HL.out⟩
  · rw [hd] at c4
    have hr1 : D.rotErr n a b = 11 := by unfold Dk.rotErr; simp [hd]
    rw [hr1]
    clear h hp hcode hd hr1
    go_enter Try.func50, Try.ntmps50
    go_wp2
    go_ret
    exact ⟨rfl, HL.out⟩
set_option maxRecDepth 100000 in
set_option maxHeartbeats 1600000 in
theorem rimage_any (q r hg hc : Nat) (v : Value) (D : Dk) (n : Nat) (w : World) (h : RDiskAt w q r hg hc v n D) (ok : D.ok n) :
    Calls Try.prog 33 #[.pointer (some ⟨r, 0, none⟩)] w fun e w' => e = .returned (.string D.image) ∧ Below w.heap.size w w' := by
  have c1 := h.top.cell (j := 1) rfl
  have c2 := h.top.cell (j := 2) rfl
  have c4 := h.top.cell (j := 4) rfl
  cases hd : D.dead
  · rw [hd] at c4
    obtain ⟨i0, hi, hz0, hz1, hz2⟩ := info_parts u8parts
    have n2 := ok.n2
    have H := Lib.hid h
    have OK := Lib.hid ok
    have HD := Lib.hid hd
    clear h ok hd
    go_enter Try.func33, Try.ntmps33
    go_wp2
    go_loopw [3, 4] (fun bv i wr => ∃ k : Nat, k ≤ n ∧ i = .int .i64 k ∧ wr.ownsRow w.heap.size 5 1 bv (64 * k) (bcells (D.has.take (64 * k))) ∧ Below w.heap.size w wr) (fun _ i _ => n - (intOf i).toNat)
    case atStart => exact ⟨0, by omega, rfl, World.ownsRow_nil _ _ _ _, Below.refl _ _⟩
    case round =>
      obtain ⟨k, hk, rfl, hown, hb⟩ := hrel
      have htop := H.out.top.after hb
      have k1 := htop.cell (j := 1) rfl
      have k2 := htop.cell (j := 2) rfl
      clear c1 c2 c4
      by_cases hlt : k < n
      · obtain ⟨sp, hsp⟩ := H.out.has
        have ka := (hsp.after hb).cell (hasL_get n D sp k hlt)
        obtain ⟨X, hX⟩ : ∃ X, D.lasts k = X := ⟨_, rfl⟩
        have hxl : X.data.toList = sec D.has k := by rw [← hX, lasts_eq]
        have hxs : X.size = 64 := by
          have := sec_length D.has n k OK.out.len hlt
          rw [← hxl] at this
          simpa using this
        rw [hX] at ka
        have HX := Lib.hid hxl
        have HO := Lib.hid hown
        have HB := Lib.hid hb
        clear hsp hX hxl hown hb htop
        go_wp2_with (at_builtin; refine Lib.wpList_append_own_string _ rfl (.tmp 17) (.tmp 24) 70 9 rfl w.heap.size 5 i0 Try.underlying70 Try.underlying9 hi hz0 hz1 hz2 _ (64 * k) (bcells (D.has.take (64 * k))) rfl HO.out X rfl (by unfold maxLen; omega) (by omega) HB.out.size ?_; intro v' w2 hown2 hgr2 hnil2; clear hnil2; have HO2 := Lib.hid hown2; have HG2 := Lib.hid hgr2; clear hown2 hgr2)
        go_roundw
        case measure => simp [intOf]; omega
        case rel =>
          refine ⟨k + 1, by omega, by go_num, ?_, ?_⟩
          · have h2 := HO2.out
            rw [show Lib.strCells X = bcells X.data.toList from by simp [Lib.strCells, bcells], HX.out, ← bcells_append, ← take_sec, hxs] at h2
            exact h2
          · have hf : Fr [] w wr := Fr.of_below HB.out
            have h2 : Fr [] w w2 := hf.grown HG2.out (fun g hg => Or.inr (own_ge HO.out hg))
            exact h2.nil_below
      · obtain rfl : k = n := by omega
        have n1 := OK.out.n1
        obtain ⟨g, cap, sp, rfl, hge, hrow⟩ := own_row hown (by omega)
        have e1 : D.has.take (64 * k) = D.has := List.take_of_length_le (by rw [OK.out.len]; exact Nat.le_refl _)
        rw [e1] at hrow
        have hconv := run_string_of_row (P := Try.prog) wr 70 9 5 Try.underlying70 Try.underlying5 Try.underlying9 hrow 0 (64 * k) cap D.has OK.out.len (by rw [List.drop_zero, List.take_append_of_le_length (by rw [bcells_length, OK.out.len]; exact Nat.le_refl _)]; exact List.take_of_length_le (by rw [bcells_length, OK.out.len]; exact Nat.le_refl _))
        have HB := Lib.hid hb
        clear hown hrow e1 htop hb
        go_wp2
        go_ret
        exact ⟨congrArg (fun x => Ending.returned (.string x)) (image_eq HD.out).symm, HB.out⟩
  · rw [hd] at c4
    have e1 : D.image = ⟨#[]⟩ := by unfold Dk.image; rw [hd]; rfl
    rw [e1]
    clear h ok hd e1
    go_enter Try.func33, Try.ntmps33
    go_wp2
    go_ret
    exact ⟨rfl, Below.refl _ _⟩
end Go.Proofs.Ythppnjmepeeejaa
