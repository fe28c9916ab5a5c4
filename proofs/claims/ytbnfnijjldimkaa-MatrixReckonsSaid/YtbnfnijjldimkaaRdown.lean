/-
  The walks of the document's swap and Down.
-/
import Derived.Test.YtbnfnijjldimkaaRm1
namespace Go.Proofs.Ytbnfnijjldimkaa
open Go.RowKit
set_option linter.unusedVariables false
set_option linter.unusedSimpArgs false
def swapRows (M : Nat → Nat → BitVec 8) (i j a x : Nat) : BitVec 8 := if a = i then M j x else if a = j then M i x else M a x
/-- two rows swapped in their first k columns -/
def swF (M : Nat → Nat → BitVec 8) (i j k a x : Nat) : BitVec 8 := if x < k then swapRows M i j a x else M a x
theorem swF_zero (M : Nat → Nat → BitVec 8) (i j : Nat) : swF M i j 0 = M := by
  funext a x; unfold swF; rw [if_neg (by omega)]
theorem at_idx {c i k a : Nat} (hk : k < c) : a = i * c + k ↔ a / c = i ∧ a % c = k := by
  constructor
  · rintro rfl; exact ⟨idx_div i k hk, idx_mod i k hk⟩
  · rintro ⟨rfl, rfl⟩
    have := Nat.div_add_mod a c
    rw [Nat.mul_comm] at this
    exact this.symm
theorem swF_step {c : Nat} (M : Nat → Nat → BitVec 8) (i j k : Nat) (hk : k < c) : (fun a => if a = j * c + k then M i k else if a = i * c + k then M j k else tb c (swF M i j k) a) = tb c (swF M i j (k + 1)) := by
  funext a
  show (if a = j * c + k then M i k else if a = i * c + k then M j k else swF M i j k (a / c) (a % c)) = swF M i j (k + 1) (a / c) (a % c)
  have e1 := @at_idx c j k a hk
  have e2 := @at_idx c i k a hk
  unfold swF swapRows
  by_cases hx : a % c = k
  · rw [if_pos (show a % c < k + 1 by omega)]
    by_cases hj : a / c = j
    · rw [if_pos (e1.2 ⟨hj, hx⟩), hx]
      by_cases hi : a / c = i
      · rw [if_pos hi, ← hi, hj]
      · rw [if_neg hi, if_pos hj]
    · rw [if_neg (fun h => hj (e1.1 h).1)]
      by_cases hi : a / c = i
      · rw [if_pos (e2.2 ⟨hi, hx⟩), if_pos hi, hx]
      · rw [if_neg (fun h => hi (e2.1 h).1), if_neg (show ¬ a % c < k by omega), if_neg hi, if_neg hj]
  · rw [if_neg (fun h => hx (e1.1 h).2), if_neg (fun h => hx (e2.1 h).2)]
    by_cases h2 : a % c < k
    · rw [if_pos h2, if_pos (show a % c < k + 1 by omega)]
    · rw [if_neg h2, if_neg (show ¬ a % c < k + 1 by omega)]
theorem swF_full {c N : Nat} (M : Nat → Nat → BitVec 8) (i j : Nat) (hc : 1 ≤ c) : tab N (tb c (swF M i j c)) = tab N (tb c (swapRows M i j)) := tab_congr fun a ha => by
  unfold tb swF; rw [if_pos (Nat.mod_lt _ (by omega))]
theorem mul_row {r c i : Nat} (h : i < r) {N q : Nat} (hN : N = r * c) (hq : q = i * c) : q + c ≤ N := by
  rw [hN, hq]
  have := Nat.mul_le_mul_right c (show i + 1 ≤ r by omega)
  rw [Nat.add_mul] at this; omega
set_option maxRecDepth 100000 in
set_option maxHeartbeats 1600000 in
theorem swap_any (r c i j g cap N : Nat) (M : Nat → Nat → BitVec 8) (sp : List Value) (w : World) (r2 : r ≤ 255) (c1 : 1 ≤ c) (c2 : c ≤ 510) (hN : N = r * c) (hi : i < r) (hj : j < r) (hrow : Row w g 5 (ncells (tab N (tb c M)) ++ sp)) :
    Calls Try.prog 55 #[.agg #[.int .i64 r, .int .i64 c, .slice (some ⟨g, 0, none⟩) N cap], .int .i64 i, .int .i64 j] w fun e w' => e = .returned (.tuple #[]) ∧ Row w' g 5 (ncells (tab N (tb c (swapRows M i j))) ++ sp) ∧ Fr [g] w w' := by
  have q1 : N ≤ 255 * 510 := by rw [hN]; exact Nat.mul_le_mul r2 c2
  obtain ⟨qi, hqi⟩ : ∃ q, q = i * c := ⟨_, rfl⟩
  obtain ⟨qj, hqj⟩ : ∃ q, q = j * c := ⟨_, rfl⟩
  have b1 := mul_row hi hN hqi
  have b2 := mul_row hj hN hqj
  have e1 : (i : Int) * (c : Int) = (qi : Int) := by rw [hqi]; simp
  have e2 : (j : Int) * (c : Int) = (qj : Int) := by rw [hqj]; simp
  have S0 : Hid (StpS w g N [.int .i64 r, .int .i64 c, .slice (some ⟨g, 0, none⟩) N cap] sp (tb c M) (w.alloc (.cells #[.int .i64 r, .int .i64 c, .slice (some ⟨g, 0, none⟩) N cap] 24))) :=
    Lib.hid ⟨Row.new _ _ _, hrow.alloc _, (Fr.refl _ _).alloc _⟩
  have gl := hrow.lt
  have HN := Lib.hid hN
  have HQI := Lib.hid hqi
  have HQJ := Lib.hid hqj
  clear hN hrow hqi hqj
  go_enter Try.func55, Try.ntmps55
  go_wp2
  go_loopw [6] (fun ii wr => ∃ k : Nat, k ≤ c ∧ ii = .int .i64 k ∧ StpS w g N [.int .i64 r, .int .i64 c, .slice (some ⟨g, 0, none⟩) N cap] sp (tb c (swF M i j k)) wr) (fun ii _ => c - (intOf ii).toNat)
  case atStart => exact ⟨0, by omega, rfl, by rw [swF_zero]; exact S0.out⟩
  case round =>
    clear S0
    obtain ⟨k, hk, rfl, hs⟩ := hrel
    obtain ⟨x0, x1, x2⟩ := box3 hs.box
    by_cases hlt : k < c
    · have d1 : qi + k < N := by omega
      have d2 : qj + k < N := by omega
      have ci := tab_cell (i := qi + k) hs.row d1
      rw [HQI.out, tb_at _ _ _ hlt] at ci
      have cj := tab_cell (i := qj + k) hs.row d2
      rw [HQJ.out, tb_at _ _ _ hlt] at cj
      have v1 : swF M i j k i k = M i k := by unfold swF; rw [if_neg (by omega)]
      have v2 : swF M i j k j k = M j k := by unfold swF; rw [if_neg (by omega)]
      rw [v1, ← HQI.out] at ci
      rw [v2, ← HQJ.out] at cj
      have fi := tab_free (i := qi + k) hs.row d1
      have hs2 : StpS w g N [.int .i64 r, .int .i64 c, .slice (some ⟨g, 0, none⟩) N cap] sp _ _ := hs.add (tab_store hs.row d1 (M j k)) ((Fr.refl _ _).setCell (Or.inl (by simp)) _)
      obtain ⟨y0, y1, y2⟩ := box3 hs2.box
      have fj := tab_free (i := qj + k) hs2.row d2
      have cj2 := tab_cell (i := qj + k) hs2.row d2
      have hs3 : StpS w g N [.int .i64 r, .int .i64 c, .slice (some ⟨g, 0, none⟩) N cap] sp _ _ := hs2.add (tab_store hs2.row d2 (M i k)) ((Fr.refl _ _).setCell (Or.inl (by simp)) _)
      have S2 := Lib.hid hs3
      clear hs hs2 hs3 v1 v2
      go_wp2_with fail
      have w5 : 0 ≤ (qi : Int) + (k : Int) ∧ (qi : Int) + (k : Int) < (N : Int) := by omega
      have w6 : 0 ≤ (qj : Int) + (k : Int) ∧ (qj : Int) + (k : Int) < (N : Int) := by omega
      have w7 : ((qi : Int) + (k : Int)).toNat = qi + k := by omega
      have w8 : ((qj : Int) + (k : Int)).toNat = qj + k := by omega
      have w1 := IntWalk.i64_in (qi : Int) (by omega)
      have w2 := IntWalk.i64_in (qj : Int) (by omega)
      have w3 := IntWalk.i64_in ((qi : Int) + (k : Int)) (by omega)
      have w4 := IntWalk.i64_in ((qj : Int) + (k : Int)) (by omega)
      go_still_tail 19, (by kernel_rfl)
      clear w1 w2 w3 w4 w5 w6 w7 w8
      change wpList _ _ _ _ _ wr.drew
      go_wp2
      go_roundw
      case measure => simp [intOf]; omega
      case rel =>
        refine ⟨k + 1, by omega, by go_num, ?_⟩
        have h9 := S2.out.after (Below.refl _ _).drew
        have e9 := swF_step M i j k hlt
        rw [← HQI.out, ← HQJ.out] at e9
        rw [e9] at h9
        exact h9
    · obtain rfl : k = c := by omega
      have S2 := Lib.hid hs
      clear hs
      go_wp2
      go_end0
      exact ⟨rfl, by rw [← swF_full M i j c1]; exact S2.out.row, S2.out.fr⟩
end Go.Proofs.Ytbnfnijjldimkaa
