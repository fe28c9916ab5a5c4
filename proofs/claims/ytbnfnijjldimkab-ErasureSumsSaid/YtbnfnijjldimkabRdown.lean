/-
  The walks of the document's swap and Down.
-/
import Derived.Test.YtbnfnijjldimkabRm1
namespace Go.Proofs.Ytbnfnijjldimkab
open Go.RowKit
set_option linter.unusedVariables false
set_option linter.unusedSimpArgs false
def swapRows (M : Nat → Nat → BitVec 8) (i j a x : Nat) : BitVec 8 := if a = i then M j x else if a = j then M i x else M a x
/-- two rows swapped in their first k columns -/
def swF (M : Nat → Nat → BitVec 8) (i j k a x : Nat) : BitVec 8 := if x < k then swapRows M i j a x else M a x
theorem swF_zero (M : Nat → Nat → BitVec 8) (i j : Nat) : swF M i j 0 = M := by
  funext a x; unfold swF; rw [if_neg (by omega)]
theorem at_idx {c i k a : Nat} (hk : k < c) : a = i * c + k ↔ a / c = i ∧ a % c = k := by
  constructor
  · rintro rfl; exact ⟨idx_div i k hk, idx_mod i k hk⟩
  · rintro ⟨rfl, rfl⟩
    have := Nat.div_add_mod a c
    rw [Nat.mul_comm] at this
    exact this.symm
theorem swF_step {c : Nat} (M : Nat → Nat → BitVec 8) (i j k : Nat) (hk : k < c) : (fun a => if a = j * c + k then M i k else if a = i * c + k then M j k else tb c (swF M i j k) a) = tb c (swF M i j (k + 1)) := by
  funext a
  show (if a = j * c + k then M i k else if a = i * c + k then M j k else swF M i j k (a / c) (a % c)) = swF M i j (k + 1) (a / c) (a % c)
  have e1 := @at_idx c j k a hk
  have e2 := @at_idx c i k a hk
  unfold swF swapRows
  by_cases hx : a % c = k
  · rw [if_pos (show a % c < k + 1 by omega)]
    by_cases hj : a / c = j
    · rw [if_pos (e1.2 ⟨hj, hx⟩), hx]
      by_cases hi : a / c = i
      · rw [if_pos hi, ← hi, hj]
      · rw [if_neg hi, if_pos hj]
    · rw [if_neg (fun h => hj (e1.1 h).1)]
      by_cases hi : a / c = i
      · rw [if_pos (e2.2 ⟨hi, hx⟩), if_pos hi, hx]
      · rw [if_neg (fun h => hi (e2.1 h).1), if_neg (show ¬ a % c < k by omega), if_neg hi, if_neg hj]
  · rw [if_neg (fun h => hx (e1.1 h).2), if_neg (fun h => hx (e2.1 h).2)]
    by_cases h2 : a % c < k
    · rw [if_pos h2, if_pos (show a % c < k + 1 by omega)]
    · rw [if_neg h2, if_neg (show ¬ a % c < k + 1 by omega)]
theorem swF_full {c N : Nat} (M : Nat → Nat → BitVec 8) (i j : Nat) (hc : 1 ≤ c) : tab N (tb c (swF M i j c)) = tab N (tb c (swapRows M i j)) := tab_congr fun a ha => by
  unfold tb swF; rw [if_pos (Nat.mod_lt _ (by omega))]
theorem mul_row {r c i : Nat} (h : i < r) {N q : Nat} (hN : N = r * c) (hq : q = i * c) : q + c ≤ N := by
  rw [hN, hq]
  have := Nat.mul_le_mul_right c (show i + 1 ≤ r by omega)
  rw [Nat.add_mul] at this; omega
set_option maxRecDepth 100000 in
set_option maxHeartbeats 1600000 in
theorem swap_any (r c i j g cap N : Nat) (M : Nat → Nat → BitVec 8) (sp : List Value) (w : World) (r2 : r ≤ 255) (c1 : 1 ≤ c) (c2 : c ≤ 510) (hN : N = r * c) (hi : i < r) (hj : j < r) (hrow : Row w g 5 (ncells (tab N (tb c M)) ++ sp)) :
    Calls Try.prog 74 #[.agg #[.int .i64 r, .int .i64 c, .slice (some ⟨g, 0, none⟩) N cap], .int .i64 i, .int .i64 j] w fun e w' => e = .returned (.tuple #[]) ∧ Row w' g 5 (ncells (tab N (tb c (swapRows M i j))) ++ sp) ∧ Fr [g] w w' := by
  have q1 : N ≤ 255 * 510 := by rw [hN]; exact Nat.mul_le_mul r2 c2
  obtain ⟨qi, hqi⟩ : ∃ q, q = i * c := ⟨_, rfl⟩
  obtain ⟨qj, hqj⟩ : ∃ q, q = j * c := ⟨_, rfl⟩
  have b1 := mul_row hi hN hqi
  have b2 := mul_row hj hN hqj
  have e1 : (i : Int) * (c : Int) = (qi : Int) := by rw [hqi]; simp
  have e2 : (j : Int) * (c : Int) = (qj : Int) := by rw [hqj]; simp
  have S0 : Hid (StpS w g N [.int .i64 r, .int .i64 c, .slice (some ⟨g, 0, none⟩) N cap] sp (tb c M) (w.alloc (.cells #[.int .i64 r, .int .i64 c, .slice (some ⟨g, 0, none⟩) N cap] 71))) :=
    Lib.hid ⟨Row.new _ _ _, hrow.alloc _, (Fr.refl _ _).alloc _⟩
  have gl := hrow.lt
  have HN := Lib.hid hN
  have HQI := Lib.hid hqi
  have HQJ := Lib.hid hqj
  clear hN hrow hqi hqj
  go_enter Try.func74, Try.ntmps74
  go_wp2
  go_loopw [6] (fun ii wr => ∃ k : Nat, k ≤ c ∧ ii = .int .i64 k ∧ StpS w g N [.int .i64 r, .int .i64 c, .slice (some ⟨g, 0, none⟩) N cap] sp (tb c (swF M i j k)) wr) (fun ii _ => c - (intOf ii).toNat)
  case atStart => exact ⟨0, by omega, rfl, by rw [swF_zero]; exact S0.out⟩
  case round =>
    clear S0
    obtain ⟨k, hk, rfl, hs⟩ := hrel
    obtain ⟨x0, x1, x2⟩ := box3 hs.box
    by_cases hlt : k < c
    · have d1 : qi + k < N := by omega
      have d2 : qj + k < N := by omega
      have ci := tab_cell (i := qi + k) hs.row d1
      rw [HQI.out, tb_at _ _ _ hlt] at ci
      have cj := tab_cell (i := qj + k) hs.row d2
      rw [HQJ.out, tb_at _ _ _ hlt] at cj
      have v1 : swF M i j k i k = M i k := by unfold swF; rw [if_neg (by omega)]
      have v2 : swF M i j k j k = M j k := by unfold swF; rw [if_neg (by omega)]
      rw [v1, ← HQI.out] at ci
      rw [v2, ← HQJ.out] at cj
      have fi := tab_free (i := qi + k) hs.row d1
      have hs2 : StpS w g N [.int .i64 r, .int .i64 c, .slice (some ⟨g, 0, none⟩) N cap] sp _ _ := hs.add (tab_store hs.row d1 (M j k)) ((Fr.refl _ _).setCell (Or.inl (by simp)) _)
      obtain ⟨y0, y1, y2⟩ := box3 hs2.box
      have fj := tab_free (i := qj + k) hs2.row d2
      have cj2 := tab_cell (i := qj + k) hs2.row d2
      have hs3 : StpS w g N [.int .i64 r, .int .i64 c, .slice (some ⟨g, 0, none⟩) N cap] sp _ _ := hs2.add (tab_store hs2.row d2 (M i k)) ((Fr.refl _ _).setCell (Or.inl (by simp)) _)
      have S2 := Lib.hid hs3
      clear hs hs2 hs3 v1 v2
      go_wp2_with fail
      have w5 : 0 ≤ (qi : Int) + (k : Int) ∧ (qi : Int) + (k : Int) < (N : Int) := by omega
      have w6 : 0 ≤ (qj : Int) + (k : Int) ∧ (qj : Int) + (k : Int) < (N : Int) := by omega
      have w7 : ((qi : Int) + (k : Int)).toNat = qi + k := by omega
      have w8 : ((qj : Int) + (k : Int)).toNat = qj + k := by omega
      have w1 := IntWalk.i64_in (qi : Int) (by omega)
      have w2 := IntWalk.i64_in (qj : Int) (by omega)
      have w3 := IntWalk.i64_in ((qi : Int) + (k : Int)) (by omega)
      have w4 := IntWalk.i64_in ((qj : Int) + (k : Int)) (by omega)
      go_still_tail 19, (by kernel_rfl)
      clear w1 w2 w3 w4 w5 w6 w7 w8
      change wpList _ _ _ _ _ wr.drew
      go_wp2
      go_roundw
      case measure => simp [intOf]; omega
      case rel =>
        refine ⟨k + 1, by omega, by go_num, ?_⟩
        have h9 := S2.out.after (Below.refl _ _).drew
        have e9 := swF_step M i j k hlt
        rw [← HQI.out, ← HQJ.out] at e9
        rw [e9] at h9
        exact h9
    · obtain rfl : k = c := by omega
      have S2 := Lib.hid hs
      clear hs
      go_wp2
      go_end0
      exact ⟨rfl, by rw [← swF_full M i j c1]; exact S2.out.row, S2.out.fr⟩
end Go.Proofs.Ytbnfnijjldimkab
namespace Go.Proofs.Ytbnfnijjldimkab
open Go.RowKit
set_option linter.unusedVariables false
set_option linter.unusedSimpArgs false
/-- a row's first l columns taken a times -/
def scF (M : Nat → Nat → BitVec 8) (t : Nat) (a : BitVec 8) (l i x : Nat) : BitVec 8 := if i = t ∧ x < l then gm a (M i x) else M i x
def scR (M : Nat → Nat → BitVec 8) (t : Nat) (a : BitVec 8) (i x : Nat) : BitVec 8 := if i = t then gm a (M i x) else M i x
theorem scF_zero (M : Nat → Nat → BitVec 8) (t : Nat) (a : BitVec 8) : scF M t a 0 = M := by
  funext i x; unfold scF; rw [if_neg (fun h => Nat.not_lt_zero _ h.2)]
theorem scF_step {c : Nat} (M : Nat → Nat → BitVec 8) (t : Nat) (a : BitVec 8) (l : Nat) (hl : l < c) : (fun q => if q = t * c + l then gm a (M t l) else tb c (scF M t a l) q) = tb c (scF M t a (l + 1)) := by
  funext q
  show (if q = t * c + l then gm a (M t l) else scF M t a l (q / c) (q % c)) = scF M t a (l + 1) (q / c) (q % c)
  have e1 := @at_idx c t l q hl
  unfold scF
  by_cases h : q = t * c + l
  · obtain ⟨h1, h2⟩ := e1.1 h
    rw [if_pos h, if_pos (show q / c = t ∧ q % c < l + 1 from ⟨h1, by omega⟩), h1, h2]
  · rw [if_neg h]
    by_cases h3 : q / c = t ∧ q % c < l
    · rw [if_pos h3, if_pos (show q / c = t ∧ q % c < l + 1 from ⟨h3.1, by omega⟩)]
    · rw [if_neg h3, if_neg (show ¬ (q / c = t ∧ q % c < l + 1) from fun h4 => by
        by_cases h5 : q % c = l
        · exact h (e1.2 ⟨h4.1, h5⟩)
        · exact h3 ⟨h4.1, by omega⟩)]
theorem scF_full {c N : Nat} (M : Nat → Nat → BitVec 8) (t : Nat) (a : BitVec 8) (hc : 1 ≤ c) : tab N (tb c (scF M t a c)) = tab N (tb c (scR M t a)) := tab_congr fun q hq => by
  unfold tb scF scR
  by_cases h : q / c = t
  · rw [if_pos ⟨h, Nat.mod_lt _ (by omega)⟩, if_pos h]
  · rw [if_neg (fun h2 => h h2.1), if_neg h]
/-- to a row's first l columns another's, taken a times, added -/
def adF (M : Nat → Nat → BitVec 8) (t s : Nat) (a : BitVec 8) (l i x : Nat) : BitVec 8 := if i = t ∧ x < l then M i x ^^^ gm a (M s x) else M i x
theorem adF_zero (M : Nat → Nat → BitVec 8) (t s : Nat) (a : BitVec 8) : adF M t s a 0 = M := by
  funext i x; unfold adF; rw [if_neg (fun h => Nat.not_lt_zero _ h.2)]
theorem adF_step {c : Nat} (M : Nat → Nat → BitVec 8) (t s : Nat) (a : BitVec 8) (l : Nat) (hl : l < c) : (fun q => if q = t * c + l then M t l ^^^ gm a (M s l) else tb c (adF M t s a l) q) = tb c (adF M t s a (l + 1)) := by
  funext q
  show (if q = t * c + l then M t l ^^^ gm a (M s l) else adF M t s a l (q / c) (q % c)) = adF M t s a (l + 1) (q / c) (q % c)
  have e1 := @at_idx c t l q hl
  unfold adF
  by_cases h : q = t * c + l
  · obtain ⟨h1, h2⟩ := e1.1 h
    rw [if_pos h, if_pos (show q / c = t ∧ q % c < l + 1 from ⟨h1, by omega⟩), h1, h2]
  · rw [if_neg h]
    by_cases h3 : q / c = t ∧ q % c < l
    · rw [if_pos h3, if_pos (show q / c = t ∧ q % c < l + 1 from ⟨h3.1, by omega⟩)]
    · rw [if_neg h3, if_neg (show ¬ (q / c = t ∧ q % c < l + 1) from fun h4 => by
        by_cases h5 : q % c = l
        · exact h (e1.2 ⟨h4.1, h5⟩)
        · exact h3 ⟨h4.1, by omega⟩)]
theorem adF_full {c N : Nat} (M : Nat → Nat → BitVec 8) (t s : Nat) (a : BitVec 8) (hc : 1 ≤ c) : tab N (tb c (adF M t s a c)) = tab N (tb c (addRow M t s a)) := tab_congr fun q hq => by
  unfold tb adF addRow
  by_cases h : q / c = t
  · rw [if_pos ⟨h, Nat.mod_lt _ (by omega)⟩, if_pos h, h]
  · rw [if_neg (fun h2 => h h2.1), if_neg h]
theorem ker_swap {r c i j : Nat} (M : Nat → Nat → BitVec 8) (hi : i < r) (hj : j < r) (x : Nat → BitVec 8) : Ker r c (swapRows M i j) x ↔ Ker r c M x := by
  have e : ∀ a, sm c (fun y => gm (swapRows M i j a y) (x y)) = if a = i then sm c (fun y => gm (M j y) (x y)) else if a = j then sm c (fun y => gm (M i y) (x y)) else sm c (fun y => gm (M a y) (x y)) := by
    intro a
    unfold swapRows
    by_cases h1 : a = i
    · simp only [if_pos h1]
    · by_cases h2 : a = j
      · simp only [if_neg h1, if_pos h2]
      · simp only [if_neg h1, if_neg h2]
  constructor
  · intro h a ha
    by_cases h1 : a = i
    · have := h j hj
      rw [e] at this
      by_cases h2 : j = i
      · rw [if_pos h2] at this; rw [h1, ← h2]; exact this
      · rw [if_neg h2, if_pos rfl] at this; rw [h1]; exact this
    · by_cases h2 : a = j
      · have := h i hi
        rw [e, if_pos rfl] at this
        rw [h2]; exact this
      · have := h a ha
        rw [e, if_neg h1, if_neg h2] at this
        exact this
  · intro h a ha
    rw [e]
    split
    · exact h j hj
    · split
      · exact h i hi
      · exact h a ha
theorem ker_scale {r c t : Nat} (M : Nat → Nat → BitVec 8) (a : BitVec 8) (ha : a ≠ 0#8) (x : Nat → BitVec 8) : Ker r c (scR M t a) x ↔ Ker r c M x := by
  have e : ∀ i, sm c (fun y => gm (scR M t a i y) (x y)) = if i = t then gm a (sm c (fun y => gm (M i y) (x y))) else sm c (fun y => gm (M i y) (x y)) := by
    intro i
    unfold scR
    by_cases h1 : i = t
    · simp only [if_pos h1]
      rw [← sm_mul]
      exact sm_congr fun y _ => gm_assoc _ _ _
    · simp only [if_neg h1]
  constructor
  · intro h i hi
    have := h i hi
    rw [e] at this
    by_cases h1 : i = t
    · rw [if_pos h1] at this
      rcases (gm_eq_zero _ _).1 this with h2 | h2
      · exact absurd h2 ha
      · exact h2
    · rw [if_neg h1] at this; exact this
  · intro h i hi
    rw [e, h i hi]
    split
    · rw [gm_zero_right]
    · rfl
theorem piv_swap {r c j k m : Nat} {M' : Nat → Nat → BitVec 8} {p : Nat → Nat} (g : Good r M' j k p) (hk : k < r) (hm : m < r) (hkm : k ≤ m) (hp : M' m j ≠ 0#8) : Piv r c M' (swapRows M' m k) j k := by
  refine ⟨fun i x h => ?_, fun i x h1 h2 h3 => ?_, ?_, ker_swap M' hm hk⟩
  · unfold swapRows; rw [if_neg (by omega), if_neg (by omega)]
  · unfold swapRows
    split
    · exact g.below k x (Nat.le_refl _) hk h3
    · split
      · exact g.below m x hkm hm h3
      · exact g.below i x h1 h2 h3
  · unfold swapRows
    by_cases e : k = m
    · rw [if_pos e, e]; exact hp
    · rw [if_neg e, if_pos rfl]; exact hp
theorem piv_scR {r c j k : Nat} {M' M1 : Nat → Nat → BitVec 8} (h : Piv r c M' M1 j k) : Piv r c M' (scR M1 k (ivv (M1 k j))) j k ∧ scR M1 k (ivv (M1 k j)) k j = 1#8 := by
  have hiv : ivv (M1 k j) = iv (M1 k j) := by unfold ivv; rw [if_neg h.ne]
  have h1 : scR M1 k (ivv (M1 k j)) k j = 1#8 := by
    unfold scR; rw [if_pos rfl, hiv, gm_comm, gm_iv _ h.ne]
  refine ⟨⟨fun i x hi => ?_, fun i x h2 h3 h4 => ?_, by rw [h1]; decide, fun x => ?_⟩, h1⟩
  · rw [← h.up i x hi]; unfold scR; rw [if_neg (by omega)]
  · unfold scR
    split
    · rw [h.low i x h2 h3 h4, gm_zero_right]
    · exact h.low i x h2 h3 h4
  · rw [ker_scale M1 _ (by rw [hiv]; exact inv_ne _ h.ne) x, h.ker x]
/-- what Down holds -/
structure DnS (w0 : World) (g N : Nat) (LX sp : List Value) (f : Nat → BitVec 8) (w : World) : Prop where
  box : Row w w0.heap.size 71 LX
  res : Row w (w0.heap.size + 1) 71 [.int .i64 0, .int .i64 0, .slice none 0 0]
  row : Row w g 5 (ncells (tab N f) ++ sp)
  bel : Below w0.heap.size w0 w
section
variable {w0 w w' : World} {g N : Nat} {LX sp : List Value} {f f' : Nat → BitVec 8}
theorem DnS.after (h : DnS w0 g N LX sp f w) (hb : Below w.heap.size w w') : DnS w0 g N LX sp f w' := ⟨h.box.after hb, h.res.after hb, h.row.after hb, h.bel.trans (hb.mono h.bel.size)⟩
theorem DnS.add (h : DnS w0 g N LX sp f w) (hr : Row w' g 5 (ncells (tab N f') ++ sp)) (hf : Fr [g] w w') (hg : w0.heap.size ≤ g) : DnS w0 g N LX sp f' w' :=
  ⟨h.box.fr hf (by simp only [List.mem_singleton]; exact h.box.ne h.row (by decide)), h.res.fr hf (by simp only [List.mem_singleton]; exact h.res.ne h.row (by decide)), hr, h.bel.trans (hf.below h.bel.size (fun i hi => by simp only [List.mem_singleton] at hi; omega))⟩
end
theorem own_row1 {w : World} {base : Nat} {e : TypeId} {v : Value} {n : Nat} {xs : List Value} (h : w.ownsRow base e 1 v n xs) (hn : 0 < n) : ∃ g cap sp, v = .slice (some ⟨g, 0, none⟩) n cap ∧ base ≤ g ∧ n ≤ cap ∧ cap ≤ maxLen ∧ Row w g e (xs ++ sp) := by
  rcases h.2 with ⟨_, h0⟩ | ⟨g, cap, cur, hv, hb, hh, hc1, hc2, hc3, hc4⟩
  · omega
  · refine ⟨g, cap, cur.toList.drop (n * 1), hv, hb, hc1, hc2, Row.mk ?_⟩
    rw [← hc4, List.take_append_drop]
    simpa using hh
set_option maxRecDepth 100000 in
set_option maxHeartbeats 6400000 in
theorem down_any (r c cols ga oa acap N : Nat) (A : Nat → Nat → BitVec 8) (w : World) (r1 : 1 ≤ r) (r2 : r ≤ 255) (c1 : 1 ≤ c) (c2 : c ≤ 510) (hN : N = r * c) (hcols : cols ≤ c) (ha : MatRd w ga oa r c A) :
    Calls Try.prog 62 #[.agg #[.int .i64 r, .int .i64 c, .slice (some ⟨ga, oa, none⟩) N acap], .int .i64 cols] w fun e w' => ∃ g cap sp k M' j p, e = .returned (.tuple #[.agg #[.int .i64 r, .int .i64 c, .slice (some ⟨g, 0, none⟩) N cap], .int .i64 (k : Nat)]) ∧ w.heap.size ≤ g ∧ N ≤ cap ∧ Row w' g 5 (ncells (tab N (tb c M')) ++ sp) ∧ Below w.heap.size w w' ∧ Good r M' j k p ∧ j ≤ cols ∧ (j = cols ∨ k = r) ∧ (∀ x, Ker r c M' x ↔ Ker r c A x) := by
  have q1 : N ≤ 255 * 510 := by rw [hN]; exact Nat.mul_le_mul r2 c2
  have q0 : 0 < N := by rw [hN]; exact Nat.mul_pos (by omega) (by omega)
  have gal : ga < w.heap.size := rd_cell_lt (ha 0 0 (by omega) (by omega))
  obtain ⟨i0, hi0, hz0, hz1, hz2⟩ := info_parts u8parts
  obtain ⟨hb0, hb1, hbl⟩ := two_boxes w (.int .i64 r) (.int .i64 c) (.slice (some ⟨ga, oa, none⟩) N acap)
  have hsrc : ∀ j u, (ncells (tab N (tb c A)))[j]? = some u → World.cell? ((w.alloc (.cells #[.int .i64 r, .int .i64 c, .slice (some ⟨ga, oa, none⟩) N acap] 71)).alloc (.cells #[.int .i64 0, .int .i64 0, .slice none 0 0] 71)) ((⟨ga, oa, none⟩ : Addr).add j) = some u := by
    intro j u hj
    have hjn : j < N := by
      have := (List.getElem?_eq_some_iff.1 hj).1
      rwa [ncells_length, tab_length] at this
    rw [ncells_get _ _ (by rw [tab_length]; exact hjn), tab_get _ _ _ hjn] at hj
    have e1 : (⟨ga, oa, none⟩ : Addr).add j = ⟨ga, oa + j, none⟩ := by unfold Addr.add; split <;> simp_all
    rw [e1, ← hj]
    exact (hbl.cell (p := ⟨ga, oa + j, none⟩) gal).trans (ha.flat c1 j (by rw [← hN]; exact hjn))
  obtain ⟨news, hnews⟩ : ∃ news, news = ncells (tab N (tb c A)) := ⟨_, rfl⟩
  rw [← hnews] at hsrc
  have hnl : news.length = N * 1 := by rw [hnews, ncells_length, tab_length, Nat.mul_one]
  have hn1 : ∀ u ∈ news, u.oneCell' = true := by
    intro u hu
    rw [hnews] at hu
    unfold ncells at hu
    obtain ⟨x, _, rfl⟩ := List.mem_map.1 hu
    rfl
  have HSRC := Lib.hid hsrc
  have HNL := Lib.hid hnl
  have HN1 := Lib.hid hn1
  have HNW := Lib.hid hnews
  have HB := Lib.hid (And.intro hb0 (And.intro hb1 hbl))
  have HN := Lib.hid hN
  clear hsrc hnl hn1 hnews hb0 hb1 hbl hN ha
  go_enter Try.func62, Try.ntmps62
  go_wp2_with (at_builtin; refine wpList_append_own _ rfl (.const (.slice none 0 0)) (.tmp 16) 56 rfl (w.heap.size + 1 + 1) 5 i0 _ 1 1 Try.underlying56 hi0 hz0 hz1 hz2 rfl (by omega) _ 0 [] rfl (World.ownsRow_nil _ _ _ _) ⟨ga, oa, none⟩ N acap news rfl HNL.out HSRC.out HN1.out (by unfold maxLen; omega) (by omega) (by simp) ?_; intro v' w2 hown2 hgr2 hnil2; clear hnil2; rw [List.nil_append, Nat.zero_add] at hown2; obtain ⟨g, cap, sp, rfl, hg, hcap, hcapm, hrow⟩ := own_row1 hown2 q0; have hfr : Fr [] _ w2 := (Fr.refl [] _).grown hgr2 (fun k hk => by cases hk); have hk0 := HB.out.1.fr hfr (by simp); have hk1 := HB.out.2.1.fr hfr (by simp); have hk2 := HB.out.2.2.trans ((hfr.below (B := w.heap.size) (by simp; omega) (fun i hi => by simp at hi))); have hk3 := hfr.size; obtain ⟨b0, b1, b2⟩ := box3 hk0; obtain ⟨f0, f1, f2⟩ := box3f hk0; have S0 := Lib.hid (And.intro hk0 (And.intro hk1 (And.intro hk2 hrow))); clear hown2 hgr2 hrow hfr hk0 hk1 hk2 hk3)
  have hg0 : w.heap.size ≤ g := by omega
  have S1 : Hid (DnS w g N [.int .i64 r, .int .i64 c, .slice (some ⟨g, 0, none⟩) N cap] sp (tb c A) (w2.setCell ⟨w.heap.size, 2, none⟩ (.slice (some ⟨g, 0, none⟩) N cap))) := by
    obtain ⟨k0, k1, k2, k3⟩ := S0.out
    have hne := k0.ne k3 (by decide)
    have hne2 : w.heap.size + 1 ≠ w.heap.size := by omega
    refine Lib.hid ⟨k0.set 2 _, k1.other (by exact hne2) _, ?_, k2.setCell (Nat.le_refl _) _⟩
    rw [← HNW.out]
    exact k3.other (by exact fun e => hne e.symm) _
  clear S0 HSRC HNL HN1 HB hi0 hz0 hz1 hz2 b0 b1 b2 f0 f1 f2
  unfold maxLen at hcapm
  go_loopw [6, 7] (fun at_ jj wr => ∃ (k j : Nat) (M' : Nat → Nat → BitVec 8) (p : Nat → Nat), at_ = .int .i64 k ∧ jj = .int .i64 j ∧ j ≤ cols ∧ Good r M' j k p ∧ (∀ x, Ker r c M' x ↔ Ker r c A x) ∧ DnS w g N [.int .i64 r, .int .i64 c, .slice (some ⟨g, 0, none⟩) N cap] sp (tb c M') wr) (fun _ jj _ => cols - (intOf jj).toNat)
  case atStart => exact ⟨0, 0, A, fun _ => 0, rfl, rfl, by omega, good_start r A _, ker_refl_iff, S1.out⟩
  case round =>
    clear S1
    obtain ⟨k, j, M', p, rfl, rfl, hj, hgood, hker, hs⟩ := hrel
    have hkr := hgood.le
    have HG := Lib.hid hgood
    have HK := Lib.hid hker
    obtain ⟨x0, x1, x2⟩ := box3 hs.box
    have S1 := Lib.hid hs
    clear hgood hker hs
    by_cases hlt : j < cols ∧ k < r
    · obtain ⟨hlt1, hlt2⟩ := hlt
      go_wp2
      obtain ⟨wo, rfl⟩ : ∃ wo : World, wo = wr := ⟨_, rfl⟩
      go_loopw [8] (fun rr wr => ∃ m : Nat, rr = .int .i64 m ∧ k ≤ m ∧ m ≤ r ∧ (∀ i, k ≤ i → i < m → M' i j = 0#8) ∧ DnS w g N [.int .i64 r, .int .i64 c, .slice (some ⟨g, 0, none⟩) N cap] sp (tb c M') wr) (fun rr _ => r - (intOf rr).toNat)
      case atStart => exact ⟨k, rfl, Nat.le_refl _, hkr, fun i h1 h2 => by omega, S1.out⟩
      case round =>
        clear S1 x0 x1 x2
        obtain ⟨m, rfl, hkm, hmr, hz, hs⟩ := hrel
        obtain ⟨x0, x1, x2⟩ := box3 hs.box
        have HZ := Lib.hid hz
        clear hz
        by_cases hm : m < r
        · obtain ⟨qm, hqm⟩ : ∃ q, q = m * c := ⟨_, rfl⟩
          have bm := mul_row hm HN.out hqm
          have em : (m : Int) * (c : Int) = (qm : Int) := by rw [hqm]; simp
          have cm := tab_cell (i := qm + j) hs.row (by omega)
          rw [hqm, tb_at M' m j (by omega), ← hqm] at cm
          have HQM := Lib.hid hqm
          have S2 := Lib.hid hs
          clear hs hqm
          by_cases hpv : nv (M' m j) = 0
          · have hb0 : (nv (M' m j) == 0) = true := by simpa using hpv
            have HPV := Lib.hid hpv
            clear hpv
            go_wp2
            go_roundw
            case measure => simp [intOf]; omega
            case rel => exact ⟨m + 1, by go_num, by omega, by omega, fun i h1 h2 => by
              by_cases e : i = m
              · rw [e]; exact (nv_eq_zero _).1 HPV.out
              · exact HZ.out i h1 (by omega), S2.out⟩
          · have hb0 : (nv (M' m j) == 0) = false := by simpa using hpv
            have HPV := Lib.hid hpv
            have e1 : ((m : Int) == (r : Int)) = false := by simp; omega
            obtain ⟨M1, hM1⟩ : ∃ M1, M1 = swapRows M' m k := ⟨_, rfl⟩
            have hP1 : Piv r c M' M1 j k := by rw [hM1]; exact piv_swap HG.out hlt2 hm hkm (fun e => hpv ((nv_eq_zero _).2 e))
            obtain ⟨X, hX⟩ : ∃ X, X = M1 k j := ⟨_, rfl⟩
            obtain ⟨qk, hqk⟩ : ∃ q, q = k * c := ⟨_, rfl⟩
            have bk := mul_row hlt2 HN.out hqk
            have ek : (k : Int) * (c : Int) = (qk : Int) := by rw [hqk]; simp
            have HM1 := Lib.hid hM1
            have HP1 := Lib.hid hP1
            have HX := Lib.hid hX
            have HQK := Lib.hid hqk
            clear hpv hM1 hP1 hX hqk
            go_wp2_with (first
              | (go_at_call 74; have h9 := S2.out; clear S2; refine (swap_any r c m k g cap N M' sp _ r2 c1 c2 HN.out hm hlt2 h9.row).mono ?_; rintro e w3 ⟨rfl, hr, hf⟩; have hm9 := h9.add hr hf hg0; rw [← HM1.out] at hm9; obtain ⟨k03, k13, k23⟩ := box3 hm9.box; have ck := tab_cell (i := qk + j) hm9.row (by omega); rw [HQK.out, tb_at M1 k j (by omega), ← HQK.out, ← HX.out] at ck; have S3 := Lib.hid hm9; clear h9 hr hf hm9 cm x0 x1 x2)
              | (go_at_call 73; refine (rinv_any (nv X) (nv_lo _) (nv_hi _) _).mono ?_; rw [bv_nv]; rintro e w4 ⟨rfl, rfl⟩))
            obtain ⟨V, hV⟩ : ∃ V, V = ivv X := ⟨_, rfl⟩
            rw [← hV]
            have HV := Lib.hid hV
            clear hV ck k03 k13 k23
            obtain ⟨wp, rfl⟩ : ∃ wo : World, wo = w3 := ⟨_, rfl⟩
            go_loopw [11] (fun ll wr => ∃ l : Nat, ll = .int .i64 l ∧ l ≤ c ∧ DnS w g N [.int .i64 r, .int .i64 c, .slice (some ⟨g, 0, none⟩) N cap] sp (tb c (scF M1 k V l)) wr) (fun ll _ => c - (intOf ll).toNat)
            case atStart => exact ⟨0, rfl, by omega, by rw [scF_zero]; exact S3.out⟩
            case round =>
              clear S3
              obtain ⟨l, rfl, hl, hs⟩ := hrel
              obtain ⟨x0, x1, x2⟩ := box3 hs.box
              by_cases hlc : l < c
              · have d1 : qk + l < N := by omega
                have ck := tab_cell (i := qk + l) hs.row d1
                have v1 : scF M1 k V l k l = M1 k l := by unfold scF; rw [if_neg (by omega)]
                rw [HQK.out, tb_at _ _ _ hlc, v1, ← HQK.out] at ck
                have fk := tab_free (i := qk + l) hs.row d1
                have hs2 : DnS w g N [.int .i64 r, .int .i64 c, .slice (some ⟨g, 0, none⟩) N cap] sp _ _ := hs.add (tab_store hs.row d1 (gm V (M1 k l))) ((Fr.refl _ _).setCell (Or.inl (by simp)) _) hg0
                have S4 := Lib.hid hs2
                clear hs hs2 v1
                go_wp2_with fail
                have wbqk : 0 ≤ (qk : Int) + (l : Int) ∧ (qk : Int) + (l : Int) < (N : Int) := by omega
                have wtqk : ((qk : Int) + (l : Int)).toNat = qk + l := by omega
                have waqk := IntWalk.i64_in (qk : Int) (by omega)
                have wsqk := IntWalk.i64_in ((qk : Int) + (l : Int)) (by omega)
                go_still_tail 21, (by kernel_rfl)
                still_call (still_of (rmul_any _ _ (nv_lo _) (nv_hi _) (nv_lo _) (nv_hi _) _))
                repeat still_step
                refine wpStill_nil ?_
                clear wbqk wtqk waqk wsqk
                rw [bv_nv, bv_nv]
                change wpList _ _ _ _ _ wr.drew
                go_wp2
                go_roundw
                case measure => simp [intOf]; omega
                case rel =>
                  refine ⟨l + 1, by go_num, by omega, ?_⟩
                  have h9 := S4.out.after (Below.refl _ _).drew
                  have e9 := scF_step M1 k V l hlc
                  rw [← HQK.out] at e9
                  rw [e9] at h9
                  exact h9
              · obtain rfl : l = c := by omega
                obtain ⟨M2, hM2⟩ : ∃ M2, M2 = scR M1 k V := ⟨_, rfl⟩
                have HP2 : Hid (Piv r l M' M2 j k ∧ M2 k j = 1#8) := by
                  rw [hM2, HV.out, HX.out]; exact Lib.hid (piv_scR HP1.out)
                have hs2 : DnS w g N [.int .i64 r, .int .i64 l, .slice (some ⟨g, 0, none⟩) N cap] sp (tb l M2) wr := ⟨hs.box, hs.res, by rw [hM2, ← scF_full M1 k V c1]; exact hs.row, hs.bel⟩
                have SL := Lib.hid hs2
                clear hs hs2 hM2
                go_wp2
                obtain ⟨wq, rfl⟩ : ∃ wo : World, wo = wr := ⟨_, rfl⟩
                go_loopw [12] (fun ii wr => ∃ i : Nat, ii = .int .i64 i ∧ i ≤ r ∧ (∀ x, Ker r l (clearedTo M2 k j i) x ↔ Ker r l A x) ∧ DnS w g N [.int .i64 r, .int .i64 l, .slice (some ⟨g, 0, none⟩) N cap] sp (tb l (clearedTo M2 k j i)) wr) (fun ii _ => r - (intOf ii).toNat)
                case atStart => exact ⟨0, rfl, by omega, fun x => by rw [clearedTo_zero]; exact (HP2.out.1.ker x).trans (HK.out x), by rw [clearedTo_zero]; exact SL.out⟩
                case round =>
                  clear SL x0 x1 x2
                  obtain ⟨i, rfl, hi, hker, hs⟩ := hrel
                  obtain ⟨x0, x1, x2⟩ := box3 hs.box
                  have HKI := Lib.hid hker
                  clear hker
                  by_cases hir : i < r
                  · obtain ⟨qi, hqi⟩ : ∃ q, q = i * l := ⟨_, rfl⟩
                    have bi := mul_row hir HN.out hqi
                    have ei : (i : Int) * (l : Int) = (qi : Int) := by rw [hqi]; simp
                    obtain ⟨Y, hY⟩ : ∃ Y, Y = M2 i j := ⟨_, rfl⟩
                    have ci := tab_cell (i := qi + j) hs.row (by omega)
                    rw [hqi, tb_at _ i j (by omega), clearedTo_row M2 k j i i j (Nat.le_refl _), ← hY, ← hqi] at ci
                    have HQI := Lib.hid hqi
                    have HY := Lib.hid hY
                    have S5 := Lib.hid hs
                    clear hs hqi hY
                    by_cases hskip : i = k ∨ nv Y = 0
                    · have hsk : i = k ∨ M2 i j = 0#8 := by
                        rcases hskip with h | h
                        · exact Or.inl h
                        · exact Or.inr (HY.out.symm.trans ((nv_eq_zero _).1 h))
                      have HSK := Lib.hid hsk
                      have hx : ((i : Int) != (k : Int)) = false ∨ (((i : Int) != (k : Int)) = true ∧ (nv Y != 0) = false) := by
                        by_cases e : i = k
                        · exact Or.inl (by simp [e])
                        · rcases hskip with h | h
                          · exact absurd h e
                          · exact Or.inr ⟨by simp; omega, by simp [h]⟩
                      clear hskip hsk
                      rcases hx with hx | ⟨hx, hx2⟩
                      all_goals
                        go_wp2
                        refine wp_loop_rounds 1 ?_
                        rw [rounds_succ]
                        go_wp2
                        go_roundw
                        case measure => simp [intOf]; omega
                        case rel => exact ⟨i + 1, by go_num, by omega, by rw [clearedTo_skip M2 k j i HSK.out]; exact HKI.out, by rw [clearedTo_skip M2 k j i HSK.out]; exact S5.out⟩
                    · have hik : i ≠ k := fun e => hskip (Or.inl e)
                      have hx : ((i : Int) != (k : Int)) = true := by simp; omega
                      have hx2 : (nv Y != 0) = true := by simp; exact fun e => hskip (Or.inr e)
                      have HIK := Lib.hid hik
                      clear hskip hik
                      obtain ⟨Mi, hMi⟩ : ∃ Mi, Mi = clearedTo M2 k j i := ⟨_, rfl⟩
                      have HMI := Lib.hid hMi
                      clear hMi
                      go_wp2
                      obtain ⟨wz, rfl⟩ : ∃ wo : World, wo = wr := ⟨_, rfl⟩
                      go_loopw [14] (fun hh wr => ∃ h : Nat, hh = .int .i64 h ∧ h ≤ l ∧ DnS w g N [.int .i64 r, .int .i64 l, .slice (some ⟨g, 0, none⟩) N cap] sp (tb l (adF Mi i k Y h)) wr) (fun hh _ => l - (intOf hh).toNat)
                      case atStart => exact ⟨0, rfl, by omega, by rw [adF_zero, HMI.out]; exact S5.out⟩
                      case round =>
                        clear S5 x0 x1 x2 ci
                        obtain ⟨h, rfl, hh, hs⟩ := hrel
                        obtain ⟨x0, x1, x2⟩ := box3 hs.box
                        by_cases hhl : h < l
                        · have d1 : qi + h < N := by omega
                          have d2 : qk + h < N := by omega
                          have ci := tab_cell (i := qi + h) hs.row d1
                          have v1 : adF Mi i k Y h i h = Mi i h := by unfold adF; rw [if_neg (by omega)]
                          rw [HQI.out, tb_at _ _ _ hhl, v1, ← HQI.out] at ci
                          have ck := tab_cell (i := qk + h) hs.row d2
                          have v2 : adF Mi i k Y h k h = Mi k h := by unfold adF; rw [if_neg (by omega)]
                          rw [HQK.out, tb_at _ _ _ hhl, v2, ← HQK.out] at ck
                          have fi := tab_free (i := qi + h) hs.row d1
                          have hs2 : DnS w g N [.int .i64 r, .int .i64 l, .slice (some ⟨g, 0, none⟩) N cap] sp _ _ := hs.add (tab_store hs.row d1 (Mi i h ^^^ gm Y (Mi k h))) ((Fr.refl _ _).setCell (Or.inl (by simp)) _) hg0
                          have S6 := Lib.hid hs2
                          clear hs hs2 v1 v2
                          go_wp2_with fail
                          have wbqi : 0 ≤ (qi : Int) + (h : Int) ∧ (qi : Int) + (h : Int) < (N : Int) := by omega
                          have wtqi : ((qi : Int) + (h : Int)).toNat = qi + h := by omega
                          have wbqk : 0 ≤ (qk : Int) + (h : Int) ∧ (qk : Int) + (h : Int) < (N : Int) := by omega
                          have wtqk : ((qk : Int) + (h : Int)).toNat = qk + h := by omega
                          have waqi := IntWalk.i64_in (qi : Int) (by omega)
                          have wsqi := IntWalk.i64_in ((qi : Int) + (h : Int)) (by omega)
                          have waqk := IntWalk.i64_in (qk : Int) (by omega)
                          have wsqk := IntWalk.i64_in ((qk : Int) + (h : Int)) (by omega)
                          go_still_tail 32, (by kernel_rfl)
                          still_call (still_of (rmul_any _ _ (nv_lo _) (nv_hi _) (nv_lo _) (nv_hi _) _))
                          repeat still_step
                          refine wpStill_nil ?_
                          clear wbqi wtqi waqi wsqi wbqk wtqk waqk wsqk
                          rw [bv_nv, bv_nv, u8_xor_nv]
                          change wpList _ _ _ _ _ wr.drew
                          go_wp2
                          go_roundw
                          case measure => simp [intOf]; omega
                          case rel =>
                            refine ⟨h + 1, by go_num, by omega, ?_⟩
                            have h9 := S6.out.after (Below.refl _ _).drew
                            have e9 := adF_step Mi i k Y h hhl
                            rw [← HQI.out] at e9
                            rw [e9] at h9
                            exact h9
                        · obtain rfl : h = l := by omega
                          have S6 := Lib.hid hs
                          clear hs
                          go_wp2
                          go_roundw
                          case measure => simp [intOf]; omega
                          case rel =>
                            have hst := clearedTo_step M2 k j i HIK.out
                            refine ⟨i + 1, by go_num, by omega, fun x => by rw [← hst, ker_addRow hlt2 hir (Or.inl (fun e => HIK.out e.symm))]; exact HKI.out x, ⟨S6.out.box, S6.out.res, ?_, S6.out.bel⟩⟩
                            rw [← hst, ← HMI.out, ← HY.out, ← adF_full Mi i k Y c1]
                            exact S6.out.row
                  · obtain rfl : i = r := by omega
                    have S5 := Lib.hid hs
                    clear hs
                    go_wp2
                    go_roundw
                    case measure => simp [intOf]; omega
                    case rel => exact ⟨k + 1, j + 1, clearedTo M2 k j i, fun t => if t = k then j else p t, by go_num, by go_num, by omega, piv_next (M := M') HG.out HP2.out.1 hlt2 HP2.out.2, HKI.out, S5.out⟩
        · obtain rfl : m = r := by omega
          have S2 := Lib.hid hs
          clear hs
          have e1 : ((m : Int) == (m : Int)) = true := by simp
          go_wp2
          go_roundw
          case measure => simp [intOf]; omega
          case rel => exact ⟨k, j + 1, M', p, rfl, by go_num, by omega, good_skip HG.out HZ.out, HK.out, S2.out⟩
    · have hx : ¬ j < cols ∨ (j < cols ∧ ¬ k < r) := by omega
      clear hlt
      obtain ⟨t0, t1, t2⟩ := box3 S1.out.res
      obtain ⟨f0, f1, f2⟩ := box3f S1.out.res
      rcases hx with hx | ⟨hx, hx2⟩
      all_goals
        go_wp2
        have hy := set3_row (a := .int .i64 r) (b := .int .i64 c) (c := .slice (some ⟨g, 0, none⟩) N cap) S1.out.res
        obtain ⟨y0, y1, y2⟩ := box3 hy
        exact bodyPost_ret (v := .tuple #[.agg #[.int .i64 r, .int .i64 c, .slice (some ⟨g, 0, none⟩) N cap], .int .i64 k]) (by simp [results, Try.results62, go_sem, y0, y1, y2]) rfl ⟨g, cap, sp, k, M', j, p, rfl, hg0, hcap, set3_other S1.out.row (fun e => S1.out.res.ne S1.out.row (by decide) e.symm), set3_below S1.out.bel (by omega), HG.out, hj, by omega, HK.out⟩
end Go.Proofs.Ytbnfnijjldimkab
