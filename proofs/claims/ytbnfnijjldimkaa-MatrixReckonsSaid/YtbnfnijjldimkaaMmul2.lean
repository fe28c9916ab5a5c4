/-
  The walk of matrix.Mul where there is a product.
-/
import Derived.Test.YtbnfnijjldimkaaMmul
namespace Go.Proofs.Ytbnfnijjldimkaa
open Go.RowKit
set_option linter.unusedVariables false
set_option linter.unusedSimpArgs false
/-- what Mul holds in its loops -/
structure MulS (w0 : World) (b0 b1 b2 bx g ga oa gb ob r n c N : Nat) (A B : Nat → Nat → BitVec 8) (LA LB LX : List Value) (f : Nat → BitVec 8) (w : World) : Prop where
  m3 : M3 w0 b0 b1 b2 LA LB w
  box : Row w bx 24 LX
  row : Row w g 5 (ncells (tab N f) ++ [])
  one : MatRd w ga oa r n A
  two : MatRd w gb ob n c B
section
variable {w0 w w' : World} {b0 b1 b2 bx g ga oa gb ob r n c N : Nat} {A B : Nat → Nat → BitVec 8} {LA LB LX : List Value} {f f' : Nat → BitVec 8}
theorem MulS.after (h : MulS w0 b0 b1 b2 bx g ga oa gb ob r n c N A B LA LB LX f w) (hb : Below w.heap.size w w') : MulS w0 b0 b1 b2 bx g ga oa gb ob r n c N A B LA LB LX f w' :=
  ⟨h.m3.after hb, h.box.after hb, h.row.after hb, h.one.after hb, h.two.after hb⟩
theorem MulS.add (h : MulS w0 b0 b1 b2 bx g ga oa gb ob r n c N A B LA LB LX f w) (hr : Row w' g 5 (ncells (tab N f') ++ [])) (hf : Fr [g] w w') (hg : w0.heap.size ≤ g) (ha : ga < w0.heap.size) (hb : gb < w0.heap.size) : MulS w0 b0 b1 b2 bx g ga oa gb ob r n c N A B LA LB LX f' w' := by
  have h0 : b0 ∉ [g] := by simp only [List.mem_singleton]; exact h.m3.one.ne h.row (by decide)
  have h1 : b1 ∉ [g] := by simp only [List.mem_singleton]; exact h.m3.two.ne h.row (by decide)
  have h2 : b2 ∉ [g] := by simp only [List.mem_singleton]; exact h.m3.res.ne h.row (by decide)
  have h3 : bx ∉ [g] := by simp only [List.mem_singleton]; exact h.box.ne h.row (by decide)
  exact ⟨⟨h.m3.one.fr hf h0, h.m3.two.fr hf h1, h.m3.res.fr hf h2, h.m3.bel.trans (hf.below h.m3.bel.size (fun i hi => by simp only [List.mem_singleton] at hi; omega)), h.m3.le⟩, h.box.fr hf h3, hr, h.one.fr hf (by simp; omega), h.two.fr hf (by simp; omega)⟩
end
set_option maxRecDepth 100000 in
set_option maxHeartbeats 3200000 in
theorem mul_ok (r n c ga oa an acap gb ob bn bcap : Nat) (A B : Nat → Nat → BitVec 8) (w : World) (r1 : 1 ≤ r) (r2 : r ≤ 255) (n1 : 1 ≤ n) (n2 : n ≤ 255) (c1 : 1 ≤ c) (c2 : c ≤ 255) (han : an = r * n) (hbn : bn = n * c) (hac : an ≤ acap) (hbc : bn ≤ bcap) (hac2 : acap ≤ 9223372036854775807) (hbc2 : bcap ≤ 9223372036854775807)
    (ha : MatRd w ga oa r n A) (hb : MatRd w gb ob n c B) :
    Calls Try.prog 20 #[.agg #[.int .i64 r, .int .i64 n, .slice (some ⟨ga, oa, none⟩) an acap], .agg #[.int .i64 n, .int .i64 c, .slice (some ⟨gb, ob, none⟩) bn bcap]] w fun e w' => ∃ g, e = .returned (.tuple #[mval r c g, .nilIface]) ∧ w.heap.size ≤ g ∧ Row w' g 5 (ncells (mat r c (mmul n A B)).cells) ∧ Below w.heap.size w w' := by
  have hma := rightB_ok r1 r2 n1 n2 han
  have hmb := rightB_ok n1 n2 c1 c2 hbn
  have q1 : an ≤ 255 * 255 := by rw [han]; exact Nat.mul_le_mul r2 n2
  have q2 : bn ≤ 255 * 255 := by rw [hbn]; exact Nat.mul_le_mul n2 c2
  have q3 : r * c ≤ 255 * 255 := Nat.mul_le_mul r2 c2
  obtain ⟨N, hN⟩ : ∃ N, N = r * c := ⟨_, rfl⟩
  unfold mval
  rw [← hN] at q3 ⊢
  have gal : ga < w.heap.size := rd_cell_lt (ha 0 0 (by omega) (by omega))
  have gbl : gb < w.heap.size := rd_cell_lt (hb 0 0 (by omega) (by omega))
  have S0 := Lib.hid (m3_start w (.int .i64 r) (.int .i64 n) (.slice (some ⟨ga, oa, none⟩) an acap) (.int .i64 n) (.int .i64 c) (.slice (some ⟨gb, ob, none⟩) bn bcap))
  have HX := Lib.hid hma
  have HX2 := Lib.hid hmb
  have HN := Lib.hid hN
  have HAN := Lib.hid han
  have HBN := Lib.hid hbn
  have HA := Lib.hid ha
  have HB := Lib.hid hb
  clear hma hmb hN han hbn ha hb
  go_enter Try.func20, Try.ntmps20
  go_wp2_with (first
    | (go_at_call 27; have h9 := S0.out; clear S0; refine (right_gen r n an _ acap _ (by unfold maxLen; omega)).mono ?_; rintro e w1 ⟨rfl, hb⟩; rw [HX.out]; have hm := h9.after hb; obtain ⟨x0, x1, x2⟩ := box3 hm.two; have S1 := Lib.hid hm; clear h9 hb hm)
    | (go_at_call 27; have h9 := S1.out; clear S1; refine (right_gen n c bn _ bcap _ (by unfold maxLen; omega)).mono ?_; rintro e w1 ⟨rfl, hb⟩; rw [HX2.out]; have hm := h9.after hb; obtain ⟨u0, u1, u2⟩ := box3 hm.one; obtain ⟨t0, t1, t2⟩ := box3 hm.two; have S2 := Lib.hid hm; clear h9 hb hm)
    | (go_at_call 43; have h9 := S2.out; clear S2; refine (zero_any r c _ (by omega) (by omega)).mono ?_; rintro e w3 ⟨g, rfl, hg, hrow, hb⟩; unfold mval; rw [← HN.out] at hrow ⊢; have hg2 : w.heap.size ≤ g := Nat.le_trans h9.bel.size hg; have hm := h9.after hb; obtain ⟨u0, u1, u2⟩ := box3 (hm.one.alloc (.cells #[.int .i64 r, .int .i64 c, .slice (some ⟨g, 0, none⟩) N N] 24)); have hz := hm.bel.size; have S3 := Lib.hid (And.intro hm hrow); clear h9 hb hm hg hrow))
  have S4 : Hid (MulS w w.heap.size (w.heap.size + 1) (w.heap.size + 1 + 1) w3.heap.size g ga oa gb ob r n c N A B [.int .i64 r, .int .i64 n, .slice (some ⟨ga, oa, none⟩) an acap] [.int .i64 n, .int .i64 c, .slice (some ⟨gb, ob, none⟩) bn bcap] [.int .i64 r, .int .i64 c, .slice (some ⟨g, 0, none⟩) N N] (mulF n c A B 0 0) (w3.alloc (.cells #[.int .i64 r, .int .i64 c, .slice (some ⟨g, 0, none⟩) N N] 24))) := by
    obtain ⟨hm, hrow⟩ := S3.out
    have hbl : Below w3.heap.size w3 (w3.alloc (.cells #[.int .i64 r, .int .i64 c, .slice (some ⟨g, 0, none⟩) N N] 24)) := (Below.refl _ _).alloc (Nat.le_refl _) _
    have hk := HA.out
    refine Lib.hid ⟨hm.after hbl, Row.new _ _ _, ?_, fun i j hi hj => ?_, fun i j hi hj => ?_⟩
    · rw [List.append_nil, ← mulF_zero]; exact hrow.row.after hbl
    · exact ((hm.after hbl).bel.cell (p := ⟨ga, oa + i * n + j, none⟩) gal).trans (HA.out i j hi hj)
    · exact ((hm.after hbl).bel.cell (p := ⟨gb, ob + i * c + j, none⟩) gbl).trans (HB.out i j hi hj)
  clear S3 HA HB
  go_loopw [34] (fun i wr => ∃ k : Nat, k ≤ r ∧ i = .int .i64 k ∧ MulS w w.heap.size (w.heap.size + 1) (w.heap.size + 1 + 1) w3.heap.size g ga oa gb ob r n c N A B [.int .i64 r, .int .i64 n, .slice (some ⟨ga, oa, none⟩) an acap] [.int .i64 n, .int .i64 c, .slice (some ⟨gb, ob, none⟩) bn bcap] [.int .i64 r, .int .i64 c, .slice (some ⟨g, 0, none⟩) N N] (mulF n c A B k 0) wr) (fun i _ => r - (intOf i).toNat)
  case atStart => exact ⟨0, by omega, rfl, S4.out⟩
  case round =>
    clear S4
    obtain ⟨k, hk, rfl, hs⟩ := hrel
    obtain ⟨u0, u1, u2⟩ := box3 hs.m3.one
    have S5 := Lib.hid hs
    clear hs
    by_cases hlt : k < r
    · go_wp2_with (go_at_call 37; have h9 := S5.out; clear S5; refine (row_any r n k ga oa an acap _ hlt (by omega) (by omega) (by omega) HAN.out hac hac2).mono ?_; rintro e w5 ⟨rfl, hb⟩; have S6 := Lib.hid (h9.after hb); clear h9 hb u0 u1 u2)
      obtain ⟨qa, hqa⟩ : ∃ q, q = oa + k * n := ⟨_, rfl⟩
      rw [← hqa]
      have HQA := Lib.hid hqa
      clear hqa
      go_loopw [41] (fun i wr => ∃ l : Nat, l ≤ n ∧ i = .int .i64 l ∧ MulS w w.heap.size (w.heap.size + 1) (w.heap.size + 1 + 1) w3.heap.size g ga oa gb ob r n c N A B [.int .i64 r, .int .i64 n, .slice (some ⟨ga, oa, none⟩) an acap] [.int .i64 n, .int .i64 c, .slice (some ⟨gb, ob, none⟩) bn bcap] [.int .i64 r, .int .i64 c, .slice (some ⟨g, 0, none⟩) N N] (mulF n c A B k l) wr) (fun i _ => n - (intOf i).toNat)
      case atStart => exact ⟨0, by omega, rfl, S6.out⟩
      case round =>
        clear S6
        obtain ⟨l, hl, rfl, hs⟩ := hrel
        by_cases hlt2 : l < n
        · obtain ⟨x0, x1, x2⟩ := box3 hs.box
          obtain ⟨u0, u1, u2⟩ := box3 hs.m3.two
          have ca := hs.one k l hlt hlt2
          rw [← HQA.out] at ca
          have S7 := Lib.hid hs
          clear hs
          go_wp2_with fail
          go_region_held3 (fun w' => (w'.cell? ⟨w3.heap.size, 0, none⟩ = some (.int .i64 r) ∧ w'.cell? ⟨w3.heap.size, 1, none⟩ = some (.int .i64 c) ∧ w'.cell? ⟨w3.heap.size, 2, none⟩ = some (.slice (some ⟨g, 0, none⟩) N N)) ∧ (w'.cell? ⟨w.heap.size + 1, 0, none⟩ = some (.int .i64 n) ∧ w'.cell? ⟨w.heap.size + 1, 1, none⟩ = some (.int .i64 c) ∧ w'.cell? ⟨w.heap.size + 1, 2, none⟩ = some (.slice (some ⟨gb, ob, none⟩) bn bcap))) (first | exact ⟨by assumption, by assumption⟩ | exact ⟨⟨x0, x1, x2⟩, u0, u1, u2⟩)
            (first
            | (go_at_call 37; have h9 := S7.out; clear S7; refine (row0_any r c k g N N _ hlt (by omega) (by omega) (by omega) HN.out (Nat.le_refl _) (by omega)).mono ?_; rintro e w6 ⟨q, hqe, hqn, rfl, hb⟩; have hm := (h9.after (Below.refl _ _).drew).after hb; have hk1 := box3 hm.box; have hk2 := box3 hm.m3.two; have S8 := Lib.hid hm; have HQ := Lib.hid hqe; clear h9 hb hm hqe)
            | (go_at_call 37; have h9 := S8.out; clear S8; refine (row_any n c l gb ob bn bcap _ hlt2 (by omega) (by omega) (by omega) HBN.out hbc hbc2).mono ?_; rintro e w7 ⟨rfl, hb⟩; have hm := h9.after hb; have hk3 := box3 hm.box; have hk4 := box3 hm.m3.two; have S9 := Lib.hid hm; clear h9 hb hm)
            | (go_at_call 44; have h9 := S9.out; clear S9; refine (add_any g _ c _ gb _ c _ N (mulF n c A B k l) (B l) [] (nv (A k l)) _ (nv_lo _) (nv_hi _) h9.row (by omega) (Nat.le_refl _) (by omega) (fun j hj => h9.two l j hlt2 hj) (Or.inl (by omega))).mono ?_; rintro e w8 ⟨rfl, hr, hf⟩; rw [bv_nv, HQ.out, mulF_step n c A B k l c1] at hr; have hm := h9.add hr hf hg2 gal gbl; have hk5 := box3 hm.box; have hk6 := box3 hm.m3.two; have S10 := Lib.hid hm; clear h9 hr hf hm))
          go_wp2
          go_roundw
          case measure => simp [intOf]; omega
          case rel => exact ⟨l + 1, by omega, by go_num, S10.out⟩
        · obtain rfl : l = n := by omega
          rw [mulF_next] at hs
          have S7 := Lib.hid hs
          clear hs
          go_wp2
          go_roundw
          case measure => simp [intOf]; omega
          case rel => exact ⟨k + 1, by omega, by go_num, S7.out⟩
    · obtain rfl : k = r := by omega
      obtain ⟨x0, x1, x2⟩ := box3 S5.out.box
      obtain ⟨t0, t1, t2⟩ := box3 S5.out.m3.res
      obtain ⟨f0, f1, f2⟩ := box3f S5.out.m3.res
      go_wp2
      have hy := set3_row (a := .int .i64 k) (b := .int .i64 c) (c := .slice (some ⟨g, 0, none⟩) N N) S5.out.m3.res
      obtain ⟨y0, y1, y2⟩ := box3 hy
      exact bodyPost_ret (v := .tuple #[.agg #[.int .i64 k, .int .i64 c, .slice (some ⟨g, 0, none⟩) N N], .nilIface]) (by simp [results, Try.results20, go_sem, y0, y1, y2]) rfl ⟨g, rfl, hg2, by
        have h9 := S5.out.row
        rw [HN.out, mulF_full, List.append_nil] at h9
        exact set3_other h9 (fun e => by have := S5.out.m3.res.ne S5.out.row (by decide); omega), set3_below S5.out.m3.bel (by omega)⟩
end Go.Proofs.Ytbnfnijjldimkaa
