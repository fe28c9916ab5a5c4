/-
  The walks of the document's Mul and Rank.
-/
import Derived.Test.YtbnfnijjldimkaaRdown2
namespace Go.Proofs.Ytbnfnijjldimkaa
open Go.RowKit
set_option linter.unusedVariables false
set_option linter.unusedSimpArgs false
set_option maxRecDepth 100000 in
set_option maxHeartbeats 3200000 in
theorem rmul_bad1 (ar ac br bc : Int) (an bn acap bcap : Nat) (aa ba : Option Addr) (w : World) (hal : an ≤ maxLen) (hbl : bn ≤ maxLen) (h : rightB ar ac an = false ∨ rightB br bc bn = false) :
    Calls Try.prog 29 #[.agg #[.int .i64 ar, .int .i64 ac, .slice aa an acap], .agg #[.int .i64 br, .int .i64 bc, .slice ba bn bcap]] w fun e w' => e = .returned (.tuple #[nilMat, .int .i64 1]) ∧ Below w.heap.size w w' := by
  have hx : rightB ar ac an = false ∨ (rightB ar ac an = true ∧ rightB br bc bn = false) := by
    cases h1 : rightB ar ac an
    · exact Or.inl rfl
    · rw [h1] at h
      exact Or.inr ⟨rfl, h.resolve_left (by simp)⟩
  clear h
  have S0 := Lib.hid (m3_start w (.int .i64 ar) (.int .i64 ac) (.slice aa an acap) (.int .i64 br) (.int .i64 bc) (.slice ba bn bcap))
  obtain ⟨B, hB⟩ : ∃ B, rightB br bc bn = B := ⟨_, rfl⟩
  rw [hB] at hx
  have HX2 := Lib.hid hB
  clear hB
  rcases hx with hx | ⟨hx, rfl⟩
  all_goals
    have HX := Lib.hid hx
    clear hx
    go_enter Try.func29, Try.ntmps29
    go_wp2_with (first
      | (go_at_call 23; have h9 := S0.out; clear S0; refine (rright_gen ar ac an _ acap _ hal).mono ?_; rintro e w1 ⟨rfl, hb⟩; rw [HX.out]; have hm := h9.after hb; obtain ⟨x0, x1, x2⟩ := box3 hm.two; have S1 := Lib.hid hm; clear h9 hb hm)
      | (go_at_call 23; have h9 := S1.out; clear S1; refine (rright_gen br bc bn _ bcap _ hbl).mono ?_; rintro e w1 ⟨rfl, hb⟩; rw [HX2.out]; have hm := h9.after hb; obtain ⟨u0, u1, u2⟩ := box3 hm.one; obtain ⟨t0, t1, t2⟩ := box3 hm.two; obtain ⟨z0, z1, z2⟩ := box3 hm.res; obtain ⟨f0, f1, f2⟩ := box3f hm.res; have S2 := Lib.hid hm; clear h9 hb hm))
    have hy := set3_row (a := .int .i64 0) (b := .int .i64 0) (c := .slice none 0 0) S2.out.res
    obtain ⟨y0, y1, y2⟩ := box3 hy
    exact bodyPost_ret (v := .tuple #[.agg #[.int .i64 0, .int .i64 0, .slice none 0 0], .int .i64 1]) (by simp [results, Try.results29, go_sem, y0, y1, y2]) rfl ⟨rfl, set3_below S2.out.bel S2.out.le⟩
set_option maxRecDepth 100000 in
set_option maxHeartbeats 3200000 in
theorem rmul_bad2 (ar ac br bc : Int) (an bn acap bcap : Nat) (aa ba : Option Addr) (w : World) (hal : an ≤ maxLen) (hbl : bn ≤ maxLen) (h1 : rightB ar ac an = true) (h2 : rightB br bc bn = true) (h3 : ac ≠ br) :
    Calls Try.prog 29 #[.agg #[.int .i64 ar, .int .i64 ac, .slice aa an acap], .agg #[.int .i64 br, .int .i64 bc, .slice ba bn bcap]] w fun e w' => e = .returned (.tuple #[nilMat, .int .i64 19]) ∧ Below w.heap.size w w' := by
  have S0 := Lib.hid (m3_start w (.int .i64 ar) (.int .i64 ac) (.slice aa an acap) (.int .i64 br) (.int .i64 bc) (.slice ba bn bcap))
  have HX := Lib.hid h1
  have HX2 := Lib.hid h2
  have hne : (ac != br) = true := by simpa using h3
  clear h1 h2 h3
  go_enter Try.func29, Try.ntmps29
  go_wp2_with (first
    | (go_at_call 23; have h9 := S0.out; clear S0; refine (rright_gen ar ac an _ acap _ hal).mono ?_; rintro e w1 ⟨rfl, hb⟩; rw [HX.out]; have hm := h9.after hb; obtain ⟨x0, x1, x2⟩ := box3 hm.two; have S1 := Lib.hid hm; clear h9 hb hm)
    | (go_at_call 23; have h9 := S1.out; clear S1; refine (rright_gen br bc bn _ bcap _ hbl).mono ?_; rintro e w1 ⟨rfl, hb⟩; rw [HX2.out]; have hm := h9.after hb; obtain ⟨u0, u1, u2⟩ := box3 hm.one; obtain ⟨t0, t1, t2⟩ := box3 hm.two; obtain ⟨z0, z1, z2⟩ := box3 hm.res; obtain ⟨f0, f1, f2⟩ := box3f hm.res; have S2 := Lib.hid hm; clear h9 hb hm))
  have hy := set3_row (a := .int .i64 0) (b := .int .i64 0) (c := .slice none 0 0) S2.out.res
  obtain ⟨y0, y1, y2⟩ := box3 hy
  exact bodyPost_ret (v := .tuple #[.agg #[.int .i64 0, .int .i64 0, .slice none 0 0], .int .i64 19]) (by simp [results, Try.results29, go_sem, y0, y1, y2]) rfl ⟨rfl, set3_below S2.out.bel S2.out.le⟩
set_option maxRecDepth 100000 in
set_option maxHeartbeats 6400000 in
theorem rmul_ok (r n c ga oa an acap gb ob bn bcap : Nat) (A B : Nat → Nat → BitVec 8) (w : World) (r1 : 1 ≤ r) (r2 : r ≤ 255) (n1 : 1 ≤ n) (n2 : n ≤ 255) (c1 : 1 ≤ c) (c2 : c ≤ 255) (han : an = r * n) (hbn : bn = n * c)
    (ha : MatRd w ga oa r n A) (hb : MatRd w gb ob n c B) :
    Calls Try.prog 29 #[.agg #[.int .i64 r, .int .i64 n, .slice (some ⟨ga, oa, none⟩) an acap], .agg #[.int .i64 n, .int .i64 c, .slice (some ⟨gb, ob, none⟩) bn bcap]] w fun e w' => ∃ g, e = .returned (.tuple #[mval r c g, .int .i64 0]) ∧ w.heap.size ≤ g ∧ Row w' g 5 (ncells (mat r c (mmul n A B)).cells) ∧ Below w.heap.size w w' := by
  have hma := rightB_ok r1 r2 n1 n2 han
  have hmb := rightB_ok n1 n2 c1 c2 hbn
  have q1 : an ≤ 255 * 255 := by rw [han]; exact Nat.mul_le_mul r2 n2
  have q2 : bn ≤ 255 * 255 := by rw [hbn]; exact Nat.mul_le_mul n2 c2
  have q3 : r * c ≤ 255 * 255 := Nat.mul_le_mul r2 c2
  obtain ⟨N, hN⟩ : ∃ N, N = r * c := ⟨_, rfl⟩
  unfold mval
  rw [← hN] at q3 ⊢
  have gal : ga < w.heap.size := rd_cell_lt (ha 0 0 (by omega) (by omega))
  have gbl : gb < w.heap.size := rd_cell_lt (hb 0 0 (by omega) (by omega))
  have S0 := Lib.hid (m3_start w (.int .i64 r) (.int .i64 n) (.slice (some ⟨ga, oa, none⟩) an acap) (.int .i64 n) (.int .i64 c) (.slice (some ⟨gb, ob, none⟩) bn bcap))
  have HX := Lib.hid hma
  have HX2 := Lib.hid hmb
  have HN := Lib.hid hN
  have HAN := Lib.hid han
  have HBN := Lib.hid hbn
  have HA := Lib.hid ha
  have HB := Lib.hid hb
  clear hma hmb hN han hbn ha hb
  go_enter Try.func29, Try.ntmps29
  go_wp2_with (first
    | (go_at_call 23; have h9 := S0.out; clear S0; refine (rright_gen r n an _ acap _ (by unfold maxLen; omega)).mono ?_; rintro e w1 ⟨rfl, hb⟩; rw [HX.out]; have hm := h9.after hb; obtain ⟨x0, x1, x2⟩ := box3 hm.two; have S1 := Lib.hid hm; clear h9 hb hm)
    | (go_at_call 23; have h9 := S1.out; clear S1; refine (rright_gen n c bn _ bcap _ (by unfold maxLen; omega)).mono ?_; rintro e w1 ⟨rfl, hb⟩; rw [HX2.out]; have hm := h9.after hb; obtain ⟨u0, u1, u2⟩ := box3 hm.one; obtain ⟨t0, t1, t2⟩ := box3 hm.two; have S2 := Lib.hid hm; clear h9 hb hm)
    | (go_at_call 46; have h9 := S2.out; clear S2; refine (nought_any r c _ (by omega) (by omega)).mono ?_; rintro e w3 ⟨g, rfl, hg, hrow, hb⟩; unfold mval; rw [← HN.out] at hrow ⊢; have hg2 : w.heap.size ≤ g := Nat.le_trans h9.bel.size hg; have hm := h9.after hb; have hz := hm.bel.size; have S3 := Lib.hid (And.intro hm hrow); clear h9 hb hm hg hrow))
  have S4 : Hid (MulS w w.heap.size (w.heap.size + 1) (w.heap.size + 1 + 1) w3.heap.size g ga oa gb ob r n c N A B [.int .i64 r, .int .i64 n, .slice (some ⟨ga, oa, none⟩) an acap] [.int .i64 n, .int .i64 c, .slice (some ⟨gb, ob, none⟩) bn bcap] [.int .i64 r, .int .i64 c, .slice (some ⟨g, 0, none⟩) N N] (upF c (mmul n A B) (0 * c)) (w3.alloc (.cells #[.int .i64 r, .int .i64 c, .slice (some ⟨g, 0, none⟩) N N] 24))) := by
    obtain ⟨hm, hrow⟩ := S3.out
    have hbl : Below w3.heap.size w3 (w3.alloc (.cells #[.int .i64 r, .int .i64 c, .slice (some ⟨g, 0, none⟩) N N] 24)) := (Below.refl _ _).alloc (Nat.le_refl _) _
    refine Lib.hid ⟨hm.after hbl, Row.new _ _ _, ?_, fun i j hi hj => ?_, fun i j hi hj => ?_⟩
    · rw [List.append_nil, Nat.zero_mul, ← upF_zero]; exact hrow.row.after hbl
    · exact ((hm.after hbl).bel.cell (p := ⟨ga, oa + i * n + j, none⟩) gal).trans (HA.out i j hi hj)
    · exact ((hm.after hbl).bel.cell (p := ⟨gb, ob + i * c + j, none⟩) gbl).trans (HB.out i j hi hj)
  clear S3 HA HB
  go_loopw [9] (fun i wr => ∃ k : Nat, k ≤ r ∧ i = .int .i64 k ∧ MulS w w.heap.size (w.heap.size + 1) (w.heap.size + 1 + 1) w3.heap.size g ga oa gb ob r n c N A B [.int .i64 r, .int .i64 n, .slice (some ⟨ga, oa, none⟩) an acap] [.int .i64 n, .int .i64 c, .slice (some ⟨gb, ob, none⟩) bn bcap] [.int .i64 r, .int .i64 c, .slice (some ⟨g, 0, none⟩) N N] (upF c (mmul n A B) (k * c)) wr) (fun i _ => r - (intOf i).toNat)
  case atStart => exact ⟨0, by omega, rfl, S4.out⟩
  case round =>
    clear S4
    obtain ⟨k, hk, rfl, hs⟩ := hrel
    by_cases hlt : k < r
    · obtain ⟨u0, u1, u2⟩ := box3 hs.m3.one
      obtain ⟨qa, hqa⟩ : ∃ q, q = k * n := ⟨_, rfl⟩
      have ba := mul_row hlt HAN.out hqa
      have ea : (k : Int) * (n : Int) = (qa : Int) := by rw [hqa]; simp
      obtain ⟨qc, hqc⟩ : ∃ q, q = k * c := ⟨_, rfl⟩
      have bc := mul_row hlt HN.out hqc
      have ec : (k : Int) * (c : Int) = (qc : Int) := by rw [hqc]; simp
      have HQA := Lib.hid hqa
      have HQC := Lib.hid hqc
      have S5 := Lib.hid hs
      clear hs hqa hqc
      go_wp2
      obtain ⟨wo, rfl⟩ : ∃ wo : World, wo = wr := ⟨_, rfl⟩
      go_loopw [10] (fun i wr => ∃ l : Nat, l ≤ c ∧ i = .int .i64 l ∧ MulS w w.heap.size (w.heap.size + 1) (w.heap.size + 1 + 1) w3.heap.size g ga oa gb ob r n c N A B [.int .i64 r, .int .i64 n, .slice (some ⟨ga, oa, none⟩) an acap] [.int .i64 n, .int .i64 c, .slice (some ⟨gb, ob, none⟩) bn bcap] [.int .i64 r, .int .i64 c, .slice (some ⟨g, 0, none⟩) N N] (upF c (mmul n A B) (k * c + l)) wr) (fun i _ => c - (intOf i).toNat)
      case atStart => exact ⟨0, by omega, rfl, S5.out⟩
      case round =>
        clear S5 u0 u1 u2
        obtain ⟨l, hl, rfl, hs⟩ := hrel
        obtain ⟨u0, u1, u2⟩ := box3 hs.m3.two
        by_cases hlt2 : l < c
        · have S6 := Lib.hid hs
          clear hs
          go_wp2
          obtain ⟨wp, rfl⟩ : ∃ wo : World, wo = wr := ⟨_, rfl⟩
          go_loopw [11, 12] (fun xx i wr => ∃ t : Nat, t ≤ n ∧ i = .int .i64 t ∧ xx = .int .u8 (nv (sm t (fun t => gm (A k t) (B t l)))) ∧ MulS w w.heap.size (w.heap.size + 1) (w.heap.size + 1 + 1) w3.heap.size g ga oa gb ob r n c N A B [.int .i64 r, .int .i64 n, .slice (some ⟨ga, oa, none⟩) an acap] [.int .i64 n, .int .i64 c, .slice (some ⟨gb, ob, none⟩) bn bcap] [.int .i64 r, .int .i64 c, .slice (some ⟨g, 0, none⟩) N N] (upF c (mmul n A B) (k * c + l)) wr) (fun _ i _ => n - (intOf i).toNat)
          case atStart => exact ⟨0, by omega, rfl, by rw [sm, nv_zero], S6.out⟩
          case round =>
            clear S6 u0 u1 u2
            obtain ⟨t, ht, rfl, rfl, hs⟩ := hrel
            obtain ⟨u0, u1, u2⟩ := box3 hs.m3.one
            obtain ⟨v0, v1, v2⟩ := box3 hs.m3.two
            by_cases hlt3 : t < n
            · obtain ⟨qb, hqb⟩ : ∃ q, q = t * c := ⟨_, rfl⟩
              have bb := mul_row hlt3 HBN.out hqb
              have eb : (t : Int) * (c : Int) = (qb : Int) := by rw [hqb]; simp
              have ca := hs.one k t hlt hlt3
              rw [Nat.add_assoc, ← HQA.out] at ca
              have cb := hs.two t l hlt3 hlt2
              rw [Nat.add_assoc, ← hqb] at cb
              obtain ⟨X, hX⟩ : ∃ X, X = sm t (fun t => gm (A k t) (B t l)) := ⟨_, rfl⟩
              rw [← hX]
              have S7 := Lib.hid (fun nq => hs.after (w' := wr.drewN nq) ⟨rfl, rfl, rfl, Nat.le_refl _, fun _ _ => rfl⟩)
              have HX9 := Lib.hid hX
              have d1 : qa + t < an := by omega
              have d2 : qb + l < bn := by omega
              clear hs hX hqb
              go_wp2_with fail
              have wbqa : 0 ≤ (qa : Int) + (t : Int) := by omega
              have wtqa : ((qa : Int) + (t : Int)).toNat = qa + t := by omega
              have wbqb : 0 ≤ (qb : Int) + (l : Int) := by omega
              have wtqb : ((qb : Int) + (l : Int)).toNat = qb + l := by omega
              have waqa := IntWalk.i64_in (qa : Int) (by omega)
              have wsqa := IntWalk.i64_in ((qa : Int) + (t : Int)) (by omega)
              have waqb := IntWalk.i64_in (qb : Int) (by omega)
              have wsqb := IntWalk.i64_in ((qb : Int) + (l : Int)) (by omega)
              have wc1 : (qa : Int) + (t : Int) < (an : Int) := by omega
              have wc2 : (qb : Int) + (l : Int) < (bn : Int) := by omega
              go_quiet (first
                | (go_at_call 49; refine Calls.quiet_of_same (still_of (rmul_any _ _ (nv_lo _) (nv_hi _) (nv_lo _) (nv_hi _) _))))
              clear wbqa wtqa waqa wsqa wbqb wtqb waqb wsqb wc1 wc2
              rw [bv_nv, bv_nv, u8_xor_nv]
              go_wp2
              go_roundw
              case measure => simp [intOf]; omega
              case rel => exact ⟨t + 1, by omega, by go_num, by rw [HX9.out]; rfl, S7.out _⟩
            · obtain rfl : t = n := by omega
              obtain ⟨x0, x1, x2⟩ := box3 hs.box
              have d1 : qc + l < N := by omega
              have fc := tab_free (i := qc + l) hs.row d1
              have cc := tab_cell (i := qc + l) hs.row d1
              have hs2 := hs.add (tab_store hs.row d1 (sm t (fun t => gm (A k t) (B t l)))) ((Fr.refl _ _).setCell (Or.inl (by simp)) _) hg2 gal gbl
              have S7 := Lib.hid hs2
              clear hs hs2
              go_wp2
              go_roundw
              case measure => simp [intOf]; omega
              case rel =>
                refine ⟨l + 1, by omega, by go_num, ?_⟩
                have h9 := S7.out
                have e9 := upF_succ c (mmul t A B) k l hlt2
                rw [← HQC.out] at e9 h9
                have e8 : mmul t A B k l = sm t (fun t => gm (A k t) (B t l)) := rfl
                rw [← e8, e9] at h9
                rw [← HQC.out]
                exact h9
        · obtain rfl : l = c := by omega
          have S7 := Lib.hid hs
          clear hs
          go_wp2
          go_roundw
          case measure => simp [intOf]; omega
          case rel => exact ⟨k + 1, by omega, by go_num, by rw [Nat.add_mul, Nat.one_mul]; exact S7.out⟩
    · obtain rfl : k = r := by omega
      obtain ⟨u0, u1, u2⟩ := box3 hs.m3.one
      obtain ⟨x0, x1, x2⟩ := box3 hs.box
      obtain ⟨t0, t1, t2⟩ := box3 hs.m3.res
      obtain ⟨f0, f1, f2⟩ := box3f hs.m3.res
      have S5 := Lib.hid hs
      clear hs
      go_wp2
      have hy := set3_row (a := .int .i64 k) (b := .int .i64 c) (c := .slice (some ⟨g, 0, none⟩) N N) S5.out.m3.res
      obtain ⟨y0, y1, y2⟩ := box3 hy
      exact bodyPost_ret (v := .tuple #[.agg #[.int .i64 k, .int .i64 c, .slice (some ⟨g, 0, none⟩) N N], .int .i64 0]) (by simp [results, Try.results29, go_sem, y0, y1, y2]) rfl ⟨g, rfl, hg2, by
        have h9 := S5.out.row
        rw [HN.out, upF_full, List.append_nil] at h9
        exact set3_other h9 (fun e => by have := S5.out.m3.res.ne S5.out.row (by decide); omega), set3_below S5.out.m3.bel (by omega)⟩
set_option maxRecDepth 100000 in
set_option maxHeartbeats 1600000 in
theorem rrank_bad (r c : Int) (n cap : Nat) (a : Option Addr) (w : World) (hl : n ≤ maxLen) (h : rightB r c n = false) :
    Calls Try.prog 31 #[.agg #[.int .i64 r, .int .i64 c, .slice a n cap]] w fun e w' => e = .returned (.tuple #[.int .i64 0, .int .i64 1]) ∧ Below w.heap.size w w' := by
  have S0 := Lib.hid (((Below.refl w.heap.size w).alloc (Nat.le_refl _) (.cells #[.int .i64 r, .int .i64 c, .slice a n cap] 24)))
  have HX := Lib.hid h
  clear h
  go_enter Try.func31, Try.ntmps31
  go_wp2_with (go_at_call 23; have h9 := S0.out; clear S0; refine (rright_gen r c n a cap _ hl).mono ?_; rintro e w1 ⟨rfl, hb⟩; rw [HX.out]; have S1 := Lib.hid (h9.trans (hb.mono (by simp))); clear h9 hb)
  go_ret2
  exact ⟨rfl, S1.out⟩
set_option maxRecDepth 100000 in
set_option maxHeartbeats 1600000 in
theorem rrank_ok (r c ga oa n cap : Nat) (A : Nat → Nat → BitVec 8) (w : World) (r1 : 1 ≤ r) (r2 : r ≤ 255) (c1 : 1 ≤ c) (c2 : c ≤ 255) (hn : n = r * c) (ha : MatRd w ga oa r c A) :
    Calls Try.prog 31 #[.agg #[.int .i64 r, .int .i64 c, .slice (some ⟨ga, oa, none⟩) n cap]] w fun e w' => ∃ k M' j p, e = .returned (.tuple #[.int .i64 (k : Nat), .int .i64 0]) ∧ Good r M' j k p ∧ j ≤ c ∧ (j = c ∨ k = r) ∧ (∀ x, Ker r c M' x ↔ Ker r c A x) ∧ Below w.heap.size w w' := by
  have hb0 := Row.new w 24 [.int .i64 r, .int .i64 c, .slice (some ⟨ga, oa, none⟩) n cap]
  have hbl : Below w.heap.size w (w.alloc (.cells #[.int .i64 r, .int .i64 c, .slice (some ⟨ga, oa, none⟩) n cap] 24)) := (Below.refl _ _).alloc (Nat.le_refl _) _
  have q1 : n ≤ 255 * 255 := by rw [hn]; exact Nat.mul_le_mul r2 c2
  have HX := Lib.hid (rightB_ok r1 r2 c1 c2 hn)
  have S0 := Lib.hid (And.intro hb0 (And.intro hbl (ha.after hbl)))
  have HN := Lib.hid hn
  clear hb0 hbl ha hn
  go_enter Try.func31, Try.ntmps31
  go_wp2_with (first
    | (go_at_call 23; have h9 := S0.out; clear S0; refine (rright_gen r c n _ cap _ (by unfold maxLen; omega)).mono ?_; rintro e w1 ⟨rfl, hb⟩; rw [HX.out]; have hB := h9.1.after hb; obtain ⟨x0, x1, x2⟩ := box3 hB; have S1 := Lib.hid (And.intro hB (And.intro (h9.2.1.trans (hb.mono (by simp))) (h9.2.2.after hb))); clear h9 hb hB)
    | (go_at_call 50; have h9 := S1.out; clear S1; refine (down_any r c c ga oa cap n A _ r1 r2 c1 (by omega) HN.out (Nat.le_refl _) h9.2.2).mono ?_; rintro e w2 ⟨g, cap2, sp, k, M', j, p, rfl, hg, hcap2, hrow, hb, hgood, hj, hend, hker⟩; have S2 := Lib.hid (And.intro hgood (And.intro hj (And.intro hend (And.intro hker (h9.2.1.trans (hb.mono h9.2.1.size)))))); clear h9 hb hgood hj hend hker hrow))
  go_ret2
  exact ⟨k, M', j, p, rfl, S2.out.1, S2.out.2.1, S2.out.2.2.1, S2.out.2.2.2.1, S2.out.2.2.2.2.alloc (by have := S2.out.2.2.2.2.size; omega) _⟩
end Go.Proofs.Ytbnfnijjldimkaa