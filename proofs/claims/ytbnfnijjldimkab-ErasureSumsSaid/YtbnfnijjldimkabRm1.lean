/-
  The walks of the document's small functions of matrices: Same, Right, nought, Identity, Cauchy.
-/
import Derived.Test.YtbnfnijjldimkabMapply
import Derived.Deep.QuietTactic
import Derived.BigQuiet
namespace Go.Proofs.Ytbnfnijjldimkab
open Go.RowKit
set_option linter.unusedVariables false
set_option linter.unusedSimpArgs false
set_option maxHeartbeats 400000 in
theorem nought_any (r c : Nat) (w : World) (h1 : r ≤ 510) (h2 : c ≤ 510) :
    Calls Try.prog 61 #[.int .i64 r, .int .i64 c] w fun e w' => ∃ g, e = .returned (mval r c g) ∧ w.heap.size ≤ g ∧ Row0 w' g 5 (ncells (tab (r * c) fun _ => 0#8)) ∧ Below w.heap.size w w' := by
  obtain ⟨i0, hi, hz0, hz1, hz2⟩ := info_parts u8parts
  have h3 : r * c ≤ 510 * 510 := Nat.mul_le_mul h1 h2
  obtain ⟨q, hq⟩ : ∃ q : Nat, q = r * c := ⟨_, rfl⟩
  have e1 : (r : Int) * (c : Int) = (q : Int) := by rw [hq]; simp
  unfold mval
  rw [← hq] at h3 ⊢
  have hmk := fun W => run_make_bytes (P := Try.prog) 56 5 i0 Try.underlying56 hi hz0 hz1 hz2 q (by omega) W
  rw [← ncells_zero, ← tab_zero] at hmk
  obtain ⟨Z, hZ⟩ : ∃ Z, Z = ncells (tab q fun _ => 0#8) := ⟨_, rfl⟩
  rw [← hZ] at hmk ⊢
  clear hi hz0 hz1 hz2 hq hZ
  go_enter Try.func61, Try.ntmps61
  go_wp2
  exact bodyPost_ret (v := .agg #[.int .i64 r, .int .i64 c, .slice (some ⟨w.heap.size + 1, 0, none⟩) q q]) (by simp [results, Try.results61, go_sem]) rfl ⟨_, rfl, by omega, by have h := Row0.new (w.alloc (.cells #[.int .i64 r, .int .i64 c, .slice (some ⟨w.heap.size + 1, 0, none⟩) q q] 71)) 5 Z; rw [show (w.alloc (.cells #[.int .i64 r, .int .i64 c, .slice (some ⟨w.heap.size + 1, 0, none⟩) q q] 71)).heap.size = w.heap.size + 1 from by simp] at h; exact h, ((Below.refl _ _).alloc (Nat.le_refl _) _).alloc (by simp) _⟩
set_option maxRecDepth 100000 in
set_option maxHeartbeats 1600000 in
theorem rright_gen (r c : Int) (n : Nat) (a : Option Addr) (cap : Nat) (w : World) (hl : n ≤ maxLen) :
    Calls Try.prog 57 #[.agg #[.int .i64 r, .int .i64 c, .slice a n cap]] w fun e w' => e = .returned (.bool (rightB r c n)) ∧ Below w.heap.size w w' := by
  unfold maxLen at hl
  by_cases h1 : 1 ≤ r
  · by_cases h2 : r ≤ 255
    · by_cases h3 : 1 ≤ c
      · by_cases h4 : c ≤ 255
        · have p0 : 0 ≤ r * c := Int.mul_nonneg (by omega) (by omega)
          have p1 : r * c ≤ 65025 := Int.le_trans (Int.mul_le_mul h2 h4 (by omega) (by omega)) (by omega)
          go_enter Try.func57, Try.ntmps57
          go_wp2
          go_ret
          refine ⟨?_, (Below.refl _ _).alloc (Nat.le_refl _) _⟩
          congr 2
          unfold rightB
          simp only [h1, h2, h3, h4, true_and]
          rfl
        · go_enter Try.func57, Try.ntmps57
          go_wp2
          go_ret
          exact ⟨by unfold rightB; rw [decide_eq_false (by omega)]; rfl, (Below.refl _ _).alloc (Nat.le_refl _) _⟩
      · go_enter Try.func57, Try.ntmps57
        go_wp2
        go_ret
        exact ⟨by unfold rightB; rw [decide_eq_false (by omega)]; rfl, (Below.refl _ _).alloc (Nat.le_refl _) _⟩
    · go_enter Try.func57, Try.ntmps57
      go_wp2
      go_ret
      exact ⟨by unfold rightB; rw [decide_eq_false (by omega)]; rfl, (Below.refl _ _).alloc (Nat.le_refl _) _⟩
  · go_enter Try.func57, Try.ntmps57
    go_wp2
    go_ret
    exact ⟨by unfold rightB; rw [decide_eq_false (by omega)]; rfl, (Below.refl _ _).alloc (Nat.le_refl _) _⟩
set_option maxRecDepth 100000 in
set_option maxHeartbeats 800000 in
theorem ridentity_bad (n : Int) (w : World) (h : n < 1 ∨ 255 < n) :
    Calls Try.prog 58 #[.int .i64 n] w fun e w' => e = .returned (.tuple #[nilMat, .int .i64 1]) ∧ Below w.heap.size w w' := by
  have hx : (n < 1) ∨ (¬ n < 1 ∧ 255 < n) := by omega
  clear h
  have HB := Lib.hid (Row.new w 71 [.int .i64 0, .int .i64 0, .slice none 0 0])
  rcases hx with hx | ⟨hx, hx2⟩
  all_goals
    go_enter Try.func58, Try.ntmps58
    go_wp2
    exact bodyPost_ret (v := .tuple #[.agg #[.int .i64 0, .int .i64 0, .slice none 0 0], .int .i64 1]) (by simp [results, Try.results58, go_sem]) rfl ⟨rfl, (Below.refl _ _).alloc (Nat.le_refl _) _⟩
set_option maxRecDepth 100000 in
set_option maxHeartbeats 800000 in
theorem ridentity_ok (n : Nat) (w : World) (n1 : 1 ≤ n) (n2 : n ≤ 255) :
    Calls Try.prog 58 #[.int .i64 n] w fun e w' => ∃ g, e = .returned (.tuple #[mval n n g, .int .i64 0]) ∧ w.heap.size ≤ g ∧ Row0 w' g 5 (ncells (mat n n idm).cells) ∧ Below w.heap.size w w' := by
  have HB := Lib.hid (Row.new w 71 [.int .i64 0, .int .i64 0, .slice none 0 0])
  have i1 : (1 : Int) ≤ n := by omega
  have i2 : (n : Int) ≤ 255 := by omega
  obtain ⟨N, hN⟩ : ∃ N, N = n * n := ⟨_, rfl⟩
  have hq : N ≤ 255 * 255 := by rw [hN]; exact Nat.mul_le_mul n2 n2
  unfold mval
  rw [← hN]
  have HN := Lib.hid hN
  clear hN
  go_enter Try.func58, Try.ntmps58
  go_wp2_with (go_at_call 61; refine (nought_any n n _ (by omega) (by omega)).mono ?_; rintro e w1 ⟨g, rfl, hg, hrow, hb⟩; unfold mval; rw [← HN.out] at hrow ⊢; have HB1 := Lib.hid (HB.out.after hb); have HROW := Lib.hid hrow; have HBL := Lib.hid (((Below.refl w.heap.size w).alloc (Nat.le_refl _) (.cells #[.int .i64 0, .int .i64 0, .slice none 0 0] 71)).trans (hb.mono (by simp))); clear hrow hb HB)
  have HBX := Lib.hid (Row.new w1 71 [.int .i64 n, .int .i64 n, .slice (some ⟨g, 0, none⟩) N N])
  have hgw : w.heap.size < g := by simp at hg; omega
  have hgl := HROW.out.row.lt
  have hw1 : w.heap.size < w1.heap.size := HB1.out.lt
  clear hg
  go_loopw [5] (fun i wr => ∃ k : Nat, k ≤ n ∧ i = .int .i64 k ∧ Row0 wr g 5 (ncells (tab N (idF n k))) ∧ Row wr w1.heap.size 71 [.int .i64 n, .int .i64 n, .slice (some ⟨g, 0, none⟩) N N] ∧ Row wr w.heap.size 71 [.int .i64 0, .int .i64 0, .slice none 0 0] ∧ Below w.heap.size w wr ∧ w1.heap.size < wr.heap.size) (fun i _ => n - (intOf i).toNat)
  case atStart => exact ⟨0, by omega, rfl, by rw [← idF_zero]; exact HROW.out.fr ((Fr.refl [] _).alloc _) (by simp), HBX.out, HB1.out.alloc _, HBL.out.alloc (by omega) _, by simp⟩
  case round =>
    obtain ⟨k, hk, rfl, hrow, hbx, hrc, hbel, hsz⟩ := hrel
    obtain ⟨x0, x1, x2⟩ := box3 hbx
    clear HROW HBX HB1 HBL
    by_cases hlt : k < n
    · obtain ⟨q, hqe⟩ : ∃ q, q = k * n := ⟨_, rfl⟩
      have hqn : q + n ≤ N := by rw [hqe, HN.out]; have := Nat.mul_le_mul_right n (show k + 1 ≤ n by omega); rw [Nat.add_mul] at this; omega
      have eq1 : (k : Int) * (n : Int) = (q : Int) := by rw [hqe]; simp
      have c0 := tab0_cell (i := q + k) hrow (by omega)
      have f0 := tab0_free (i := q + k) hrow (by omega)
      have HR := Lib.hid hrow
      have HX := Lib.hid hbx
      have HC := Lib.hid hrc
      have HL := Lib.hid hbel
      have HQ := Lib.hid hqe
      clear hrow hbx hrc hbel hqe
      go_wp2
      go_roundw
      case measure => simp [intOf]; omega
      case rel =>
        refine ⟨k + 1, by omega, by go_num, ?_, HX.out.other (by show w1.heap.size ≠ g; omega) _, HC.out.other (by show w.heap.size ≠ g; omega) _, HL.out.setCell (by show w.heap.size ≤ g; omega) _, by simp; omega⟩
        have hm := tab0_store (i := q + k) HR.out 1#8
        rw [HQ.out, idF_succ n k hlt, nv_one] at hm
        rw [HQ.out]
        exact hm
    · obtain rfl : k = n := by omega
      obtain ⟨t0, t1, t2⟩ := box3 hrc
      obtain ⟨f0, f1, f2⟩ := box3f hrc
      have HR := Lib.hid hrow
      have HC := Lib.hid hrc
      have HL := Lib.hid hbel
      clear hrow hbx hrc hbel
      go_wp2
      have hy := set3_row (a := .int .i64 k) (b := .int .i64 k) (c := .slice (some ⟨g, 0, none⟩) N N) HC.out
      obtain ⟨y0, y1, y2⟩ := box3 hy
      exact bodyPost_ret (v := .tuple #[.agg #[.int .i64 k, .int .i64 k, .slice (some ⟨g, 0, none⟩) N N], .int .i64 0]) (by simp [results, Try.results58, go_sem, y0, y1, y2]) rfl ⟨g, rfl, by omega, by
        have h9 := HR.out
        rw [HN.out, idF_full] at h9
        exact h9.fr ((((Fr.refl [w.heap.size] wr).setCell (Or.inl (by simp)) _).setCell (Or.inl (by simp)) _).setCell (Or.inl (by simp)) _) (by simp; omega), set3_below HL.out (Nat.le_refl _)⟩
set_option maxRecDepth 100000 in
set_option maxHeartbeats 800000 in
theorem rcauchy_bad (r c : Int) (w : World) (h : r < 1 ∨ 255 < r ∨ c < 1 ∨ 255 < c ∨ 256 < r + c) :
    Calls Try.prog 59 #[.int .i64 r, .int .i64 c] w fun e w' => e = .returned (.tuple #[nilMat, .int .i64 1]) ∧ Below w.heap.size w w' := by
  have hx : (r < 1) ∨ (¬ r < 1 ∧ 255 < r) ∨ (¬ r < 1 ∧ ¬ 255 < r ∧ c < 1) ∨ (¬ r < 1 ∧ ¬ 255 < r ∧ ¬ c < 1 ∧ 255 < c) ∨ (¬ r < 1 ∧ ¬ 255 < r ∧ ¬ c < 1 ∧ ¬ 255 < c ∧ 256 < r + c) := by omega
  clear h
  rcases hx with h1 | ⟨h1, h2⟩ | ⟨h1, h2, h3⟩ | ⟨h1, h2, h3, h4⟩ | ⟨h1, h2, h3, h4, h5⟩
  all_goals
    go_enter Try.func59, Try.ntmps59
    go_wp2
    exact bodyPost_ret (v := .tuple #[.agg #[.int .i64 0, .int .i64 0, .slice none 0 0], .int .i64 1]) (by simp [results, Try.results59, go_sem]) rfl ⟨rfl, (Below.refl _ _).alloc (Nat.le_refl _) _⟩
set_option maxRecDepth 100000 in
set_option maxHeartbeats 1600000 in
theorem rcauchy_ok (r c : Nat) (w : World) (r1 : 1 ≤ r) (r2 : r ≤ 255) (c1 : 1 ≤ c) (c2 : c ≤ 255) (hrc : r + c ≤ 256) :
    Calls Try.prog 59 #[.int .i64 r, .int .i64 c] w fun e w' => ∃ g, e = .returned (.tuple #[mval r c g, .int .i64 0]) ∧ w.heap.size ≤ g ∧ Row0 w' g 5 (ncells (mat r c (cau c)).cells) ∧ Below w.heap.size w w' := by
  have HB := Lib.hid (Row.new w 71 [.int .i64 0, .int .i64 0, .slice none 0 0])
  have i1 : (1 : Int) ≤ r := by omega
  have i2 : (r : Int) ≤ 255 := by omega
  have i3 : (1 : Int) ≤ c := by omega
  have i4 : (c : Int) ≤ 255 := by omega
  have i5 : (r : Int) + (c : Int) ≤ 256 := by omega
  have hq : r * c ≤ 255 * 255 := Nat.mul_le_mul r2 c2
  obtain ⟨N, hN⟩ : ∃ N, N = r * c := ⟨_, rfl⟩
  unfold mval
  rw [← hN] at hq ⊢
  have HN := Lib.hid hN
  clear hN
  go_enter Try.func59, Try.ntmps59
  go_wp2_with (go_at_call 61; refine (nought_any r c _ (by omega) (by omega)).mono ?_; rintro e w1 ⟨g, rfl, hg, hrow, hb⟩; unfold mval; rw [← HN.out] at hrow ⊢; have HB1 := Lib.hid (HB.out.after hb); have HROW := Lib.hid hrow; have HBL := Lib.hid (((Below.refl w.heap.size w).alloc (Nat.le_refl _) (.cells #[.int .i64 0, .int .i64 0, .slice none 0 0] 71)).trans (hb.mono (by simp))); clear hrow hb HB)
  have HBX := Lib.hid (Row.new w1 71 [.int .i64 r, .int .i64 c, .slice (some ⟨g, 0, none⟩) N N])
  have hgw : w.heap.size < g := by simp at hg; omega
  have hgl := HROW.out.row.lt
  have hw1 : w.heap.size < w1.heap.size := HB1.out.lt
  clear hg
  go_loopw [7] (fun i wr => ∃ k : Nat, k ≤ r ∧ i = .int .i64 k ∧ Row0 wr g 5 (ncells (tab N (upF c (cau c) (k * c)))) ∧ Row wr w1.heap.size 71 [.int .i64 r, .int .i64 c, .slice (some ⟨g, 0, none⟩) N N] ∧ Row wr w.heap.size 71 [.int .i64 0, .int .i64 0, .slice none 0 0] ∧ Below w.heap.size w wr ∧ w1.heap.size < wr.heap.size) (fun i _ => r - (intOf i).toNat)
  case atStart => exact ⟨0, by omega, rfl, by rw [Nat.zero_mul, ← upF_zero]; exact HROW.out.fr ((Fr.refl [] _).alloc _) (by simp), HBX.out, HB1.out.alloc _, HBL.out.alloc (by omega) _, by simp⟩
  case round =>
    obtain ⟨k, hk, rfl, hrow, hbx, hrc', hbel, hsz⟩ := hrel
    have HR := Lib.hid hrow
    have HX := Lib.hid hbx
    have HC := Lib.hid hrc'
    have HL := Lib.hid hbel
    clear hrow hbx hrc' hbel HROW HBX HB1 HBL
    by_cases hlt : k < r
    · go_wp2
      obtain ⟨wo, rfl⟩ : ∃ wo : World, wo = wr := ⟨_, rfl⟩
      go_loopw [8] (fun i wr => ∃ l : Nat, l ≤ c ∧ i = .int .i64 l ∧ Row0 wr g 5 (ncells (tab N (upF c (cau c) (k * c + l)))) ∧ Row wr w1.heap.size 71 [.int .i64 r, .int .i64 c, .slice (some ⟨g, 0, none⟩) N N] ∧ Row wr w.heap.size 71 [.int .i64 0, .int .i64 0, .slice none 0 0] ∧ Below w.heap.size w wr ∧ w1.heap.size < wr.heap.size) (fun i _ => c - (intOf i).toNat)
      case atStart => exact ⟨0, by omega, rfl, HR.out, HX.out, HC.out, HL.out, hsz⟩
      case round =>
        clear HR HX HC HL
        obtain ⟨l, hl, rfl, hrow, hbx, hrc', hbel, hsz⟩ := hrel
        by_cases hlt2 : l < c
        · obtain ⟨x0, x1, x2⟩ := box3 hbx
          obtain ⟨q, hqe⟩ : ∃ q, q = k * c := ⟨_, rfl⟩
          have hqn : q + c ≤ N := by rw [hqe, HN.out]; have := Nat.mul_le_mul_right c (show k + 1 ≤ r by omega); rw [Nat.add_mul] at this; omega
          have eq1 : (k : Int) * (c : Int) = (q : Int) := by rw [hqe]; simp
          have c0 := tab0_cell (i := q + l) hrow (by omega)
          have f0 := tab0_free (i := q + l) hrow (by omega)
          have HQ := Lib.hid hqe
          have hca := cau_arg c k l (by omega) (by omega)
          obtain ⟨X, hX⟩ : ∃ X, X = BitVec.ofNat 8 (c + k) ^^^ BitVec.ofNat 8 l := ⟨_, rfl⟩
          rw [← hX] at hca
          have HXX := Lib.hid hX
          have HR := Lib.hid hrow
          have HX := Lib.hid hbx
          have HC := Lib.hid hrc'
          have HL := Lib.hid hbel
          clear hrow hbx hrc' hbel hqe hX
          go_wp2_with (go_at_call 73; refine (rinv_any (nv X) (nv_lo _) (nv_hi _) _).mono ?_; rw [bv_nv]; rintro e w3 ⟨rfl, rfl⟩)
          go_roundw
          case measure => simp [intOf]; omega
          case rel =>
            refine ⟨l + 1, by omega, by go_num, ?_, HX.out.other (by show w1.heap.size ≠ g; omega) _, HC.out.other (by show w.heap.size ≠ g; omega) _, HL.out.setCell (by show w.heap.size ≤ g; omega) _, by simp; omega⟩
            have hm := tab0_store (i := q + l) HR.out (cau c k l)
            rw [HQ.out, upF_succ c _ k l hlt2, ← cau_val, ← HXX.out] at hm
            rw [HQ.out]
            exact hm
        · obtain rfl : l = c := by omega
          have HR := Lib.hid hrow
          have HX := Lib.hid hbx
          have HC := Lib.hid hrc'
          have HL := Lib.hid hbel
          clear hrow hbx hrc' hbel
          go_wp2
          go_roundw
          case measure => simp [intOf]; omega
          case rel => exact ⟨k + 1, by omega, by go_num, by rw [Nat.add_mul, Nat.one_mul]; exact HR.out, HX.out, HC.out, HL.out, hsz⟩
    · obtain rfl : k = r := by omega
      obtain ⟨x0, x1, x2⟩ := box3 HX.out
      obtain ⟨t0, t1, t2⟩ := box3 HC.out
      obtain ⟨f0, f1, f2⟩ := box3f HC.out
      go_wp2
      have hy := set3_row (a := .int .i64 k) (b := .int .i64 c) (c := .slice (some ⟨g, 0, none⟩) N N) HC.out
      obtain ⟨y0, y1, y2⟩ := box3 hy
      exact bodyPost_ret (v := .tuple #[.agg #[.int .i64 k, .int .i64 c, .slice (some ⟨g, 0, none⟩) N N], .int .i64 0]) (by simp [results, Try.results59, go_sem, y0, y1, y2]) rfl ⟨g, rfl, by omega, by
        have h9 := HR.out
        rw [HN.out, upF_full] at h9
        exact h9.fr ((((Fr.refl [w.heap.size] wr).setCell (Or.inl (by simp)) _).setCell (Or.inl (by simp)) _).setCell (Or.inl (by simp)) _) (by simp; omega), set3_below HL.out (Nat.le_refl _)⟩
end Go.Proofs.Ytbnfnijjldimkab
