/-
  The walk of MatrixMakes: the cases where n is 's'.
-/
import Derived.Test.YtbnfnijjldimkaaMakH
namespace Go.Proofs.Ytbnfnijjldimkaa
open Go.RowKit
set_option linter.unusedVariables false
set_option linter.unusedSimpArgs false
set_option maxRecDepth 100000 in
set_option maxHeartbeats 3200000 in
theorem mk_s_b1 (r c : Int) (n : Nat) (ar ac : Int) (an acap : Nat) (aa : Option Addr) (w : World) (hal : an ≤ maxLen) (hn : (1 : Int) ≤ n) (hn2 : (n : Int) ≤ 40) (h1 : r < 1) :
    Calls Try.prog 6 #[.int .i64 r, .int .i64 c, .int .i64 n, .agg #[.int .i64 ar, .int .i64 ac, .slice aa an acap]] w fun e w' => e = .returned (.bool true) ∧ Below w.heap.size w w' := by
  obtain ⟨q, hq⟩ : ∃ q, q = n * n := ⟨_, rfl⟩
  have q1 : q ≤ 255 * 255 := by rw [hq]; exact Nat.mul_le_mul (by omega) (by omega)
  obtain ⟨m, hm⟩ : ∃ m, m = n + n := ⟨_, rfl⟩
  obtain ⟨t, ht⟩ : ∃ t, t = m * n := ⟨_, rfl⟩
  have t1 : t ≤ 255 * 255 := by rw [ht]; exact Nat.mul_le_mul (by omega) (by omega)
  have e1 : (2 : Int) * (n : Int) = (m : Int) := by omega
  have e2 : (m : Int) * (n : Int) = (t : Int) := by rw [ht]; simp
  have m1 : m ≤ 254 := by omega
  have HM := Lib.hid hm
  have HT := Lib.hid ht
  clear hm ht
  have HQ := Lib.hid hq
  clear hq
  have S0 := Lib.hid ((Bun.start w).box 24 [.int .i64 ar, .int .i64 ac, .slice aa an acap])
  go_enter Try.func6, Try.ntmps6
  go_wp2_with (first
    | (go_at_call 9; have h9 := S0.out; clear S0; refine (known_any _).mono ?_; rintro e w1 ⟨rfl, hb⟩; have S1 := Lib.hid (h9.after hb); clear h9 hb)
    | (go_at_call 19; have h9 := S1.out; clear S1; refine (identity_ok n _ (by omega) (by omega)).mono ?_; rintro e w2 ⟨gi, he, hg, hrow, hb⟩; have he2 : e = .returned (.tuple #[.agg #[.int .i64 n, .int .i64 n, .slice (some ⟨gi, 0, none⟩) q q], .nilIface]) := (by rw [he, HQ.out]; rfl); subst he2; clear he; have S2 := Lib.hid (((h9.after hb).add (fun _ h => (MatRd.of_row0 hrow).after h)).box 24 [.int .i64 n, .int .i64 n, .slice (some ⟨gi, 0, none⟩) q q]); clear h9 hb hrow hg)
    | (go_at_call 22; have h9 := S2.out; clear S2; refine (cauchy_bad r c _ (by omega)).mono ?_; rintro e w3 ⟨ev, he, hE, hb⟩; obtain ⟨b2, rfl, hE⟩ := err_open hE (by decide); have he2 : e = .returned (.tuple #[.agg #[.int .i64 0, .int .i64 0, .slice none 0 0], .iface 68 (.pointer (some ⟨b2, 0, none⟩))]) := he; subst he2; clear he; have hm := (((h9.after hb).add (fun _ h => hE.after h)).box 24 [.int .i64 0, .int .i64 0, .slice none 0 0]).map (fun x h => And.intro h.1.1.1.1.2 (And.intro h.1.1.1.2 (And.intro h.1.1.2 (And.intro h.1.2 h.2)))); obtain ⟨x0, x1, x2⟩ := box3 hm.here.1; have S3 := Lib.hid hm; clear h9 hb hE hm)
    | (go_at_call 23; have h9 := S3.out; clear S3; refine (rright_gen ar ac an aa acap _ hal).mono ?_; rintro e w4 ⟨rfl, hb⟩; have hm := h9.after hb; obtain ⟨y0, y1, y2⟩ := box3 hm.here.2.2.1; obtain ⟨z0, z1, z2⟩ := box3 hm.here.2.2.2.2; have S4 := Lib.hid hm; clear h9 hb hm)
    | (go_at_call 14; have h9 := S4.out; clear S4; refine (is_ok 0 .nilIface 0 _ (ErrAt.ok0 _ _)).mono ?_; rintro e w' ⟨rfl, rfl⟩; have S5 := Lib.hid h9; clear h9)
    | (go_at_call 14; have h9 := S5.out; clear S5; refine (is0_bad b2 _).mono ?_; rintro e w' ⟨rfl, rfl⟩; have S6 := Lib.hid h9; clear h9)
    | (go_at_call 14; have h9 := S6.out; clear S6; refine (is_ok _ _ 1 _ h9.here.2.2.2.1).mono ?_; rintro e w' ⟨rfl, rfl⟩; have S7 := Lib.hid h9; clear h9)
    | (go_at_call 24; have h9 := S7.out; clear S7; refine (ridentity_ok n _ (by omega) (by omega)).mono ?_; rintro e w5 ⟨gj, he, hg, hrow, hb⟩; have he2 : e = .returned (.tuple #[.agg #[.int .i64 n, .int .i64 n, .slice (some ⟨gj, 0, none⟩) q q], .int .i64 0]) := (by rw [he, HQ.out]; rfl); subst he2; clear he; have hm := ((h9.after hb).add (fun _ h => (MatRd.of_row0 hrow).after h)).box 24 [.int .i64 n, .int .i64 n, .slice (some ⟨gj, 0, none⟩) q q]; obtain ⟨y0, y1, y2⟩ := box3 hm.here.1.1.2.2.1; have S8 := Lib.hid hm; clear h9 hb hrow hg hm)
    | (go_at_call 21; have h9 := S8.out; clear S8; refine (same_matn n n q gi gj q q idm idm _ HQ.out (by omega) (by omega) (by omega) h9.here.1.1.2.1 h9.here.1.2 (fun _ _ _ _ => rfl)).mono ?_; rintro e w6 ⟨rfl, hb⟩; have hm := (h9.after hb).map (fun x h => h.1.1); obtain ⟨y0, y1, y2⟩ := box3 hm.here.2.2.1; obtain ⟨z0, z1, z2⟩ := box3 hm.here.2.2.2.2; have S9 := Lib.hid hm; clear h9 hb hm)
    | (go_at_call 26; have h9 := S9.out; clear S9; refine (under_ok n n n gi 0 gi 0 q q q q idm idm _ (by omega) (by omega) (by omega) (by omega) (by omega) HQ.out HQ.out h9.here.2.1 h9.here.2.1).mono ?_; rintro e w9 ⟨gu, he, hg, hrow, hb⟩; have he2 : e = .returned (.tuple #[.agg #[.int .i64 m, .int .i64 n, .slice (some ⟨gu, 0, none⟩) t t], .nilIface]) := (by rw [he, HT.out, HM.out]; rfl); subst he2; clear he; have hm := (h9.after hb).box 24 [.int .i64 m, .int .i64 n, .slice (some ⟨gu, 0, none⟩) t t]; obtain ⟨x0, x1, x2⟩ := box3 hm.here.1.1; have S10 := Lib.hid hm; clear h9 hb hrow hg hm)
    | (go_at_call 14; have h9 := S10.out; clear S10; refine (is_ok 0 .nilIface 0 _ (ErrAt.ok0 _ _)).mono ?_; rintro e w' ⟨rfl, rfl⟩; have S11 := Lib.hid h9; clear h9)
    | (go_at_call 27; have h9 := S11.out; clear S11; refine (right_gen ar ac an aa acap _ hal).mono ?_; rintro e w10 ⟨rfl, hb⟩; have S12 := Lib.hid (h9.after hb); clear h9 hb))
  go_ret
  exact ⟨rfl, S12.out.bel⟩
set_option maxRecDepth 100000 in
set_option maxHeartbeats 3200000 in
theorem mk_s_b2 (r c : Int) (n : Nat) (ar ac : Int) (an acap : Nat) (aa : Option Addr) (w : World) (hal : an ≤ maxLen) (hn : (1 : Int) ≤ n) (hn2 : (n : Int) ≤ 40) (h1 : 255 < r) :
    Calls Try.prog 6 #[.int .i64 r, .int .i64 c, .int .i64 n, .agg #[.int .i64 ar, .int .i64 ac, .slice aa an acap]] w fun e w' => e = .returned (.bool true) ∧ Below w.heap.size w w' := by
  obtain ⟨q, hq⟩ : ∃ q, q = n * n := ⟨_, rfl⟩
  have q1 : q ≤ 255 * 255 := by rw [hq]; exact Nat.mul_le_mul (by omega) (by omega)
  obtain ⟨m, hm⟩ : ∃ m, m = n + n := ⟨_, rfl⟩
  obtain ⟨t, ht⟩ : ∃ t, t = m * n := ⟨_, rfl⟩
  have t1 : t ≤ 255 * 255 := by rw [ht]; exact Nat.mul_le_mul (by omega) (by omega)
  have e1 : (2 : Int) * (n : Int) = (m : Int) := by omega
  have e2 : (m : Int) * (n : Int) = (t : Int) := by rw [ht]; simp
  have m1 : m ≤ 254 := by omega
  have HM := Lib.hid hm
  have HT := Lib.hid ht
  clear hm ht
  have HQ := Lib.hid hq
  clear hq
  have S0 := Lib.hid ((Bun.start w).box 24 [.int .i64 ar, .int .i64 ac, .slice aa an acap])
  go_enter Try.func6, Try.ntmps6
  go_wp2_with (first
    | (go_at_call 9; have h9 := S0.out; clear S0; refine (known_any _).mono ?_; rintro e w1 ⟨rfl, hb⟩; have S1 := Lib.hid (h9.after hb); clear h9 hb)
    | (go_at_call 19; have h9 := S1.out; clear S1; refine (identity_ok n _ (by omega) (by omega)).mono ?_; rintro e w2 ⟨gi, he, hg, hrow, hb⟩; have he2 : e = .returned (.tuple #[.agg #[.int .i64 n, .int .i64 n, .slice (some ⟨gi, 0, none⟩) q q], .nilIface]) := (by rw [he, HQ.out]; rfl); subst he2; clear he; have S2 := Lib.hid (((h9.after hb).add (fun _ h => (MatRd.of_row0 hrow).after h)).box 24 [.int .i64 n, .int .i64 n, .slice (some ⟨gi, 0, none⟩) q q]); clear h9 hb hrow hg)
    | (go_at_call 22; have h9 := S2.out; clear S2; refine (cauchy_bad r c _ (by omega)).mono ?_; rintro e w3 ⟨ev, he, hE, hb⟩; obtain ⟨b2, rfl, hE⟩ := err_open hE (by decide); have he2 : e = .returned (.tuple #[.agg #[.int .i64 0, .int .i64 0, .slice none 0 0], .iface 68 (.pointer (some ⟨b2, 0, none⟩))]) := he; subst he2; clear he; have hm := (((h9.after hb).add (fun _ h => hE.after h)).box 24 [.int .i64 0, .int .i64 0, .slice none 0 0]).map (fun x h => And.intro h.1.1.1.1.2 (And.intro h.1.1.1.2 (And.intro h.1.1.2 (And.intro h.1.2 h.2)))); obtain ⟨x0, x1, x2⟩ := box3 hm.here.1; have S3 := Lib.hid hm; clear h9 hb hE hm)
    | (go_at_call 23; have h9 := S3.out; clear S3; refine (rright_gen ar ac an aa acap _ hal).mono ?_; rintro e w4 ⟨rfl, hb⟩; have hm := h9.after hb; obtain ⟨y0, y1, y2⟩ := box3 hm.here.2.2.1; obtain ⟨z0, z1, z2⟩ := box3 hm.here.2.2.2.2; have S4 := Lib.hid hm; clear h9 hb hm)
    | (go_at_call 14; have h9 := S4.out; clear S4; refine (is_ok 0 .nilIface 0 _ (ErrAt.ok0 _ _)).mono ?_; rintro e w' ⟨rfl, rfl⟩; have S5 := Lib.hid h9; clear h9)
    | (go_at_call 14; have h9 := S5.out; clear S5; refine (is0_bad b2 _).mono ?_; rintro e w' ⟨rfl, rfl⟩; have S6 := Lib.hid h9; clear h9)
    | (go_at_call 14; have h9 := S6.out; clear S6; refine (is_ok _ _ 1 _ h9.here.2.2.2.1).mono ?_; rintro e w' ⟨rfl, rfl⟩; have S7 := Lib.hid h9; clear h9)
    | (go_at_call 24; have h9 := S7.out; clear S7; refine (ridentity_ok n _ (by omega) (by omega)).mono ?_; rintro e w5 ⟨gj, he, hg, hrow, hb⟩; have he2 : e = .returned (.tuple #[.agg #[.int .i64 n, .int .i64 n, .slice (some ⟨gj, 0, none⟩) q q], .int .i64 0]) := (by rw [he, HQ.out]; rfl); subst he2; clear he; have hm := ((h9.after hb).add (fun _ h => (MatRd.of_row0 hrow).after h)).box 24 [.int .i64 n, .int .i64 n, .slice (some ⟨gj, 0, none⟩) q q]; obtain ⟨y0, y1, y2⟩ := box3 hm.here.1.1.2.2.1; have S8 := Lib.hid hm; clear h9 hb hrow hg hm)
    | (go_at_call 21; have h9 := S8.out; clear S8; refine (same_matn n n q gi gj q q idm idm _ HQ.out (by omega) (by omega) (by omega) h9.here.1.1.2.1 h9.here.1.2 (fun _ _ _ _ => rfl)).mono ?_; rintro e w6 ⟨rfl, hb⟩; have hm := (h9.after hb).map (fun x h => h.1.1); obtain ⟨y0, y1, y2⟩ := box3 hm.here.2.2.1; obtain ⟨z0, z1, z2⟩ := box3 hm.here.2.2.2.2; have S9 := Lib.hid hm; clear h9 hb hm)
    | (go_at_call 26; have h9 := S9.out; clear S9; refine (under_ok n n n gi 0 gi 0 q q q q idm idm _ (by omega) (by omega) (by omega) (by omega) (by omega) HQ.out HQ.out h9.here.2.1 h9.here.2.1).mono ?_; rintro e w9 ⟨gu, he, hg, hrow, hb⟩; have he2 : e = .returned (.tuple #[.agg #[.int .i64 m, .int .i64 n, .slice (some ⟨gu, 0, none⟩) t t], .nilIface]) := (by rw [he, HT.out, HM.out]; rfl); subst he2; clear he; have hm := (h9.after hb).box 24 [.int .i64 m, .int .i64 n, .slice (some ⟨gu, 0, none⟩) t t]; obtain ⟨x0, x1, x2⟩ := box3 hm.here.1.1; have S10 := Lib.hid hm; clear h9 hb hrow hg hm)
    | (go_at_call 14; have h9 := S10.out; clear S10; refine (is_ok 0 .nilIface 0 _ (ErrAt.ok0 _ _)).mono ?_; rintro e w' ⟨rfl, rfl⟩; have S11 := Lib.hid h9; clear h9)
    | (go_at_call 27; have h9 := S11.out; clear S11; refine (right_gen ar ac an aa acap _ hal).mono ?_; rintro e w10 ⟨rfl, hb⟩; have S12 := Lib.hid (h9.after hb); clear h9 hb))
  go_ret
  exact ⟨rfl, S12.out.bel⟩
set_option maxRecDepth 100000 in
set_option maxHeartbeats 3200000 in
theorem mk_s_b3 (r c : Int) (n : Nat) (ar ac : Int) (an acap : Nat) (aa : Option Addr) (w : World) (hal : an ≤ maxLen) (hn : (1 : Int) ≤ n) (hn2 : (n : Int) ≤ 40) (h1 : 1 ≤ r) (h2 : r ≤ 40) (h3 : c < 1) :
    Calls Try.prog 6 #[.int .i64 r, .int .i64 c, .int .i64 n, .agg #[.int .i64 ar, .int .i64 ac, .slice aa an acap]] w fun e w' => e = .returned (.bool true) ∧ Below w.heap.size w w' := by
  obtain ⟨q, hq⟩ : ∃ q, q = n * n := ⟨_, rfl⟩
  have q1 : q ≤ 255 * 255 := by rw [hq]; exact Nat.mul_le_mul (by omega) (by omega)
  obtain ⟨m, hm⟩ : ∃ m, m = n + n := ⟨_, rfl⟩
  obtain ⟨t, ht⟩ : ∃ t, t = m * n := ⟨_, rfl⟩
  have t1 : t ≤ 255 * 255 := by rw [ht]; exact Nat.mul_le_mul (by omega) (by omega)
  have e1 : (2 : Int) * (n : Int) = (m : Int) := by omega
  have e2 : (m : Int) * (n : Int) = (t : Int) := by rw [ht]; simp
  have m1 : m ≤ 254 := by omega
  have HM := Lib.hid hm
  have HT := Lib.hid ht
  clear hm ht
  have HQ := Lib.hid hq
  clear hq
  have S0 := Lib.hid ((Bun.start w).box 24 [.int .i64 ar, .int .i64 ac, .slice aa an acap])
  go_enter Try.func6, Try.ntmps6
  go_wp2_with (first
    | (go_at_call 9; have h9 := S0.out; clear S0; refine (known_any _).mono ?_; rintro e w1 ⟨rfl, hb⟩; have S1 := Lib.hid (h9.after hb); clear h9 hb)
    | (go_at_call 19; have h9 := S1.out; clear S1; refine (identity_ok n _ (by omega) (by omega)).mono ?_; rintro e w2 ⟨gi, he, hg, hrow, hb⟩; have he2 : e = .returned (.tuple #[.agg #[.int .i64 n, .int .i64 n, .slice (some ⟨gi, 0, none⟩) q q], .nilIface]) := (by rw [he, HQ.out]; rfl); subst he2; clear he; have S2 := Lib.hid (((h9.after hb).add (fun _ h => (MatRd.of_row0 hrow).after h)).box 24 [.int .i64 n, .int .i64 n, .slice (some ⟨gi, 0, none⟩) q q]); clear h9 hb hrow hg)
    | (go_at_call 22; have h9 := S2.out; clear S2; refine (cauchy_bad r c _ (by omega)).mono ?_; rintro e w3 ⟨ev, he, hE, hb⟩; obtain ⟨b2, rfl, hE⟩ := err_open hE (by decide); have he2 : e = .returned (.tuple #[.agg #[.int .i64 0, .int .i64 0, .slice none 0 0], .iface 68 (.pointer (some ⟨b2, 0, none⟩))]) := he; subst he2; clear he; have hm := (((h9.after hb).add (fun _ h => hE.after h)).box 24 [.int .i64 0, .int .i64 0, .slice none 0 0]).map (fun x h => And.intro h.1.1.1.1.2 (And.intro h.1.1.1.2 (And.intro h.1.1.2 (And.intro h.1.2 h.2)))); obtain ⟨x0, x1, x2⟩ := box3 hm.here.1; have S3 := Lib.hid hm; clear h9 hb hE hm)
    | (go_at_call 23; have h9 := S3.out; clear S3; refine (rright_gen ar ac an aa acap _ hal).mono ?_; rintro e w4 ⟨rfl, hb⟩; have hm := h9.after hb; obtain ⟨y0, y1, y2⟩ := box3 hm.here.2.2.1; obtain ⟨z0, z1, z2⟩ := box3 hm.here.2.2.2.2; have S4 := Lib.hid hm; clear h9 hb hm)
    | (go_at_call 14; have h9 := S4.out; clear S4; refine (is_ok 0 .nilIface 0 _ (ErrAt.ok0 _ _)).mono ?_; rintro e w' ⟨rfl, rfl⟩; have S5 := Lib.hid h9; clear h9)
    | (go_at_call 14; have h9 := S5.out; clear S5; refine (is0_bad b2 _).mono ?_; rintro e w' ⟨rfl, rfl⟩; have S6 := Lib.hid h9; clear h9)
    | (go_at_call 14; have h9 := S6.out; clear S6; refine (is_ok _ _ 1 _ h9.here.2.2.2.1).mono ?_; rintro e w' ⟨rfl, rfl⟩; have S7 := Lib.hid h9; clear h9)
    | (go_at_call 24; have h9 := S7.out; clear S7; refine (ridentity_ok n _ (by omega) (by omega)).mono ?_; rintro e w5 ⟨gj, he, hg, hrow, hb⟩; have he2 : e = .returned (.tuple #[.agg #[.int .i64 n, .int .i64 n, .slice (some ⟨gj, 0, none⟩) q q], .int .i64 0]) := (by rw [he, HQ.out]; rfl); subst he2; clear he; have hm := ((h9.after hb).add (fun _ h => (MatRd.of_row0 hrow).after h)).box 24 [.int .i64 n, .int .i64 n, .slice (some ⟨gj, 0, none⟩) q q]; obtain ⟨y0, y1, y2⟩ := box3 hm.here.1.1.2.2.1; have S8 := Lib.hid hm; clear h9 hb hrow hg hm)
    | (go_at_call 21; have h9 := S8.out; clear S8; refine (same_matn n n q gi gj q q idm idm _ HQ.out (by omega) (by omega) (by omega) h9.here.1.1.2.1 h9.here.1.2 (fun _ _ _ _ => rfl)).mono ?_; rintro e w6 ⟨rfl, hb⟩; have hm := (h9.after hb).map (fun x h => h.1.1); obtain ⟨y0, y1, y2⟩ := box3 hm.here.2.2.1; obtain ⟨z0, z1, z2⟩ := box3 hm.here.2.2.2.2; have S9 := Lib.hid hm; clear h9 hb hm)
    | (go_at_call 26; have h9 := S9.out; clear S9; refine (under_ok n n n gi 0 gi 0 q q q q idm idm _ (by omega) (by omega) (by omega) (by omega) (by omega) HQ.out HQ.out h9.here.2.1 h9.here.2.1).mono ?_; rintro e w9 ⟨gu, he, hg, hrow, hb⟩; have he2 : e = .returned (.tuple #[.agg #[.int .i64 m, .int .i64 n, .slice (some ⟨gu, 0, none⟩) t t], .nilIface]) := (by rw [he, HT.out, HM.out]; rfl); subst he2; clear he; have hm := (h9.after hb).box 24 [.int .i64 m, .int .i64 n, .slice (some ⟨gu, 0, none⟩) t t]; obtain ⟨x0, x1, x2⟩ := box3 hm.here.1.1; have S10 := Lib.hid hm; clear h9 hb hrow hg hm)
    | (go_at_call 14; have h9 := S10.out; clear S10; refine (is_ok 0 .nilIface 0 _ (ErrAt.ok0 _ _)).mono ?_; rintro e w' ⟨rfl, rfl⟩; have S11 := Lib.hid h9; clear h9)
    | (go_at_call 27; have h9 := S11.out; clear S11; refine (right_gen ar ac an aa acap _ hal).mono ?_; rintro e w10 ⟨rfl, hb⟩; have S12 := Lib.hid (h9.after hb); clear h9 hb))
  go_ret
  exact ⟨rfl, S12.out.bel⟩
set_option maxRecDepth 100000 in
set_option maxHeartbeats 3200000 in
theorem mk_s_b4 (r c : Int) (n : Nat) (ar ac : Int) (an acap : Nat) (aa : Option Addr) (w : World) (hal : an ≤ maxLen) (hn : (1 : Int) ≤ n) (hn2 : (n : Int) ≤ 40) (h1 : 40 < r) (h2 : r ≤ 255) (h3 : c < 1) :
    Calls Try.prog 6 #[.int .i64 r, .int .i64 c, .int .i64 n, .agg #[.int .i64 ar, .int .i64 ac, .slice aa an acap]] w fun e w' => e = .returned (.bool true) ∧ Below w.heap.size w w' := by
  obtain ⟨q, hq⟩ : ∃ q, q = n * n := ⟨_, rfl⟩
  have q1 : q ≤ 255 * 255 := by rw [hq]; exact Nat.mul_le_mul (by omega) (by omega)
  obtain ⟨m, hm⟩ : ∃ m, m = n + n := ⟨_, rfl⟩
  obtain ⟨t, ht⟩ : ∃ t, t = m * n := ⟨_, rfl⟩
  have t1 : t ≤ 255 * 255 := by rw [ht]; exact Nat.mul_le_mul (by omega) (by omega)
  have e1 : (2 : Int) * (n : Int) = (m : Int) := by omega
  have e2 : (m : Int) * (n : Int) = (t : Int) := by rw [ht]; simp
  have m1 : m ≤ 254 := by omega
  have HM := Lib.hid hm
  have HT := Lib.hid ht
  clear hm ht
  have HQ := Lib.hid hq
  clear hq
  have S0 := Lib.hid ((Bun.start w).box 24 [.int .i64 ar, .int .i64 ac, .slice aa an acap])
  go_enter Try.func6, Try.ntmps6
  go_wp2_with (first
    | (go_at_call 9; have h9 := S0.out; clear S0; refine (known_any _).mono ?_; rintro e w1 ⟨rfl, hb⟩; have S1 := Lib.hid (h9.after hb); clear h9 hb)
    | (go_at_call 19; have h9 := S1.out; clear S1; refine (identity_ok n _ (by omega) (by omega)).mono ?_; rintro e w2 ⟨gi, he, hg, hrow, hb⟩; have he2 : e = .returned (.tuple #[.agg #[.int .i64 n, .int .i64 n, .slice (some ⟨gi, 0, none⟩) q q], .nilIface]) := (by rw [he, HQ.out]; rfl); subst he2; clear he; have S2 := Lib.hid (((h9.after hb).add (fun _ h => (MatRd.of_row0 hrow).after h)).box 24 [.int .i64 n, .int .i64 n, .slice (some ⟨gi, 0, none⟩) q q]); clear h9 hb hrow hg)
    | (go_at_call 22; have h9 := S2.out; clear S2; refine (cauchy_bad r c _ (by omega)).mono ?_; rintro e w3 ⟨ev, he, hE, hb⟩; obtain ⟨b2, rfl, hE⟩ := err_open hE (by decide); have he2 : e = .returned (.tuple #[.agg #[.int .i64 0, .int .i64 0, .slice none 0 0], .iface 68 (.pointer (some ⟨b2, 0, none⟩))]) := he; subst he2; clear he; have hm := (((h9.after hb).add (fun _ h => hE.after h)).box 24 [.int .i64 0, .int .i64 0, .slice none 0 0]).map (fun x h => And.intro h.1.1.1.1.2 (And.intro h.1.1.1.2 (And.intro h.1.1.2 (And.intro h.1.2 h.2)))); obtain ⟨x0, x1, x2⟩ := box3 hm.here.1; have S3 := Lib.hid hm; clear h9 hb hE hm)
    | (go_at_call 23; have h9 := S3.out; clear S3; refine (rright_gen ar ac an aa acap _ hal).mono ?_; rintro e w4 ⟨rfl, hb⟩; have hm := h9.after hb; obtain ⟨y0, y1, y2⟩ := box3 hm.here.2.2.1; obtain ⟨z0, z1, z2⟩ := box3 hm.here.2.2.2.2; have S4 := Lib.hid hm; clear h9 hb hm)
    | (go_at_call 14; have h9 := S4.out; clear S4; refine (is_ok 0 .nilIface 0 _ (ErrAt.ok0 _ _)).mono ?_; rintro e w' ⟨rfl, rfl⟩; have S5 := Lib.hid h9; clear h9)
    | (go_at_call 14; have h9 := S5.out; clear S5; refine (is0_bad b2 _).mono ?_; rintro e w' ⟨rfl, rfl⟩; have S6 := Lib.hid h9; clear h9)
    | (go_at_call 14; have h9 := S6.out; clear S6; refine (is_ok _ _ 1 _ h9.here.2.2.2.1).mono ?_; rintro e w' ⟨rfl, rfl⟩; have S7 := Lib.hid h9; clear h9)
    | (go_at_call 24; have h9 := S7.out; clear S7; refine (ridentity_ok n _ (by omega) (by omega)).mono ?_; rintro e w5 ⟨gj, he, hg, hrow, hb⟩; have he2 : e = .returned (.tuple #[.agg #[.int .i64 n, .int .i64 n, .slice (some ⟨gj, 0, none⟩) q q], .int .i64 0]) := (by rw [he, HQ.out]; rfl); subst he2; clear he; have hm := ((h9.after hb).add (fun _ h => (MatRd.of_row0 hrow).after h)).box 24 [.int .i64 n, .int .i64 n, .slice (some ⟨gj, 0, none⟩) q q]; obtain ⟨y0, y1, y2⟩ := box3 hm.here.1.1.2.2.1; have S8 := Lib.hid hm; clear h9 hb hrow hg hm)
    | (go_at_call 21; have h9 := S8.out; clear S8; refine (same_matn n n q gi gj q q idm idm _ HQ.out (by omega) (by omega) (by omega) h9.here.1.1.2.1 h9.here.1.2 (fun _ _ _ _ => rfl)).mono ?_; rintro e w6 ⟨rfl, hb⟩; have hm := (h9.after hb).map (fun x h => h.1.1); obtain ⟨y0, y1, y2⟩ := box3 hm.here.2.2.1; obtain ⟨z0, z1, z2⟩ := box3 hm.here.2.2.2.2; have S9 := Lib.hid hm; clear h9 hb hm)
    | (go_at_call 26; have h9 := S9.out; clear S9; refine (under_ok n n n gi 0 gi 0 q q q q idm idm _ (by omega) (by omega) (by omega) (by omega) (by omega) HQ.out HQ.out h9.here.2.1 h9.here.2.1).mono ?_; rintro e w9 ⟨gu, he, hg, hrow, hb⟩; have he2 : e = .returned (.tuple #[.agg #[.int .i64 m, .int .i64 n, .slice (some ⟨gu, 0, none⟩) t t], .nilIface]) := (by rw [he, HT.out, HM.out]; rfl); subst he2; clear he; have hm := (h9.after hb).box 24 [.int .i64 m, .int .i64 n, .slice (some ⟨gu, 0, none⟩) t t]; obtain ⟨x0, x1, x2⟩ := box3 hm.here.1.1; have S10 := Lib.hid hm; clear h9 hb hrow hg hm)
    | (go_at_call 14; have h9 := S10.out; clear S10; refine (is_ok 0 .nilIface 0 _ (ErrAt.ok0 _ _)).mono ?_; rintro e w' ⟨rfl, rfl⟩; have S11 := Lib.hid h9; clear h9)
    | (go_at_call 27; have h9 := S11.out; clear S11; refine (right_gen ar ac an aa acap _ hal).mono ?_; rintro e w10 ⟨rfl, hb⟩; have S12 := Lib.hid (h9.after hb); clear h9 hb))
  go_ret
  exact ⟨rfl, S12.out.bel⟩
set_option maxRecDepth 100000 in
set_option maxHeartbeats 3200000 in
theorem mk_s_b5 (r c : Int) (n : Nat) (ar ac : Int) (an acap : Nat) (aa : Option Addr) (w : World) (hal : an ≤ maxLen) (hn : (1 : Int) ≤ n) (hn2 : (n : Int) ≤ 40) (h1 : 1 ≤ r) (h2 : r ≤ 40) (h3 : 255 < c) :
    Calls Try.prog 6 #[.int .i64 r, .int .i64 c, .int .i64 n, .agg #[.int .i64 ar, .int .i64 ac, .slice aa an acap]] w fun e w' => e = .returned (.bool true) ∧ Below w.heap.size w w' := by
  obtain ⟨q, hq⟩ : ∃ q, q = n * n := ⟨_, rfl⟩
  have q1 : q ≤ 255 * 255 := by rw [hq]; exact Nat.mul_le_mul (by omega) (by omega)
  obtain ⟨m, hm⟩ : ∃ m, m = n + n := ⟨_, rfl⟩
  obtain ⟨t, ht⟩ : ∃ t, t = m * n := ⟨_, rfl⟩
  have t1 : t ≤ 255 * 255 := by rw [ht]; exact Nat.mul_le_mul (by omega) (by omega)
  have e1 : (2 : Int) * (n : Int) = (m : Int) := by omega
  have e2 : (m : Int) * (n : Int) = (t : Int) := by rw [ht]; simp
  have m1 : m ≤ 254 := by omega
  have HM := Lib.hid hm
  have HT := Lib.hid ht
  clear hm ht
  have HQ := Lib.hid hq
  clear hq
  have S0 := Lib.hid ((Bun.start w).box 24 [.int .i64 ar, .int .i64 ac, .slice aa an acap])
  go_enter Try.func6, Try.ntmps6
  go_wp2_with (first
    | (go_at_call 9; have h9 := S0.out; clear S0; refine (known_any _).mono ?_; rintro e w1 ⟨rfl, hb⟩; have S1 := Lib.hid (h9.after hb); clear h9 hb)
    | (go_at_call 19; have h9 := S1.out; clear S1; refine (identity_ok n _ (by omega) (by omega)).mono ?_; rintro e w2 ⟨gi, he, hg, hrow, hb⟩; have he2 : e = .returned (.tuple #[.agg #[.int .i64 n, .int .i64 n, .slice (some ⟨gi, 0, none⟩) q q], .nilIface]) := (by rw [he, HQ.out]; rfl); subst he2; clear he; have S2 := Lib.hid (((h9.after hb).add (fun _ h => (MatRd.of_row0 hrow).after h)).box 24 [.int .i64 n, .int .i64 n, .slice (some ⟨gi, 0, none⟩) q q]); clear h9 hb hrow hg)
    | (go_at_call 22; have h9 := S2.out; clear S2; refine (cauchy_bad r c _ (by omega)).mono ?_; rintro e w3 ⟨ev, he, hE, hb⟩; obtain ⟨b2, rfl, hE⟩ := err_open hE (by decide); have he2 : e = .returned (.tuple #[.agg #[.int .i64 0, .int .i64 0, .slice none 0 0], .iface 68 (.pointer (some ⟨b2, 0, none⟩))]) := he; subst he2; clear he; have hm := (((h9.after hb).add (fun _ h => hE.after h)).box 24 [.int .i64 0, .int .i64 0, .slice none 0 0]).map (fun x h => And.intro h.1.1.1.1.2 (And.intro h.1.1.1.2 (And.intro h.1.1.2 (And.intro h.1.2 h.2)))); obtain ⟨x0, x1, x2⟩ := box3 hm.here.1; have S3 := Lib.hid hm; clear h9 hb hE hm)
    | (go_at_call 23; have h9 := S3.out; clear S3; refine (rright_gen ar ac an aa acap _ hal).mono ?_; rintro e w4 ⟨rfl, hb⟩; have hm := h9.after hb; obtain ⟨y0, y1, y2⟩ := box3 hm.here.2.2.1; obtain ⟨z0, z1, z2⟩ := box3 hm.here.2.2.2.2; have S4 := Lib.hid hm; clear h9 hb hm)
    | (go_at_call 14; have h9 := S4.out; clear S4; refine (is_ok 0 .nilIface 0 _ (ErrAt.ok0 _ _)).mono ?_; rintro e w' ⟨rfl, rfl⟩; have S5 := Lib.hid h9; clear h9)
    | (go_at_call 14; have h9 := S5.out; clear S5; refine (is0_bad b2 _).mono ?_; rintro e w' ⟨rfl, rfl⟩; have S6 := Lib.hid h9; clear h9)
    | (go_at_call 14; have h9 := S6.out; clear S6; refine (is_ok _ _ 1 _ h9.here.2.2.2.1).mono ?_; rintro e w' ⟨rfl, rfl⟩; have S7 := Lib.hid h9; clear h9)
    | (go_at_call 24; have h9 := S7.out; clear S7; refine (ridentity_ok n _ (by omega) (by omega)).mono ?_; rintro e w5 ⟨gj, he, hg, hrow, hb⟩; have he2 : e = .returned (.tuple #[.agg #[.int .i64 n, .int .i64 n, .slice (some ⟨gj, 0, none⟩) q q], .int .i64 0]) := (by rw [he, HQ.out]; rfl); subst he2; clear he; have hm := ((h9.after hb).add (fun _ h => (MatRd.of_row0 hrow).after h)).box 24 [.int .i64 n, .int .i64 n, .slice (some ⟨gj, 0, none⟩) q q]; obtain ⟨y0, y1, y2⟩ := box3 hm.here.1.1.2.2.1; have S8 := Lib.hid hm; clear h9 hb hrow hg hm)
    | (go_at_call 21; have h9 := S8.out; clear S8; refine (same_matn n n q gi gj q q idm idm _ HQ.out (by omega) (by omega) (by omega) h9.here.1.1.2.1 h9.here.1.2 (fun _ _ _ _ => rfl)).mono ?_; rintro e w6 ⟨rfl, hb⟩; have hm := (h9.after hb).map (fun x h => h.1.1); obtain ⟨y0, y1, y2⟩ := box3 hm.here.2.2.1; obtain ⟨z0, z1, z2⟩ := box3 hm.here.2.2.2.2; have S9 := Lib.hid hm; clear h9 hb hm)
    | (go_at_call 26; have h9 := S9.out; clear S9; refine (under_ok n n n gi 0 gi 0 q q q q idm idm _ (by omega) (by omega) (by omega) (by omega) (by omega) HQ.out HQ.out h9.here.2.1 h9.here.2.1).mono ?_; rintro e w9 ⟨gu, he, hg, hrow, hb⟩; have he2 : e = .returned (.tuple #[.agg #[.int .i64 m, .int .i64 n, .slice (some ⟨gu, 0, none⟩) t t], .nilIface]) := (by rw [he, HT.out, HM.out]; rfl); subst he2; clear he; have hm := (h9.after hb).box 24 [.int .i64 m, .int .i64 n, .slice (some ⟨gu, 0, none⟩) t t]; obtain ⟨x0, x1, x2⟩ := box3 hm.here.1.1; have S10 := Lib.hid hm; clear h9 hb hrow hg hm)
    | (go_at_call 14; have h9 := S10.out; clear S10; refine (is_ok 0 .nilIface 0 _ (ErrAt.ok0 _ _)).mono ?_; rintro e w' ⟨rfl, rfl⟩; have S11 := Lib.hid h9; clear h9)
    | (go_at_call 27; have h9 := S11.out; clear S11; refine (right_gen ar ac an aa acap _ hal).mono ?_; rintro e w10 ⟨rfl, hb⟩; have S12 := Lib.hid (h9.after hb); clear h9 hb))
  go_ret
  exact ⟨rfl, S12.out.bel⟩
set_option maxRecDepth 100000 in
set_option maxHeartbeats 3200000 in
theorem mk_s_b6 (r c : Int) (n : Nat) (ar ac : Int) (an acap : Nat) (aa : Option Addr) (w : World) (hal : an ≤ maxLen) (hn : (1 : Int) ≤ n) (hn2 : (n : Int) ≤ 40) (h1 : 40 < r) (h2 : r ≤ 255) (h3 : 255 < c) :
    Calls Try.prog 6 #[.int .i64 r, .int .i64 c, .int .i64 n, .agg #[.int .i64 ar, .int .i64 ac, .slice aa an acap]] w fun e w' => e = .returned (.bool true) ∧ Below w.heap.size w w' := by
  obtain ⟨q, hq⟩ : ∃ q, q = n * n := ⟨_, rfl⟩
  have q1 : q ≤ 255 * 255 := by rw [hq]; exact Nat.mul_le_mul (by omega) (by omega)
  obtain ⟨m, hm⟩ : ∃ m, m = n + n := ⟨_, rfl⟩
  obtain ⟨t, ht⟩ : ∃ t, t = m * n := ⟨_, rfl⟩
  have t1 : t ≤ 255 * 255 := by rw [ht]; exact Nat.mul_le_mul (by omega) (by omega)
  have e1 : (2 : Int) * (n : Int) = (m : Int) := by omega
  have e2 : (m : Int) * (n : Int) = (t : Int) := by rw [ht]; simp
  have m1 : m ≤ 254 := by omega
  have HM := Lib.hid hm
  have HT := Lib.hid ht
  clear hm ht
  have HQ := Lib.hid hq
  clear hq
  have S0 := Lib.hid ((Bun.start w).box 24 [.int .i64 ar, .int .i64 ac, .slice aa an acap])
  go_enter Try.func6, Try.ntmps6
  go_wp2_with (first
    | (go_at_call 9; have h9 := S0.out; clear S0; refine (known_any _).mono ?_; rintro e w1 ⟨rfl, hb⟩; have S1 := Lib.hid (h9.after hb); clear h9 hb)
    | (go_at_call 19; have h9 := S1.out; clear S1; refine (identity_ok n _ (by omega) (by omega)).mono ?_; rintro e w2 ⟨gi, he, hg, hrow, hb⟩; have he2 : e = .returned (.tuple #[.agg #[.int .i64 n, .int .i64 n, .slice (some ⟨gi, 0, none⟩) q q], .nilIface]) := (by rw [he, HQ.out]; rfl); subst he2; clear he; have S2 := Lib.hid (((h9.after hb).add (fun _ h => (MatRd.of_row0 hrow).after h)).box 24 [.int .i64 n, .int .i64 n, .slice (some ⟨gi, 0, none⟩) q q]); clear h9 hb hrow hg)
    | (go_at_call 22; have h9 := S2.out; clear S2; refine (cauchy_bad r c _ (by omega)).mono ?_; rintro e w3 ⟨ev, he, hE, hb⟩; obtain ⟨b2, rfl, hE⟩ := err_open hE (by decide); have he2 : e = .returned (.tuple #[.agg #[.int .i64 0, .int .i64 0, .slice none 0 0], .iface 68 (.pointer (some ⟨b2, 0, none⟩))]) := he; subst he2; clear he; have hm := (((h9.after hb).add (fun _ h => hE.after h)).box 24 [.int .i64 0, .int .i64 0, .slice none 0 0]).map (fun x h => And.intro h.1.1.1.1.2 (And.intro h.1.1.1.2 (And.intro h.1.1.2 (And.intro h.1.2 h.2)))); obtain ⟨x0, x1, x2⟩ := box3 hm.here.1; have S3 := Lib.hid hm; clear h9 hb hE hm)
    | (go_at_call 23; have h9 := S3.out; clear S3; refine (rright_gen ar ac an aa acap _ hal).mono ?_; rintro e w4 ⟨rfl, hb⟩; have hm := h9.after hb; obtain ⟨y0, y1, y2⟩ := box3 hm.here.2.2.1; obtain ⟨z0, z1, z2⟩ := box3 hm.here.2.2.2.2; have S4 := Lib.hid hm; clear h9 hb hm)
    | (go_at_call 14; have h9 := S4.out; clear S4; refine (is_ok 0 .nilIface 0 _ (ErrAt.ok0 _ _)).mono ?_; rintro e w' ⟨rfl, rfl⟩; have S5 := Lib.hid h9; clear h9)
    | (go_at_call 14; have h9 := S5.out; clear S5; refine (is0_bad b2 _).mono ?_; rintro e w' ⟨rfl, rfl⟩; have S6 := Lib.hid h9; clear h9)
    | (go_at_call 14; have h9 := S6.out; clear S6; refine (is_ok _ _ 1 _ h9.here.2.2.2.1).mono ?_; rintro e w' ⟨rfl, rfl⟩; have S7 := Lib.hid h9; clear h9)
    | (go_at_call 24; have h9 := S7.out; clear S7; refine (ridentity_ok n _ (by omega) (by omega)).mono ?_; rintro e w5 ⟨gj, he, hg, hrow, hb⟩; have he2 : e = .returned (.tuple #[.agg #[.int .i64 n, .int .i64 n, .slice (some ⟨gj, 0, none⟩) q q], .int .i64 0]) := (by rw [he, HQ.out]; rfl); subst he2; clear he; have hm := ((h9.after hb).add (fun _ h => (MatRd.of_row0 hrow).after h)).box 24 [.int .i64 n, .int .i64 n, .slice (some ⟨gj, 0, none⟩) q q]; obtain ⟨y0, y1, y2⟩ := box3 hm.here.1.1.2.2.1; have S8 := Lib.hid hm; clear h9 hb hrow hg hm)
    | (go_at_call 21; have h9 := S8.out; clear S8; refine (same_matn n n q gi gj q q idm idm _ HQ.out (by omega) (by omega) (by omega) h9.here.1.1.2.1 h9.here.1.2 (fun _ _ _ _ => rfl)).mono ?_; rintro e w6 ⟨rfl, hb⟩; have hm := (h9.after hb).map (fun x h => h.1.1); obtain ⟨y0, y1, y2⟩ := box3 hm.here.2.2.1; obtain ⟨z0, z1, z2⟩ := box3 hm.here.2.2.2.2; have S9 := Lib.hid hm; clear h9 hb hm)
    | (go_at_call 26; have h9 := S9.out; clear S9; refine (under_ok n n n gi 0 gi 0 q q q q idm idm _ (by omega) (by omega) (by omega) (by omega) (by omega) HQ.out HQ.out h9.here.2.1 h9.here.2.1).mono ?_; rintro e w9 ⟨gu, he, hg, hrow, hb⟩; have he2 : e = .returned (.tuple #[.agg #[.int .i64 m, .int .i64 n, .slice (some ⟨gu, 0, none⟩) t t], .nilIface]) := (by rw [he, HT.out, HM.out]; rfl); subst he2; clear he; have hm := (h9.after hb).box 24 [.int .i64 m, .int .i64 n, .slice (some ⟨gu, 0, none⟩) t t]; obtain ⟨x0, x1, x2⟩ := box3 hm.here.1.1; have S10 := Lib.hid hm; clear h9 hb hrow hg hm)
    | (go_at_call 14; have h9 := S10.out; clear S10; refine (is_ok 0 .nilIface 0 _ (ErrAt.ok0 _ _)).mono ?_; rintro e w' ⟨rfl, rfl⟩; have S11 := Lib.hid h9; clear h9)
    | (go_at_call 27; have h9 := S11.out; clear S11; refine (right_gen ar ac an aa acap _ hal).mono ?_; rintro e w10 ⟨rfl, hb⟩; have S12 := Lib.hid (h9.after hb); clear h9 hb))
  go_ret
  exact ⟨rfl, S12.out.bel⟩
set_option maxRecDepth 100000 in
set_option maxHeartbeats 3200000 in
theorem mk_s_b7 (r c : Int) (n : Nat) (ar ac : Int) (an acap : Nat) (aa : Option Addr) (w : World) (hal : an ≤ maxLen) (hn : (1 : Int) ≤ n) (hn2 : (n : Int) ≤ 40) (h1 : 1 ≤ r) (h2 : r ≤ 40) (h3 : 40 < c) (h4 : c ≤ 255) (h5 : 256 < r + c) :
    Calls Try.prog 6 #[.int .i64 r, .int .i64 c, .int .i64 n, .agg #[.int .i64 ar, .int .i64 ac, .slice aa an acap]] w fun e w' => e = .returned (.bool true) ∧ Below w.heap.size w w' := by
  obtain ⟨q, hq⟩ : ∃ q, q = n * n := ⟨_, rfl⟩
  have q1 : q ≤ 255 * 255 := by rw [hq]; exact Nat.mul_le_mul (by omega) (by omega)
  obtain ⟨m, hm⟩ : ∃ m, m = n + n := ⟨_, rfl⟩
  obtain ⟨t, ht⟩ : ∃ t, t = m * n := ⟨_, rfl⟩
  have t1 : t ≤ 255 * 255 := by rw [ht]; exact Nat.mul_le_mul (by omega) (by omega)
  have e1 : (2 : Int) * (n : Int) = (m : Int) := by omega
  have e2 : (m : Int) * (n : Int) = (t : Int) := by rw [ht]; simp
  have m1 : m ≤ 254 := by omega
  have HM := Lib.hid hm
  have HT := Lib.hid ht
  clear hm ht
  have HQ := Lib.hid hq
  clear hq
  have S0 := Lib.hid ((Bun.start w).box 24 [.int .i64 ar, .int .i64 ac, .slice aa an acap])
  go_enter Try.func6, Try.ntmps6
  go_wp2_with (first
    | (go_at_call 9; have h9 := S0.out; clear S0; refine (known_any _).mono ?_; rintro e w1 ⟨rfl, hb⟩; have S1 := Lib.hid (h9.after hb); clear h9 hb)
    | (go_at_call 19; have h9 := S1.out; clear S1; refine (identity_ok n _ (by omega) (by omega)).mono ?_; rintro e w2 ⟨gi, he, hg, hrow, hb⟩; have he2 : e = .returned (.tuple #[.agg #[.int .i64 n, .int .i64 n, .slice (some ⟨gi, 0, none⟩) q q], .nilIface]) := (by rw [he, HQ.out]; rfl); subst he2; clear he; have S2 := Lib.hid (((h9.after hb).add (fun _ h => (MatRd.of_row0 hrow).after h)).box 24 [.int .i64 n, .int .i64 n, .slice (some ⟨gi, 0, none⟩) q q]); clear h9 hb hrow hg)
    | (go_at_call 22; have h9 := S2.out; clear S2; refine (cauchy_bad r c _ (by omega)).mono ?_; rintro e w3 ⟨ev, he, hE, hb⟩; obtain ⟨b2, rfl, hE⟩ := err_open hE (by decide); have he2 : e = .returned (.tuple #[.agg #[.int .i64 0, .int .i64 0, .slice none 0 0], .iface 68 (.pointer (some ⟨b2, 0, none⟩))]) := he; subst he2; clear he; have hm := (((h9.after hb).add (fun _ h => hE.after h)).box 24 [.int .i64 0, .int .i64 0, .slice none 0 0]).map (fun x h => And.intro h.1.1.1.1.2 (And.intro h.1.1.1.2 (And.intro h.1.1.2 (And.intro h.1.2 h.2)))); obtain ⟨x0, x1, x2⟩ := box3 hm.here.1; have S3 := Lib.hid hm; clear h9 hb hE hm)
    | (go_at_call 23; have h9 := S3.out; clear S3; refine (rright_gen ar ac an aa acap _ hal).mono ?_; rintro e w4 ⟨rfl, hb⟩; have hm := h9.after hb; obtain ⟨y0, y1, y2⟩ := box3 hm.here.2.2.1; obtain ⟨z0, z1, z2⟩ := box3 hm.here.2.2.2.2; have S4 := Lib.hid hm; clear h9 hb hm)
    | (go_at_call 14; have h9 := S4.out; clear S4; refine (is_ok 0 .nilIface 0 _ (ErrAt.ok0 _ _)).mono ?_; rintro e w' ⟨rfl, rfl⟩; have S5 := Lib.hid h9; clear h9)
    | (go_at_call 14; have h9 := S5.out; clear S5; refine (is0_bad b2 _).mono ?_; rintro e w' ⟨rfl, rfl⟩; have S6 := Lib.hid h9; clear h9)
    | (go_at_call 14; have h9 := S6.out; clear S6; refine (is_ok _ _ 1 _ h9.here.2.2.2.1).mono ?_; rintro e w' ⟨rfl, rfl⟩; have S7 := Lib.hid h9; clear h9)
    | (go_at_call 24; have h9 := S7.out; clear S7; refine (ridentity_ok n _ (by omega) (by omega)).mono ?_; rintro e w5 ⟨gj, he, hg, hrow, hb⟩; have he2 : e = .returned (.tuple #[.agg #[.int .i64 n, .int .i64 n, .slice (some ⟨gj, 0, none⟩) q q], .int .i64 0]) := (by rw [he, HQ.out]; rfl); subst he2; clear he; have hm := ((h9.after hb).add (fun _ h => (MatRd.of_row0 hrow).after h)).box 24 [.int .i64 n, .int .i64 n, .slice (some ⟨gj, 0, none⟩) q q]; obtain ⟨y0, y1, y2⟩ := box3 hm.here.1.1.2.2.1; have S8 := Lib.hid hm; clear h9 hb hrow hg hm)
    | (go_at_call 21; have h9 := S8.out; clear S8; refine (same_matn n n q gi gj q q idm idm _ HQ.out (by omega) (by omega) (by omega) h9.here.1.1.2.1 h9.here.1.2 (fun _ _ _ _ => rfl)).mono ?_; rintro e w6 ⟨rfl, hb⟩; have hm := (h9.after hb).map (fun x h => h.1.1); obtain ⟨y0, y1, y2⟩ := box3 hm.here.2.2.1; obtain ⟨z0, z1, z2⟩ := box3 hm.here.2.2.2.2; have S9 := Lib.hid hm; clear h9 hb hm)
    | (go_at_call 26; have h9 := S9.out; clear S9; refine (under_ok n n n gi 0 gi 0 q q q q idm idm _ (by omega) (by omega) (by omega) (by omega) (by omega) HQ.out HQ.out h9.here.2.1 h9.here.2.1).mono ?_; rintro e w9 ⟨gu, he, hg, hrow, hb⟩; have he2 : e = .returned (.tuple #[.agg #[.int .i64 m, .int .i64 n, .slice (some ⟨gu, 0, none⟩) t t], .nilIface]) := (by rw [he, HT.out, HM.out]; rfl); subst he2; clear he; have hm := (h9.after hb).box 24 [.int .i64 m, .int .i64 n, .slice (some ⟨gu, 0, none⟩) t t]; obtain ⟨x0, x1, x2⟩ := box3 hm.here.1.1; have S10 := Lib.hid hm; clear h9 hb hrow hg hm)
    | (go_at_call 14; have h9 := S10.out; clear S10; refine (is_ok 0 .nilIface 0 _ (ErrAt.ok0 _ _)).mono ?_; rintro e w' ⟨rfl, rfl⟩; have S11 := Lib.hid h9; clear h9)
    | (go_at_call 27; have h9 := S11.out; clear S11; refine (right_gen ar ac an aa acap _ hal).mono ?_; rintro e w10 ⟨rfl, hb⟩; have S12 := Lib.hid (h9.after hb); clear h9 hb))
  go_ret
  exact ⟨rfl, S12.out.bel⟩
set_option maxRecDepth 100000 in
set_option maxHeartbeats 3200000 in
theorem mk_s_b8 (r c : Int) (n : Nat) (ar ac : Int) (an acap : Nat) (aa : Option Addr) (w : World) (hal : an ≤ maxLen) (hn : (1 : Int) ≤ n) (hn2 : (n : Int) ≤ 40) (h1 : 40 < r) (h2 : r ≤ 255) (h3 : 1 ≤ c) (h4 : c ≤ 255) (h5 : 256 < r + c) :
    Calls Try.prog 6 #[.int .i64 r, .int .i64 c, .int .i64 n, .agg #[.int .i64 ar, .int .i64 ac, .slice aa an acap]] w fun e w' => e = .returned (.bool true) ∧ Below w.heap.size w w' := by
  obtain ⟨q, hq⟩ : ∃ q, q = n * n := ⟨_, rfl⟩
  have q1 : q ≤ 255 * 255 := by rw [hq]; exact Nat.mul_le_mul (by omega) (by omega)
  obtain ⟨m, hm⟩ : ∃ m, m = n + n := ⟨_, rfl⟩
  obtain ⟨t, ht⟩ : ∃ t, t = m * n := ⟨_, rfl⟩
  have t1 : t ≤ 255 * 255 := by rw [ht]; exact Nat.mul_le_mul (by omega) (by omega)
  have e1 : (2 : Int) * (n : Int) = (m : Int) := by omega
  have e2 : (m : Int) * (n : Int) = (t : Int) := by rw [ht]; simp
  have m1 : m ≤ 254 := by omega
  have HM := Lib.hid hm
  have HT := Lib.hid ht
  clear hm ht
  have HQ := Lib.hid hq
  clear hq
  have S0 := Lib.hid ((Bun.start w).box 24 [.int .i64 ar, .int .i64 ac, .slice aa an acap])
  go_enter Try.func6, Try.ntmps6
  go_wp2_with (first
    | (go_at_call 9; have h9 := S0.out; clear S0; refine (known_any _).mono ?_; rintro e w1 ⟨rfl, hb⟩; have S1 := Lib.hid (h9.after hb); clear h9 hb)
    | (go_at_call 19; have h9 := S1.out; clear S1; refine (identity_ok n _ (by omega) (by omega)).mono ?_; rintro e w2 ⟨gi, he, hg, hrow, hb⟩; have he2 : e = .returned (.tuple #[.agg #[.int .i64 n, .int .i64 n, .slice (some ⟨gi, 0, none⟩) q q], .nilIface]) := (by rw [he, HQ.out]; rfl); subst he2; clear he; have S2 := Lib.hid (((h9.after hb).add (fun _ h => (MatRd.of_row0 hrow).after h)).box 24 [.int .i64 n, .int .i64 n, .slice (some ⟨gi, 0, none⟩) q q]); clear h9 hb hrow hg)
    | (go_at_call 22; have h9 := S2.out; clear S2; refine (cauchy_bad r c _ (by omega)).mono ?_; rintro e w3 ⟨ev, he, hE, hb⟩; obtain ⟨b2, rfl, hE⟩ := err_open hE (by decide); have he2 : e = .returned (.tuple #[.agg #[.int .i64 0, .int .i64 0, .slice none 0 0], .iface 68 (.pointer (some ⟨b2, 0, none⟩))]) := he; subst he2; clear he; have hm := (((h9.after hb).add (fun _ h => hE.after h)).box 24 [.int .i64 0, .int .i64 0, .slice none 0 0]).map (fun x h => And.intro h.1.1.1.1.2 (And.intro h.1.1.1.2 (And.intro h.1.1.2 (And.intro h.1.2 h.2)))); obtain ⟨x0, x1, x2⟩ := box3 hm.here.1; have S3 := Lib.hid hm; clear h9 hb hE hm)
    | (go_at_call 23; have h9 := S3.out; clear S3; refine (rright_gen ar ac an aa acap _ hal).mono ?_; rintro e w4 ⟨rfl, hb⟩; have hm := h9.after hb; obtain ⟨y0, y1, y2⟩ := box3 hm.here.2.2.1; obtain ⟨z0, z1, z2⟩ := box3 hm.here.2.2.2.2; have S4 := Lib.hid hm; clear h9 hb hm)
    | (go_at_call 14; have h9 := S4.out; clear S4; refine (is_ok 0 .nilIface 0 _ (ErrAt.ok0 _ _)).mono ?_; rintro e w' ⟨rfl, rfl⟩; have S5 := Lib.hid h9; clear h9)
    | (go_at_call 14; have h9 := S5.out; clear S5; refine (is0_bad b2 _).mono ?_; rintro e w' ⟨rfl, rfl⟩; have S6 := Lib.hid h9; clear h9)
    | (go_at_call 14; have h9 := S6.out; clear S6; refine (is_ok _ _ 1 _ h9.here.2.2.2.1).mono ?_; rintro e w' ⟨rfl, rfl⟩; have S7 := Lib.hid h9; clear h9)
    | (go_at_call 24; have h9 := S7.out; clear S7; refine (ridentity_ok n _ (by omega) (by omega)).mono ?_; rintro e w5 ⟨gj, he, hg, hrow, hb⟩; have he2 : e = .returned (.tuple #[.agg #[.int .i64 n, .int .i64 n, .slice (some ⟨gj, 0, none⟩) q q], .int .i64 0]) := (by rw [he, HQ.out]; rfl); subst he2; clear he; have hm := ((h9.after hb).add (fun _ h => (MatRd.of_row0 hrow).after h)).box 24 [.int .i64 n, .int .i64 n, .slice (some ⟨gj, 0, none⟩) q q]; obtain ⟨y0, y1, y2⟩ := box3 hm.here.1.1.2.2.1; have S8 := Lib.hid hm; clear h9 hb hrow hg hm)
    | (go_at_call 21; have h9 := S8.out; clear S8; refine (same_matn n n q gi gj q q idm idm _ HQ.out (by omega) (by omega) (by omega) h9.here.1.1.2.1 h9.here.1.2 (fun _ _ _ _ => rfl)).mono ?_; rintro e w6 ⟨rfl, hb⟩; have hm := (h9.after hb).map (fun x h => h.1.1); obtain ⟨y0, y1, y2⟩ := box3 hm.here.2.2.1; obtain ⟨z0, z1, z2⟩ := box3 hm.here.2.2.2.2; have S9 := Lib.hid hm; clear h9 hb hm)
    | (go_at_call 26; have h9 := S9.out; clear S9; refine (under_ok n n n gi 0 gi 0 q q q q idm idm _ (by omega) (by omega) (by omega) (by omega) (by omega) HQ.out HQ.out h9.here.2.1 h9.here.2.1).mono ?_; rintro e w9 ⟨gu, he, hg, hrow, hb⟩; have he2 : e = .returned (.tuple #[.agg #[.int .i64 m, .int .i64 n, .slice (some ⟨gu, 0, none⟩) t t], .nilIface]) := (by rw [he, HT.out, HM.out]; rfl); subst he2; clear he; have hm := (h9.after hb).box 24 [.int .i64 m, .int .i64 n, .slice (some ⟨gu, 0, none⟩) t t]; obtain ⟨x0, x1, x2⟩ := box3 hm.here.1.1; have S10 := Lib.hid hm; clear h9 hb hrow hg hm)
    | (go_at_call 14; have h9 := S10.out; clear S10; refine (is_ok 0 .nilIface 0 _ (ErrAt.ok0 _ _)).mono ?_; rintro e w' ⟨rfl, rfl⟩; have S11 := Lib.hid h9; clear h9)
    | (go_at_call 27; have h9 := S11.out; clear S11; refine (right_gen ar ac an aa acap _ hal).mono ?_; rintro e w10 ⟨rfl, hb⟩; have S12 := Lib.hid (h9.after hb); clear h9 hb))
  go_ret
  exact ⟨rfl, S12.out.bel⟩
set_option maxRecDepth 100000 in
set_option maxHeartbeats 3200000 in
theorem mk_s_k1 (r c : Nat) (n : Nat) (ar ac : Int) (an acap : Nat) (aa : Option Addr) (w : World) (hal : an ≤ maxLen) (hn : (1 : Int) ≤ n) (hn2 : (n : Int) ≤ 40) (h1 : (1 : Int) ≤ r) (h2 : (r : Int) ≤ 40) (h3 : (1 : Int) ≤ c) (h4 : (c : Int) ≤ 40) :
    Calls Try.prog 6 #[.int .i64 r, .int .i64 c, .int .i64 n, .agg #[.int .i64 ar, .int .i64 ac, .slice aa an acap]] w fun e w' => e = .returned (.bool true) ∧ Below w.heap.size w w' := by
  obtain ⟨q, hq⟩ : ∃ q, q = n * n := ⟨_, rfl⟩
  have q1 : q ≤ 255 * 255 := by rw [hq]; exact Nat.mul_le_mul (by omega) (by omega)
  obtain ⟨m, hm⟩ : ∃ m, m = n + n := ⟨_, rfl⟩
  obtain ⟨t, ht⟩ : ∃ t, t = m * n := ⟨_, rfl⟩
  have t1 : t ≤ 255 * 255 := by rw [ht]; exact Nat.mul_le_mul (by omega) (by omega)
  have e1 : (2 : Int) * (n : Int) = (m : Int) := by omega
  have e2 : (m : Int) * (n : Int) = (t : Int) := by rw [ht]; simp
  have m1 : m ≤ 254 := by omega
  have HM := Lib.hid hm
  have HT := Lib.hid ht
  clear hm ht
  have HQ := Lib.hid hq
  clear hq
  obtain ⟨s, hs⟩ : ∃ s, s = r * c := ⟨_, rfl⟩
  have s1 : s ≤ 255 * 255 := by rw [hs]; exact Nat.mul_le_mul (by omega) (by omega)
  have HS := Lib.hid hs
  clear hs
  have S0 := Lib.hid ((Bun.start w).box 24 [.int .i64 ar, .int .i64 ac, .slice aa an acap])
  go_enter Try.func6, Try.ntmps6
  go_wp2_with (first
    | (go_at_call 9; have h9 := S0.out; clear S0; refine (known_any _).mono ?_; rintro e w1 ⟨rfl, hb⟩; have S1 := Lib.hid (h9.after hb); clear h9 hb)
    | (go_at_call 19; have h9 := S1.out; clear S1; refine (identity_ok n _ (by omega) (by omega)).mono ?_; rintro e w2 ⟨gi, he, hg, hrow, hb⟩; have he2 : e = .returned (.tuple #[.agg #[.int .i64 n, .int .i64 n, .slice (some ⟨gi, 0, none⟩) q q], .nilIface]) := (by rw [he, HQ.out]; rfl); subst he2; clear he; have S2 := Lib.hid (((h9.after hb).add (fun _ h => (MatRd.of_row0 hrow).after h)).box 24 [.int .i64 n, .int .i64 n, .slice (some ⟨gi, 0, none⟩) q q]); clear h9 hb hrow hg)
    | (go_at_call 22; have h9 := S2.out; clear S2; refine (cauchy_ok r c _ (by omega) (by omega) (by omega) (by omega) (by omega)).mono ?_; rintro e w3 ⟨gc, he, hg, hrow, hb⟩; have he2 : e = .returned (.tuple #[.agg #[.int .i64 r, .int .i64 c, .slice (some ⟨gc, 0, none⟩) s s], .nilIface]) := (by rw [he, HS.out]; rfl); subst he2; clear he; have hm := ((((h9.after hb).add (fun _ h => (MatRd.of_row0 hrow).after h)).box 24 [.int .i64 r, .int .i64 c, .slice (some ⟨gc, 0, none⟩) s s])).map (fun x h => And.intro h.1.1.1.1.2 (And.intro h.1.1.1.2 (And.intro h.1.1.2 (And.intro h.1.2 h.2)))); obtain ⟨x0, x1, x2⟩ := box3 hm.here.1; have S3 := Lib.hid hm; clear h9 hb hrow hg hm)
    | (go_at_call 23; have h9 := S3.out; clear S3; refine (rright_gen ar ac an aa acap _ hal).mono ?_; rintro e w4 ⟨rfl, hb⟩; have hm := h9.after hb; obtain ⟨y0, y1, y2⟩ := box3 hm.here.2.2.1; obtain ⟨z0, z1, z2⟩ := box3 hm.here.2.2.2.2; have S4 := Lib.hid hm; clear h9 hb hm)
    | (go_at_call 14; have h9 := S4.out; clear S4; refine (is_ok 0 .nilIface 0 _ (ErrAt.ok0 _ _)).mono ?_; rintro e w' ⟨rfl, rfl⟩; have S5 := Lib.hid h9; clear h9)
    | (go_at_call 14; have h9 := S5.out; clear S5; refine (is_ok 0 .nilIface 0 _ (ErrAt.ok0 _ _)).mono ?_; rintro e w' ⟨rfl, rfl⟩; have S6 := Lib.hid h9; clear h9)
    | (go_at_call 24; have h9 := S6.out; clear S6; refine (ridentity_ok n _ (by omega) (by omega)).mono ?_; rintro e w5 ⟨gj, he, hg, hrow, hb⟩; have he2 : e = .returned (.tuple #[.agg #[.int .i64 n, .int .i64 n, .slice (some ⟨gj, 0, none⟩) q q], .int .i64 0]) := (by rw [he, HQ.out]; rfl); subst he2; clear he; have hm := ((h9.after hb).add (fun _ h => (MatRd.of_row0 hrow).after h)).box 24 [.int .i64 n, .int .i64 n, .slice (some ⟨gj, 0, none⟩) q q]; obtain ⟨y0, y1, y2⟩ := box3 hm.here.1.1.2.2.1; have S7 := Lib.hid hm; clear h9 hb hrow hg hm)
    | (go_at_call 21; have h9 := S7.out; clear S7; refine (same_matn n n q gi gj q q idm idm _ HQ.out (by omega) (by omega) (by omega) h9.here.1.1.2.1 h9.here.1.2 (fun _ _ _ _ => rfl)).mono ?_; rintro e w6 ⟨rfl, hb⟩; have hm := (h9.after hb).map (fun x h => h.1.1); obtain ⟨y0, y1, y2⟩ := box3 hm.here.2.2.1; obtain ⟨z0, z1, z2⟩ := box3 hm.here.2.2.2.2; have S8 := Lib.hid hm; clear h9 hb hm)
    | (go_at_call 25; have h9 := S8.out; clear S8; refine (rcauchy_ok r c _ (by omega) (by omega) (by omega) (by omega) (by omega)).mono ?_; rintro e w7 ⟨gd, he, hg, hrow, hb⟩; have he2 : e = .returned (.tuple #[.agg #[.int .i64 r, .int .i64 c, .slice (some ⟨gd, 0, none⟩) s s], .int .i64 0]) := (by rw [he, HS.out]; rfl); subst he2; clear he; have hm := ((h9.after hb).add (fun _ h => (MatRd.of_row0 hrow).after h)).box 24 [.int .i64 r, .int .i64 c, .slice (some ⟨gd, 0, none⟩) s s]; obtain ⟨z0, z1, z2⟩ := box3 hm.here.1.1.2.2.2.2; have S9 := Lib.hid hm; clear h9 hb hrow hg hm)
    | (go_at_call 21; have h9 := S9.out; clear S9; refine (same_matn r c s gc gd s s (cau c) (cau c) _ HS.out (by omega) (by omega) (by omega) h9.here.1.1.2.2.2.1 h9.here.1.2 (fun _ _ _ _ => rfl)).mono ?_; rintro e w8 ⟨rfl, hb⟩; have hm := (h9.after hb).map (fun x h => h.1.1); obtain ⟨y0, y1, y2⟩ := box3 hm.here.2.2.1; have S10 := Lib.hid hm; clear h9 hb hm)
    | (go_at_call 26; have h9 := S10.out; clear S10; refine (under_ok n n n gi 0 gi 0 q q q q idm idm _ (by omega) (by omega) (by omega) (by omega) (by omega) HQ.out HQ.out h9.here.2.1 h9.here.2.1).mono ?_; rintro e w9 ⟨gu, he, hg, hrow, hb⟩; have he2 : e = .returned (.tuple #[.agg #[.int .i64 m, .int .i64 n, .slice (some ⟨gu, 0, none⟩) t t], .nilIface]) := (by rw [he, HT.out, HM.out]; rfl); subst he2; clear he; have hm := (h9.after hb).box 24 [.int .i64 m, .int .i64 n, .slice (some ⟨gu, 0, none⟩) t t]; obtain ⟨x0, x1, x2⟩ := box3 hm.here.1.1; have S11 := Lib.hid hm; clear h9 hb hrow hg hm)
    | (go_at_call 14; have h9 := S11.out; clear S11; refine (is_ok 0 .nilIface 0 _ (ErrAt.ok0 _ _)).mono ?_; rintro e w' ⟨rfl, rfl⟩; have S12 := Lib.hid h9; clear h9)
    | (go_at_call 27; have h9 := S12.out; clear S12; refine (right_gen ar ac an aa acap _ hal).mono ?_; rintro e w10 ⟨rfl, hb⟩; have S13 := Lib.hid (h9.after hb); clear h9 hb))
  go_ret
  exact ⟨rfl, S13.out.bel⟩
set_option maxRecDepth 100000 in
set_option maxHeartbeats 3200000 in
theorem mk_s_k2 (r c : Nat) (n : Nat) (ar ac : Int) (an acap : Nat) (aa : Option Addr) (w : World) (hal : an ≤ maxLen) (hn : (1 : Int) ≤ n) (hn2 : (n : Int) ≤ 40) (h1 : (1 : Int) ≤ r) (h2 : (r : Int) ≤ 40) (h3 : (40 : Int) < c) (h4 : (c : Int) ≤ 255) (h5 : (r : Int) + (c : Int) ≤ 256) :
    Calls Try.prog 6 #[.int .i64 r, .int .i64 c, .int .i64 n, .agg #[.int .i64 ar, .int .i64 ac, .slice aa an acap]] w fun e w' => e = .returned (.bool true) ∧ Below w.heap.size w w' := by
  obtain ⟨q, hq⟩ : ∃ q, q = n * n := ⟨_, rfl⟩
  have q1 : q ≤ 255 * 255 := by rw [hq]; exact Nat.mul_le_mul (by omega) (by omega)
  obtain ⟨m, hm⟩ : ∃ m, m = n + n := ⟨_, rfl⟩
  obtain ⟨t, ht⟩ : ∃ t, t = m * n := ⟨_, rfl⟩
  have t1 : t ≤ 255 * 255 := by rw [ht]; exact Nat.mul_le_mul (by omega) (by omega)
  have e1 : (2 : Int) * (n : Int) = (m : Int) := by omega
  have e2 : (m : Int) * (n : Int) = (t : Int) := by rw [ht]; simp
  have m1 : m ≤ 254 := by omega
  have HM := Lib.hid hm
  have HT := Lib.hid ht
  clear hm ht
  have HQ := Lib.hid hq
  clear hq
  obtain ⟨s, hs⟩ : ∃ s, s = r * c := ⟨_, rfl⟩
  have s1 : s ≤ 255 * 255 := by rw [hs]; exact Nat.mul_le_mul (by omega) (by omega)
  have HS := Lib.hid hs
  clear hs
  have S0 := Lib.hid ((Bun.start w).box 24 [.int .i64 ar, .int .i64 ac, .slice aa an acap])
  go_enter Try.func6, Try.ntmps6
  go_wp2_with (first
    | (go_at_call 9; have h9 := S0.out; clear S0; refine (known_any _).mono ?_; rintro e w1 ⟨rfl, hb⟩; have S1 := Lib.hid (h9.after hb); clear h9 hb)
    | (go_at_call 19; have h9 := S1.out; clear S1; refine (identity_ok n _ (by omega) (by omega)).mono ?_; rintro e w2 ⟨gi, he, hg, hrow, hb⟩; have he2 : e = .returned (.tuple #[.agg #[.int .i64 n, .int .i64 n, .slice (some ⟨gi, 0, none⟩) q q], .nilIface]) := (by rw [he, HQ.out]; rfl); subst he2; clear he; have S2 := Lib.hid (((h9.after hb).add (fun _ h => (MatRd.of_row0 hrow).after h)).box 24 [.int .i64 n, .int .i64 n, .slice (some ⟨gi, 0, none⟩) q q]); clear h9 hb hrow hg)
    | (go_at_call 22; have h9 := S2.out; clear S2; refine (cauchy_ok r c _ (by omega) (by omega) (by omega) (by omega) (by omega)).mono ?_; rintro e w3 ⟨gc, he, hg, hrow, hb⟩; have he2 : e = .returned (.tuple #[.agg #[.int .i64 r, .int .i64 c, .slice (some ⟨gc, 0, none⟩) s s], .nilIface]) := (by rw [he, HS.out]; rfl); subst he2; clear he; have hm := ((((h9.after hb).add (fun _ h => (MatRd.of_row0 hrow).after h)).box 24 [.int .i64 r, .int .i64 c, .slice (some ⟨gc, 0, none⟩) s s])).map (fun x h => And.intro h.1.1.1.1.2 (And.intro h.1.1.1.2 (And.intro h.1.1.2 (And.intro h.1.2 h.2)))); obtain ⟨x0, x1, x2⟩ := box3 hm.here.1; have S3 := Lib.hid hm; clear h9 hb hrow hg hm)
    | (go_at_call 23; have h9 := S3.out; clear S3; refine (rright_gen ar ac an aa acap _ hal).mono ?_; rintro e w4 ⟨rfl, hb⟩; have hm := h9.after hb; obtain ⟨y0, y1, y2⟩ := box3 hm.here.2.2.1; obtain ⟨z0, z1, z2⟩ := box3 hm.here.2.2.2.2; have S4 := Lib.hid hm; clear h9 hb hm)
    | (go_at_call 14; have h9 := S4.out; clear S4; refine (is_ok 0 .nilIface 0 _ (ErrAt.ok0 _ _)).mono ?_; rintro e w' ⟨rfl, rfl⟩; have S5 := Lib.hid h9; clear h9)
    | (go_at_call 14; have h9 := S5.out; clear S5; refine (is_ok 0 .nilIface 0 _ (ErrAt.ok0 _ _)).mono ?_; rintro e w' ⟨rfl, rfl⟩; have S6 := Lib.hid h9; clear h9)
    | (go_at_call 24; have h9 := S6.out; clear S6; refine (ridentity_ok n _ (by omega) (by omega)).mono ?_; rintro e w5 ⟨gj, he, hg, hrow, hb⟩; have he2 : e = .returned (.tuple #[.agg #[.int .i64 n, .int .i64 n, .slice (some ⟨gj, 0, none⟩) q q], .int .i64 0]) := (by rw [he, HQ.out]; rfl); subst he2; clear he; have hm := ((h9.after hb).add (fun _ h => (MatRd.of_row0 hrow).after h)).box 24 [.int .i64 n, .int .i64 n, .slice (some ⟨gj, 0, none⟩) q q]; obtain ⟨y0, y1, y2⟩ := box3 hm.here.1.1.2.2.1; have S7 := Lib.hid hm; clear h9 hb hrow hg hm)
    | (go_at_call 21; have h9 := S7.out; clear S7; refine (same_matn n n q gi gj q q idm idm _ HQ.out (by omega) (by omega) (by omega) h9.here.1.1.2.1 h9.here.1.2 (fun _ _ _ _ => rfl)).mono ?_; rintro e w6 ⟨rfl, hb⟩; have hm := (h9.after hb).map (fun x h => h.1.1); obtain ⟨y0, y1, y2⟩ := box3 hm.here.2.2.1; obtain ⟨z0, z1, z2⟩ := box3 hm.here.2.2.2.2; have S8 := Lib.hid hm; clear h9 hb hm)
    | (go_at_call 26; have h9 := S8.out; clear S8; refine (under_ok n n n gi 0 gi 0 q q q q idm idm _ (by omega) (by omega) (by omega) (by omega) (by omega) HQ.out HQ.out h9.here.2.1 h9.here.2.1).mono ?_; rintro e w9 ⟨gu, he, hg, hrow, hb⟩; have he2 : e = .returned (.tuple #[.agg #[.int .i64 m, .int .i64 n, .slice (some ⟨gu, 0, none⟩) t t], .nilIface]) := (by rw [he, HT.out, HM.out]; rfl); subst he2; clear he; have hm := (h9.after hb).box 24 [.int .i64 m, .int .i64 n, .slice (some ⟨gu, 0, none⟩) t t]; obtain ⟨x0, x1, x2⟩ := box3 hm.here.1.1; have S9 := Lib.hid hm; clear h9 hb hrow hg hm)
    | (go_at_call 14; have h9 := S9.out; clear S9; refine (is_ok 0 .nilIface 0 _ (ErrAt.ok0 _ _)).mono ?_; rintro e w' ⟨rfl, rfl⟩; have S10 := Lib.hid h9; clear h9)
    | (go_at_call 27; have h9 := S10.out; clear S10; refine (right_gen ar ac an aa acap _ hal).mono ?_; rintro e w10 ⟨rfl, hb⟩; have S11 := Lib.hid (h9.after hb); clear h9 hb))
  go_ret
  exact ⟨rfl, S11.out.bel⟩
set_option maxRecDepth 100000 in
set_option maxHeartbeats 3200000 in
theorem mk_s_k3 (r c : Nat) (n : Nat) (ar ac : Int) (an acap : Nat) (aa : Option Addr) (w : World) (hal : an ≤ maxLen) (hn : (1 : Int) ≤ n) (hn2 : (n : Int) ≤ 40) (h1 : (40 : Int) < r) (h2 : (r : Int) ≤ 255) (h3 : (1 : Int) ≤ c) (h4 : (c : Int) ≤ 255) (h5 : (r : Int) + (c : Int) ≤ 256) :
    Calls Try.prog 6 #[.int .i64 r, .int .i64 c, .int .i64 n, .agg #[.int .i64 ar, .int .i64 ac, .slice aa an acap]] w fun e w' => e = .returned (.bool true) ∧ Below w.heap.size w w' := by
  obtain ⟨q, hq⟩ : ∃ q, q = n * n := ⟨_, rfl⟩
  have q1 : q ≤ 255 * 255 := by rw [hq]; exact Nat.mul_le_mul (by omega) (by omega)
  obtain ⟨m, hm⟩ : ∃ m, m = n + n := ⟨_, rfl⟩
  obtain ⟨t, ht⟩ : ∃ t, t = m * n := ⟨_, rfl⟩
  have t1 : t ≤ 255 * 255 := by rw [ht]; exact Nat.mul_le_mul (by omega) (by omega)
  have e1 : (2 : Int) * (n : Int) = (m : Int) := by omega
  have e2 : (m : Int) * (n : Int) = (t : Int) := by rw [ht]; simp
  have m1 : m ≤ 254 := by omega
  have HM := Lib.hid hm
  have HT := Lib.hid ht
  clear hm ht
  have HQ := Lib.hid hq
  clear hq
  obtain ⟨s, hs⟩ : ∃ s, s = r * c := ⟨_, rfl⟩
  have s1 : s ≤ 255 * 255 := by rw [hs]; exact Nat.mul_le_mul (by omega) (by omega)
  have HS := Lib.hid hs
  clear hs
  have S0 := Lib.hid ((Bun.start w).box 24 [.int .i64 ar, .int .i64 ac, .slice aa an acap])
  go_enter Try.func6, Try.ntmps6
  go_wp2_with (first
    | (go_at_call 9; have h9 := S0.out; clear S0; refine (known_any _).mono ?_; rintro e w1 ⟨rfl, hb⟩; have S1 := Lib.hid (h9.after hb); clear h9 hb)
    | (go_at_call 19; have h9 := S1.out; clear S1; refine (identity_ok n _ (by omega) (by omega)).mono ?_; rintro e w2 ⟨gi, he, hg, hrow, hb⟩; have he2 : e = .returned (.tuple #[.agg #[.int .i64 n, .int .i64 n, .slice (some ⟨gi, 0, none⟩) q q], .nilIface]) := (by rw [he, HQ.out]; rfl); subst he2; clear he; have S2 := Lib.hid (((h9.after hb).add (fun _ h => (MatRd.of_row0 hrow).after h)).box 24 [.int .i64 n, .int .i64 n, .slice (some ⟨gi, 0, none⟩) q q]); clear h9 hb hrow hg)
    | (go_at_call 22; have h9 := S2.out; clear S2; refine (cauchy_ok r c _ (by omega) (by omega) (by omega) (by omega) (by omega)).mono ?_; rintro e w3 ⟨gc, he, hg, hrow, hb⟩; have he2 : e = .returned (.tuple #[.agg #[.int .i64 r, .int .i64 c, .slice (some ⟨gc, 0, none⟩) s s], .nilIface]) := (by rw [he, HS.out]; rfl); subst he2; clear he; have hm := ((((h9.after hb).add (fun _ h => (MatRd.of_row0 hrow).after h)).box 24 [.int .i64 r, .int .i64 c, .slice (some ⟨gc, 0, none⟩) s s])).map (fun x h => And.intro h.1.1.1.1.2 (And.intro h.1.1.1.2 (And.intro h.1.1.2 (And.intro h.1.2 h.2)))); obtain ⟨x0, x1, x2⟩ := box3 hm.here.1; have S3 := Lib.hid hm; clear h9 hb hrow hg hm)
    | (go_at_call 23; have h9 := S3.out; clear S3; refine (rright_gen ar ac an aa acap _ hal).mono ?_; rintro e w4 ⟨rfl, hb⟩; have hm := h9.after hb; obtain ⟨y0, y1, y2⟩ := box3 hm.here.2.2.1; obtain ⟨z0, z1, z2⟩ := box3 hm.here.2.2.2.2; have S4 := Lib.hid hm; clear h9 hb hm)
    | (go_at_call 14; have h9 := S4.out; clear S4; refine (is_ok 0 .nilIface 0 _ (ErrAt.ok0 _ _)).mono ?_; rintro e w' ⟨rfl, rfl⟩; have S5 := Lib.hid h9; clear h9)
    | (go_at_call 14; have h9 := S5.out; clear S5; refine (is_ok 0 .nilIface 0 _ (ErrAt.ok0 _ _)).mono ?_; rintro e w' ⟨rfl, rfl⟩; have S6 := Lib.hid h9; clear h9)
    | (go_at_call 24; have h9 := S6.out; clear S6; refine (ridentity_ok n _ (by omega) (by omega)).mono ?_; rintro e w5 ⟨gj, he, hg, hrow, hb⟩; have he2 : e = .returned (.tuple #[.agg #[.int .i64 n, .int .i64 n, .slice (some ⟨gj, 0, none⟩) q q], .int .i64 0]) := (by rw [he, HQ.out]; rfl); subst he2; clear he; have hm := ((h9.after hb).add (fun _ h => (MatRd.of_row0 hrow).after h)).box 24 [.int .i64 n, .int .i64 n, .slice (some ⟨gj, 0, none⟩) q q]; obtain ⟨y0, y1, y2⟩ := box3 hm.here.1.1.2.2.1; have S7 := Lib.hid hm; clear h9 hb hrow hg hm)
    | (go_at_call 21; have h9 := S7.out; clear S7; refine (same_matn n n q gi gj q q idm idm _ HQ.out (by omega) (by omega) (by omega) h9.here.1.1.2.1 h9.here.1.2 (fun _ _ _ _ => rfl)).mono ?_; rintro e w6 ⟨rfl, hb⟩; have hm := (h9.after hb).map (fun x h => h.1.1); obtain ⟨y0, y1, y2⟩ := box3 hm.here.2.2.1; obtain ⟨z0, z1, z2⟩ := box3 hm.here.2.2.2.2; have S8 := Lib.hid hm; clear h9 hb hm)
    | (go_at_call 26; have h9 := S8.out; clear S8; refine (under_ok n n n gi 0 gi 0 q q q q idm idm _ (by omega) (by omega) (by omega) (by omega) (by omega) HQ.out HQ.out h9.here.2.1 h9.here.2.1).mono ?_; rintro e w9 ⟨gu, he, hg, hrow, hb⟩; have he2 : e = .returned (.tuple #[.agg #[.int .i64 m, .int .i64 n, .slice (some ⟨gu, 0, none⟩) t t], .nilIface]) := (by rw [he, HT.out, HM.out]; rfl); subst he2; clear he; have hm := (h9.after hb).box 24 [.int .i64 m, .int .i64 n, .slice (some ⟨gu, 0, none⟩) t t]; obtain ⟨x0, x1, x2⟩ := box3 hm.here.1.1; have S9 := Lib.hid hm; clear h9 hb hrow hg hm)
    | (go_at_call 14; have h9 := S9.out; clear S9; refine (is_ok 0 .nilIface 0 _ (ErrAt.ok0 _ _)).mono ?_; rintro e w' ⟨rfl, rfl⟩; have S10 := Lib.hid h9; clear h9)
    | (go_at_call 27; have h9 := S10.out; clear S10; refine (right_gen ar ac an aa acap _ hal).mono ?_; rintro e w10 ⟨rfl, hb⟩; have S11 := Lib.hid (h9.after hb); clear h9 hb))
  go_ret
  exact ⟨rfl, S11.out.bel⟩
end Go.Proofs.Ytbnfnijjldimkaa
