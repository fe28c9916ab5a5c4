/-
  The walk of MatrixMakes: the cases where n is 'lo'.
-/
import Derived.Test.YtbnfnijjldimkaaMakH
namespace Go.Proofs.Ytbnfnijjldimkaa
open Go.RowKit
set_option linter.unusedVariables false
set_option linter.unusedSimpArgs false
set_option maxRecDepth 100000 in
set_option maxHeartbeats 3200000 in
theorem mk_lo_b1 (r c : Int) (n : Int) (ar ac : Int) (an acap : Nat) (aa : Option Addr) (w : World) (hal : an ≤ maxLen) (hn : n < 1) (h1 : r < 1) :
    Calls Try.prog 6 #[.int .i64 r, .int .i64 c, .int .i64 n, .agg #[.int .i64 ar, .int .i64 ac, .slice aa an acap]] w fun e w' => e = .returned (.bool true) ∧ Below w.heap.size w w' := by
  have S0 := Lib.hid ((Bun.start w).box 24 [.int .i64 ar, .int .i64 ac, .slice aa an acap])
  go_enter Try.func6, Try.ntmps6
  go_wp2_with (first
    | (go_at_call 9; have h9 := S0.out; clear S0; refine (known_any _).mono ?_; rintro e w1 ⟨rfl, hb⟩; have S1 := Lib.hid (h9.after hb); clear h9 hb)
    | (go_at_call 19; have h9 := S1.out; clear S1; refine (identity_bad n _ (by omega)).mono ?_; rintro e w2 ⟨ev, he, hE, hb⟩; obtain ⟨b1, rfl, hE⟩ := err_open hE (by decide); have he2 : e = .returned (.tuple #[.agg #[.int .i64 0, .int .i64 0, .slice none 0 0], .iface 68 (.pointer (some ⟨b1, 0, none⟩))]) := he; subst he2; clear he; have S2 := Lib.hid (((h9.after hb).add (fun _ h => hE.after h)).box 24 [.int .i64 0, .int .i64 0, .slice none 0 0]); clear h9 hb hE)
    | (go_at_call 22; have h9 := S2.out; clear S2; refine (cauchy_bad r c _ (by omega)).mono ?_; rintro e w3 ⟨ev, he, hE, hb⟩; obtain ⟨b2, rfl, hE⟩ := err_open hE (by decide); have he2 : e = .returned (.tuple #[.agg #[.int .i64 0, .int .i64 0, .slice none 0 0], .iface 68 (.pointer (some ⟨b2, 0, none⟩))]) := he; subst he2; clear he; have hm := (((h9.after hb).add (fun _ h => hE.after h)).box 24 [.int .i64 0, .int .i64 0, .slice none 0 0]).map (fun x h => And.intro h.1.1.1.1.2 (And.intro h.1.1.1.2 (And.intro h.1.1.2 (And.intro h.1.2 h.2)))); obtain ⟨x0, x1, x2⟩ := box3 hm.here.1; have S3 := Lib.hid hm; clear h9 hb hE hm)
    | (go_at_call 23; have h9 := S3.out; clear S3; refine (rright_gen ar ac an aa acap _ hal).mono ?_; rintro e w4 ⟨rfl, hb⟩; have hm := h9.after hb; obtain ⟨y0, y1, y2⟩ := box3 hm.here.2.2.1; obtain ⟨z0, z1, z2⟩ := box3 hm.here.2.2.2.2; have S4 := Lib.hid hm; clear h9 hb hm)
    | (go_at_call 14; have h9 := S4.out; clear S4; refine (is0_bad b1 _).mono ?_; rintro e w' ⟨rfl, rfl⟩; have S5 := Lib.hid h9; clear h9)
    | (go_at_call 14; have h9 := S5.out; clear S5; refine (is_ok _ _ 1 _ h9.here.2.1).mono ?_; rintro e w' ⟨rfl, rfl⟩; have S6 := Lib.hid h9; clear h9)
    | (go_at_call 14; have h9 := S6.out; clear S6; refine (is0_bad b2 _).mono ?_; rintro e w' ⟨rfl, rfl⟩; have S7 := Lib.hid h9; clear h9)
    | (go_at_call 14; have h9 := S7.out; clear S7; refine (is_ok _ _ 1 _ h9.here.2.2.2.1).mono ?_; rintro e w' ⟨rfl, rfl⟩; have S8 := Lib.hid h9; clear h9)
    | (go_at_call 26; have h9 := S8.out; clear S8; refine (under_bad1 0 0 0 0 0 0 0 0 _ _ _ (by unfold maxLen; omega) (by unfold maxLen; omega) (Or.inl rfl)).mono ?_; rintro e w9 ⟨ev, he, hE, hb⟩; obtain ⟨b3, rfl, hE⟩ := err_open hE (by decide); have he2 : e = .returned (.tuple #[.agg #[.int .i64 0, .int .i64 0, .slice none 0 0], .iface 68 (.pointer (some ⟨b3, 0, none⟩))]) := he; subst he2; clear he; have hm := ((h9.after hb).add (fun _ h => hE.after h)).box 24 [.int .i64 0, .int .i64 0, .slice none 0 0]; obtain ⟨x0, x1, x2⟩ := box3 hm.here.1.1.1; have S9 := Lib.hid hm; clear h9 hb hE hm)
    | (go_at_call 14; have h9 := S9.out; clear S9; refine (is0_bad b3 _).mono ?_; rintro e w' ⟨rfl, rfl⟩; have S10 := Lib.hid h9; clear h9)
    | (go_at_call 14; have h9 := S10.out; clear S10; refine (is_ok _ _ 1 _ h9.here.1.2).mono ?_; rintro e w' ⟨rfl, rfl⟩; have S11 := Lib.hid h9; clear h9)
    | (go_at_call 27; have h9 := S11.out; clear S11; refine (right_gen ar ac an aa acap _ hal).mono ?_; rintro e w10 ⟨rfl, hb⟩; have S12 := Lib.hid (h9.after hb); clear h9 hb))
  go_ret
  exact ⟨rfl, S12.out.bel⟩
set_option maxRecDepth 100000 in
set_option maxHeartbeats 3200000 in
theorem mk_lo_b2 (r c : Int) (n : Int) (ar ac : Int) (an acap : Nat) (aa : Option Addr) (w : World) (hal : an ≤ maxLen) (hn : n < 1) (h1 : 255 < r) :
    Calls Try.prog 6 #[.int .i64 r, .int .i64 c, .int .i64 n, .agg #[.int .i64 ar, .int .i64 ac, .slice aa an acap]] w fun e w' => e = .returned (.bool true) ∧ Below w.heap.size w w' := by
  have S0 := Lib.hid ((Bun.start w).box 24 [.int .i64 ar, .int .i64 ac, .slice aa an acap])
  go_enter Try.func6, Try.ntmps6
  go_wp2_with (first
    | (go_at_call 9; have h9 := S0.out; clear S0; refine (known_any _).mono ?_; rintro e w1 ⟨rfl, hb⟩; have S1 := Lib.hid (h9.after hb); clear h9 hb)
    | (go_at_call 19; have h9 := S1.out; clear S1; refine (identity_bad n _ (by omega)).mono ?_; rintro e w2 ⟨ev, he, hE, hb⟩; obtain ⟨b1, rfl, hE⟩ := err_open hE (by decide); have he2 : e = .returned (.tuple #[.agg #[.int .i64 0, .int .i64 0, .slice none 0 0], .iface 68 (.pointer (some ⟨b1, 0, none⟩))]) := he; subst he2; clear he; have S2 := Lib.hid (((h9.after hb).add (fun _ h => hE.after h)).box 24 [.int .i64 0, .int .i64 0, .slice none 0 0]); clear h9 hb hE)
    | (go_at_call 22; have h9 := S2.out; clear S2; refine (cauchy_bad r c _ (by omega)).mono ?_; rintro e w3 ⟨ev, he, hE, hb⟩; obtain ⟨b2, rfl, hE⟩ := err_open hE (by decide); have he2 : e = .returned (.tuple #[.agg #[.int .i64 0, .int .i64 0, .slice none 0 0], .iface 68 (.pointer (some ⟨b2, 0, none⟩))]) := he; subst he2; clear he; have hm := (((h9.after hb).add (fun _ h => hE.after h)).box 24 [.int .i64 0, .int .i64 0, .slice none 0 0]).map (fun x h => And.intro h.1.1.1.1.2 (And.intro h.1.1.1.2 (And.intro h.1.1.2 (And.intro h.1.2 h.2)))); obtain ⟨x0, x1, x2⟩ := box3 hm.here.1; have S3 := Lib.hid hm; clear h9 hb hE hm)
    | (go_at_call 23; have h9 := S3.out; clear S3; refine (rright_gen ar ac an aa acap _ hal).mono ?_; rintro e w4 ⟨rfl, hb⟩; have hm := h9.after hb; obtain ⟨y0, y1, y2⟩ := box3 hm.here.2.2.1; obtain ⟨z0, z1, z2⟩ := box3 hm.here.2.2.2.2; have S4 := Lib.hid hm; clear h9 hb hm)
    | (go_at_call 14; have h9 := S4.out; clear S4; refine (is0_bad b1 _).mono ?_; rintro e w' ⟨rfl, rfl⟩; have S5 := Lib.hid h9; clear h9)
    | (go_at_call 14; have h9 := S5.out; clear S5; refine (is_ok _ _ 1 _ h9.here.2.1).mono ?_; rintro e w' ⟨rfl, rfl⟩; have S6 := Lib.hid h9; clear h9)
    | (go_at_call 14; have h9 := S6.out; clear S6; refine (is0_bad b2 _).mono ?_; rintro e w' ⟨rfl, rfl⟩; have S7 := Lib.hid h9; clear h9)
    | (go_at_call 14; have h9 := S7.out; clear S7; refine (is_ok _ _ 1 _ h9.here.2.2.2.1).mono ?_; rintro e w' ⟨rfl, rfl⟩; have S8 := Lib.hid h9; clear h9)
    | (go_at_call 26; have h9 := S8.out; clear S8; refine (under_bad1 0 0 0 0 0 0 0 0 _ _ _ (by unfold maxLen; omega) (by unfold maxLen; omega) (Or.inl rfl)).mono ?_; rintro e w9 ⟨ev, he, hE, hb⟩; obtain ⟨b3, rfl, hE⟩ := err_open hE (by decide); have he2 : e = .returned (.tuple #[.agg #[.int .i64 0, .int .i64 0, .slice none 0 0], .iface 68 (.pointer (some ⟨b3, 0, none⟩))]) := he; subst he2; clear he; have hm := ((h9.after hb).add (fun _ h => hE.after h)).box 24 [.int .i64 0, .int .i64 0, .slice none 0 0]; obtain ⟨x0, x1, x2⟩ := box3 hm.here.1.1.1; have S9 := Lib.hid hm; clear h9 hb hE hm)
    | (go_at_call 14; have h9 := S9.out; clear S9; refine (is0_bad b3 _).mono ?_; rintro e w' ⟨rfl, rfl⟩; have S10 := Lib.hid h9; clear h9)
    | (go_at_call 14; have h9 := S10.out; clear S10; refine (is_ok _ _ 1 _ h9.here.1.2).mono ?_; rintro e w' ⟨rfl, rfl⟩; have S11 := Lib.hid h9; clear h9)
    | (go_at_call 27; have h9 := S11.out; clear S11; refine (right_gen ar ac an aa acap _ hal).mono ?_; rintro e w10 ⟨rfl, hb⟩; have S12 := Lib.hid (h9.after hb); clear h9 hb))
  go_ret
  exact ⟨rfl, S12.out.bel⟩
set_option maxRecDepth 100000 in
set_option maxHeartbeats 3200000 in
theorem mk_lo_b3 (r c : Int) (n : Int) (ar ac : Int) (an acap : Nat) (aa : Option Addr) (w : World) (hal : an ≤ maxLen) (hn : n < 1) (h1 : 1 ≤ r) (h2 : r ≤ 40) (h3 : c < 1) :
    Calls Try.prog 6 #[.int .i64 r, .int .i64 c, .int .i64 n, .agg #[.int .i64 ar, .int .i64 ac, .slice aa an acap]] w fun e w' => e = .returned (.bool true) ∧ Below w.heap.size w w' := by
  have S0 := Lib.hid ((Bun.start w).box 24 [.int .i64 ar, .int .i64 ac, .slice aa an acap])
  go_enter Try.func6, Try.ntmps6
  go_wp2_with (first
    | (go_at_call 9; have h9 := S0.out; clear S0; refine (known_any _).mono ?_; rintro e w1 ⟨rfl, hb⟩; have S1 := Lib.hid (h9.after hb); clear h9 hb)
    | (go_at_call 19; have h9 := S1.out; clear S1; refine (identity_bad n _ (by omega)).mono ?_; rintro e w2 ⟨ev, he, hE, hb⟩; obtain ⟨b1, rfl, hE⟩ := err_open hE (by decide); have he2 : e = .returned (.tuple #[.agg #[.int .i64 0, .int .i64 0, .slice none 0 0], .iface 68 (.pointer (some ⟨b1, 0, none⟩))]) := he; subst he2; clear he; have S2 := Lib.hid (((h9.after hb).add (fun _ h => hE.after h)).box 24 [.int .i64 0, .int .i64 0, .slice none 0 0]); clear h9 hb hE)
    | (go_at_call 22; have h9 := S2.out; clear S2; refine (cauchy_bad r c _ (by omega)).mono ?_; rintro e w3 ⟨ev, he, hE, hb⟩; obtain ⟨b2, rfl, hE⟩ := err_open hE (by decide); have he2 : e = .returned (.tuple #[.agg #[.int .i64 0, .int .i64 0, .slice none 0 0], .iface 68 (.pointer (some ⟨b2, 0, none⟩))]) := he; subst he2; clear he; have hm := (((h9.after hb).add (fun _ h => hE.after h)).box 24 [.int .i64 0, .int .i64 0, .slice none 0 0]).map (fun x h => And.intro h.1.1.1.1.2 (And.intro h.1.1.1.2 (And.intro h.1.1.2 (And.intro h.1.2 h.2)))); obtain ⟨x0, x1, x2⟩ := box3 hm.here.1; have S3 := Lib.hid hm; clear h9 hb hE hm)
    | (go_at_call 23; have h9 := S3.out; clear S3; refine (rright_gen ar ac an aa acap _ hal).mono ?_; rintro e w4 ⟨rfl, hb⟩; have hm := h9.after hb; obtain ⟨y0, y1, y2⟩ := box3 hm.here.2.2.1; obtain ⟨z0, z1, z2⟩ := box3 hm.here.2.2.2.2; have S4 := Lib.hid hm; clear h9 hb hm)
    | (go_at_call 14; have h9 := S4.out; clear S4; refine (is0_bad b1 _).mono ?_; rintro e w' ⟨rfl, rfl⟩; have S5 := Lib.hid h9; clear h9)
    | (go_at_call 14; have h9 := S5.out; clear S5; refine (is_ok _ _ 1 _ h9.here.2.1).mono ?_; rintro e w' ⟨rfl, rfl⟩; have S6 := Lib.hid h9; clear h9)
    | (go_at_call 14; have h9 := S6.out; clear S6; refine (is0_bad b2 _).mono ?_; rintro e w' ⟨rfl, rfl⟩; have S7 := Lib.hid h9; clear h9)
    | (go_at_call 14; have h9 := S7.out; clear S7; refine (is_ok _ _ 1 _ h9.here.2.2.2.1).mono ?_; rintro e w' ⟨rfl, rfl⟩; have S8 := Lib.hid h9; clear h9)
    | (go_at_call 26; have h9 := S8.out; clear S8; refine (under_bad1 0 0 0 0 0 0 0 0 _ _ _ (by unfold maxLen; omega) (by unfold maxLen; omega) (Or.inl rfl)).mono ?_; rintro e w9 ⟨ev, he, hE, hb⟩; obtain ⟨b3, rfl, hE⟩ := err_open hE (by decide); have he2 : e = .returned (.tuple #[.agg #[.int .i64 0, .int .i64 0, .slice none 0 0], .iface 68 (.pointer (some ⟨b3, 0, none⟩))]) := he; subst he2; clear he; have hm := ((h9.after hb).add (fun _ h => hE.after h)).box 24 [.int .i64 0, .int .i64 0, .slice none 0 0]; obtain ⟨x0, x1, x2⟩ := box3 hm.here.1.1.1; have S9 := Lib.hid hm; clear h9 hb hE hm)
    | (go_at_call 14; have h9 := S9.out; clear S9; refine (is0_bad b3 _).mono ?_; rintro e w' ⟨rfl, rfl⟩; have S10 := Lib.hid h9; clear h9)
    | (go_at_call 14; have h9 := S10.out; clear S10; refine (is_ok _ _ 1 _ h9.here.1.2).mono ?_; rintro e w' ⟨rfl, rfl⟩; have S11 := Lib.hid h9; clear h9)
    | (go_at_call 27; have h9 := S11.out; clear S11; refine (right_gen ar ac an aa acap _ hal).mono ?_; rintro e w10 ⟨rfl, hb⟩; have S12 := Lib.hid (h9.after hb); clear h9 hb))
  go_ret
  exact ⟨rfl, S12.out.bel⟩
set_option maxRecDepth 100000 in
set_option maxHeartbeats 3200000 in
theorem mk_lo_b4 (r c : Int) (n : Int) (ar ac : Int) (an acap : Nat) (aa : Option Addr) (w : World) (hal : an ≤ maxLen) (hn : n < 1) (h1 : 40 < r) (h2 : r ≤ 255) (h3 : c < 1) :
    Calls Try.prog 6 #[.int .i64 r, .int .i64 c, .int .i64 n, .agg #[.int .i64 ar, .int .i64 ac, .slice aa an acap]] w fun e w' => e = .returned (.bool true) ∧ Below w.heap.size w w' := by
  have S0 := Lib.hid ((Bun.start w).box 24 [.int .i64 ar, .int .i64 ac, .slice aa an acap])
  go_enter Try.func6, Try.ntmps6
  go_wp2_with (first
    | (go_at_call 9; have h9 := S0.out; clear S0; refine (known_any _).mono ?_; rintro e w1 ⟨rfl, hb⟩; have S1 := Lib.hid (h9.after hb); clear h9 hb)
    | (go_at_call 19; have h9 := S1.out; clear S1; refine (identity_bad n _ (by omega)).mono ?_; rintro e w2 ⟨ev, he, hE, hb⟩; obtain ⟨b1, rfl, hE⟩ := err_open hE (by decide); have he2 : e = .returned (.tuple #[.agg #[.int .i64 0, .int .i64 0, .slice none 0 0], .iface 68 (.pointer (some ⟨b1, 0, none⟩))]) := he; subst he2; clear he; have S2 := Lib.hid (((h9.after hb).add (fun _ h => hE.after h)).box 24 [.int .i64 0, .int .i64 0, .slice none 0 0]); clear h9 hb hE)
    | (go_at_call 22; have h9 := S2.out; clear S2; refine (cauchy_bad r c _ (by omega)).mono ?_; rintro e w3 ⟨ev, he, hE, hb⟩; obtain ⟨b2, rfl, hE⟩ := err_open hE (by decide); have he2 : e = .returned (.tuple #[.agg #[.int .i64 0, .int .i64 0, .slice none 0 0], .iface 68 (.pointer (some ⟨b2, 0, none⟩))]) := he; subst he2; clear he; have hm := (((h9.after hb).add (fun _ h => hE.after h)).box 24 [.int .i64 0, .int .i64 0, .slice none 0 0]).map (fun x h => And.intro h.1.1.1.1.2 (And.intro h.1.1.1.2 (And.intro h.1.1.2 (And.intro h.1.2 h.2)))); obtain ⟨x0, x1, x2⟩ := box3 hm.here.1; have S3 := Lib.hid hm; clear h9 hb hE hm)
    | (go_at_call 23; have h9 := S3.out; clear S3; refine (rright_gen ar ac an aa acap _ hal).mono ?_; rintro e w4 ⟨rfl, hb⟩; have hm := h9.after hb; obtain ⟨y0, y1, y2⟩ := box3 hm.here.2.2.1; obtain ⟨z0, z1, z2⟩ := box3 hm.here.2.2.2.2; have S4 := Lib.hid hm; clear h9 hb hm)
    | (go_at_call 14; have h9 := S4.out; clear S4; refine (is0_bad b1 _).mono ?_; rintro e w' ⟨rfl, rfl⟩; have S5 := Lib.hid h9; clear h9)
    | (go_at_call 14; have h9 := S5.out; clear S5; refine (is_ok _ _ 1 _ h9.here.2.1).mono ?_; rintro e w' ⟨rfl, rfl⟩; have S6 := Lib.hid h9; clear h9)
    | (go_at_call 14; have h9 := S6.out; clear S6; refine (is0_bad b2 _).mono ?_; rintro e w' ⟨rfl, rfl⟩; have S7 := Lib.hid h9; clear h9)
    | (go_at_call 14; have h9 := S7.out; clear S7; refine (is_ok _ _ 1 _ h9.here.2.2.2.1).mono ?_; rintro e w' ⟨rfl, rfl⟩; have S8 := Lib.hid h9; clear h9)
    | (go_at_call 26; have h9 := S8.out; clear S8; refine (under_bad1 0 0 0 0 0 0 0 0 _ _ _ (by unfold maxLen; omega) (by unfold maxLen; omega) (Or.inl rfl)).mono ?_; rintro e w9 ⟨ev, he, hE, hb⟩; obtain ⟨b3, rfl, hE⟩ := err_open hE (by decide); have he2 : e = .returned (.tuple #[.agg #[.int .i64 0, .int .i64 0, .slice none 0 0], .iface 68 (.pointer (some ⟨b3, 0, none⟩))]) := he; subst he2; clear he; have hm := ((h9.after hb).add (fun _ h => hE.after h)).box 24 [.int .i64 0, .int .i64 0, .slice none 0 0]; obtain ⟨x0, x1, x2⟩ := box3 hm.here.1.1.1; have S9 := Lib.hid hm; clear h9 hb hE hm)
    | (go_at_call 14; have h9 := S9.out; clear S9; refine (is0_bad b3 _).mono ?_; rintro e w' ⟨rfl, rfl⟩; have S10 := Lib.hid h9; clear h9)
    | (go_at_call 14; have h9 := S10.out; clear S10; refine (is_ok _ _ 1 _ h9.here.1.2).mono ?_; rintro e w' ⟨rfl, rfl⟩; have S11 := Lib.hid h9; clear h9)
    | (go_at_call 27; have h9 := S11.out; clear S11; refine (right_gen ar ac an aa acap _ hal).mono ?_; rintro e w10 ⟨rfl, hb⟩; have S12 := Lib.hid (h9.after hb); clear h9 hb))
  go_ret
  exact ⟨rfl, S12.out.bel⟩
set_option maxRecDepth 100000 in
set_option maxHeartbeats 3200000 in
theorem mk_lo_b5 (r c : Int) (n : Int) (ar ac : Int) (an acap : Nat) (aa : Option Addr) (w : World) (hal : an ≤ maxLen) (hn : n < 1) (h1 : 1 ≤ r) (h2 : r ≤ 40) (h3 : 255 < c) :
    Calls Try.prog 6 #[.int .i64 r, .int .i64 c, .int .i64 n, .agg #[.int .i64 ar, .int .i64 ac, .slice aa an acap]] w fun e w' => e = .returned (.bool true) ∧ Below w.heap.size w w' := by
  have S0 := Lib.hid ((Bun.start w).box 24 [.int .i64 ar, .int .i64 ac, .slice aa an acap])
  go_enter Try.func6, Try.ntmps6
  go_wp2_with (first
    | (go_at_call 9; have h9 := S0.out; clear S0; refine (known_any _).mono ?_; rintro e w1 ⟨rfl, hb⟩; have S1 := Lib.hid (h9.after hb); clear h9 hb)
    | (go_at_call 19; have h9 := S1.out; clear S1; refine (identity_bad n _ (by omega)).mono ?_; rintro e w2 ⟨ev, he, hE, hb⟩; obtain ⟨b1, rfl, hE⟩ := err_open hE (by decide); have he2 : e = .returned (.tuple #[.agg #[.int .i64 0, .int .i64 0, .slice none 0 0], .iface 68 (.pointer (some ⟨b1, 0, none⟩))]) := he; subst he2; clear he; have S2 := Lib.hid (((h9.after hb).add (fun _ h => hE.after h)).box 24 [.int .i64 0, .int .i64 0, .slice none 0 0]); clear h9 hb hE)
    | (go_at_call 22; have h9 := S2.out; clear S2; refine (cauchy_bad r c _ (by omega)).mono ?_; rintro e w3 ⟨ev, he, hE, hb⟩; obtain ⟨b2, rfl, hE⟩ := err_open hE (by decide); have he2 : e = .returned (.tuple #[.agg #[.int .i64 0, .int .i64 0, .slice none 0 0], .iface 68 (.pointer (some ⟨b2, 0, none⟩))]) := he; subst he2; clear he; have hm := (((h9.after hb).add (fun _ h => hE.after h)).box 24 [.int .i64 0, .int .i64 0, .slice none 0 0]).map (fun x h => And.intro h.1.1.1.1.2 (And.intro h.1.1.1.2 (And.intro h.1.1.2 (And.intro h.1.2 h.2)))); obtain ⟨x0, x1, x2⟩ := box3 hm.here.1; have S3 := Lib.hid hm; clear h9 hb hE hm)
    | (go_at_call 23; have h9 := S3.out; clear S3; refine (rright_gen ar ac an aa acap _ hal).mono ?_; rintro e w4 ⟨rfl, hb⟩; have hm := h9.after hb; obtain ⟨y0, y1, y2⟩ := box3 hm.here.2.2.1; obtain ⟨z0, z1, z2⟩ := box3 hm.here.2.2.2.2; have S4 := Lib.hid hm; clear h9 hb hm)
    | (go_at_call 14; have h9 := S4.out; clear S4; refine (is0_bad b1 _).mono ?_; rintro e w' ⟨rfl, rfl⟩; have S5 := Lib.hid h9; clear h9)
    | (go_at_call 14; have h9 := S5.out; clear S5; refine (is_ok _ _ 1 _ h9.here.2.1).mono ?_; rintro e w' ⟨rfl, rfl⟩; have S6 := Lib.hid h9; clear h9)
    | (go_at_call 14; have h9 := S6.out; clear S6; refine (is0_bad b2 _).mono ?_; rintro e w' ⟨rfl, rfl⟩; have S7 := Lib.hid h9; clear h9)
    | (go_at_call 14; have h9 := S7.out; clear S7; refine (is_ok _ _ 1 _ h9.here.2.2.2.1).mono ?_; rintro e w' ⟨rfl, rfl⟩; have S8 := Lib.hid h9; clear h9)
    | (go_at_call 26; have h9 := S8.out; clear S8; refine (under_bad1 0 0 0 0 0 0 0 0 _ _ _ (by unfold maxLen; omega) (by unfold maxLen; omega) (Or.inl rfl)).mono ?_; rintro e w9 ⟨ev, he, hE, hb⟩; obtain ⟨b3, rfl, hE⟩ := err_open hE (by decide); have he2 : e = .returned (.tuple #[.agg #[.int .i64 0, .int .i64 0, .slice none 0 0], .iface 68 (.pointer (some ⟨b3, 0, none⟩))]) := he; subst he2; clear he; have hm := ((h9.after hb).add (fun _ h => hE.after h)).box 24 [.int .i64 0, .int .i64 0, .slice none 0 0]; obtain ⟨x0, x1, x2⟩ := box3 hm.here.1.1.1; have S9 := Lib.hid hm; clear h9 hb hE hm)
    | (go_at_call 14; have h9 := S9.out; clear S9; refine (is0_bad b3 _).mono ?_; rintro e w' ⟨rfl, rfl⟩; have S10 := Lib.hid h9; clear h9)
    | (go_at_call 14; have h9 := S10.out; clear S10; refine (is_ok _ _ 1 _ h9.here.1.2).mono ?_; rintro e w' ⟨rfl, rfl⟩; have S11 := Lib.hid h9; clear h9)
    | (go_at_call 27; have h9 := S11.out; clear S11; refine (right_gen ar ac an aa acap _ hal).mono ?_; rintro e w10 ⟨rfl, hb⟩; have S12 := Lib.hid (h9.after hb); clear h9 hb))
  go_ret
  exact ⟨rfl, S12.out.bel⟩
set_option maxRecDepth 100000 in
set_option maxHeartbeats 3200000 in
theorem mk_lo_b6 (r c : Int) (n : Int) (ar ac : Int) (an acap : Nat) (aa : Option Addr) (w : World) (hal : an ≤ maxLen) (hn : n < 1) (h1 : 40 < r) (h2 : r ≤ 255) (h3 : 255 < c) :
    Calls Try.prog 6 #[.int .i64 r, .int .i64 c, .int .i64 n, .agg #[.int .i64 ar, .int .i64 ac, .slice aa an acap]] w fun e w' => e = .returned (.bool true) ∧ Below w.heap.size w w' := by
  have S0 := Lib.hid ((Bun.start w).box 24 [.int .i64 ar, .int .i64 ac, .slice aa an acap])
  go_enter Try.func6, Try.ntmps6
  go_wp2_with (first
    | (go_at_call 9; have h9 := S0.out; clear S0; refine (known_any _).mono ?_; rintro e w1 ⟨rfl, hb⟩; have S1 := Lib.hid (h9.after hb); clear h9 hb)
    | (go_at_call 19; have h9 := S1.out; clear S1; refine (identity_bad n _ (by omega)).mono ?_; rintro e w2 ⟨ev, he, hE, hb⟩; obtain ⟨b1, rfl, hE⟩ := err_open hE (by decide); have he2 : e = .returned (.tuple #[.agg #[.int .i64 0, .int .i64 0, .slice none 0 0], .iface 68 (.pointer (some ⟨b1, 0, none⟩))]) := he; subst he2; clear he; have S2 := Lib.hid (((h9.after hb).add (fun _ h => hE.after h)).box 24 [.int .i64 0, .int .i64 0, .slice none 0 0]); clear h9 hb hE)
    | (go_at_call 22; have h9 := S2.out; clear S2; refine (cauchy_bad r c _ (by omega)).mono ?_; rintro e w3 ⟨ev, he, hE, hb⟩; obtain ⟨b2, rfl, hE⟩ := err_open hE (by decide); have he2 : e = .returned (.tuple #[.agg #[.int .i64 0, .int .i64 0, .slice none 0 0], .iface 68 (.pointer (some ⟨b2, 0, none⟩))]) := he; subst he2; clear he; have hm := (((h9.after hb).add (fun _ h => hE.after h)).box 24 [.int .i64 0, .int .i64 0, .slice none 0 0]).map (fun x h => And.intro h.1.1.1.1.2 (And.intro h.1.1.1.2 (And.intro h.1.1.2 (And.intro h.1.2 h.2)))); obtain ⟨x0, x1, x2⟩ := box3 hm.here.1; have S3 := Lib.hid hm; clear h9 hb hE hm)
    | (go_at_call 23; have h9 := S3.out; clear S3; refine (rright_gen ar ac an aa acap _ hal).mono ?_; rintro e w4 ⟨rfl, hb⟩; have hm := h9.after hb; obtain ⟨y0, y1, y2⟩ := box3 hm.here.2.2.1; obtain ⟨z0, z1, z2⟩ := box3 hm.here.2.2.2.2; have S4 := Lib.hid hm; clear h9 hb hm)
    | (go_at_call 14; have h9 := S4.out; clear S4; refine (is0_bad b1 _).mono ?_; rintro e w' ⟨rfl, rfl⟩; have S5 := Lib.hid h9; clear h9)
    | (go_at_call 14; have h9 := S5.out; clear S5; refine (is_ok _ _ 1 _ h9.here.2.1).mono ?_; rintro e w' ⟨rfl, rfl⟩; have S6 := Lib.hid h9; clear h9)
    | (go_at_call 14; have h9 := S6.out; clear S6; refine (is0_bad b2 _).mono ?_; rintro e w' ⟨rfl, rfl⟩; have S7 := Lib.hid h9; clear h9)
    | (go_at_call 14; have h9 := S7.out; clear S7; refine (is_ok _ _ 1 _ h9.here.2.2.2.1).mono ?_; rintro e w' ⟨rfl, rfl⟩; have S8 := Lib.hid h9; clear h9)
    | (go_at_call 26; have h9 := S8.out; clear S8; refine (under_bad1 0 0 0 0 0 0 0 0 _ _ _ (by unfold maxLen; omega) (by unfold maxLen; omega) (Or.inl rfl)).mono ?_; rintro e w9 ⟨ev, he, hE, hb⟩; obtain ⟨b3, rfl, hE⟩ := err_open hE (by decide); have he2 : e = .returned (.tuple #[.agg #[.int .i64 0, .int .i64 0, .slice none 0 0], .iface 68 (.pointer (some ⟨b3, 0, none⟩))]) := he; subst he2; clear he; have hm := ((h9.after hb).add (fun _ h => hE.after h)).box 24 [.int .i64 0, .int .i64 0, .slice none 0 0]; obtain ⟨x0, x1, x2⟩ := box3 hm.here.1.1.1; have S9 := Lib.hid hm; clear h9 hb hE hm)
    | (go_at_call 14; have h9 := S9.out; clear S9; refine (is0_bad b3 _).mono ?_; rintro e w' ⟨rfl, rfl⟩; have S10 := Lib.hid h9; clear h9)
    | (go_at_call 14; have h9 := S10.out; clear S10; refine (is_ok _ _ 1 _ h9.here.1.2).mono ?_; rintro e w' ⟨rfl, rfl⟩; have S11 := Lib.hid h9; clear h9)
    | (go_at_call 27; have h9 := S11.out; clear S11; refine (right_gen ar ac an aa acap _ hal).mono ?_; rintro e w10 ⟨rfl, hb⟩; have S12 := Lib.hid (h9.after hb); clear h9 hb))
  go_ret
  exact ⟨rfl, S12.out.bel⟩
set_option maxRecDepth 100000 in
set_option maxHeartbeats 3200000 in
theorem mk_lo_b7 (r c : Int) (n : Int) (ar ac : Int) (an acap : Nat) (aa : Option Addr) (w : World) (hal : an ≤ maxLen) (hn : n < 1) (h1 : 1 ≤ r) (h2 : r ≤ 40) (h3 : 40 < c) (h4 : c ≤ 255) (h5 : 256 < r + c) :
    Calls Try.prog 6 #[.int .i64 r, .int .i64 c, .int .i64 n, .agg #[.int .i64 ar, .int .i64 ac, .slice aa an acap]] w fun e w' => e = .returned (.bool true) ∧ Below w.heap.size w w' := by
  have S0 := Lib.hid ((Bun.start w).box 24 [.int .i64 ar, .int .i64 ac, .slice aa an acap])
  go_enter Try.func6, Try.ntmps6
  go_wp2_with (first
    | (go_at_call 9; have h9 := S0.out; clear S0; refine (known_any _).mono ?_; rintro e w1 ⟨rfl, hb⟩; have S1 := Lib.hid (h9.after hb); clear h9 hb)
    | (go_at_call 19; have h9 := S1.out; clear S1; refine (identity_bad n _ (by omega)).mono ?_; rintro e w2 ⟨ev, he, hE, hb⟩; obtain ⟨b1, rfl, hE⟩ := err_open hE (by decide); have he2 : e = .returned (.tuple #[.agg #[.int .i64 0, .int .i64 0, .slice none 0 0], .iface 68 (.pointer (some ⟨b1, 0, none⟩))]) := he; subst he2; clear he; have S2 := Lib.hid (((h9.after hb).add (fun _ h => hE.after h)).box 24 [.int .i64 0, .int .i64 0, .slice none 0 0]); clear h9 hb hE)
    | (go_at_call 22; have h9 := S2.out; clear S2; refine (cauchy_bad r c _ (by omega)).mono ?_; rintro e w3 ⟨ev, he, hE, hb⟩; obtain ⟨b2, rfl, hE⟩ := err_open hE (by decide); have he2 : e = .returned (.tuple #[.agg #[.int .i64 0, .int .i64 0, .slice none 0 0], .iface 68 (.pointer (some ⟨b2, 0, none⟩))]) := he; subst he2; clear he; have hm := (((h9.after hb).add (fun _ h => hE.after h)).box 24 [.int .i64 0, .int .i64 0, .slice none 0 0]).map (fun x h => And.intro h.1.1.1.1.2 (And.intro h.1.1.1.2 (And.intro h.1.1.2 (And.intro h.1.2 h.2)))); obtain ⟨x0, x1, x2⟩ := box3 hm.here.1; have S3 := Lib.hid hm; clear h9 hb hE hm)
    | (go_at_call 23; have h9 := S3.out; clear S3; refine (rright_gen ar ac an aa acap _ hal).mono ?_; rintro e w4 ⟨rfl, hb⟩; have hm := h9.after hb; obtain ⟨y0, y1, y2⟩ := box3 hm.here.2.2.1; obtain ⟨z0, z1, z2⟩ := box3 hm.here.2.2.2.2; have S4 := Lib.hid hm; clear h9 hb hm)
    | (go_at_call 14; have h9 := S4.out; clear S4; refine (is0_bad b1 _).mono ?_; rintro e w' ⟨rfl, rfl⟩; have S5 := Lib.hid h9; clear h9)
    | (go_at_call 14; have h9 := S5.out; clear S5; refine (is_ok _ _ 1 _ h9.here.2.1).mono ?_; rintro e w' ⟨rfl, rfl⟩; have S6 := Lib.hid h9; clear h9)
    | (go_at_call 14; have h9 := S6.out; clear S6; refine (is0_bad b2 _).mono ?_; rintro e w' ⟨rfl, rfl⟩; have S7 := Lib.hid h9; clear h9)
    | (go_at_call 14; have h9 := S7.out; clear S7; refine (is_ok _ _ 1 _ h9.here.2.2.2.1).mono ?_; rintro e w' ⟨rfl, rfl⟩; have S8 := Lib.hid h9; clear h9)
    | (go_at_call 26; have h9 := S8.out; clear S8; refine (under_bad1 0 0 0 0 0 0 0 0 _ _ _ (by unfold maxLen; omega) (by unfold maxLen; omega) (Or.inl rfl)).mono ?_; rintro e w9 ⟨ev, he, hE, hb⟩; obtain ⟨b3, rfl, hE⟩ := err_open hE (by decide); have he2 : e = .returned (.tuple #[.agg #[.int .i64 0, .int .i64 0, .slice none 0 0], .iface 68 (.pointer (some ⟨b3, 0, none⟩))]) := he; subst he2; clear he; have hm := ((h9.after hb).add (fun _ h => hE.after h)).box 24 [.int .i64 0, .int .i64 0, .slice none 0 0]; obtain ⟨x0, x1, x2⟩ := box3 hm.here.1.1.1; have S9 := Lib.hid hm; clear h9 hb hE hm)
    | (go_at_call 14; have h9 := S9.out; clear S9; refine (is0_bad b3 _).mono ?_; rintro e w' ⟨rfl, rfl⟩; have S10 := Lib.hid h9; clear h9)
    | (go_at_call 14; have h9 := S10.out; clear S10; refine (is_ok _ _ 1 _ h9.here.1.2).mono ?_; rintro e w' ⟨rfl, rfl⟩; have S11 := Lib.hid h9; clear h9)
    | (go_at_call 27; have h9 := S11.out; clear S11; refine (right_gen ar ac an aa acap _ hal).mono ?_; rintro e w10 ⟨rfl, hb⟩; have S12 := Lib.hid (h9.after hb); clear h9 hb))
  go_ret
  exact ⟨rfl, S12.out.bel⟩
set_option maxRecDepth 100000 in
set_option maxHeartbeats 3200000 in
theorem mk_lo_b8 (r c : Int) (n : Int) (ar ac : Int) (an acap : Nat) (aa : Option Addr) (w : World) (hal : an ≤ maxLen) (hn : n < 1) (h1 : 40 < r) (h2 : r ≤ 255) (h3 : 1 ≤ c) (h4 : c ≤ 255) (h5 : 256 < r + c) :
    Calls Try.prog 6 #[.int .i64 r, .int .i64 c, .int .i64 n, .agg #[.int .i64 ar, .int .i64 ac, .slice aa an acap]] w fun e w' => e = .returned (.bool true) ∧ Below w.heap.size w w' := by
  have S0 := Lib.hid ((Bun.start w).box 24 [.int .i64 ar, .int .i64 ac, .slice aa an acap])
  go_enter Try.func6, Try.ntmps6
  go_wp2_with (first
    | (go_at_call 9; have h9 := S0.out; clear S0; refine (known_any _).mono ?_; rintro e w1 ⟨rfl, hb⟩; have S1 := Lib.hid (h9.after hb); clear h9 hb)
    | (go_at_call 19; have h9 := S1.out; clear S1; refine (identity_bad n _ (by omega)).mono ?_; rintro e w2 ⟨ev, he, hE, hb⟩; obtain ⟨b1, rfl, hE⟩ := err_open hE (by decide); have he2 : e = .returned (.tuple #[.agg #[.int .i64 0, .int .i64 0, .slice none 0 0], .iface 68 (.pointer (some ⟨b1, 0, none⟩))]) := he; subst he2; clear he; have S2 := Lib.hid (((h9.after hb).add (fun _ h => hE.after h)).box 24 [.int .i64 0, .int .i64 0, .slice none 0 0]); clear h9 hb hE)
    | (go_at_call 22; have h9 := S2.out; clear S2; refine (cauchy_bad r c _ (by omega)).mono ?_; rintro e w3 ⟨ev, he, hE, hb⟩; obtain ⟨b2, rfl, hE⟩ := err_open hE (by decide); have he2 : e = .returned (.tuple #[.agg #[.int .i64 0, .int .i64 0, .slice none 0 0], .iface 68 (.pointer (some ⟨b2, 0, none⟩))]) := he; subst he2; clear he; have hm := (((h9.after hb).add (fun _ h => hE.after h)).box 24 [.int .i64 0, .int .i64 0, .slice none 0 0]).map (fun x h => And.intro h.1.1.1.1.2 (And.intro h.1.1.1.2 (And.intro h.1.1.2 (And.intro h.1.2 h.2)))); obtain ⟨x0, x1, x2⟩ := box3 hm.here.1; have S3 := Lib.hid hm; clear h9 hb hE hm)
    | (go_at_call 23; have h9 := S3.out; clear S3; refine (rright_gen ar ac an aa acap _ hal).mono ?_; rintro e w4 ⟨rfl, hb⟩; have hm := h9.after hb; obtain ⟨y0, y1, y2⟩ := box3 hm.here.2.2.1; obtain ⟨z0, z1, z2⟩ := box3 hm.here.2.2.2.2; have S4 := Lib.hid hm; clear h9 hb hm)
    | (go_at_call 14; have h9 := S4.out; clear S4; refine (is0_bad b1 _).mono ?_; rintro e w' ⟨rfl, rfl⟩; have S5 := Lib.hid h9; clear h9)
    | (go_at_call 14; have h9 := S5.out; clear S5; refine (is_ok _ _ 1 _ h9.here.2.1).mono ?_; rintro e w' ⟨rfl, rfl⟩; have S6 := Lib.hid h9; clear h9)
    | (go_at_call 14; have h9 := S6.out; clear S6; refine (is0_bad b2 _).mono ?_; rintro e w' ⟨rfl, rfl⟩; have S7 := Lib.hid h9; clear h9)
    | (go_at_call 14; have h9 := S7.out; clear S7; refine (is_ok _ _ 1 _ h9.here.2.2.2.1).mono ?_; rintro e w' ⟨rfl, rfl⟩; have S8 := Lib.hid h9; clear h9)
    | (go_at_call 26; have h9 := S8.out; clear S8; refine (under_bad1 0 0 0 0 0 0 0 0 _ _ _ (by unfold maxLen; omega) (by unfold maxLen; omega) (Or.inl rfl)).mono ?_; rintro e w9 ⟨ev, he, hE, hb⟩; obtain ⟨b3, rfl, hE⟩ := err_open hE (by decide); have he2 : e = .returned (.tuple #[.agg #[.int .i64 0, .int .i64 0, .slice none 0 0], .iface 68 (.pointer (some ⟨b3, 0, none⟩))]) := he; subst he2; clear he; have hm := ((h9.after hb).add (fun _ h => hE.after h)).box 24 [.int .i64 0, .int .i64 0, .slice none 0 0]; obtain ⟨x0, x1, x2⟩ := box3 hm.here.1.1.1; have S9 := Lib.hid hm; clear h9 hb hE hm)
    | (go_at_call 14; have h9 := S9.out; clear S9; refine (is0_bad b3 _).mono ?_; rintro e w' ⟨rfl, rfl⟩; have S10 := Lib.hid h9; clear h9)
    | (go_at_call 14; have h9 := S10.out; clear S10; refine (is_ok _ _ 1 _ h9.here.1.2).mono ?_; rintro e w' ⟨rfl, rfl⟩; have S11 := Lib.hid h9; clear h9)
    | (go_at_call 27; have h9 := S11.out; clear S11; refine (right_gen ar ac an aa acap _ hal).mono ?_; rintro e w10 ⟨rfl, hb⟩; have S12 := Lib.hid (h9.after hb); clear h9 hb))
  go_ret
  exact ⟨rfl, S12.out.bel⟩
set_option maxRecDepth 100000 in
set_option maxHeartbeats 3200000 in
theorem mk_lo_k1 (r c : Nat) (n : Int) (ar ac : Int) (an acap : Nat) (aa : Option Addr) (w : World) (hal : an ≤ maxLen) (hn : n < 1) (h1 : (1 : Int) ≤ r) (h2 : (r : Int) ≤ 40) (h3 : (1 : Int) ≤ c) (h4 : (c : Int) ≤ 40) :
    Calls Try.prog 6 #[.int .i64 r, .int .i64 c, .int .i64 n, .agg #[.int .i64 ar, .int .i64 ac, .slice aa an acap]] w fun e w' => e = .returned (.bool true) ∧ Below w.heap.size w w' := by
  obtain ⟨s, hs⟩ : ∃ s, s = r * c := ⟨_, rfl⟩
  have s1 : s ≤ 255 * 255 := by rw [hs]; exact Nat.mul_le_mul (by omega) (by omega)
  have HS := Lib.hid hs
  clear hs
  have S0 := Lib.hid ((Bun.start w).box 24 [.int .i64 ar, .int .i64 ac, .slice aa an acap])
  go_enter Try.func6, Try.ntmps6
  go_wp2_with (first
    | (go_at_call 9; have h9 := S0.out; clear S0; refine (known_any _).mono ?_; rintro e w1 ⟨rfl, hb⟩; have S1 := Lib.hid (h9.after hb); clear h9 hb)
    | (go_at_call 19; have h9 := S1.out; clear S1; refine (identity_bad n _ (by omega)).mono ?_; rintro e w2 ⟨ev, he, hE, hb⟩; obtain ⟨b1, rfl, hE⟩ := err_open hE (by decide); have he2 : e = .returned (.tuple #[.agg #[.int .i64 0, .int .i64 0, .slice none 0 0], .iface 68 (.pointer (some ⟨b1, 0, none⟩))]) := he; subst he2; clear he; have S2 := Lib.hid (((h9.after hb).add (fun _ h => hE.after h)).box 24 [.int .i64 0, .int .i64 0, .slice none 0 0]); clear h9 hb hE)
    | (go_at_call 22; have h9 := S2.out; clear S2; refine (cauchy_ok r c _ (by omega) (by omega) (by omega) (by omega) (by omega)).mono ?_; rintro e w3 ⟨gc, he, hg, hrow, hb⟩; have he2 : e = .returned (.tuple #[.agg #[.int .i64 r, .int .i64 c, .slice (some ⟨gc, 0, none⟩) s s], .nilIface]) := (by rw [he, HS.out]; rfl); subst he2; clear he; have hm := ((((h9.after hb).add (fun _ h => (MatRd.of_row0 hrow).after h)).box 24 [.int .i64 r, .int .i64 c, .slice (some ⟨gc, 0, none⟩) s s])).map (fun x h => And.intro h.1.1.1.1.2 (And.intro h.1.1.1.2 (And.intro h.1.1.2 (And.intro h.1.2 h.2)))); obtain ⟨x0, x1, x2⟩ := box3 hm.here.1; have S3 := Lib.hid hm; clear h9 hb hrow hg hm)
    | (go_at_call 23; have h9 := S3.out; clear S3; refine (rright_gen ar ac an aa acap _ hal).mono ?_; rintro e w4 ⟨rfl, hb⟩; have hm := h9.after hb; obtain ⟨y0, y1, y2⟩ := box3 hm.here.2.2.1; obtain ⟨z0, z1, z2⟩ := box3 hm.here.2.2.2.2; have S4 := Lib.hid hm; clear h9 hb hm)
    | (go_at_call 14; have h9 := S4.out; clear S4; refine (is0_bad b1 _).mono ?_; rintro e w' ⟨rfl, rfl⟩; have S5 := Lib.hid h9; clear h9)
    | (go_at_call 14; have h9 := S5.out; clear S5; refine (is_ok _ _ 1 _ h9.here.2.1).mono ?_; rintro e w' ⟨rfl, rfl⟩; have S6 := Lib.hid h9; clear h9)
    | (go_at_call 14; have h9 := S6.out; clear S6; refine (is_ok 0 .nilIface 0 _ (ErrAt.ok0 _ _)).mono ?_; rintro e w' ⟨rfl, rfl⟩; have S7 := Lib.hid h9; clear h9)
    | (go_at_call 25; have h9 := S7.out; clear S7; refine (rcauchy_ok r c _ (by omega) (by omega) (by omega) (by omega) (by omega)).mono ?_; rintro e w7 ⟨gd, he, hg, hrow, hb⟩; have he2 : e = .returned (.tuple #[.agg #[.int .i64 r, .int .i64 c, .slice (some ⟨gd, 0, none⟩) s s], .int .i64 0]) := (by rw [he, HS.out]; rfl); subst he2; clear he; have hm := ((h9.after hb).add (fun _ h => (MatRd.of_row0 hrow).after h)).box 24 [.int .i64 r, .int .i64 c, .slice (some ⟨gd, 0, none⟩) s s]; obtain ⟨z0, z1, z2⟩ := box3 hm.here.1.1.2.2.2.2; have S8 := Lib.hid hm; clear h9 hb hrow hg hm)
    | (go_at_call 21; have h9 := S8.out; clear S8; refine (same_matn r c s gc gd s s (cau c) (cau c) _ HS.out (by omega) (by omega) (by omega) h9.here.1.1.2.2.2.1 h9.here.1.2 (fun _ _ _ _ => rfl)).mono ?_; rintro e w8 ⟨rfl, hb⟩; have hm := (h9.after hb).map (fun x h => h.1.1); obtain ⟨y0, y1, y2⟩ := box3 hm.here.2.2.1; have S9 := Lib.hid hm; clear h9 hb hm)
    | (go_at_call 26; have h9 := S9.out; clear S9; refine (under_bad1 0 0 0 0 0 0 0 0 _ _ _ (by unfold maxLen; omega) (by unfold maxLen; omega) (Or.inl rfl)).mono ?_; rintro e w9 ⟨ev, he, hE, hb⟩; obtain ⟨b3, rfl, hE⟩ := err_open hE (by decide); have he2 : e = .returned (.tuple #[.agg #[.int .i64 0, .int .i64 0, .slice none 0 0], .iface 68 (.pointer (some ⟨b3, 0, none⟩))]) := he; subst he2; clear he; have hm := ((h9.after hb).add (fun _ h => hE.after h)).box 24 [.int .i64 0, .int .i64 0, .slice none 0 0]; obtain ⟨x0, x1, x2⟩ := box3 hm.here.1.1.1; have S10 := Lib.hid hm; clear h9 hb hE hm)
    | (go_at_call 14; have h9 := S10.out; clear S10; refine (is0_bad b3 _).mono ?_; rintro e w' ⟨rfl, rfl⟩; have S11 := Lib.hid h9; clear h9)
    | (go_at_call 14; have h9 := S11.out; clear S11; refine (is_ok _ _ 1 _ h9.here.1.2).mono ?_; rintro e w' ⟨rfl, rfl⟩; have S12 := Lib.hid h9; clear h9)
    | (go_at_call 27; have h9 := S12.out; clear S12; refine (right_gen ar ac an aa acap _ hal).mono ?_; rintro e w10 ⟨rfl, hb⟩; have S13 := Lib.hid (h9.after hb); clear h9 hb))
  go_ret
  exact ⟨rfl, S13.out.bel⟩
set_option maxRecDepth 100000 in
set_option maxHeartbeats 3200000 in
theorem mk_lo_k2 (r c : Nat) (n : Int) (ar ac : Int) (an acap : Nat) (aa : Option Addr) (w : World) (hal : an ≤ maxLen) (hn : n < 1) (h1 : (1 : Int) ≤ r) (h2 : (r : Int) ≤ 40) (h3 : (40 : Int) < c) (h4 : (c : Int) ≤ 255) (h5 : (r : Int) + (c : Int) ≤ 256) :
    Calls Try.prog 6 #[.int .i64 r, .int .i64 c, .int .i64 n, .agg #[.int .i64 ar, .int .i64 ac, .slice aa an acap]] w fun e w' => e = .returned (.bool true) ∧ Below w.heap.size w w' := by
  obtain ⟨s, hs⟩ : ∃ s, s = r * c := ⟨_, rfl⟩
  have s1 : s ≤ 255 * 255 := by rw [hs]; exact Nat.mul_le_mul (by omega) (by omega)
  have HS := Lib.hid hs
  clear hs
  have S0 := Lib.hid ((Bun.start w).box 24 [.int .i64 ar, .int .i64 ac, .slice aa an acap])
  go_enter Try.func6, Try.ntmps6
  go_wp2_with (first
    | (go_at_call 9; have h9 := S0.out; clear S0; refine (known_any _).mono ?_; rintro e w1 ⟨rfl, hb⟩; have S1 := Lib.hid (h9.after hb); clear h9 hb)
    | (go_at_call 19; have h9 := S1.out; clear S1; refine (identity_bad n _ (by omega)).mono ?_; rintro e w2 ⟨ev, he, hE, hb⟩; obtain ⟨b1, rfl, hE⟩ := err_open hE (by decide); have he2 : e = .returned (.tuple #[.agg #[.int .i64 0, .int .i64 0, .slice none 0 0], .iface 68 (.pointer (some ⟨b1, 0, none⟩))]) := he; subst he2; clear he; have S2 := Lib.hid (((h9.after hb).add (fun _ h => hE.after h)).box 24 [.int .i64 0, .int .i64 0, .slice none 0 0]); clear h9 hb hE)
    | (go_at_call 22; have h9 := S2.out; clear S2; refine (cauchy_ok r c _ (by omega) (by omega) (by omega) (by omega) (by omega)).mono ?_; rintro e w3 ⟨gc, he, hg, hrow, hb⟩; have he2 : e = .returned (.tuple #[.agg #[.int .i64 r, .int .i64 c, .slice (some ⟨gc, 0, none⟩) s s], .nilIface]) := (by rw [he, HS.out]; rfl); subst he2; clear he; have hm := ((((h9.after hb).add (fun _ h => (MatRd.of_row0 hrow).after h)).box 24 [.int .i64 r, .int .i64 c, .slice (some ⟨gc, 0, none⟩) s s])).map (fun x h => And.intro h.1.1.1.1.2 (And.intro h.1.1.1.2 (And.intro h.1.1.2 (And.intro h.1.2 h.2)))); obtain ⟨x0, x1, x2⟩ := box3 hm.here.1; have S3 := Lib.hid hm; clear h9 hb hrow hg hm)
    | (go_at_call 23; have h9 := S3.out; clear S3; refine (rright_gen ar ac an aa acap _ hal).mono ?_; rintro e w4 ⟨rfl, hb⟩; have hm := h9.after hb; obtain ⟨y0, y1, y2⟩ := box3 hm.here.2.2.1; obtain ⟨z0, z1, z2⟩ := box3 hm.here.2.2.2.2; have S4 := Lib.hid hm; clear h9 hb hm)
    | (go_at_call 14; have h9 := S4.out; clear S4; refine (is0_bad b1 _).mono ?_; rintro e w' ⟨rfl, rfl⟩; have S5 := Lib.hid h9; clear h9)
    | (go_at_call 14; have h9 := S5.out; clear S5; refine (is_ok _ _ 1 _ h9.here.2.1).mono ?_; rintro e w' ⟨rfl, rfl⟩; have S6 := Lib.hid h9; clear h9)
    | (go_at_call 14; have h9 := S6.out; clear S6; refine (is_ok 0 .nilIface 0 _ (ErrAt.ok0 _ _)).mono ?_; rintro e w' ⟨rfl, rfl⟩; have S7 := Lib.hid h9; clear h9)
    | (go_at_call 26; have h9 := S7.out; clear S7; refine (under_bad1 0 0 0 0 0 0 0 0 _ _ _ (by unfold maxLen; omega) (by unfold maxLen; omega) (Or.inl rfl)).mono ?_; rintro e w9 ⟨ev, he, hE, hb⟩; obtain ⟨b3, rfl, hE⟩ := err_open hE (by decide); have he2 : e = .returned (.tuple #[.agg #[.int .i64 0, .int .i64 0, .slice none 0 0], .iface 68 (.pointer (some ⟨b3, 0, none⟩))]) := he; subst he2; clear he; have hm := ((h9.after hb).add (fun _ h => hE.after h)).box 24 [.int .i64 0, .int .i64 0, .slice none 0 0]; obtain ⟨x0, x1, x2⟩ := box3 hm.here.1.1.1; have S8 := Lib.hid hm; clear h9 hb hE hm)
    | (go_at_call 14; have h9 := S8.out; clear S8; refine (is0_bad b3 _).mono ?_; rintro e w' ⟨rfl, rfl⟩; have S9 := Lib.hid h9; clear h9)
    | (go_at_call 14; have h9 := S9.out; clear S9; refine (is_ok _ _ 1 _ h9.here.1.2).mono ?_; rintro e w' ⟨rfl, rfl⟩; have S10 := Lib.hid h9; clear h9)
    | (go_at_call 27; have h9 := S10.out; clear S10; refine (right_gen ar ac an aa acap _ hal).mono ?_; rintro e w10 ⟨rfl, hb⟩; have S11 := Lib.hid (h9.after hb); clear h9 hb))
  go_ret
  exact ⟨rfl, S11.out.bel⟩
set_option maxRecDepth 100000 in
set_option maxHeartbeats 3200000 in
theorem mk_lo_k3 (r c : Nat) (n : Int) (ar ac : Int) (an acap : Nat) (aa : Option Addr) (w : World) (hal : an ≤ maxLen) (hn : n < 1) (h1 : (40 : Int) < r) (h2 : (r : Int) ≤ 255) (h3 : (1 : Int) ≤ c) (h4 : (c : Int) ≤ 255) (h5 : (r : Int) + (c : Int) ≤ 256) :
    Calls Try.prog 6 #[.int .i64 r, .int .i64 c, .int .i64 n, .agg #[.int .i64 ar, .int .i64 ac, .slice aa an acap]] w fun e w' => e = .returned (.bool true) ∧ Below w.heap.size w w' := by
  obtain ⟨s, hs⟩ : ∃ s, s = r * c := ⟨_, rfl⟩
  have s1 : s ≤ 255 * 255 := by rw [hs]; exact Nat.mul_le_mul (by omega) (by omega)
  have HS := Lib.hid hs
  clear hs
  have S0 := Lib.hid ((Bun.start w).box 24 [.int .i64 ar, .int .i64 ac, .slice aa an acap])
  go_enter Try.func6, Try.ntmps6
  go_wp2_with (first
    | (go_at_call 9; have h9 := S0.out; clear S0; refine (known_any _).mono ?_; rintro e w1 ⟨rfl, hb⟩; have S1 := Lib.hid (h9.after hb); clear h9 hb)
    | (go_at_call 19; have h9 := S1.out; clear S1; refine (identity_bad n _ (by omega)).mono ?_; rintro e w2 ⟨ev, he, hE, hb⟩; obtain ⟨b1, rfl, hE⟩ := err_open hE (by decide); have he2 : e = .returned (.tuple #[.agg #[.int .i64 0, .int .i64 0, .slice none 0 0], .iface 68 (.pointer (some ⟨b1, 0, none⟩))]) := he; subst he2; clear he; have S2 := Lib.hid (((h9.after hb).add (fun _ h => hE.after h)).box 24 [.int .i64 0, .int .i64 0, .slice none 0 0]); clear h9 hb hE)
    | (go_at_call 22; have h9 := S2.out; clear S2; refine (cauchy_ok r c _ (by omega) (by omega) (by omega) (by omega) (by omega)).mono ?_; rintro e w3 ⟨gc, he, hg, hrow, hb⟩; have he2 : e = .returned (.tuple #[.agg #[.int .i64 r, .int .i64 c, .slice (some ⟨gc, 0, none⟩) s s], .nilIface]) := (by rw [he, HS.out]; rfl); subst he2; clear he; have hm := ((((h9.after hb).add (fun _ h => (MatRd.of_row0 hrow).after h)).box 24 [.int .i64 r, .int .i64 c, .slice (some ⟨gc, 0, none⟩) s s])).map (fun x h => And.intro h.1.1.1.1.2 (And.intro h.1.1.1.2 (And.intro h.1.1.2 (And.intro h.1.2 h.2)))); obtain ⟨x0, x1, x2⟩ := box3 hm.here.1; have S3 := Lib.hid hm; clear h9 hb hrow hg hm)
    | (go_at_call 23; have h9 := S3.out; clear S3; refine (rright_gen ar ac an aa acap _ hal).mono ?_; rintro e w4 ⟨rfl, hb⟩; have hm := h9.after hb; obtain ⟨y0, y1, y2⟩ := box3 hm.here.2.2.1; obtain ⟨z0, z1, z2⟩ := box3 hm.here.2.2.2.2; have S4 := Lib.hid hm; clear h9 hb hm)
    | (go_at_call 14; have h9 := S4.out; clear S4; refine (is0_bad b1 _).mono ?_; rintro e w' ⟨rfl, rfl⟩; have S5 := Lib.hid h9; clear h9)
    | (go_at_call 14; have h9 := S5.out; clear S5; refine (is_ok _ _ 1 _ h9.here.2.1).mono ?_; rintro e w' ⟨rfl, rfl⟩; have S6 := Lib.hid h9; clear h9)
    | (go_at_call 14; have h9 := S6.out; clear S6; refine (is_ok 0 .nilIface 0 _ (ErrAt.ok0 _ _)).mono ?_; rintro e w' ⟨rfl, rfl⟩; have S7 := Lib.hid h9; clear h9)
    | (go_at_call 26; have h9 := S7.out; clear S7; refine (under_bad1 0 0 0 0 0 0 0 0 _ _ _ (by unfold maxLen; omega) (by unfold maxLen; omega) (Or.inl rfl)).mono ?_; rintro e w9 ⟨ev, he, hE, hb⟩; obtain ⟨b3, rfl, hE⟩ := err_open hE (by decide); have he2 : e = .returned (.tuple #[.agg #[.int .i64 0, .int .i64 0, .slice none 0 0], .iface 68 (.pointer (some ⟨b3, 0, none⟩))]) := he; subst he2; clear he; have hm := ((h9.after hb).add (fun _ h => hE.after h)).box 24 [.int .i64 0, .int .i64 0, .slice none 0 0]; obtain ⟨x0, x1, x2⟩ := box3 hm.here.1.1.1; have S8 := Lib.hid hm; clear h9 hb hE hm)
    | (go_at_call 14; have h9 := S8.out; clear S8; refine (is0_bad b3 _).mono ?_; rintro e w' ⟨rfl, rfl⟩; have S9 := Lib.hid h9; clear h9)
    | (go_at_call 14; have h9 := S9.out; clear S9; refine (is_ok _ _ 1 _ h9.here.1.2).mono ?_; rintro e w' ⟨rfl, rfl⟩; have S10 := Lib.hid h9; clear h9)
    | (go_at_call 27; have h9 := S10.out; clear S10; refine (right_gen ar ac an aa acap _ hal).mono ?_; rintro e w10 ⟨rfl, hb⟩; have S11 := Lib.hid (h9.after hb); clear h9 hb))
  go_ret
  exact ⟨rfl, S11.out.bel⟩
end Go.Proofs.Ytbnfnijjldimkaa
