/-
  The walks of three laws of the field: FieldReckons, FieldLaws, FieldPowers.
-/
import Derived.Test.YticdpmniikjlcaaFknown
namespace Go.Proofs.Yticdpmniikjlcaa
open Go.RowKit
theorem bv2 : bv 2 = 2#8 := bv_ofNat (n := 2) (by omega)
theorem bv1 : bv 1 = 1#8 := bv_ofNat (n := 1) (by omega)
theorem bv0 : bv 0 = 0#8 := bv_ofNat (n := 0) (by omega)
set_option maxRecDepth 100000 in
set_option maxHeartbeats 1600000 in
theorem reckons_walk (a b n : Int) (h0 : 0 ≤ a) (h1 : a < 256) (h2 : 0 ≤ b) (h3 : b < 256) (h4 : -9223372036854775808 ≤ n) (h5 : n ≤ 9223372036854775807) (w : World) :
    Calls Try.prog 3 #[.int .u8 a, .int .u8 b, .int .i64 n] w fun e w' => e = .returned (.bool true) ∧ Below w.heap.size w w' := by
  have hx : bits .xor .u8 a b = nv (bv a ^^^ bv b) := by
    rw [← u8_xor_nv, nv_bv h0 h1, nv_bv h2 h3]
  have hb2 := bv2
  go_enter Try.func3, Try.ntmps3
  go_wp2_with (first
    | (go_at_call 19; refine (known_any _).mono ?_; rintro e w1 ⟨rfl, hb1⟩)
    | (go_at_call 20; refine (div_any _ _ h0 h1 h2 h3 _).mono ?_; rintro e w' ⟨rfl, rfl⟩)
    | (go_at_call 21; refine (rdiv_any _ _ h0 h1 h2 h3 _).mono ?_; rintro e w' ⟨rfl, rfl⟩)
    | (go_at_call 22; refine (inv_any _ h0 h1 _).mono ?_; rintro e w' ⟨rfl, rfl⟩)
    | (go_at_call 23; refine (rinv_any _ h0 h1 _).mono ?_; rintro e w' ⟨rfl, rfl⟩)
    | (go_at_call 24; refine (log_any _ h0 h1 _).mono ?_; rintro e w2 ⟨rfl, hb2⟩; have hb3 := hb1.trans (hb2.mono hb1.size); clear hb1 hb2)
    | (go_at_call 25; refine (rlog_any _ h0 h1 _).mono ?_; rintro e w' ⟨rfl, rfl⟩)
    | (go_at_call 26; refine (add_any _ _ h0 h1 h2 h3 _).mono ?_; rintro e w' ⟨rfl, rfl⟩)
    | (go_at_call 27; refine (mul_any _ _ h0 h1 h2 h3 _).mono ?_; rintro e w' ⟨rfl, rfl⟩)
    | (go_at_call 28; refine (rmul_any _ _ h0 h1 h2 h3 _).mono ?_; rintro e w' ⟨rfl, rfl⟩)
    | (go_at_call 31; refine (exp_any _ h4 h5 _).mono ?_; rintro e w' ⟨rfl, rfl⟩)
    | (go_at_call 30; refine (rpow_any _ _ (by omega) (by omega) h4 h5 _).mono ?_; rintro e w' ⟨rfl, rfl⟩)
    | (go_at_call 29; refine (pow_any _ _ h0 h1 h4 h5 _).mono ?_; rintro e w' ⟨rfl, rfl⟩))
  go_ret
  exact ⟨rfl, by assumption⟩
end Go.Proofs.Yticdpmniikjlcaa
