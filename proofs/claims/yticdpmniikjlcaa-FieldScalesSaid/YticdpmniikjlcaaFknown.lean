/-
  The walk of the examples that stand ahead of each law of the field.
-/
import Derived.Test.YticdpmniikjlcaaFscale
namespace Go.Proofs.Yticdpmniikjlcaa
open Go.RowKit
theorem bvk (n : Nat) (h : n < 256) : bv (n : Int) = BitVec.ofNat 8 n := bv_ofNat h
theorem known_facts : nv (ivv (bv 2)) = 142 ∧ nv (gm (bv 2) (bv 128)) = 29 ∧ nv (gm (bv 3) (bv 7)) = 9 ∧ lgi (bv 2) = 1 ∧ nv (pwi 2#8 8) = 29 ∧ nv (pwi 2#8 (-1)) = 142 ∧ nv (pwi (bv 0) 0) = 1 ∧ nv (bv 5 ^^^ bv 3) = 6 ∧ (bv 2 != 0#8) = true ∧ (bv 0 != 0#8) = false := by
  have e0 : bv 0 = 0#8 := bv_ofNat (n := 0) (by omega)
  have e2 : bv 2 = 2#8 := bv_ofNat (n := 2) (by omega)
  have e128 : bv 128 = 128#8 := bv_ofNat (n := 128) (by omega)
  have e3 : bv 3 = 3#8 := bv_ofNat (n := 3) (by omega)
  have e5 : bv 5 = 5#8 := bv_ofNat (n := 5) (by omega)
  have e7 : bv 7 = 7#8 := bv_ofNat (n := 7) (by omega)
  rw [e0, e2, e128, e3, e5, e7]
  simp only [nv_eq]
  decide +kernel
theorem known_scl : scl (bv 2) [1, 2] [3, 4] = [7, 10] := by
  have e2 : bv 2 = 2#8 := bv_ofNat (n := 2) (by omega)
  rw [e2]; decide +kernel
set_option maxRecDepth 100000 in
set_option maxHeartbeats 800000 in
theorem known_any (w : World) : Calls Try.prog 19 #[] w fun e w' => e = .returned (.bool true) ∧ Below w.heap.size w w' := by
  obtain ⟨f1, f2, f3, f4, f5, f6, f7, f8, f9, f10⟩ := known_facts
  have f11 := known_scl
  go_enter Try.func19, Try.ntmps19
  go_wp2_with (first
    | (go_at_call 22; refine (inv_any _ (by omega) (by omega) _).mono ?_; rintro e w' ⟨rfl, rfl⟩)
    | (go_at_call 20; refine (div_any _ _ (by omega) (by omega) (by omega) (by omega) _).mono ?_; rintro e w' ⟨rfl, rfl⟩)
    | (go_at_call 24; refine (log_any _ (by omega) (by omega) _).mono ?_; rintro e w1 ⟨rfl, hb1⟩)
    | (go_at_call 32; refine (scale_yes ⟨#[1, 2]⟩ ⟨#[3, 4]⟩ _ _ rfl (by decide) (by omega) (by omega)).mono ?_; rintro e w2 ⟨rfl, hb2⟩; have hb3 := hb1.trans (hb2.mono hb1.size); clear hb1 hb2)
    | (go_at_call 26; refine (add_any _ _ (by omega) (by omega) (by omega) (by omega) _).mono ?_; rintro e w' ⟨rfl, rfl⟩)
    | (go_at_call 27; refine (mul_any _ _ (by omega) (by omega) (by omega) (by omega) _).mono ?_; rintro e w' ⟨rfl, rfl⟩)
    | (go_at_call 31; refine (exp_any _ (by omega) (by omega) _).mono ?_; rintro e w' ⟨rfl, rfl⟩)
    | (go_at_call 29; refine (pow_any _ _ (by omega) (by omega) (by omega) (by omega) _).mono ?_; rintro e w' ⟨rfl, rfl⟩))
  go_ret
  exact ⟨rfl, by assumption⟩
end Go.Proofs.Yticdpmniikjlcaa
