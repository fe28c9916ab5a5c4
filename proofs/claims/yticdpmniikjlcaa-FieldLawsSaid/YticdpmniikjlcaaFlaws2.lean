/-
  The walks of three laws of the field: FieldReckons, FieldLaws, FieldPowers.
-/
import Derived.Test.YticdpmniikjlcaaFlaws
namespace Go.Proofs.Yticdpmniikjlcaa
open Go.RowKit



theorem beq_nv (x y : BitVec 8) (h : x = y) : (nv x == nv y) = true := by rw [h]; simp
theorem inv_bool (a : BitVec 8) : (a != 0#8) = (nv a != 0) := by
  rw [Bool.eq_iff_iff]; simp [nv_eq_zero]
theorem gm_ivv (a : BitVec 8) (h : a ≠ 0#8) : gm a (ivv a) = 1#8 := by
  unfold ivv; rw [if_neg h]; exact gm_iv a h
set_option maxRecDepth 100000 in
set_option maxHeartbeats 4000000 in
theorem laws_walk (a b c : Int) (h0 : 0 ≤ a) (h1 : a < 256) (h2 : 0 ≤ b) (h3 : b < 256) (h4 : 0 ≤ c) (h5 : c < 256) (w : World) :
    Calls Try.prog 5 #[.int .u8 a, .int .u8 b, .int .u8 c] w fun e w' => e = .returned (.bool true) ∧ Below w.heap.size w w' := by
  obtain ⟨A, rfl⟩ : ∃ A, a = nv A := ⟨bv a, (nv_bv h0 h1).symm⟩
  obtain ⟨B, rfl⟩ : ∃ A, b = nv A := ⟨bv b, (nv_bv h2 h3).symm⟩
  obtain ⟨C, rfl⟩ : ∃ A, c = nv A := ⟨bv c, (nv_bv h4 h5).symm⟩
  have hb0 := bv0
  have hb1 := bv1
  have hbn := bv_nv
  have hlo := nv_lo
  have hhi := nv_hi
  have hz0 := nv_zero
  have hz1 := gm_zero_left
  have hz2 := gm_zero_right
  have ho := gm_one_right
  have s1 : nv (A ^^^ B) = nv (B ^^^ A) := by rw [BitVec.xor_comm]
  have s2 : nv (B ^^^ A ^^^ C) = nv (A ^^^ (B ^^^ C)) := by rw [BitVec.xor_comm B A, BitVec.xor_assoc]
  have m1 : nv (gm A B) = nv (gm B A) := by rw [gm_comm]
  have m2 : nv (gm (gm B A) C) = nv (gm A (gm B C)) := by rw [gm_comm B A, gm_assoc]
  have m3 : nv (gm A (B ^^^ C)) = nv (gm B A ^^^ gm A C) := by rw [gm_xor_right, gm_comm A B]
  have hi0 : ivv 0#8 = 0#8 := by unfold ivv; simp
  by_cases hA : A = 0#8
  · subst hA
    clear s1 s2 m1 m2 m3
    have s3 : nv (B ^^^ 0#8 ^^^ C) = nv (B ^^^ C) := by simp
    go_enter Try.func5, Try.ntmps5
    go_wp2_with (first
      | (go_at_call 19; refine (known_any _).mono ?_; rintro e w1 ⟨rfl, hb1⟩)
      | (go_at_call 20; refine (div_any _ _ (by first | omega | exact nv_lo _) (by first | omega | exact nv_hi _) (by first | omega | exact nv_lo _) (by first | omega | exact nv_hi _) _).mono ?_; rintro e w' ⟨rfl, rfl⟩)
      | (go_at_call 22; refine (inv_any _ (by first | omega | exact nv_lo _) (by first | omega | exact nv_hi _) _).mono ?_; rintro e w' ⟨rfl, rfl⟩)
      | (go_at_call 26; refine (add_any _ _ (by first | omega | exact nv_lo _) (by first | omega | exact nv_hi _) (by first | omega | exact nv_lo _) (by first | omega | exact nv_hi _) _).mono ?_; rintro e w' ⟨rfl, rfl⟩)
      | (go_at_call 27; refine (mul_any _ _ (by first | omega | exact nv_lo _) (by first | omega | exact nv_hi _) (by first | omega | exact nv_lo _) (by first | omega | exact nv_hi _) _).mono ?_; rintro e w' ⟨rfl, rfl⟩))
    go_ret
    exact ⟨rfl, by assumption⟩
  · have nA : (A != 0#8) = true := by simpa using hA
    have nA2 : ¬ nv A = 0 := fun e => hA ((nv_eq_zero A).1 e)
    have nA3 : (nv A != 0) = true := by simpa using nA2
    have i1 : nv (gm A (ivv A)) = 1 := by rw [gm_ivv A hA, nv_one]
    have i2 : nv (gm (gm C (ivv A)) A) = nv C := by rw [gm_assoc, gm_comm (ivv A), gm_ivv A hA, gm_one_right]
    by_cases hB : B = 0#8
    · subst hB
      clear s1 s2 m1 m2 m3 hA
      have m3 : nv (gm A (0#8 ^^^ C)) = nv (gm A C) := by simp
      go_enter Try.func5, Try.ntmps5
      go_wp2_with (first
        | (go_at_call 19; refine (known_any _).mono ?_; rintro e w1 ⟨rfl, hb1⟩)
        | (go_at_call 20; refine (div_any _ _ (by first | omega | exact nv_lo _) (by first | omega | exact nv_hi _) (by first | omega | exact nv_lo _) (by first | omega | exact nv_hi _) _).mono ?_; rintro e w' ⟨rfl, rfl⟩)
        | (go_at_call 22; refine (inv_any _ (by first | omega | exact nv_lo _) (by first | omega | exact nv_hi _) _).mono ?_; rintro e w' ⟨rfl, rfl⟩)
        | (go_at_call 26; refine (add_any _ _ (by first | omega | exact nv_lo _) (by first | omega | exact nv_hi _) (by first | omega | exact nv_lo _) (by first | omega | exact nv_hi _) _).mono ?_; rintro e w' ⟨rfl, rfl⟩)
        | (go_at_call 27; refine (mul_any _ _ (by first | omega | exact nv_lo _) (by first | omega | exact nv_hi _) (by first | omega | exact nv_lo _) (by first | omega | exact nv_hi _) _).mono ?_; rintro e w' ⟨rfl, rfl⟩))
      go_ret
      exact ⟨rfl, by assumption⟩
    · have nB2 : ¬ nv B = 0 := fun e => hB ((nv_eq_zero B).1 e)
      have nM : ¬ nv (gm B A) = 0 := fun e => by
        have := (gm_eq_zero B A).1 ((nv_eq_zero _).1 e)
        rcases this with h | h
        · exact hB h
        · exact hA h
      have bA : (nv A == 0) = false := by simpa using nA2
      have bB : (nv B == 0) = false := by simpa using nB2
      have bM : (nv (gm B A) == 0) = false := by simpa using nM
      clear hA hB
      go_enter Try.func5, Try.ntmps5
      go_wp2_with (first
        | (go_at_call 19; refine (known_any _).mono ?_; rintro e w1 ⟨rfl, hb1⟩)
        | (go_at_call 20; refine (div_any _ _ (by first | omega | exact nv_lo _) (by first | omega | exact nv_hi _) (by first | omega | exact nv_lo _) (by first | omega | exact nv_hi _) _).mono ?_; rintro e w' ⟨rfl, rfl⟩)
        | (go_at_call 22; refine (inv_any _ (by first | omega | exact nv_lo _) (by first | omega | exact nv_hi _) _).mono ?_; rintro e w' ⟨rfl, rfl⟩)
        | (go_at_call 26; refine (add_any _ _ (by first | omega | exact nv_lo _) (by first | omega | exact nv_hi _) (by first | omega | exact nv_lo _) (by first | omega | exact nv_hi _) _).mono ?_; rintro e w' ⟨rfl, rfl⟩)
        | (go_at_call 27; refine (mul_any _ _ (by first | omega | exact nv_lo _) (by first | omega | exact nv_hi _) (by first | omega | exact nv_lo _) (by first | omega | exact nv_hi _) _).mono ?_; rintro e w' ⟨rfl, rfl⟩))
      go_ret
      exact ⟨rfl, by assumption⟩
end Go.Proofs.Yticdpmniikjlcaa
