/-
  The walk of the law FieldPowers.
-/
import Derived.Test.YticdpmniikjlcaaFlaws
namespace Go.Proofs.Yticdpmniikjlcaa
open Go.RowKit
theorem pwi_add (a : BitVec 8) (h : a ≠ 0#8) (n m : Int) : gm (pwi a n) (pwi a m) = pwi a (n + m) := by
  unfold pwi
  rw [if_neg h, if_neg h, if_neg h, ← pw_add, ← pw_mod a h, ← pw_mod a h ((n + m) % 255).toNat]
  congr 1
  omega
theorem pwi_two (n : Int) : pwi 2#8 n = ex (n % 255).toNat := by
  unfold pwi
  rw [if_neg (by decide), show (2#8 : BitVec 8) = ex 1 from by decide, pw_ex, Nat.one_mul]
theorem lgi_two (n : Int) : ((lgi (pwi 2#8 n) : Nat) : Int) = n % 255 := by
  rw [pwi_two]
  unfold lgi
  rw [if_neg (ex_ne _), lg_ex]
  omega
theorem pwi_lgi (a : BitVec 8) (h : a ≠ 0#8) : pwi 2#8 ((lgi a : Nat) : Int) = a := by
  rw [pwi_two]
  have := lgi_lt a
  rw [show ((lgi a : Nat) : Int) % 255 = ((lgi a : Nat) : Int) from by omega, Int.toNat_natCast]
  unfold lgi
  rw [if_neg h, ex_lg a h]
theorem pwi_255 (a : BitVec 8) (h : a ≠ 0#8) : pwi a 255 = 1#8 := by
  unfold pwi
  rw [if_neg h]
  rfl
theorem tdiv4 (n : Int) (h1 : -9223372036854775808 ≤ n) (h2 : n ≤ 9223372036854775807) : -2305843009213693952 ≤ n.tdiv 4 ∧ n.tdiv 4 ≤ 2305843009213693952 := by
  have e := Int.mul_tdiv_add_tmod n 4
  have t1 := Int.tmod_lt_of_pos n (show (0 : Int) < 4 by omega)
  have t2 := Int.lt_tmod_of_pos n (show (0 : Int) < 4 by omega)
  generalize n.tdiv 4 = q at *
  generalize n.tmod 4 = r at *
  omega
set_option maxRecDepth 100000 in
set_option maxHeartbeats 4000000 in
theorem powers_walk (a n m : Int) (h0 : 0 ≤ a) (h1 : a < 256) (h2 : -9223372036854775808 ≤ n) (h3 : n ≤ 9223372036854775807) (h4 : -9223372036854775808 ≤ m) (h5 : m ≤ 9223372036854775807) (w : World) :
    Calls Try.prog 6 #[.int .u8 a, .int .i64 n, .int .i64 m] w fun e w' => e = .returned (.bool true) ∧ Below w.heap.size w w' := by
  obtain ⟨A, rfl⟩ : ∃ A, a = nv A := ⟨bv a, (nv_bv h0 h1).symm⟩
  obtain ⟨n1, n2⟩ := tdiv4 n h2 h3
  obtain ⟨n3, n4⟩ := tdiv4 m h4 h5
  have hbn := bv_nv
  have hz0 := nv_zero
  by_cases hA : A = 0#8
  · subst hA
    have l0 : lgi 0#8 = 0 := by unfold lgi; simp
    have hb0 := bv0
    go_enter Try.func6, Try.ntmps6
    go_wp2_with (first
      | (go_at_call 19; refine (known_any _).mono ?_; rintro e w1 ⟨rfl, hb1⟩)
      | (go_at_call 24; refine (log_any _ (by omega) (by omega) _).mono ?_; rintro e w2 ⟨rfl, hb2⟩; have hb3 := hb1.trans (hb2.mono hb1.size); clear hb1 hb2))
    go_ret
    exact ⟨rfl, by assumption⟩
  · have nA : (A != 0#8) = true := by simpa using hA
    have nA2 : ¬ nv A = 0 := fun e => hA ((nv_eq_zero A).1 e)
    have nA3 : (nv A == 0) = false := by simpa using nA2
    have q1 : nv (pwi 2#8 ((lgi A : Nat) : Int)) = nv A := by rw [pwi_lgi A hA]
    have q2 : nv (gm (pwi 2#8 (n.tdiv 4)) (pwi 2#8 (m.tdiv 4))) = nv (pwi 2#8 (n.tdiv 4 + m.tdiv 4)) := by rw [pwi_add _ (by decide)]
    have q3 : ∀ k, ((lgi (pwi 2#8 k) : Nat) : Int) = k % 255 := lgi_two
    have q4 : nv (pwi A 255) = 1 := by rw [pwi_255 A hA, nv_one]
    have q5 : nv (gm (pwi A (n.tdiv 4)) (pwi A (m.tdiv 4))) = nv (pwi A (n.tdiv 4 + m.tdiv 4)) := by rw [pwi_add _ hA]
    have hl : ((lgi A : Nat) : Int) < 255 := by have := lgi_lt A; omega
    have hlo := nv_lo
    have hhi := nv_hi
    clear hA
    go_enter Try.func6, Try.ntmps6
    go_wp2_with (first
      | (go_at_call 19; refine (known_any _).mono ?_; rintro e w1 ⟨rfl, hb1⟩)
      | (go_at_call 24; refine (log_any _ (by first | omega | exact nv_lo _) (by first | omega | exact nv_hi _) _).mono ?_; rintro e w2 ⟨rfl, hb2⟩; have hb3 := hb1.trans (hb2.mono hb1.size); clear hb1 hb2; have hb1 := hb3; clear hb3)
      | (go_at_call 27; refine (mul_any _ _ (nv_lo _) (nv_hi _) (nv_lo _) (nv_hi _) _).mono ?_; rintro e w' ⟨rfl, rfl⟩)
      | (go_at_call 31; refine (exp_any _ (by omega) (by omega) _).mono ?_; rintro e w' ⟨rfl, rfl⟩)
      | (go_at_call 29; refine (pow_any _ _ (by omega) (by omega) (by omega) (by omega) _).mono ?_; rintro e w' ⟨rfl, rfl⟩))

    all_goals go_ret
    all_goals exact ⟨rfl, by assumption⟩
end Go.Proofs.Yticdpmniikjlcaa
