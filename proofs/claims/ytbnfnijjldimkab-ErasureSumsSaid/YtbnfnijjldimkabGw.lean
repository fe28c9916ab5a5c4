/-
  The walks of the field's functions: twice, Mul, Pow, Inv, Div, Exp.
-/
import Derived.Test.YtbnfnijjldimkabProg
import Derived.Test.YtbnfnijjldimkabNum
import Derived.WalkKit
import Derived.WalkSpells
import Derived.WalkLawsBesides
import Derived.Lib.Hide
namespace Go.Proofs.Ytbnfnijjldimkab
open Go.RowKit
theorem ret_int {k : IntKind} {a b : Int} (h : a = b) : Ending.returned (.int k a) = .returned (.int k b) := by rw [h]
theorem val_int {k : IntKind} {a b : Int} (h : a = b) : Value.int k a = .int k b := by rw [h]

set_option maxHeartbeats 400000 in
theorem twice_any (a : Int) (h0 : 0 ≤ a) (h1 : a < 256) (w : World) :
    Calls Try.prog 79 #[.int .u8 a] w fun e w' => e = .returned (.int .u8 (nv (xt (bv a)))) ∧ w = w' := by
  obtain ⟨A, rfl⟩ : ∃ A, a = nv A := ⟨bv a, (nv_bv h0 h1).symm⟩
  rw [bv_nv]
  by_cases h : 128 ≤ nv A
  · go_enter Try.func79, Try.ntmps79
    go_wp2
    go_ret
    exact ⟨ret_int (nv_xt_hi A h), rfl⟩
  · go_enter Try.func79, Try.ntmps79
    go_wp2
    go_ret
    exact ⟨ret_int (nv_xt_lo A (by omega)), rfl⟩

theorem mulRel (A B P T : BitVec 8) (h : P ^^^ gm A B = T) (b : Bool) (hb : B.getLsbD 0 = b) : (if b then P ^^^ A else P) ^^^ gm (xt A) (B >>> 1) = T := by
  rw [← h, gm_step A B, hb]
  cases b
  · simp [tk]
  · simp [tk, BitVec.xor_assoc]

set_option maxHeartbeats 400000 in
theorem mul_any (a b : Int) (h0 : 0 ≤ a) (h1 : a < 256) (h2 : 0 ≤ b) (h3 : b < 256) (w : World) :
    Calls Try.prog 72 #[.int .u8 a, .int .u8 b] w fun e w' => e = .returned (.int .u8 (nv (gm (bv a) (bv b)))) ∧ w = w' := by
  obtain ⟨A0, rfl⟩ : ∃ A, a = nv A := ⟨bv a, (nv_bv h0 h1).symm⟩
  obtain ⟨B0, rfl⟩ : ∃ A, b = nv A := ⟨bv b, (nv_bv h2 h3).symm⟩
  rw [bv_nv, bv_nv]
  go_enter Try.func72, Try.ntmps72
  go_wp2
  go_loop [0, 1, 5] (fun a b p => ∃ A B P : BitVec 8, a = .int .u8 (nv A) ∧ b = .int .u8 (nv B) ∧ p = .int .u8 (nv P) ∧ P ^^^ gm A B = gm A0 B0) (fun _ b _ => (intOf b).toNat)
  case atStart => exact ⟨A0, B0, 0#8, rfl, rfl, by rw [nv_zero], by simp⟩
  case round =>
    obtain ⟨A, B, P, rfl, rfl, rfl, hrel⟩ := hrel
    have H := Lib.hid hrel; clear hrel
    have ha := nv_lo A
    have ha' := nv_hi A
    have hb := nv_lo B
    have hb' := nv_hi B
    by_cases hz : 0 < nv B
    · cases hl : B.getLsbD 0
      all_goals
        have hk := u8_bit_nv B 0
        rw [hl] at hk
        have HL := Lib.hid hl; clear hl
        simp only [Int.pow_zero, Int.ediv_one] at hk
        go_wp2_with (go_at_call 79; refine (twice_any _ (by omega) (by omega) _).mono ?_; rintro e w' ⟨rfl, rfl⟩)
        go_round
        case measure => simp [intOf]; omega
        case rel => exact ⟨xt A, B >>> 1, _, by rw [bv_nv], val_int (nv_shr B 1), (by first | exact val_int (u8_xor_nv P A) | rfl), mulRel A B P _ H.out _ HL.out⟩
    · go_wp2
      go_ret
      have hB : B = 0#8 := (nv_eq_zero B).1 (by omega)
      exact ⟨ret_int (by rw [← H.out, hB, gm_zero_right]; simp), rfl⟩

set_option maxHeartbeats 400000 in
theorem pow_any (a n : Int) (h0 : 0 ≤ a) (h1 : a < 256) (h2 : -9223372036854775808 ≤ n) (h3 : n ≤ 9223372036854775807) (w : World) :
    Calls Try.prog 78 #[.int .u8 a, .int .i64 n] w fun e w' => e = .returned (.int .u8 (nv (pwi (bv a) n))) ∧ w = w' := by
  obtain ⟨A0, rfl⟩ : ∃ A, a = nv A := ⟨bv a, (nv_bv h0 h1).symm⟩
  rw [bv_nv]
  by_cases hA : nv A0 = 0
  · have eA : A0 = 0#8 := (nv_eq_zero A0).1 hA
    subst eA
    rw [nv_zero]
    by_cases hn : n = 0
    · subst hn
      go_enter Try.func78, Try.ntmps78
      go_wp2
      go_ret
      exact ⟨ret_int (by simp [pwi, nv_one]), rfl⟩
    · have hn' : (n == 0) = false := by simpa using hn
      have HN := Lib.hid hn; clear hn
      go_enter Try.func78, Try.ntmps78
      go_wp2
      go_ret
      exact ⟨ret_int (by simp [pwi, HN.out, nv_zero]), rfl⟩
  · have hA' : (nv A0 == 0) = false := by simpa using hA
    have hz : A0 ≠ 0#8 := fun e => hA ((nv_eq_zero A0).2 e)
    have HT : Hid (pwi A0 n = pw A0 (n % 255).toNat) := by unfold Hid; simp [pwi, hz]
    have HZ := Lib.hid hA; clear hA hz
    obtain ⟨t1, t2, t3, t4⟩ := tmod255 n
    generalize hT : pwi A0 n = T at *
    have T1 := Lib.hid t1
    have T2 := Lib.hid t2
    clear t1 t2
    have HS : Hid (T = pw A0 (n % 255).toNat) := HT
    clear HT hT
    by_cases hneg : n.tmod 255 < 0
    all_goals
      go_enter Try.func78, Try.ntmps78
      go_wp2
      go_loop [0, 1, 5] (fun a n p => ∃ (A P : BitVec 8) (k : Nat), k < 255 ∧ a = .int .u8 (nv A) ∧ n = .int .i64 k ∧ p = .int .u8 (nv P) ∧ gm P (pw A k) = T) (fun _ n _ => (intOf n).toNat)
      case atStart => exact ⟨A0, 1#8, (n % 255).toNat, by omega, rfl, val_int (by first | (rw [T1.out (by omega)]; omega) | (rw [T2.out (by omega)]; omega)), by rw [nv_one], by rw [gm_one_left, HS.out]⟩
      case round =>
        obtain ⟨A, P, k, hk, rfl, rfl, rfl, hrel⟩ := hrel
        have H := Lib.hid hrel; clear hrel
        have ha := nv_lo A
        have ha' := nv_hi A
        have hb := nv_lo P
        have hb' := nv_hi P
        by_cases hz : 0 < k
        · cases hl : (k % 2 == 1)
          all_goals
            have hk2 := i64_odd k hk
            rw [hl] at hk2
            have HL := Lib.hid hl; clear hl
            go_wp2_with (go_at_call 72; refine (mul_any _ _ (by omega) (by omega) (by omega) (by omega) _).mono ?_; rintro e w' ⟨rfl, rfl⟩)
            go_round
            case measure => simp [intOf]; omega
            case rel => exact ⟨gm A A, _, k / 2, by omega, by rw [bv_nv], by go_num, (by first | (rw [bv_nv, bv_nv]; rfl) | rfl), pwStep A P T k H.out _ HL.out⟩
        · go_wp2
          go_ret
          have hk0 : k = 0 := by omega
          exact ⟨ret_int (by rw [← H.out, hk0, pw, gm_one_right]), rfl⟩

/-- the inverse, and whether there is one -/
def ivv (a : BitVec 8) : BitVec 8 := if a = 0#8 then 0#8 else iv a

set_option maxHeartbeats 400000 in
theorem inv_any (a : Int) (h0 : 0 ≤ a) (h1 : a < 256) (w : World) :
    Calls Try.prog 69 #[.int .u8 a] w fun e w' => e = .returned (.tuple #[.int .u8 (nv (ivv (bv a))), .bool (bv a != 0#8)]) ∧ w = w' := by
  obtain ⟨A0, rfl⟩ : ∃ A, a = nv A := ⟨bv a, (nv_bv h0 h1).symm⟩
  rw [bv_nv]
  by_cases hA : nv A0 = 0
  · have eA : A0 = 0#8 := (nv_eq_zero A0).1 hA
    subst eA
    rw [nv_zero]
    go_enter Try.func69, Try.ntmps69
    go_wp2
    go_ret2
    exact ⟨by simp [ivv, nv_zero], rfl⟩
  · have hA' : (nv A0 == 0) = false := by simpa using hA
    have hz : A0 ≠ 0#8 := fun e => hA ((nv_eq_zero A0).2 e)
    have HZ := Lib.hid hz; clear hA hz
    go_enter Try.func69, Try.ntmps69
    go_wp2_with (go_at_call 78; refine (pow_any _ _ (by omega) (by omega) (by omega) (by omega) _).mono ?_; rintro e w' ⟨rfl, rfl⟩)
    go_ret2
    exact ⟨by simp [ivv, HZ.out, pwi, iv, bv_nv], rfl⟩

end Go.Proofs.Ytbnfnijjldimkab
