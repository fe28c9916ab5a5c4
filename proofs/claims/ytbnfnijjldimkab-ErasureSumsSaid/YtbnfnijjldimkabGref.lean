/-
  The walks of the document's own field: Mul, Inv, Div, Pow, Log.
-/
import Derived.Test.YtbnfnijjldimkabGw
namespace Go.Proofs.Ytbnfnijjldimkab
open Go.RowKit
theorem wrap64_nw (x : BitVec 16) : wrap64 (nw x) = nw x := by
  have h1 := nw_lo x
  have h2 := nw_hi x
  unfold wrap64; omega
theorem w285 (m : Nat) (h : m < 8) : wrap64 (285 * 2 ^ m) = nw (285#16 <<< m) := by
  rw [nw_eq]
  match m, h with
  | 0, _ => simp [wrap64]
  | 1, _ => simp [wrap64]
  | 2, _ => simp [wrap64]
  | 3, _ => simp [wrap64]
  | 4, _ => simp [wrap64]
  | 5, _ => simp [wrap64]
  | 6, _ => simp [wrap64]
  | 7, _ => simp [wrap64]
set_option maxHeartbeats 1600000 in
theorem rmul_any (a b : Int) (h0 : 0 ≤ a) (h1 : a < 256) (h2 : 0 ≤ b) (h3 : b < 256) (w : World) :
    Calls Try.prog 75 #[.int .u8 a, .int .u8 b] w fun e w' => e = .returned (.int .u8 (nv (gm (bv a) (bv b)))) ∧ w = w' := by
  obtain ⟨A, rfl⟩ : ∃ A, a = nv A := ⟨bv a, (nv_bv h0 h1).symm⟩
  obtain ⟨B, rfl⟩ : ∃ A, b = nv A := ⟨bv b, (nv_bv h2 h3).symm⟩
  rw [bv_nv, bv_nv]
  go_enter Try.func75, Try.ntmps75
  go_wp2
  go_loop [5, 6] (fun p i => ∃ k : Nat, k ≤ 8 ∧ p = .int .i64 (nw (pm A B k)) ∧ i = .int .i64 k) (fun _ i => 8 - (intOf i).toNat)
  case atStart => exact ⟨0, by omega, by rw [pm, nw_zero], rfl⟩
  case round =>
    obtain ⟨k, hk, rfl, rfl⟩ := hrel
    have ha := nw_lo (pm A B k)
    have ha' := nw_hi (pm A B k)
    have hb := nv_lo A
    have hb' := nv_hi A
    have hc := nv_lo B
    have hc' := nv_hi B
    by_cases hlt : k < 8
    · cases hl : B.getLsbD k
      · have hk2 := u8_bit_nv B k
        rw [hl] at hk2
        have HL := Lib.hid hl; clear hl
        go_wp2
        go_round
        case measure => simp [intOf]; omega
        case rel => exact ⟨k + 1, by omega, by rw [pm, HL.out]; simp [tk16], by go_num⟩
      · have hk2 := u8_bit_nv B k
        rw [hl] at hk2
        have HL := Lib.hid hl; clear hl
        go_wp2
        go_round
        case measure => simp [intOf]; omega
        case rel => exact ⟨k + 1, by omega, by rw [pm, HL.out, nw_zext_shl A k hlt, wrap64_nw, i64_xor_nw]; simp [tk16], by go_num⟩
    · obtain rfl : k = 8 := by omega
      have HR : Hid (rd 8 (pm A B 8) = (gm A B).zeroExtend 16) := rd_pm A B
      generalize pm A B 8 = P0 at *
      go_wp2
      go_loop [5, 7] (fun p i => ∃ (k : Nat) (P : BitVec 16), k ≤ 8 ∧ p = .int .i64 (nw P) ∧ i = .int .i64 (k + 7) ∧ rd k P = (gm A B).zeroExtend 16) (fun _ i => (intOf i).toNat)
      case atStart => exact ⟨8, P0, by omega, rfl, rfl, HR.out⟩
      case round =>
        obtain ⟨k, P, hk, rfl, rfl, hrd⟩ := hrel
        have HD := Lib.hid hrd; clear hrd
        have ha := nw_lo P
        have ha' := nw_hi P
        by_cases hlt : 0 < k
        · obtain ⟨m, rfl⟩ : ∃ m, k = m + 1 := ⟨k - 1, by omega⟩
          cases hl : P.getLsbD (m + 8)
          · have hk2 := i64_bit_nw P (m + 8)
            rw [hl] at hk2
            have HL := Lib.hid hl; clear hl
            go_wp2
            go_round
            case measure => simp [intOf]; omega
            case rel => exact ⟨m, P, by omega, rfl, by go_num, by rw [← HD.out, rd, rs, HL.out]; simp [tk16]⟩
          · have hk2 := i64_bit_nw P (m + 8)
            rw [hl] at hk2
            have HL := Lib.hid hl; clear hl
            go_wp2
            go_round
            case measure => simp [intOf]; omega
            case rel => exact ⟨m, P ^^^ (285#16 <<< m), by omega, by rw [w285 m (by omega), i64_xor_nw], by go_num, by rw [← HD.out, rd, rs, HL.out]; simp [tk16]⟩
        · obtain rfl : k = 0 := by omega
          have hP : nw P = nv (gm A B) := by
            have := HD.out; rw [rd] at this; rw [this, nw_zext]
          have HP := Lib.hid hP; clear hP
          go_wp2
          go_ret
          have h5 := nv_hi (gm A B)
          have h4 := nv_lo (gm A B)
          exact ⟨ret_int (by rw [HP.out]; omega), rfl⟩
theorem ex_succ2 (k : Nat) : gm (ex k) (bv 2) = ex (k + 1) := by
  rw [show bv 2 = ex 1 from by rw [show (2 : Int) = ((2 : Nat) : Int) from rfl, bv_ofNat (by omega)]; decide, gm_ex_ex]
theorem inv_unique (a x : BitVec 8) (h : gm a x = 1#8) : a ≠ 0#8 ∧ ivv a = x := by
  have ha : a ≠ 0#8 := by
    intro e; rw [e, gm_zero_left] at h; exact absurd h (by decide)
  refine ⟨ha, ?_⟩
  unfold ivv; rw [if_neg ha]
  have h1 : gm (iv a) (gm a x) = gm (iv a) 1#8 := by rw [h]
  rw [← gm_assoc, gm_comm (iv a), gm_iv a ha, gm_one_left, gm_one_right] at h1
  exact h1.symm
theorem inv_ne (a : BitVec 8) (h : a ≠ 0#8) : iv a ≠ 0#8 := by
  intro e
  have := gm_iv a h
  rw [e, gm_zero_right] at this
  exact absurd this (by decide)
set_option maxRecDepth 100000 in
set_option maxHeartbeats 800000 in
theorem rinv_any (a : Int) (h0 : 0 ≤ a) (h1 : a < 256) (w : World) :
    Calls Try.prog 73 #[.int .u8 a] w fun e w' => e = .returned (.tuple #[.int .u8 (nv (ivv (bv a))), .bool (bv a != 0#8)]) ∧ w = w' := by
  obtain ⟨A, rfl⟩ : ∃ A, a = nv A := ⟨bv a, (nv_bv h0 h1).symm⟩
  rw [bv_nv]
  go_enter Try.func73, Try.ntmps73
  go_wp2
  go_loop [4] (fun i => ∃ k : Nat, 1 ≤ k ∧ k ≤ 256 ∧ i = .int .i64 k ∧ ∀ j, 1 ≤ j → j < k → gm A (BitVec.ofNat 8 j) ≠ 1#8) (fun i => 256 - (intOf i).toNat)
  case atStart => exact ⟨1, by omega, by omega, rfl, fun j hj1 hj => by omega⟩
  case round =>
    obtain ⟨k, hk1, hk, rfl, hall⟩ := hrel
    have HL := Lib.hid hall; clear hall
    have ha := nv_lo A
    have ha' := nv_hi A
    by_cases hlt : k < 256
    · cases he : gm A (BitVec.ofNat 8 k) == 1#8
      · have ht : (nv (gm A (BitVec.ofNat 8 k)) == 1) = false := by rw [← nv_one, nv_beq]; exact he
        have HE := Lib.hid he; clear he
        go_wp2_with (go_at_call 75; refine (rmul_any _ _ (by omega) (by omega) (by omega) (by omega) _).mono ?_; rw [bv_nv, bv_ofNat hlt]; rintro e w' ⟨rfl, rfl⟩)
        go_round
        case measure => simp [intOf]; omega
        case rel => exact ⟨k + 1, by omega, by omega, by go_num, fun j h1 hj => by
          by_cases e : j = k
          · rw [e]; simpa [Hid] using HE
          · exact HL.out j h1 (by omega)⟩
      · have ht : (nv (gm A (BitVec.ofNat 8 k)) == 1) = true := by rw [← nv_one, nv_beq]; exact he
        obtain ⟨hz, hi⟩ := inv_unique A _ (by simpa using he)
        have HI := Lib.hid hi
        have HZ := Lib.hid hz
        clear he hi hz
        go_wp2_with (go_at_call 75; refine (rmul_any _ _ (by omega) (by omega) (by omega) (by omega) _).mono ?_; rw [bv_nv, bv_ofNat hlt]; rintro e w' ⟨rfl, rfl⟩)
        go_ret2
        exact ⟨by rw [HI.out, nv_of hlt]; simp [HZ.out], rfl⟩
    · go_wp2
      go_ret2
      have hz : A = 0#8 := by
        by_cases hz : A = 0#8
        · exact hz
        · have h2 := HL.out (iv A).toNat (by
            have := inv_ne A hz
            have : (iv A).toNat ≠ 0 := fun e => this (BitVec.eq_of_toNat_eq (by simpa using e))
            omega) (by have := (iv A).isLt; omega)
          rw [BitVec.ofNat_toNat] at h2
          simp at h2
          exact absurd (gm_iv A hz) h2
      exact ⟨by rw [hz]; simp [ivv, nv_zero], rfl⟩
end Go.Proofs.Ytbnfnijjldimkab
