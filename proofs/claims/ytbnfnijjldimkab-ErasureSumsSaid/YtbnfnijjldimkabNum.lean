/-
  Bytes and words as the walk writes them: 'nv x' is the integer of an 8-bit number, 'bv' the way back, 'nw' that of a 16-bit number.
-/
import Derived.Test.YtbnfnijjldimkabFm
import Derived.WalkKit
namespace Go.Proofs.Ytbnfnijjldimkab
open Go.RowKit
@[irreducible] def nv (x : BitVec 8) : Int := (x.toNat : Int)
@[irreducible] def bv (a : Int) : BitVec 8 := BitVec.ofInt 8 a
@[irreducible] def nw (x : BitVec 16) : Int := (x.toNat : Int)
theorem nv_eq (x : BitVec 8) : nv x = (x.toNat : Int) := by unfold nv; rfl
theorem nw_eq (x : BitVec 16) : nw x = (x.toNat : Int) := by unfold nw; rfl
theorem nv_lo (x : BitVec 8) : 0 ≤ nv x := by rw [nv_eq]; omega
theorem nv_hi (x : BitVec 8) : nv x < 256 := by rw [nv_eq]; have := x.isLt; omega
theorem nw_lo (x : BitVec 16) : 0 ≤ nw x := by rw [nw_eq]; omega
theorem nw_hi (x : BitVec 16) : nw x < 65536 := by rw [nw_eq]; have := x.isLt; omega
theorem nv_bv {a : Int} (h0 : 0 ≤ a) (h1 : a < 256) : nv (bv a) = a := by
  rw [nv_eq]; unfold bv
  rw [BitVec.toNat_ofInt]; omega
theorem bv_nv (x : BitVec 8) : bv (nv x) = x := by
  rw [nv_eq]; unfold bv
  rw [BitVec.ofInt_natCast, BitVec.ofNat_toNat]; simp
theorem nv_inj {x y : BitVec 8} (h : nv x = nv y) : x = y := by rw [← bv_nv x, h, bv_nv]
theorem nv_of {n : Nat} (h : n < 256) : nv (BitVec.ofNat 8 n) = (n : Int) := by
  rw [nv_eq, BitVec.toNat_ofNat]; omega
theorem bv_ofNat {n : Nat} (_h : n < 256) : bv (n : Int) = BitVec.ofNat 8 n := by
  unfold bv; rw [BitVec.ofInt_natCast]
theorem nv_u8 (u : UInt8) : nv u.toBitVec = (u.toNat : Int) := by rw [nv_eq]; rfl
theorem u8_xor_nv (x y : BitVec 8) : bits .xor .u8 (nv x) (nv y) = nv (x ^^^ y) := by
  have hx := x.isLt
  have hy := y.isLt
  rw [nv_eq, nv_eq, nv_eq, u8_xor_nat _ _ (by omega) (by omega), BitVec.toNat_xor]
theorem nv_pos (x : BitVec 8) : 0 < nv x ↔ x ≠ 0#8 := by
  rw [nv_eq]
  constructor
  · intro h e; subst e; simp at h
  · intro h
    have : x.toNat ≠ 0 := fun e => h (BitVec.eq_of_toNat_eq (by simpa using e))
    omega
theorem nv_zero : nv 0#8 = 0 := by rw [nv_eq]; rfl
theorem nv_one : nv 1#8 = 1 := by rw [nv_eq]; rfl
theorem nv_eq_zero (x : BitVec 8) : nv x = 0 ↔ x = 0#8 := by
  constructor
  · intro h; apply nv_inj; rw [h, nv_zero]
  · rintro rfl; exact nv_zero
theorem nv_beq (x y : BitVec 8) : (nv x == nv y) = (x == y) := by
  rw [Bool.eq_iff_iff]; simp only [beq_iff_eq]
  exact ⟨nv_inj, fun h => by rw [h]⟩
/-- a byte's bit k, as the walk asks for it -/
theorem u8_bit_nv (x : BitVec 8) (k : Nat) : (bits .and .u8 (nv x / 2 ^ k) 1 == 1) = x.getLsbD k := by
  have hx := x.isLt
  have e : nv x / 2 ^ k = ((x.toNat / 2 ^ k : Nat) : Int) := by rw [nv_eq, Int.natCast_ediv, Int.natCast_pow]; rfl
  have h1 : x.toNat / 2 ^ k < 256 := Nat.lt_of_le_of_lt (Nat.div_le_self _ _) (by omega)
  rw [e]
  have h2 := u8_and_nat (x.toNat / 2 ^ k) 1 h1 (by omega)
  rw [show ((1 : Int)) = ((1 : Nat) : Int) from rfl, h2, Nat.and_one_is_mod, BitVec.getLsbD, Nat.testBit_eq_decide_div_mod_eq, Bool.eq_iff_iff]
  simp only [beq_iff_eq, decide_eq_true_eq]
  omega
theorem nv_shr (x : BitVec 8) (k : Nat) : nv x / 2 ^ k = nv (x >>> k) := by
  rw [nv_eq, nv_eq, BitVec.toNat_ushiftRight, Nat.shiftRight_eq_div_pow, Int.natCast_ediv, Int.natCast_pow]; rfl
/-- doubling, as the walk writes it -/
theorem nv_xt_hi (x : BitVec 8) (h : 128 ≤ nv x) : bits .xor .u8 (nv x * 2 % 256) 29 = nv (xt x) := by
  have hx := x.isLt
  rw [nv_eq] at h
  have e : nv x * (2 : Int) % (256 : Int) = nv (x <<< 1) := by
    rw [nv_eq, nv_eq, BitVec.toNat_shiftLeft, Nat.shiftLeft_eq]; omega
  have m : x.msb = true := by rw [BitVec.msb_eq_decide]; simp; omega
  rw [e, show (29 : Int) = nv 29#8 from by rw [nv_eq]; rfl, u8_xor_nv, xt, m]; rfl
theorem nv_xt_lo (x : BitVec 8) (h : nv x < 128) : nv x * 2 = nv (xt x) := by
  rw [nv_eq] at h
  have e : nv x * (2 : Int) = nv (x <<< 1) := by
    rw [nv_eq, nv_eq, BitVec.toNat_shiftLeft, Nat.shiftLeft_eq]; omega
  have m : x.msb = false := by rw [BitVec.msb_eq_decide]; simp; omega
  rw [e, xt, m]; simp
/-! ### words of 16 bits inside an int -/
theorem i64_and_nat (a b : Nat) (ha : a < 9223372036854775808) (hb : b < 9223372036854775808) : bits .and .i64 (a : Int) (b : Int) = ((a &&& b : Nat) : Int) := by
  have h1 : (BitVec.ofInt 64 (a : Int)).toNat = a := by rw [BitVec.ofInt_natCast, BitVec.toNat_ofNat]; omega
  have h2 : (BitVec.ofInt 64 (b : Int)).toNat = b := by rw [BitVec.ofInt_natCast, BitVec.toNat_ofNat]; omega
  have hl : a &&& b ≤ a := Nat.and_le_left
  show IntKind.i64.wrap ((BitVec.ofInt 64 (a : Int) &&& BitVec.ofInt 64 (b : Int)).toNat : Int) = _
  rw [BitVec.toNat_and, h1, h2]
  refine IntWalk.i64_in _ ⟨?_, ?_⟩ <;> omega
theorem i64_xor_nat (a b : Nat) (ha : a < 9223372036854775808) (hb : b < 9223372036854775808) : bits .xor .i64 (a : Int) (b : Int) = ((a ^^^ b : Nat) : Int) := by
  have h1 : (BitVec.ofInt 64 (a : Int)).toNat = a := by rw [BitVec.ofInt_natCast, BitVec.toNat_ofNat]; omega
  have h2 : (BitVec.ofInt 64 (b : Int)).toNat = b := by rw [BitVec.ofInt_natCast, BitVec.toNat_ofNat]; omega
  have hl : a ^^^ b < 2 ^ 63 := Nat.xor_lt_two_pow (by omega) (by omega)
  show IntKind.i64.wrap ((BitVec.ofInt 64 (a : Int) ^^^ BitVec.ofInt 64 (b : Int)).toNat : Int) = _
  rw [BitVec.toNat_xor, h1, h2]
  refine IntWalk.i64_in _ ⟨?_, ?_⟩ <;> omega
theorem i64_bit_nw (x : BitVec 16) (k : Nat) : (bits .and .i64 (nw x / 2 ^ k) 1 == 1) = x.getLsbD k := by
  have hx := x.isLt
  have e : nw x / 2 ^ k = ((x.toNat / 2 ^ k : Nat) : Int) := by rw [nw_eq, Int.natCast_ediv, Int.natCast_pow]; rfl
  have h1 : x.toNat / 2 ^ k < 65536 := Nat.lt_of_le_of_lt (Nat.div_le_self _ _) (by omega)
  rw [e]
  have h2 := i64_and_nat (x.toNat / 2 ^ k) 1 (by omega) (by omega)
  rw [show ((1 : Int)) = ((1 : Nat) : Int) from rfl, h2, Nat.and_one_is_mod, BitVec.getLsbD, Nat.testBit_eq_decide_div_mod_eq, Bool.eq_iff_iff]
  simp only [beq_iff_eq, decide_eq_true_eq]
  omega
theorem i64_xor_nw (x y : BitVec 16) : bits .xor .i64 (nw x) (nw y) = nw (x ^^^ y) := by
  have hx := x.isLt
  have hy := y.isLt
  rw [nw_eq, nw_eq, nw_eq, i64_xor_nat _ _ (by omega) (by omega), BitVec.toNat_xor]
theorem nw_zext_shl (a : BitVec 8) (k : Nat) (h : k < 8) : nv a * 2 ^ k = nw (a.zeroExtend 16 <<< k) := by
  have ha := a.isLt
  have e : a.toNat * 2 ^ k < 2 ^ 16 := by
    have : 2 ^ k ≤ 2 ^ 8 := Nat.pow_le_pow_right (by omega) (by omega)
    calc a.toNat * 2 ^ k ≤ 255 * 2 ^ 8 := Nat.mul_le_mul (by omega) this
      _ < 2 ^ 16 := by omega
  have e0 : a.toNat % 2 ^ 16 = a.toNat := by omega
  rw [nv_eq, nw_eq, BitVec.toNat_shiftLeft, BitVec.toNat_setWidth, e0, Nat.shiftLeft_eq, Nat.mod_eq_of_lt e, Int.natCast_mul, Int.natCast_pow]; rfl
theorem nw_zext (a : BitVec 8) : nw (a.zeroExtend 16) = nv a := by
  have ha := a.isLt
  rw [nv_eq, nw_eq, BitVec.toNat_setWidth]; omega
theorem tmod255 (n : Int) : (n.tmod 255 < 0 → n % 255 = n.tmod 255 + 255) ∧ (0 ≤ n.tmod 255 → n % 255 = n.tmod 255) ∧ n.tmod 255 < 255 ∧ -255 < n.tmod 255 := by
  have t1 := Int.tmod_lt_of_pos n (show (0 : Int) < 255 by omega)
  have t2 := Int.lt_tmod_of_pos n (show (0 : Int) < 255 by omega)
  have e := Int.mul_tdiv_add_tmod n 255
  generalize n.tdiv 255 = q at *
  generalize n.tmod 255 = r at *
  omega
theorem i64_odd (k : Nat) (h : k < 255) : (bits .and .i64 (k : Int) 1 == 1) = (k % 2 == 1) := by
  have h2 := i64_and_nat k 1 (by omega) (by omega)
  rw [show ((1 : Int)) = ((1 : Nat) : Int) from rfl, h2, Nat.and_one_is_mod, Bool.eq_iff_iff]
  simp only [beq_iff_eq]
  omega
theorem nw_zero : nw 0#16 = 0 := by rw [nw_eq]; rfl
end Go.Proofs.Ytbnfnijjldimkab
