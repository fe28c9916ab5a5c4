/-
  The plain mathematics of the field of 256 numbers: doubling, products, powers, logs. No Go in sight.
-/
namespace Go.Proofs.Ytbnfnijjldimkab

/-- twice -/
def xt (a : BitVec 8) : BitVec 8 := (a <<< 1) ^^^ (if a.msb then 29#8 else 0#8)

theorem xt_xor (a b : BitVec 8) : xt (a ^^^ b) = xt a ^^^ xt b := by
  unfold xt
  rw [BitVec.shiftLeft_xor_distrib, BitVec.msb_xor]
  cases a.msb <;> cases b.msb
  · simp
  · simp; ac_rfl
  · simp; ac_rfl
  · simp
    have h : a <<< 1 ^^^ 29#8 ^^^ (b <<< 1 ^^^ 29#8) = (a <<< 1 ^^^ b <<< 1) ^^^ (29#8 ^^^ 29#8) := by ac_rfl
    rw [h]; simp

theorem xt_zero : xt 0#8 = 0#8 := by decide

/-- twice, n times -/
def xts : Nat → BitVec 8 → BitVec 8
  | 0, a => a
  | n + 1, a => xts n (xt a)

theorem xts_xor (n : Nat) (a b : BitVec 8) : xts n (a ^^^ b) = xts n a ^^^ xts n b := by
  induction n generalizing a b with
  | zero => rfl
  | succ n ih => simp only [xts]; rw [xt_xor, ih]
theorem xts_zero (n : Nat) : xts n 0#8 = 0#8 := by
  induction n with
  | zero => rfl
  | succ n ih => simp only [xts]; rw [xt_zero, ih]
theorem xts_add (m n : Nat) (a : BitVec 8) : xts (m + n) a = xts m (xts n a) := by
  induction n generalizing a with
  | zero => rfl
  | succ n ih => rw [← Nat.add_assoc, xts, xts, ih]
theorem xts_comm (m n : Nat) (a : BitVec 8) : xts m (xts n a) = xts n (xts m a) := by
  rw [← xts_add, ← xts_add, Nat.add_comm]

/-- b's bit i times a -/
def tk (c : Bool) (a : BitVec 8) : BitVec 8 := if c then a else 0#8

/-- the product: the sum of a, doubled i times, at b's bits i -/
def gm (a b : BitVec 8) : BitVec 8 :=
  tk (b.getLsbD 0) a ^^^ tk (b.getLsbD 1) (xts 1 a) ^^^ tk (b.getLsbD 2) (xts 2 a) ^^^ tk (b.getLsbD 3) (xts 3 a) ^^^
  tk (b.getLsbD 4) (xts 4 a) ^^^ tk (b.getLsbD 5) (xts 5 a) ^^^ tk (b.getLsbD 6) (xts 6 a) ^^^ tk (b.getLsbD 7) (xts 7 a)

theorem tk_xor (c : Bool) (a b : BitVec 8) : tk c (a ^^^ b) = tk c a ^^^ tk c b := by cases c <;> simp [tk]
theorem tk_bxor (c d : Bool) (a : BitVec 8) : tk (c ^^ d) a = tk c a ^^^ tk d a := by cases c <;> cases d <;> simp [tk]
theorem xts_tk (n : Nat) (c : Bool) (a : BitVec 8) : xts n (tk c a) = tk c (xts n a) := by cases c <;> simp [tk, xts_zero]

theorem gm_xor_right (a b c : BitVec 8) : gm a (b ^^^ c) = gm a b ^^^ gm a c := by
  simp only [gm, BitVec.getLsbD_xor, tk_bxor]; ac_rfl
theorem gm_xor_left (a b c : BitVec 8) : gm (a ^^^ b) c = gm a c ^^^ gm b c := by
  simp only [gm, xts_xor, tk_xor]; ac_rfl
theorem gm_xts (n : Nat) (a b : BitVec 8) : gm (xts n a) b = xts n (gm a b) := by
  simp only [gm, xts_xor, xts_tk, xts_comm n]
theorem gm_zero_left (b : BitVec 8) : gm 0#8 b = 0#8 := by
  simp only [gm, xts_zero]; simp [tk]
theorem gm_zero_right (a : BitVec 8) : gm a 0#8 = 0#8 := by
  simp [gm, tk]
theorem gm_one_left (b : BitVec 8) : gm 1#8 b = b := by
  have h : ∀ n, n < 256 → gm 1#8 (BitVec.ofNat 8 n) = BitVec.ofNat 8 n := by decide +kernel
  have := h b.toNat b.isLt
  simpa using this
theorem gm_one_right (a : BitVec 8) : gm a 1#8 = a := by
  simp [gm, tk]

/-- the n-th power of 2 -/
def ex (n : Nat) : BitVec 8 := xts n 1#8
theorem ex_255 : ex 255 = 1#8 := by decide +kernel
theorem gm_ex (n : Nat) (b : BitVec 8) : gm (ex n) b = xts n b := by
  rw [ex, gm_xts, gm_one_left]
theorem gm_ex_ex (m n : Nat) : gm (ex m) (ex n) = ex (m + n) := by
  rw [gm_ex, ex, ex, xts_add]
theorem xts_255 (a : BitVec 8) : xts 255 a = a := by
  rw [← gm_ex, ex_255, gm_one_left]
theorem ex_add_255 (n : Nat) : ex (n + 255) = ex n := by
  rw [ex, xts_add, xts_255]; rfl
theorem ex_mod (n : Nat) : ex (n % 255) = ex n := by
  have h : ∀ q r, ex (255 * q + r) = ex r := by
    intro q r
    induction q with
    | zero => simp
    | succ q ih => rw [show 255 * (q + 1) + r = (255 * q + r) + 255 by omega, ex_add_255, ih]
  conv => rhs; rw [← Nat.div_add_mod n 255]
  rw [h]

/-- where a number stands among the powers of 2 -/
def lgGo : Nat → Nat → BitVec 8 → BitVec 8 → Nat
  | 0, i, _, _ => i
  | f + 1, i, x, a => if x = a then i else lgGo f (i + 1) (xt x) a
def lg (a : BitVec 8) : Nat := lgGo 255 0 1#8 a

theorem ex_lg_all : ∀ n, n < 256 → n ≠ 0 → (lg (BitVec.ofNat 8 n) < 255 ∧ ex (lg (BitVec.ofNat 8 n)) = BitVec.ofNat 8 n) := by decide +kernel
theorem ex_lg (a : BitVec 8) (h : a ≠ 0#8) : ex (lg a) = a := by
  have := (ex_lg_all a.toNat a.isLt (by intro e; apply h; apply BitVec.eq_of_toNat_eq; simpa using e)).2
  simpa using this
theorem lg_lt (a : BitVec 8) (h : a ≠ 0#8) : lg a < 255 := by
  have := (ex_lg_all a.toNat a.isLt (by intro e; apply h; apply BitVec.eq_of_toNat_eq; simpa using e)).1
  simpa using this
theorem lg_ex_all : ∀ n, n < 255 → (lg (ex n) = n ∧ ex n ≠ 0#8) := by decide +kernel
theorem ex_ne (n : Nat) : ex n ≠ 0#8 := by
  rw [← ex_mod]; exact (lg_ex_all _ (Nat.mod_lt _ (by omega))).2
theorem lg_ex (n : Nat) : lg (ex n) = n % 255 := by
  rw [← ex_mod]; exact (lg_ex_all _ (Nat.mod_lt _ (by omega))).1

theorem gm_comm (a b : BitVec 8) : gm a b = gm b a := by
  by_cases ha : a = 0#8
  · subst ha; rw [gm_zero_left, gm_zero_right]
  by_cases hb : b = 0#8
  · subst hb; rw [gm_zero_left, gm_zero_right]
  rw [← ex_lg a ha, ← ex_lg b hb, gm_ex_ex, gm_ex_ex, Nat.add_comm]
theorem gm_assoc (a b c : BitVec 8) : gm (gm a b) c = gm a (gm b c) := by
  by_cases ha : a = 0#8
  · subst ha; simp only [gm_zero_left]
  rw [← ex_lg a ha, gm_ex, gm_xts, gm_ex]
theorem gm_eq_zero (a b : BitVec 8) : gm a b = 0#8 ↔ a = 0#8 ∨ b = 0#8 := by
  constructor
  · intro h
    by_cases ha : a = 0#8
    · exact Or.inl ha
    by_cases hb : b = 0#8
    · exact Or.inr hb
    rw [← ex_lg a ha, ← ex_lg b hb, gm_ex_ex] at h
    exact absurd h (ex_ne _)
  · rintro (rfl | rfl)
    · exact gm_zero_left _
    · exact gm_zero_right _

/-- powers -/
def pw (a : BitVec 8) : Nat → BitVec 8
  | 0 => 1#8
  | n + 1 => gm (pw a n) a
theorem pw_ex (m n : Nat) : pw (ex m) n = ex (m * n) := by
  induction n with
  | zero => rfl
  | succ n ih => rw [pw, ih, gm_ex_ex, Nat.mul_succ]
theorem pw_add (a : BitVec 8) (m n : Nat) : pw a (m + n) = gm (pw a m) (pw a n) := by
  induction n with
  | zero => rw [pw, gm_one_right]; rfl
  | succ n ih => rw [← Nat.add_assoc, pw, ih, pw, gm_assoc]
theorem pw_255 (a : BitVec 8) (h : a ≠ 0#8) : pw a 255 = 1#8 := by
  rw [← ex_lg a h, pw_ex, ← ex_mod, Nat.mul_mod_left]; rfl
theorem pw_mod (a : BitVec 8) (h : a ≠ 0#8) (n : Nat) : pw a (n % 255) = pw a n := by
  rw [← ex_lg a h, pw_ex, pw_ex, ← ex_mod, Nat.mul_mod_mod, ex_mod]
/-- the inverse -/
def iv (a : BitVec 8) : BitVec 8 := pw a 254
theorem gm_iv (a : BitVec 8) (h : a ≠ 0#8) : gm a (iv a) = 1#8 := by
  rw [gm_comm, iv, ← pw_255 a h]; rfl

/-! ### long multiplication of polynomials, then the remainder (the document's own answer) -/
def tk16 (c : Bool) (a : BitVec 16) : BitVec 16 := if c then a else 0#16
/-- the sum of a, shifted i places, at b's bits i below k -/
def pm (a b : BitVec 8) : Nat → BitVec 16
  | 0 => 0#16
  | k + 1 => pm a b k ^^^ tk16 (b.getLsbD k) (a.zeroExtend 16 <<< k)
/-- bit k + 8 is struck out by 285, shifted k places -/
def rs (k : Nat) (p : BitVec 16) : BitVec 16 := p ^^^ tk16 (p.getLsbD (k + 8)) (285#16 <<< k)
/-- the bits from k + 7 down to 8 are struck out -/
def rd : Nat → BitVec 16 → BitVec 16
  | 0, p => p
  | k + 1, p => rd k (rs k p)
theorem tk16_bxor (c d : Bool) (a : BitVec 16) : tk16 (c ^^ d) a = tk16 c a ^^^ tk16 d a := by cases c <;> cases d <;> simp [tk16]
theorem rs_xor (k : Nat) (p q : BitVec 16) : rs k (p ^^^ q) = rs k p ^^^ rs k q := by
  simp only [rs, BitVec.getLsbD_xor, tk16_bxor]; ac_rfl
theorem rd_xor (k : Nat) (p q : BitVec 16) : rd k (p ^^^ q) = rd k p ^^^ rd k q := by
  induction k generalizing p q with
  | zero => rfl
  | succ k ih => simp only [rd]; rw [rs_xor, ih]
theorem rd_zero (k : Nat) : rd k 0#16 = 0#16 := by
  induction k with
  | zero => rfl
  | succ k ih =>
    have h : rs k 0#16 = 0#16 := by simp [rs, tk16]
    simp only [rd]; rw [h, ih]
theorem rd_tk (k : Nat) (c : Bool) (p : BitVec 16) : rd k (tk16 c p) = tk16 c (rd k p) := by cases c <;> simp [tk16, rd_zero]
theorem rd_one : ∀ i, i < 8 → ∀ n, n < 256 → rd 8 ((BitVec.ofNat 8 n).zeroExtend 16 <<< i) = (xts i (BitVec.ofNat 8 n)).zeroExtend 16 := by decide +kernel
theorem rd_shl (i : Nat) (h : i < 8) (a : BitVec 8) : rd 8 (a.zeroExtend 16 <<< i) = (xts i a).zeroExtend 16 := by
  simpa using rd_one i h a.toNat a.isLt
theorem tk_zext (c : Bool) (a : BitVec 8) : tk16 c (a.zeroExtend 16) = (tk c a).zeroExtend 16 := by cases c <;> simp [tk, tk16]
theorem rd_pm (a b : BitVec 8) : rd 8 (pm a b 8) = (gm a b).zeroExtend 16 := by
  simp only [pm, rd_xor, rd_tk, rd_zero]
  rw [rd_shl 0 (by omega), rd_shl 1 (by omega), rd_shl 2 (by omega), rd_shl 3 (by omega), rd_shl 4 (by omega), rd_shl 5 (by omega), rd_shl 6 (by omega), rd_shl 7 (by omega)]
  simp only [tk_zext, gm, BitVec.truncate_eq_setWidth, BitVec.setWidth_xor, xts]
  simp

/-! ### the product, bit by bit -/
theorem gm_step (a b : BitVec 8) : gm a b = tk (b.getLsbD 0) a ^^^ gm (xt a) (b >>> 1) := by
  simp only [gm, BitVec.getLsbD_ushiftRight, xts]
  simp [tk]
  ac_rfl

/-! ### powers by squaring -/
theorem pw_sq (a : BitVec 8) (n : Nat) : pw (gm a a) n = pw a (2 * n) := by
  induction n with
  | zero => rfl
  | succ n ih => rw [pw, ih, show 2 * (n + 1) = 2 * n + 1 + 1 from rfl, pw, pw, gm_assoc]
/-- the n-th power, n any integer -/
def pwi (a : BitVec 8) (n : Int) : BitVec 8 := if a = 0#8 then (if n = 0 then 1#8 else 0#8) else pw a (n % 255).toNat
theorem pwStep (A P T : BitVec 8) (k : Nat) (h : gm P (pw A k) = T) (b : Bool) (hb : (k % 2 == 1) = b) : gm (if b then gm P A else P) (pw (gm A A) (k / 2)) = T := by
  rw [pw_sq]
  cases b
  · have e : 2 * (k / 2) = k := by simp at hb; omega
    simp [e, h]
  · have e : k = 2 * (k / 2) + 1 := by simp at hb; omega
    rw [e, pw] at h
    simp only [if_true]
    rw [gm_assoc, gm_comm A, h]
theorem pw_zero (n : Nat) : pw 0#8 (n + 1) = 0#8 := by rw [pw, gm_zero_right]
end Go.Proofs.Ytbnfnijjldimkab
