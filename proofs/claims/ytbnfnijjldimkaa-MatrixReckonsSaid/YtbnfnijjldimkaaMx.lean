/-
  The plain mathematics of matrices over the field of 256 numbers: sums, kernels, row operations. No Go in sight.
-/
import Derived.Test.YtbnfnijjldimkaaFm
namespace Go.Proofs.Ytbnfnijjldimkaa
/-- the sum of f's first n -/
def sm : Nat → (Nat → BitVec 8) → BitVec 8
  | 0, _ => 0#8
  | n + 1, f => sm n f ^^^ f n
theorem sm_congr {n : Nat} {f g : Nat → BitVec 8} (h : ∀ j, j < n → f j = g j) : sm n f = sm n g := by
  induction n with
  | zero => rfl
  | succ n ih => rw [sm, sm, ih (fun j hj => h j (by omega)), h n (by omega)]
theorem sm_xor (n : Nat) (f g : Nat → BitVec 8) : sm n (fun j => f j ^^^ g j) = sm n f ^^^ sm n g := by
  induction n with
  | zero => simp [sm]
  | succ n ih => simp only [sm, ih]; ac_rfl
theorem sm_mul (c : BitVec 8) (n : Nat) (f : Nat → BitVec 8) : sm n (fun j => gm c (f j)) = gm c (sm n f) := by
  induction n with
  | zero => rw [sm, sm, gm_zero_right]
  | succ n ih => rw [sm, sm, ih, gm_xor_right]
theorem sm_zero {n : Nat} {f : Nat → BitVec 8} (h : ∀ j, j < n → f j = 0#8) : sm n f = 0#8 := by
  induction n with
  | zero => rfl
  | succ n ih => rw [sm, ih (fun j hj => h j (by omega)), h n (by omega)]; simp
theorem sm_one {n k : Nat} {f : Nat → BitVec 8} (hk : k < n) (h : ∀ j, j < n → j ≠ k → f j = 0#8) : sm n f = f k := by
  induction n with
  | zero => omega
  | succ n ih =>
    rw [sm]
    by_cases e : k = n
    · subst e
      rw [sm_zero (fun j hj => h j (by omega) (by omega))]; simp
    · rw [ih (by omega) (fun j hj hne => h j (by omega) hne), h n (by omega) (fun e' => e e'.symm)]; simp
theorem sm_swap (n m : Nat) (f : Nat → Nat → BitVec 8) : sm n (fun i => sm m (f i)) = sm m (fun j => sm n (fun i => f i j)) := by
  induction n with
  | zero => rw [sm]; exact (sm_zero fun j _ => rfl).symm
  | succ n ih =>
    rw [sm, ih, ← sm_xor]
    exact sm_congr fun j _ => rfl
theorem sm_ext {n m : Nat} (hnm : n ≤ m) {f : Nat → BitVec 8} (h : ∀ j, n ≤ j → j < m → f j = 0#8) : sm m f = sm n f := by
  induction m with
  | zero => have : n = 0 := by omega
            subst this; rfl
  | succ m ih =>
    by_cases e : n = m + 1
    · subst e; rfl
    · rw [sm, ih (by omega) (fun j h1 h2 => h j h1 (by omega)), h m (by omega) (by omega)]; simp

/-- x is sent to nothing by the r rows and c columns of M -/
def Ker (r c : Nat) (M : Nat → Nat → BitVec 8) (x : Nat → BitVec 8) : Prop := ∀ i, i < r → sm c (fun j => gm (M i j) (x j)) = 0#8

/-- to row t row s is added, a times -/
def addRow (M : Nat → Nat → BitVec 8) (t s : Nat) (a : BitVec 8) : Nat → Nat → BitVec 8 := fun i j => if i = t then M t j ^^^ gm a (M s j) else M i j

theorem row_dot (c : Nat) (u v x : Nat → BitVec 8) (a : BitVec 8) : sm c (fun j => gm (u j ^^^ gm a (v j)) (x j)) = sm c (fun j => gm (u j) (x j)) ^^^ gm a (sm c (fun j => gm (v j) (x j))) := by
  rw [← sm_mul, ← sm_xor]
  exact sm_congr fun j _ => by rw [gm_xor_left, gm_assoc]

theorem ker_addRow {r c : Nat} {M : Nat → Nat → BitVec 8} {t s : Nat} {a : BitVec 8} (hs : s < r) (ht : t < r) (h : s ≠ t ∨ a ≠ 1#8) (x : Nat → BitVec 8) : Ker r c (addRow M t s a) x ↔ Ker r c M x := by
  have hd : sm c (fun j => gm (addRow M t s a t j) (x j)) = sm c (fun j => gm (M t j) (x j)) ^^^ gm a (sm c (fun j => gm (M s j) (x j))) := by
    rw [← row_dot]
    exact sm_congr fun j _ => by simp [addRow]
  have hn : ∀ i, i ≠ t → sm c (fun j => gm (addRow M t s a i j) (x j)) = sm c (fun j => gm (M i j) (x j)) := fun i hi => sm_congr fun j _ => by simp [addRow, hi]
  constructor
  · intro hk i hi
    by_cases e : i = t
    · subst e
      have h1 := hk i hi
      rw [hd] at h1
      by_cases es : s = i
      · subst es
        have ha : a ≠ 1#8 := by rcases h with h | h; exact absurd rfl h; exact h
        have h2 : gm (1#8 ^^^ a) (sm c (fun j => gm (M s j) (x j))) = 0#8 := by rw [gm_xor_left, gm_one_left]; exact h1
        rcases (gm_eq_zero _ _).1 h2 with h3 | h3
        · exfalso; apply ha
          have : (1#8 ^^^ a) ^^^ a = 0#8 ^^^ a := by rw [h3]
          rw [BitVec.xor_assoc] at this; simpa using this.symm
        · exact h3
      · have h2 := hk s hs
        rw [hn s es] at h2
        rw [h2, gm_zero_right] at h1
        simpa using h1
    · rw [← hn i e]; exact hk i hi
  · intro hk i hi
    by_cases e : i = t
    · subst e
      rw [hd, hk i hi, hk s hs, gm_zero_right]; simp
    · rw [hn i e]; exact hk i hi
end Go.Proofs.Ytbnfnijjldimkaa
