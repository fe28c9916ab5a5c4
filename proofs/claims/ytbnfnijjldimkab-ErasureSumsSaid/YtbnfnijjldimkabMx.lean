/-
  The plain mathematics of matrices over the field of 256 numbers: sums, kernels, row operations. No Go in sight.
-/
import Derived.Test.YtbnfnijjldimkabFm
namespace Go.Proofs.Ytbnfnijjldimkab
/-- the sum of f's first n -/
def sm : Nat → (Nat → BitVec 8) → BitVec 8
  | 0, _ => 0#8
  | n + 1, f => sm n f ^^^ f n
theorem sm_congr {n : Nat} {f g : Nat → BitVec 8} (h : ∀ j, j < n → f j = g j) : sm n f = sm n g := by
  induction n with
  | zero => rfl
  | succ n ih => rw [sm, sm, ih (fun j hj => h j (by omega)), h n (by omega)]
theorem sm_xor (n : Nat) (f g : Nat → BitVec 8) : sm n (fun j => f j ^^^ g j) = sm n f ^^^ sm n g := by
  induction n with
  | zero => simp [sm]
  | succ n ih => simp only [sm, ih]; ac_rfl
theorem sm_mul (c : BitVec 8) (n : Nat) (f : Nat → BitVec 8) : sm n (fun j => gm c (f j)) = gm c (sm n f) := by
  induction n with
  | zero => rw [sm, sm, gm_zero_right]
  | succ n ih => rw [sm, sm, ih, gm_xor_right]
theorem sm_zero {n : Nat} {f : Nat → BitVec 8} (h : ∀ j, j < n → f j = 0#8) : sm n f = 0#8 := by
  induction n with
  | zero => rfl
  | succ n ih => rw [sm, ih (fun j hj => h j (by omega)), h n (by omega)]; simp
theorem sm_one {n k : Nat} {f : Nat → BitVec 8} (hk : k < n) (h : ∀ j, j < n → j ≠ k → f j = 0#8) : sm n f = f k := by
  induction n with
  | zero => omega
  | succ n ih =>
    rw [sm]
    by_cases e : k = n
    · subst e
      rw [sm_zero (fun j hj => h j (by omega) (by omega))]; simp
    · rw [ih (by omega) (fun j hj hne => h j (by omega) hne), h n (by omega) (fun e' => e e'.symm)]; simp
theorem sm_swap (n m : Nat) (f : Nat → Nat → BitVec 8) : sm n (fun i => sm m (f i)) = sm m (fun j => sm n (fun i => f i j)) := by
  induction n with
  | zero => rw [sm]; exact (sm_zero fun j _ => rfl).symm
  | succ n ih =>
    rw [sm, ih, ← sm_xor]
    exact sm_congr fun j _ => rfl
theorem sm_ext {n m : Nat} (hnm : n ≤ m) {f : Nat → BitVec 8} (h : ∀ j, n ≤ j → j < m → f j = 0#8) : sm m f = sm n f := by
  induction m with
  | zero => have : n = 0 := by omega
            subst this; rfl
  | succ m ih =>
    by_cases e : n = m + 1
    · subst e; rfl
    · rw [sm, ih (by omega) (fun j h1 h2 => h j h1 (by omega)), h m (by omega) (by omega)]; simp

/-- x is sent to nothing by the r rows and c columns of M -/
def Ker (r c : Nat) (M : Nat → Nat → BitVec 8) (x : Nat → BitVec 8) : Prop := ∀ i, i < r → sm c (fun j => gm (M i j) (x j)) = 0#8

/-- to row t row s is added, a times -/
def addRow (M : Nat → Nat → BitVec 8) (t s : Nat) (a : BitVec 8) : Nat → Nat → BitVec 8 := fun i j => if i = t then M t j ^^^ gm a (M s j) else M i j

theorem row_dot (c : Nat) (u v x : Nat → BitVec 8) (a : BitVec 8) : sm c (fun j => gm (u j ^^^ gm a (v j)) (x j)) = sm c (fun j => gm (u j) (x j)) ^^^ gm a (sm c (fun j => gm (v j) (x j))) := by
  rw [← sm_mul, ← sm_xor]
  exact sm_congr fun j _ => by rw [gm_xor_left, gm_assoc]

theorem ker_addRow {r c : Nat} {M : Nat → Nat → BitVec 8} {t s : Nat} {a : BitVec 8} (hs : s < r) (ht : t < r) (h : s ≠ t ∨ a ≠ 1#8) (x : Nat → BitVec 8) : Ker r c (addRow M t s a) x ↔ Ker r c M x := by
  have hd : sm c (fun j => gm (addRow M t s a t j) (x j)) = sm c (fun j => gm (M t j) (x j)) ^^^ gm a (sm c (fun j => gm (M s j) (x j))) := by
    rw [← row_dot]
    exact sm_congr fun j _ => by simp [addRow]
  have hn : ∀ i, i ≠ t → sm c (fun j => gm (addRow M t s a i j) (x j)) = sm c (fun j => gm (M i j) (x j)) := fun i hi => sm_congr fun j _ => by simp [addRow, hi]
  constructor
  · intro hk i hi
    by_cases e : i = t
    · subst e
      have h1 := hk i hi
      rw [hd] at h1
      by_cases es : s = i
      · subst es
        have ha : a ≠ 1#8 := by rcases h with h | h; exact absurd rfl h; exact h
        have h2 : gm (1#8 ^^^ a) (sm c (fun j => gm (M s j) (x j))) = 0#8 := by rw [gm_xor_left, gm_one_left]; exact h1
        rcases (gm_eq_zero _ _).1 h2 with h3 | h3
        · exfalso; apply ha
          have : (1#8 ^^^ a) ^^^ a = 0#8 ^^^ a := by rw [h3]
          rw [BitVec.xor_assoc] at this; simpa using this.symm
        · exact h3
      · have h2 := hk s hs
        rw [hn s es] at h2
        rw [h2, gm_zero_right] at h1
        simpa using h1
    · rw [← hn i e]; exact hk i hi
  · intro hk i hi
    by_cases e : i = t
    · subst e
      rw [hd, hk i hi, hk s hs, gm_zero_right]; simp
    · rw [hn i e]; exact hk i hi
end Go.Proofs.Ytbnfnijjldimkab
namespace Go.Proofs.Ytbnfnijjldimkab
/-- M is brought to steps in its columns below j: there are k of them, in the columns p 0, p 1 .. -/
structure Good (r : Nat) (M : Nat → Nat → BitVec 8) (j k : Nat) (p : Nat → Nat) : Prop where
  le : k ≤ r
  lt : ∀ t, t < k → p t < j
  inc : ∀ s t, s < t → t < k → p s < p t
  unit : ∀ t i, t < k → i < r → M i (p t) = if i = t then 1#8 else 0#8
  below : ∀ i c, k ≤ i → i < r → c < j → M i c = 0#8
  left : ∀ t c, t < k → c < p t → M t c = 0#8

theorem good_start (r : Nat) (M : Nat → Nat → BitVec 8) (p : Nat → Nat) : Good r M 0 0 p :=
  ⟨by omega, fun t h => by omega, fun s t _ h => by omega, fun t i h => by omega, fun i c _ _ h => by omega, fun t c h => by omega⟩

theorem good_skip {r : Nat} {M : Nat → Nat → BitVec 8} {j k : Nat} {p : Nat → Nat} (g : Good r M j k p) (h : ∀ i, k ≤ i → i < r → M i j = 0#8) : Good r M (j + 1) k p :=
  ⟨g.le, fun t ht => by have := g.lt t ht; omega, g.inc, g.unit, fun i c h1 h2 h3 => by
    by_cases e : c = j
    · subst e; exact h i h1 h2
    · exact g.below i c h1 h2 (by omega), g.left⟩

theorem good_step {r : Nat} {M N M' : Nat → Nat → BitVec 8} {j k : Nat} {p : Nat → Nat} (g : Good r M j k p) (hk : k < r)
    (h1 : ∀ i c, i < k → N i c = M i c) (h2 : ∀ i c, k ≤ i → i < r → c < j → N i c = 0#8) (h3 : N k j = 1#8)
    (h4 : ∀ i c, i < r → M' i c = if i = k then N k c else N i c ^^^ gm (N i j) (N k c)) : Good r M' (j + 1) (k + 1) (fun t => if t = k then j else p t) := by
  refine ⟨by omega, fun t ht => ?_, fun s t hs ht => ?_, fun t i ht hi => ?_, fun i c hi1 hi2 hc => ?_, fun t c ht hc => ?_⟩
  · by_cases e : t = k
    · simp [e]
    · have := g.lt t (by omega); simp [e]; omega
  · by_cases e : t = k
    · have := g.lt s (by omega)
      have e2 : ¬ s = k := by omega
      simp [e, e2]; exact this
    · have e2 : ¬ s = k := by omega
      simp [e, e2]; exact g.inc s t hs (by omega)
  · rw [h4 _ _ hi]
    by_cases e : t = k
    · subst e
      simp only [if_true]
      by_cases e2 : i = t
      · simp [e2, h3]
      · simp [e2, h3, gm_one_right]
    · have ht' : t < k := by omega
      have hp := g.lt t ht'
      simp only [e, if_false]
      by_cases e2 : i = k
      · subst e2
        simp only [if_true]
        rw [h2 i _ (by omega) hi hp, if_neg (by omega)]
      · simp only [e2, if_false]
        rw [h2 k _ (by omega) hk hp, gm_zero_right]
        by_cases e3 : i < k
        · rw [h1 _ _ e3, g.unit t i ht' hi]; simp
        · rw [h2 i _ (by omega) hi hp, if_neg (by omega)]; simp
  · rw [h4 _ _ hi2, if_neg (by omega)]
    by_cases e : c = j
    · subst e
      rw [h3, gm_one_right]; simp
    · rw [h2 i c (by omega) hi2 (by omega), h2 k c (by omega) hk (by omega), gm_zero_right]; simp
  · by_cases e : t = k
    · subst e
      simp only [if_true] at hc
      rw [h4 _ _ (by omega), if_pos rfl]
      exact h2 t c (by omega) (by omega) hc
    · simp only [e, if_false] at hc
      have ht' : t < k := by omega
      have hp := g.lt t ht'
      rw [h4 _ _ (by omega), if_neg e, h1 _ _ ht', g.left t c ht' hc, h2 k c (by omega) hk (by omega), gm_zero_right]; simp

theorem inc_ge {k : Nat} {p : Nat → Nat} (h : ∀ s t, s < t → t < k → p s < p t) : ∀ t, t < k → t ≤ p t := by
  intro t
  induction t with
  | zero => omega
  | succ t ih => intro ht; have := ih (by omega); have := h t (t + 1) (by omega) ht; omega
theorem inc_mono {k : Nat} {p : Nat → Nat} (h : ∀ s t, s < t → t < k → p s < p t) {s t : Nat} (hst : s ≤ t) (ht : t < k) : p s ≤ p t := by
  by_cases e : s = t
  · rw [e]; omega
  · have := h s t (by omega) ht; omega

/-- all rows are steps: the first columns are those of Identity -/
theorem good_full {r : Nat} {M : Nat → Nat → BitVec 8} {j : Nat} {p : Nat → Nat} (g : Good r M j r p) (hj : j ≤ r) : ∀ i c, i < r → c < r → M i c = if i = c then 1#8 else 0#8 := by
  have hp : ∀ d t, t < r → r = t + 1 + d → p t = t := by
    intro d
    induction d with
    | zero => intro t ht e; have := g.lt t ht; have := inc_ge g.inc t ht; omega
    | succ d ih =>
      intro t ht e
      have h1 := ih (t + 1) (by omega) (by omega)
      have h2 := g.inc t (t + 1) (by omega) (by omega)
      have := inc_ge g.inc t ht; omega
  intro i c hi hc
  have h := g.unit c i hc hi
  rwa [hp (r - c - 1) c hc (by omega)] at h

/-- a column that is no step is the sum of columns ahead of it -/
theorem good_dep {r n : Nat} {M : Nat → Nat → BitVec 8} {j k : Nat} {p : Nat → Nat} (g : Good r M j k p) (hj : j ≤ n) {c : Nat} (hc : c < j) (hn : ∀ t, t < k → p t ≠ c) :
    ∃ x : Nat → BitVec 8, x c = 1#8 ∧ (∀ c', c < c' → x c' = 0#8) ∧ Ker r n M x := by
  let y : Nat → BitVec 8 := fun c' => sm k (fun t => if p t = c' then M t c else 0#8)
  have y0 : ∀ c', c ≤ c' → y c' = 0#8 := fun c' h => sm_zero fun t ht => by
    by_cases e : p t = c'
    · rw [if_pos e]; exact g.left t c ht (by have := hn t ht; omega)
    · rw [if_neg e]
  refine ⟨fun c' => if c' = c then 1#8 else y c', by simp, fun c' h => by show (if c' = c then 1#8 else y c') = 0#8; rw [if_neg (by omega)]; exact y0 c' (by omega), fun i hi => ?_⟩
  have e1 : sm n (fun c' => gm (M i c') (if c' = c then 1#8 else y c')) = sm n (fun c' => (if c' = c then M i c else 0#8) ^^^ gm (M i c') (y c')) := sm_congr fun c' _ => by
    by_cases e : c' = c
    · subst e; rw [if_pos rfl, if_pos rfl, y0 c' (by omega), gm_zero_right, gm_one_right]; simp
    · rw [if_neg e, if_neg e]; simp
  rw [e1, sm_xor, sm_one (k := c) (by omega) (fun c' _ h => by rw [if_neg h]), if_pos rfl]
  have e2 : sm n (fun c' => gm (M i c') (y c')) = sm k (fun t => gm (M i (p t)) (M t c)) := by
    have : sm n (fun c' => gm (M i c') (y c')) = sm n (fun c' => sm k (fun t => gm (M i c') (if p t = c' then M t c else 0#8))) := sm_congr fun c' _ => (sm_mul _ _ _).symm
    rw [this, sm_swap]
    refine sm_congr fun t ht => ?_
    rw [sm_one (k := p t) (by have := g.lt t ht; omega) (fun c' _ h => by rw [if_neg (fun e => h e.symm), gm_zero_right]), if_pos rfl]
  rw [e2]
  by_cases hik : i < k
  · rw [sm_one (k := i) hik (fun t ht h => by rw [g.unit t i ht hi, if_neg (fun e => h e.symm), gm_zero_left]), g.unit i i hik hi, if_pos rfl, gm_one_left]; simp
  · rw [sm_zero (fun t ht => by rw [g.unit t i ht hi, if_neg (by omega), gm_zero_left]), g.below i c (by omega) hi hc]; simp

/-- a step's column is no such sum -/
theorem good_indep {r n : Nat} {M : Nat → Nat → BitVec 8} {j k : Nat} {p : Nat → Nat} (g : Good r M j k p) (hj : j ≤ n) {t : Nat} (ht : t < k) (x : Nat → BitVec 8) (h1 : x (p t) = 1#8) (h2 : ∀ c', p t < c' → x c' = 0#8) : ¬ Ker r n M x := by
  intro hk
  have h := hk t (by have := g.le; omega)
  rw [sm_one (k := p t) (by have := g.lt t ht; omega) (fun c' _ hne => by
    by_cases e : c' < p t
    · rw [g.left t c' ht e, gm_zero_left]
    · rw [h2 c' (by omega), gm_zero_right]), h1, gm_one_right, g.unit t t ht (by have := g.le; omega), if_pos rfl] at h
  exact absurd h (by decide)

/-- less steps than columns: something that is not nothing is sent to nothing -/
theorem good_null {r n : Nat} {M : Nat → Nat → BitVec 8} {k : Nat} {p : Nat → Nat} (g : Good r M n k p) (hk : k < n) : ∃ x : Nat → BitVec 8, (∃ c, c < n ∧ x c ≠ 0#8) ∧ Ker r n M x := by
  have hmiss : ∃ c, c < n ∧ ∀ t, t < k → p t ≠ c := by
    by_cases h : ∃ t, t < k ∧ p t ≠ t
    · obtain ⟨t, ht, hp⟩ := h
      have hmin : ∃ t, t < k ∧ p t ≠ t ∧ ∀ s, s < t → p s = s := by
        induction t using Nat.strongRecOn with
        | ind t ih =>
          by_cases h' : ∃ s, s < t ∧ p s ≠ s
          · obtain ⟨s, hs, hps⟩ := h'
            exact ih s hs (by omega) hps
          · refine ⟨t, ht, hp, fun s hs => ?_⟩
            by_cases e : p s = s
            · exact e
            · exact absurd ⟨s, hs, e⟩ h'
      obtain ⟨t, ht, hp, hall⟩ := hmin
      have hge := inc_ge g.inc t ht
      refine ⟨t, by omega, fun s hs => ?_⟩
      by_cases e : s < t
      · rw [hall s e]; omega
      · have := inc_mono g.inc (s := t) (t := s) (by omega) hs; omega
    · refine ⟨k, hk, fun t ht => ?_⟩
      by_cases e : p t = t
      · rw [e]; omega
      · exact absurd ⟨t, ht, e⟩ h
  obtain ⟨c, hc, hn⟩ := hmiss
  obtain ⟨x, hx, _, hker⟩ := good_dep g (Nat.le_refl n) hc hn
  exact ⟨x, ⟨c, hc, by rw [hx]; decide⟩, hker⟩

/-- the number of steps hangs on the kernel alone -/
theorem good_le {r n : Nat} {M M' : Nat → Nat → BitVec 8} {j k j' k' : Nat} {p p' : Nat → Nat} (g : Good r M j k p) (g' : Good r M' j' k' p') (hj : j ≤ n) (hj' : j' ≤ n) (hend : j' = n ∨ k' = r)
    (hker : ∀ x, Ker r n M' x → Ker r n M x) : k ≤ k' := by
  rcases hend with hend | hend
  · have hmap : ∀ t, t < k → ∃ t', t' < k' ∧ p' t' = p t := by
      intro t ht
      by_cases h : ∃ t', t' < k' ∧ p' t' = p t
      · exact h
      · exfalso
        obtain ⟨x, hx1, hx2, hx3⟩ := good_dep g' hj' (c := p t) (by have := g.lt t ht; omega) (fun t' ht' e => h ⟨t', ht', e⟩)
        exact good_indep g hj ht x hx1 hx2 (hker x hx3)
    have hle : ∀ t, t < k → ∀ t', t' < k' → p' t' = p t → t ≤ t' := by
      intro t
      induction t with
      | zero => intro _ t' _ _; omega
      | succ t ih =>
        intro ht t' ht' e
        obtain ⟨s, hs, hse⟩ := hmap t (by omega)
        have h1 := ih (by omega) s hs hse
        have h2 := g.inc t (t + 1) (by omega) ht
        have h3 : s < t' := by
          rcases Nat.lt_or_ge s t' with h | h
          · exact h
          · have := inc_mono g'.inc h hs; omega
        omega
    rcases Nat.lt_or_ge k' k with h | h
    · obtain ⟨t', ht', e⟩ := hmap (k - 1) (by omega)
      have := hle (k - 1) (by omega) t' ht' e
      omega
    · exact h
  · have := g.le; omega
end Go.Proofs.Ytbnfnijjldimkab
namespace Go.Proofs.Ytbnfnijjldimkab
def idm (i k : Nat) : BitVec 8 := if i = k then 1#8 else 0#8
def mmul (n : Nat) (A B : Nat → Nat → BitVec 8) (i k : Nat) : BitVec 8 := sm n (fun j => gm (A i j) (B j k))
/-- A with Identity beside it -/
def aug (n : Nat) (A : Nat → Nat → BitVec 8) (i j : Nat) : BitVec 8 := if j < n then A i j else idm i (j - n)
/-- A sends nothing else to nothing -/
def Inj (n : Nat) (A : Nat → Nat → BitVec 8) : Prop := ∀ x, Ker n n A x → ∀ c, c < n → x c = 0#8
/-- B is A's inverse, from the right -/
def RInv (n : Nat) (A B : Nat → Nat → BitVec 8) : Prop := ∀ i k, i < n → k < n → mmul n A B i k = idm i k

theorem sm_split (a b : Nat) (f : Nat → BitVec 8) : sm (a + b) f = sm a f ^^^ sm b (fun j => f (a + j)) := by
  induction b with
  | zero => simp [sm]
  | succ b ih => rw [← Nat.add_assoc, sm, ih, sm]; ac_rfl

theorem mmul_assoc (n m : Nat) (A B C : Nat → Nat → BitVec 8) (i k : Nat) : mmul m (mmul n A B) C i k = mmul n A (mmul m B C) i k := by
  unfold mmul
  have e1 : sm m (fun j => gm (sm n (fun l => gm (A i l) (B l j))) (C j k)) = sm m (fun j => sm n (fun l => gm (gm (A i l) (B l j)) (C j k))) := sm_congr fun j _ => by
    rw [gm_comm, ← sm_mul]; exact sm_congr fun l _ => gm_comm _ _
  have e2 : sm n (fun l => gm (A i l) (sm m (fun j => gm (B l j) (C j k)))) = sm n (fun l => sm m (fun j => gm (gm (A i l) (B l j)) (C j k))) := sm_congr fun l _ => by
    rw [← sm_mul]; exact sm_congr fun j _ => (gm_assoc _ _ _).symm
  rw [e1, e2, sm_swap]
theorem mmul_idm_left (n : Nat) (A : Nat → Nat → BitVec 8) (i k : Nat) (hi : i < n) : mmul n idm A i k = A i k := by
  unfold mmul
  rw [sm_one (k := i) hi (fun j _ h => by unfold idm; rw [if_neg (fun e => h e.symm), gm_zero_left])]
  unfold idm; rw [if_pos rfl, gm_one_left]
theorem mmul_idm_right (n : Nat) (A : Nat → Nat → BitVec 8) (i k : Nat) (hk : k < n) : mmul n A idm i k = A i k := by
  unfold mmul
  rw [sm_one (k := k) hk (fun j _ h => by unfold idm; rw [if_neg h, gm_zero_right])]
  unfold idm; rw [if_pos rfl, gm_one_right]
theorem mmul_congr_left {n : Nat} {A A' B : Nat → Nat → BitVec 8} {i k : Nat} (h : ∀ j, j < n → A i j = A' i j) : mmul n A B i k = mmul n A' B i k := sm_congr fun j hj => by rw [h j hj]
theorem mmul_congr_right {n : Nat} {A B B' : Nat → Nat → BitVec 8} {i k : Nat} (h : ∀ j, j < n → B j k = B' j k) : mmul n A B i k = mmul n A B' i k := sm_congr fun j hj => by rw [h j hj]

theorem eq_of_xor_zero {a b : BitVec 8} (h : a ^^^ b = 0#8) : a = b := by
  have : (a ^^^ b) ^^^ b = 0#8 ^^^ b := by rw [h]
  rw [BitVec.xor_assoc] at this
  simpa using this

theorem unique_of_inj {n : Nat} {A B C : Nat → Nat → BitVec 8} (hi : Inj n A) (h : ∀ i k, i < n → k < n → mmul n A B i k = mmul n A C i k) : ∀ i k, i < n → k < n → B i k = C i k := by
  intro i k hi' hk
  apply eq_of_xor_zero
  refine hi (fun j => B j k ^^^ C j k) (fun r hr => ?_) i hi'
  have e : sm n (fun j => gm (A r j) (B j k ^^^ C j k)) = mmul n A B r k ^^^ mmul n A C r k := by
    unfold mmul; rw [← sm_xor]; exact sm_congr fun j _ => gm_xor_right _ _ _
  rw [e, h r k hr hk]; simp

/-- an inverse from the right of a matrix that sends nothing else to nothing is one from the left -/
theorem linv_of_rinv {n : Nat} {A B : Nat → Nat → BitVec 8} (hi : Inj n A) (h : RInv n A B) : RInv n B A := by
  have := unique_of_inj (B := mmul n B A) (C := idm) hi (fun i k hi' hk => by
    rw [← mmul_assoc, mmul_idm_right n A i k hk]
    rw [mmul_congr_left (A' := idm) (fun j hj => h i j hi' hj), mmul_idm_left n A i k hi'])
  exact this
theorem inj_of_linv {n : Nat} {A B : Nat → Nat → BitVec 8} (h : RInv n B A) : Inj n A := by
  intro x hx c hc
  have e1 : mmul n B (fun i _ => sm n (fun j => gm (A i j) (x j))) c 0 = 0#8 := sm_zero fun j hj => by
    show gm (B c j) (sm n (fun l => gm (A j l) (x l))) = 0#8
    rw [hx j hj, gm_zero_right]
  have e2 : mmul n B (mmul n A (fun j _ => x j)) c 0 = 0#8 := e1
  rw [← mmul_assoc, mmul_congr_left (A' := idm) (fun j hj => h c j hc hj), mmul_idm_left n _ c 0 hc] at e2
  exact e2

theorem ker_aug_low {n : Nat} {A : Nat → Nat → BitVec 8} {x : Nat → BitVec 8} : Ker n (n + n) (aug n A) (fun j => if j < n then x j else 0#8) ↔ Ker n n A x := by
  have e : ∀ i, sm (n + n) (fun j => gm (aug n A i j) (if j < n then x j else 0#8)) = sm n (fun j => gm (A i j) (x j)) := by
    intro i
    rw [sm_ext (n := n) (by omega) (fun j h _ => by rw [if_neg (by omega), gm_zero_right])]
    exact sm_congr fun j hj => by simp [aug, hj]
  constructor
  · intro h i hi; rw [← e]; exact h i hi
  · intro h i hi; rw [e]; exact h i hi

/-- all rows are steps: the matrix sends nothing else to nothing, and what stands beside Identity is its inverse -/
theorem good_inverse {n : Nat} {A M : Nat → Nat → BitVec 8} {j : Nat} {p : Nat → Nat} (g : Good n M j n p) (hj : j ≤ n) (hk : ∀ x, Ker n (n + n) M x ↔ Ker n (n + n) (aug n A) x) :
    Inj n A ∧ RInv n A (fun i k => M i (n + k)) := by
  have hf := good_full g hj
  have hid : ∀ i (x : Nat → BitVec 8), i < n → sm n (fun c => gm (M i c) (x c)) = x i := fun i x hi => by
    rw [sm_one (k := i) hi (fun c hc h => by rw [hf i c hi hc, if_neg (fun e => h e.symm), gm_zero_left]), hf i i hi hi, if_pos rfl, gm_one_left]
  constructor
  · intro x hx c hc
    have h1 := (hk _).2 (ker_aug_low.2 hx) c hc
    rw [sm_ext (n := n) (by omega) (fun j h _ => by rw [if_neg (by omega), gm_zero_right])] at h1
    have h2 : sm n (fun c' => gm (M c c') (if c' < n then x c' else 0#8)) = sm n (fun c' => gm (M c c') (x c')) := sm_congr fun j hj => by rw [if_pos hj]
    rw [h2, hid c x hc] at h1
    exact h1
  · intro i k hi hk'
    have nl : ∀ c, ¬ n + c < n := fun c => by omega
    let x : Nat → BitVec 8 := fun c => if c < n then M c (n + k) else idm k (c - n)
    have h1 : Ker n (n + n) M x := by
      intro r hr
      rw [sm_split]
      have a1 : sm n (fun c => gm (M r c) (x c)) = M r (n + k) := by
        rw [sm_congr (g := fun c => gm (M r c) (M c (n + k))) (fun c hc => by simp [x, hc])]
        exact hid r (fun c => M c (n + k)) hr
      have a2 : sm n (fun c => gm (M r (n + c)) (x (n + c))) = M r (n + k) := by
        rw [sm_one (k := k) hk' (fun c _ h => by simp [x, nl, idm, h.symm, gm_zero_right])]
        simp [x, nl, idm, gm_one_right]
      rw [a1, a2]; simp
    have h2 := (hk x).1 h1 i hi
    rw [sm_split] at h2
    have b1 : sm n (fun c => gm (aug n A i c) (x c)) = mmul n A (fun i k => M i (n + k)) i k := sm_congr fun c hc => by simp [aug, x, hc]
    have b2 : sm n (fun c => gm (aug n A i (n + c)) (x (n + c))) = idm i k := by
      rw [sm_one (k := k) hk' (fun c _ h => by simp [x, nl, idm, h.symm, gm_zero_right])]
      simp [aug, x, nl, idm, gm_one_right]
    rw [b1, b2] at h2
    exact eq_of_xor_zero h2
/-- less steps: it sends something else to nothing -/
theorem good_singular {n : Nat} {A M : Nat → Nat → BitVec 8} {k : Nat} {p : Nat → Nat} (g : Good n M n k p) (hlt : k < n) (hk : ∀ x, Ker n (n + n) M x ↔ Ker n (n + n) (aug n A) x) : ¬ Inj n A := by
  intro hi
  obtain ⟨x, ⟨c, hc, hx⟩, hker⟩ := good_null g hlt
  apply hx
  refine hi x (ker_aug_low.1 ((hk _).1 fun i hi' => ?_)) c hc
  rw [sm_ext (n := n) (by omega) (fun j h _ => by rw [if_neg (by omega), gm_zero_right])]
  rw [sm_congr (g := fun c => gm (M i c) (x c)) (fun c hc => by rw [if_pos hc])]
  exact hker i hi'
theorem good_singular' {n : Nat} {A M : Nat → Nat → BitVec 8} {k : Nat} {p : Nat → Nat} (g : Good n M n k p) (hlt : k < n) (hk : ∀ x, Ker n n M x ↔ Ker n n A x) : ¬ Inj n A := by
  intro hi
  obtain ⟨x, ⟨c, hc, hx⟩, hker⟩ := good_null g hlt
  exact hx (hi x ((hk x).1 hker) c hc)
theorem good_inj {n : Nat} {A M : Nat → Nat → BitVec 8} {j : Nat} {p : Nat → Nat} (g : Good n M j n p) (hj : j ≤ n) (hk : ∀ x, Ker n n M x ↔ Ker n n A x) : Inj n A := by
  have hf := good_full g hj
  intro x hx c hc
  have h1 := (hk x).2 hx c hc
  rw [sm_one (k := c) hc (fun c' hc' h => by rw [hf c c' hc hc', if_neg (fun e => h e.symm), gm_zero_left]), hf c c hc hc, if_pos rfl, gm_one_left] at h1
  exact h1
end Go.Proofs.Ytbnfnijjldimkab
namespace Go.Proofs.Ytbnfnijjldimkab
/-- the sum of f over pairs -/
def ls (f : BitVec 8 → BitVec 8 → BitVec 8) : List (BitVec 8 × BitVec 8) → BitVec 8
  | [] => 0#8
  | p :: l => f p.1 p.2 ^^^ ls f l
theorem ls_congr {f g : BitVec 8 → BitVec 8 → BitVec 8} {l : List (BitVec 8 × BitVec 8)} (h : ∀ p, p ∈ l → f p.1 p.2 = g p.1 p.2) : ls f l = ls g l := by
  induction l with
  | nil => rfl
  | cons p l ih => rw [ls, ls, h p (by simp), ih (fun q hq => h q (by simp [hq]))]
theorem ls_xor (f g : BitVec 8 → BitVec 8 → BitVec 8) (l : List (BitVec 8 × BitVec 8)) : ls (fun a b => f a b ^^^ g a b) l = ls f l ^^^ ls g l := by
  induction l with
  | nil => simp [ls]
  | cons p l ih => simp only [ls, ih]; ac_rfl
theorem ls_mul (c : BitVec 8) (f : BitVec 8 → BitVec 8 → BitVec 8) (l : List (BitVec 8 × BitVec 8)) : ls (fun a b => gm c (f a b)) l = gm c (ls f l) := by
  induction l with
  | nil => simp [ls, gm_zero_right]
  | cons p l ih => simp only [ls, ih, gm_xor_right]
theorem ls_zero {f : BitVec 8 → BitVec 8 → BitVec 8} {l : List (BitVec 8 × BitVec 8)} (h : ∀ p, p ∈ l → f p.1 p.2 = 0#8) : ls f l = 0#8 := by
  rw [ls_congr (g := fun _ _ => 0#8) h]
  induction l with
  | nil => rfl
  | cons p l ih => rw [ls, ih (fun q hq => h q (by simp [hq]))]; simp
theorem ls_map (f : BitVec 8 → BitVec 8 → BitVec 8) (g : BitVec 8 × BitVec 8 → BitVec 8 × BitVec 8) (l : List (BitVec 8 × BitVec 8)) : ls f (l.map g) = ls (fun a b => f (g (a, b)).1 (g (a, b)).2) l := by
  induction l with
  | nil => rfl
  | cons p l ih => rw [List.map_cons, ls, ls, ih]

theorem inv_ne' (a : BitVec 8) (h : a ≠ 0#8) : iv a ≠ 0#8 := by
  intro e
  have := gm_iv a h
  rw [e, gm_zero_right] at this
  exact absurd this (by decide)
theorem xor_ne {a b : BitVec 8} (h : a ≠ b) : a ^^^ b ≠ 0#8 := fun e => h (eq_of_xor_zero e)
/-- (z + y0) / (z + y) is 1 and (y0 + y) / (z + y) -/
theorem quot_split (z y y0 : BitVec 8) (h : z ≠ y) : gm (z ^^^ y0) (iv (z ^^^ y)) = 1#8 ^^^ gm (y0 ^^^ y) (iv (z ^^^ y)) := by
  have e : z ^^^ y0 = (z ^^^ y) ^^^ (y0 ^^^ y) := by
    have : (z ^^^ y) ^^^ (y0 ^^^ y) = (z ^^^ y0) ^^^ (y ^^^ y) := by ac_rfl
    rw [this]; simp
  rw [e, gm_xor_left, gm_iv _ (xor_ne h)]
theorem quot_sum (z z0 y : BitVec 8) (h : z ≠ y) (h0 : z0 ≠ y) : iv (z ^^^ y) ^^^ iv (z0 ^^^ y) = gm (z ^^^ z0) (gm (iv (z0 ^^^ y)) (iv (z ^^^ y))) := by
  have e : z ^^^ z0 = (z ^^^ y) ^^^ (z0 ^^^ y) := by
    have : (z ^^^ y) ^^^ (z0 ^^^ y) = (z ^^^ z0) ^^^ (y ^^^ y) := by ac_rfl
    rw [this]; simp
  rw [e, gm_xor_left]
  rw [gm_comm (iv (z0 ^^^ y)) (iv (z ^^^ y)), ← gm_assoc, gm_iv _ (xor_ne h), gm_one_left, gm_comm (iv (z ^^^ y)) (iv (z0 ^^^ y)), ← gm_assoc, gm_iv _ (xor_ne h0), gm_one_left, BitVec.xor_comm]

theorem cauchy : ∀ (n : Nat) (L : List (BitVec 8 × BitVec 8)) (Z : List (BitVec 8)), L.length = n → n ≤ Z.length → (L.map (·.1)).Nodup → Z.Nodup → (∀ z, z ∈ Z → ∀ p, p ∈ L → z ≠ p.1) →
    (∀ z, z ∈ Z → ls (fun y x => gm x (iv (z ^^^ y))) L = 0#8) → ∀ p, p ∈ L → p.2 = 0#8 := by
  intro n
  induction n with
  | zero => intro L Z hl _ _ _ _ _ p hp; have : L = [] := List.length_eq_zero_iff.1 hl; subst this; simp at hp
  | succ n ih =>
    intro L Z hl hz hL hZ hne heq
    match L, hl, Z, hz with
    | (y0, x0) :: L, hl, z0 :: Z, hz =>
      have hl' : L.length = n := by simpa using hl
      have hz' : n ≤ Z.length := by simpa using hz
      have hy : ∀ p, p ∈ L → y0 ≠ p.1 := by
        intro p hp e
        have h := (List.nodup_cons.1 (by simpa using hL : (y0 :: L.map (·.1)).Nodup)).1
        exact h (by rw [e]; exact List.mem_map_of_mem hp)
      have hLn : (L.map (·.1)).Nodup := (List.nodup_cons.1 (by simpa using hL : (y0 :: L.map (·.1)).Nodup)).2
      have hzn := List.nodup_cons.1 hZ
      -- each equation, times (z + y0)
      have hmul : ∀ z, z ∈ z0 :: Z → (x0 ^^^ ls (fun _ x => x) L) ^^^ ls (fun y x => gm (gm x (y0 ^^^ y)) (iv (z ^^^ y))) L = 0#8 := by
        intro z hzm
        have h := heq z hzm
        have hz0 : z ≠ y0 := hne z hzm (y0, x0) (by simp)
        have h1 : gm (z ^^^ y0) (ls (fun y x => gm x (iv (z ^^^ y))) ((y0, x0) :: L)) = 0#8 := by rw [h, gm_zero_right]
        rw [ls, gm_xor_right, ← ls_mul] at h1
        have e1 : gm (z ^^^ y0) (gm x0 (iv (z ^^^ y0))) = x0 := by
          rw [gm_comm x0, ← gm_assoc, gm_iv _ (xor_ne hz0), gm_one_left]
        have e2 : ls (fun y x => gm (z ^^^ y0) (gm x (iv (z ^^^ y)))) L = ls (fun y x => x ^^^ gm (gm x (y0 ^^^ y)) (iv (z ^^^ y))) L := ls_congr fun p hp => by
          have hzp := hne z hzm p (by simp [hp])
          rw [gm_comm p.2 (iv _), ← gm_assoc, quot_split z p.1 y0 hzp, gm_xor_left, gm_one_left, gm_comm (gm (y0 ^^^ p.1) (iv (z ^^^ p.1))) p.2, gm_assoc]
        simp only at h1
        rw [e1, e2, ls_xor] at h1
        rw [← h1]; ac_rfl
      have h0 := hmul z0 (by simp)
      -- the equation of z0 taken away, divided by (z + z0)
      have hsub : ∀ z, z ∈ Z → ls (fun y x => gm x (iv (z ^^^ y))) (L.map fun p => (p.1, gm (gm p.2 (y0 ^^^ p.1)) (iv (z0 ^^^ p.1)))) = 0#8 := by
        intro z hzm
        have h := hmul z (by simp [hzm])
        have hzz : z ≠ z0 := fun e => hzn.1 (e ▸ hzm)
        have h2 : ls (fun y x => gm (gm x (y0 ^^^ y)) (iv (z ^^^ y))) L = ls (fun y x => gm (gm x (y0 ^^^ y)) (iv (z0 ^^^ y))) L := by
          have a := eq_of_xor_zero h
          have b := eq_of_xor_zero h0
          rw [← a, ← b]
        have h3 : ls (fun y x => gm (gm x (y0 ^^^ y)) (iv (z ^^^ y)) ^^^ gm (gm x (y0 ^^^ y)) (iv (z0 ^^^ y))) L = 0#8 := by
          rw [ls_xor, h2]; simp
        have h4 : ls (fun y x => gm (z ^^^ z0) (gm (gm (gm x (y0 ^^^ y)) (iv (z0 ^^^ y))) (iv (z ^^^ y)))) L = 0#8 := by
          rw [← h3]
          refine ls_congr fun p hp => ?_
          have hzp := hne z (by simp [hzm]) p (by simp [hp])
          have hz0p := hne z0 (by simp) p (by simp [hp])
          rw [← gm_xor_right, quot_sum z z0 p.1 hzp hz0p, gm_assoc (gm p.2 (y0 ^^^ p.1)), ← gm_assoc (z ^^^ z0), gm_comm (z ^^^ z0) (gm p.2 (y0 ^^^ p.1)), gm_assoc]
        rw [ls_mul] at h4
        rcases (gm_eq_zero _ _).1 h4 with h5 | h5
        · exact absurd h5 (xor_ne hzz)
        · rw [ls_map]; exact h5
      have hih := ih (L.map fun p => (p.1, gm (gm p.2 (y0 ^^^ p.1)) (iv (z0 ^^^ p.1)))) Z (by simp [hl']) hz' (by simpa [List.map_map, Function.comp_def] using hLn) hzn.2 (by
        intro z hzm p hp
        obtain ⟨q, hq, rfl⟩ := List.mem_map.1 hp
        exact hne z (by simp [hzm]) q (by simp [hq])) hsub
      have hall : ∀ p, p ∈ L → p.2 = 0#8 := by
        intro p hp
        have h := hih _ (List.mem_map_of_mem hp)
        simp only at h
        rcases (gm_eq_zero _ _).1 h with h | h
        · rcases (gm_eq_zero _ _).1 h with h | h
          · exact h
          · exact absurd h (xor_ne (hy p hp))
        · exact absurd h (inv_ne' _ (xor_ne (hne z0 (by simp) p (by simp [hp]))))
      intro p hp
      rcases List.mem_cons.1 hp with rfl | hp
      · rw [ls_zero (fun p hp => hall p hp), ls_zero (fun p hp => by rw [hall p hp, gm_zero_left, gm_zero_left])] at h0
        simpa using h0
      · exact hall p hp
end Go.Proofs.Ytbnfnijjldimkab
namespace Go.Proofs.Ytbnfnijjldimkab
def ivv0 (a : BitVec 8) : BitVec 8 := if a = 0#8 then 0#8 else iv a
/-- Cauchy's cell: the inverse of a sum -/
def cau (k i j : Nat) : BitVec 8 := ivv0 (BitVec.ofNat 8 (k + i) ^^^ BitVec.ofNat 8 j)
/-- Identity with Cauchy under it -/
def gen (k i j : Nat) : BitVec 8 := if i < k then idm i j else cau k (i - k) j

theorem ofNat_inj8 {a b : Nat} (ha : a < 256) (hb : b < 256) (h : BitVec.ofNat 8 a = BitVec.ofNat 8 b) : a = b := by
  have := congrArg BitVec.toNat h
  simp only [BitVec.toNat_ofNat] at this
  omega

theorem sm_list (n : Nat) (f : Nat → BitVec 8) (g : BitVec 8 → BitVec 8 → BitVec 8) (x : Nat → BitVec 8) (q : Nat → Bool) (h1 : ∀ j, j < n → q j = false → f j = 0#8) (h2 : ∀ j, j < n → q j = true → f j = g (BitVec.ofNat 8 j) (x j)) :
    sm n f = ls g (((List.range n).filter q).map fun j => (BitVec.ofNat 8 j, x j)) := by
  induction n with
  | zero => rfl
  | succ n ih =>
    have happ : ∀ a b, ls g (a ++ b) = ls g a ^^^ ls g b := by
      intro a b
      induction a with
      | nil => simp [ls]
      | cons p a iha => rw [List.cons_append, ls, ls, iha]; ac_rfl
    rw [sm, ih (fun j hj => h1 j (by omega)) (fun j hj => h2 j (by omega)), List.range_succ, List.filter_append, List.map_append, happ]
    congr 1
    cases hq : q n with
    | false => rw [h1 n (by omega) hq]; simp [hq, ls]
    | true => rw [h2 n (by omega) hq]; simp [hq, ls]

theorem length_filter_not {α : Type} (p : α → Bool) (l : List α) : (l.filter p).length + (l.filter fun a => !p a).length = l.length := by
  induction l with
  | nil => rfl
  | cons a l ih => cases h : p a <;> simp [h] <;> omega

theorem nodup_length_le {α : Type} [DecidableEq α] : ∀ (l l' : List α), l.Nodup → (∀ a, a ∈ l → a ∈ l') → l.length ≤ l'.length
  | [], _, _, _ => by simp
  | a :: l, l', hn, hs => by
    have h1 := List.nodup_cons.1 hn
    have ha := hs a (by simp)
    have h2 := nodup_length_le l (l'.erase a) h1.2 (fun b hb => by
      have hne : b ≠ a := fun e => h1.1 (e ▸ hb)
      exact (List.mem_erase_of_ne hne).2 (hs b (by simp [hb])))
    rw [List.length_erase_of_mem ha] at h2
    have := List.length_pos_of_mem ha
    simp only [List.length_cons]; omega

theorem inj_gen (k m : Nat) (hkm : k + m ≤ 256) (R : List Nat) (hl : R.length = k) (hn : R.Nodup) (hr : ∀ a, a ∈ R → a < k + m) : Inj k (fun i j => gen k (R.getD i 0) j) := by
  intro x hx
  have hrow : ∀ a, a ∈ R → sm k (fun j => gm (gen k a j) (x j)) = 0#8 := by
    intro a ha
    obtain ⟨i, hi, rfl⟩ := List.getElem_of_mem ha
    have := hx i (by omega)
    rw [show R[i] = R.getD i 0 from by simp [hi]]
    exact this
  have hlow : ∀ a, a ∈ R → a < k → x a = 0#8 := by
    intro a ha hak
    have h := hrow a ha
    rw [sm_one (k := a) hak (fun j _ hne => by unfold gen idm; rw [if_pos hak, if_neg (fun e => hne e.symm), gm_zero_left])] at h
    unfold gen idm at h
    rw [if_pos hak, if_pos rfl, gm_one_left] at h
    exact h
  let q : Nat → Bool := fun j => !(R.contains j)
  let L := ((List.range k).filter q).map fun j => (BitVec.ofNat 8 j, x j)
  let H := R.filter fun a => !(decide (a < k))
  let Z := H.map fun a => BitVec.ofNat 8 a
  have hH : ∀ a, a ∈ H → a ∈ R ∧ k ≤ a := by
    intro a ha
    have := List.mem_filter.1 ha
    simp at this
    exact this
  have hq : ∀ j, q j = true ↔ j ∉ R := by intro j; simp [q]
  have hlen : L.length ≤ Z.length := by
    have h1 := length_filter_not (fun a => decide (a < k)) R
    have h2 := length_filter_not (fun j => R.contains j) (List.range k)
    have h3 : (R.filter fun a => decide (a < k)).length ≤ ((List.range k).filter fun j => R.contains j).length := by
      refine nodup_length_le _ _ (List.Nodup.sublist List.filter_sublist hn) (fun a ha => ?_)
      have := List.mem_filter.1 ha
      simp at this
      exact List.mem_filter.2 ⟨by simp; exact this.2, by simp; exact this.1⟩
    have h4 : L.length = ((List.range k).filter q).length := by simp [L]
    have h5 : Z.length = (R.filter fun a => !(decide (a < k))).length := by simp [Z, H]
    have h6 : ((List.range k).filter q).length = ((List.range k).filter fun j => !(R.contains j)).length := rfl
    simp only [List.length_range] at h2
    omega
  have hLfst : L.map (·.1) = ((List.range k).filter q).map fun j => BitVec.ofNat 8 j := by simp [L, List.map_map, Function.comp_def]
  have nodup_map : ∀ (l : List Nat), l.Nodup → (∀ a, a ∈ l → a < 256) → (l.map fun j => BitVec.ofNat 8 j).Nodup := by
    intro l
    induction l with
    | nil => intro _ _; simp
    | cons a l ih =>
      intro h1 h2
      have h3 := List.nodup_cons.1 h1
      rw [List.map_cons]
      refine List.nodup_cons.2 ⟨fun hm => ?_, ih h3.2 (fun b hb => h2 b (by simp [hb]))⟩
      obtain ⟨b, hb, e⟩ := List.mem_map.1 hm
      have := ofNat_inj8 (h2 b (by simp [hb])) (h2 a (by simp)) e
      exact h3.1 (this ▸ hb)
  have hall := cauchy L.length L Z rfl hlen (by
    rw [hLfst]
    exact nodup_map _ (List.Nodup.sublist List.filter_sublist List.nodup_range) (fun a ha => by have := (List.mem_filter.1 ha).1; simp at this; omega)) (nodup_map _ (List.Nodup.sublist List.filter_sublist hn) (fun a ha => by have := hr a (hH a ha).1; omega)) (by
    intro z hz p hp e
    obtain ⟨a, ha, rfl⟩ := List.mem_map.1 hz
    obtain ⟨j, hj, rfl⟩ := List.mem_map.1 hp
    have h1 := hH a ha
    have h2 := hr a h1.1
    have h3 := (List.mem_filter.1 hj).1
    simp at h3
    have := ofNat_inj8 (by omega) (by omega) e
    omega) (by
    intro z hz
    obtain ⟨a, ha, rfl⟩ := List.mem_map.1 hz
    have h1 := hH a ha
    have h2 := hr a h1.1
    rw [← hrow a h1.1]
    refine (sm_list k _ _ x q (fun j hj hqj => ?_) (fun j hj _ => ?_)).symm
    · have : j ∈ R := by
        by_cases hm : j ∈ R
        · exact hm
        · have := (hq j).2 hm; rw [hqj] at this; exact absurd this (by decide)
      rw [hlow j this hj, gm_zero_right]
    · unfold gen cau ivv0
      rw [if_neg (by omega), show k + (a - k) = a from by omega, if_neg (xor_ne (fun e => by have := ofNat_inj8 (by omega) (by omega) e; omega)), gm_comm])
  intro c hc
  by_cases hm : c ∈ R
  · exact hlow c hm hc
  · exact hall (BitVec.ofNat 8 c, x c) (List.mem_map.2 ⟨c, List.mem_filter.2 ⟨by simp; exact hc, (hq c).2 hm⟩, rfl⟩)
end Go.Proofs.Ytbnfnijjldimkab
