/-
  The plain mathematics of elimination: what a matrix that was brought to steps tells of kernels. No Go in sight.
-/
import Derived.Test.YtbnfnijjldimkaaMx
namespace Go.Proofs.Ytbnfnijjldimkaa
/-- M is brought to steps in its columns below j: there are k of them, in the columns p 0, p 1 .. -/
structure Good (r : Nat) (M : Nat → Nat → BitVec 8) (j k : Nat) (p : Nat → Nat) : Prop where
  le : k ≤ r
  lt : ∀ t, t < k → p t < j
  inc : ∀ s t, s < t → t < k → p s < p t
  unit : ∀ t i, t < k → i < r → M i (p t) = if i = t then 1#8 else 0#8
  below : ∀ i c, k ≤ i → i < r → c < j → M i c = 0#8
  left : ∀ t c, t < k → c < p t → M t c = 0#8

theorem good_start (r : Nat) (M : Nat → Nat → BitVec 8) (p : Nat → Nat) : Good r M 0 0 p :=
  ⟨by omega, fun t h => by omega, fun s t _ h => by omega, fun t i h => by omega, fun i c _ _ h => by omega, fun t c h => by omega⟩

theorem good_skip {r : Nat} {M : Nat → Nat → BitVec 8} {j k : Nat} {p : Nat → Nat} (g : Good r M j k p) (h : ∀ i, k ≤ i → i < r → M i j = 0#8) : Good r M (j + 1) k p :=
  ⟨g.le, fun t ht => by have := g.lt t ht; omega, g.inc, g.unit, fun i c h1 h2 h3 => by
    by_cases e : c = j
    · subst e; exact h i h1 h2
    · exact g.below i c h1 h2 (by omega), g.left⟩

theorem good_step {r : Nat} {M N M' : Nat → Nat → BitVec 8} {j k : Nat} {p : Nat → Nat} (g : Good r M j k p) (hk : k < r)
    (h1 : ∀ i c, i < k → N i c = M i c) (h2 : ∀ i c, k ≤ i → i < r → c < j → N i c = 0#8) (h3 : N k j = 1#8)
    (h4 : ∀ i c, i < r → M' i c = if i = k then N k c else N i c ^^^ gm (N i j) (N k c)) : Good r M' (j + 1) (k + 1) (fun t => if t = k then j else p t) := by
  refine ⟨by omega, fun t ht => ?_, fun s t hs ht => ?_, fun t i ht hi => ?_, fun i c hi1 hi2 hc => ?_, fun t c ht hc => ?_⟩
  · by_cases e : t = k
    · simp [e]
    · have := g.lt t (by omega); simp [e]; omega
  · by_cases e : t = k
    · have := g.lt s (by omega)
      have e2 : ¬ s = k := by omega
      simp [e, e2]; exact this
    · have e2 : ¬ s = k := by omega
      simp [e, e2]; exact g.inc s t hs (by omega)
  · rw [h4 _ _ hi]
    by_cases e : t = k
    · subst e
      simp only [if_true]
      by_cases e2 : i = t
      · simp [e2, h3]
      · simp [e2, h3, gm_one_right]
    · have ht' : t < k := by omega
      have hp := g.lt t ht'
      simp only [e, if_false]
      by_cases e2 : i = k
      · subst e2
        simp only [if_true]
        rw [h2 i _ (by omega) hi hp, if_neg (by omega)]
      · simp only [e2, if_false]
        rw [h2 k _ (by omega) hk hp, gm_zero_right]
        by_cases e3 : i < k
        · rw [h1 _ _ e3, g.unit t i ht' hi]; simp
        · rw [h2 i _ (by omega) hi hp, if_neg (by omega)]; simp
  · rw [h4 _ _ hi2, if_neg (by omega)]
    by_cases e : c = j
    · subst e
      rw [h3, gm_one_right]; simp
    · rw [h2 i c (by omega) hi2 (by omega), h2 k c (by omega) hk (by omega), gm_zero_right]; simp
  · by_cases e : t = k
    · subst e
      simp only [if_true] at hc
      rw [h4 _ _ (by omega), if_pos rfl]
      exact h2 t c (by omega) (by omega) hc
    · simp only [e, if_false] at hc
      have ht' : t < k := by omega
      have hp := g.lt t ht'
      rw [h4 _ _ (by omega), if_neg e, h1 _ _ ht', g.left t c ht' hc, h2 k c (by omega) hk (by omega), gm_zero_right]; simp

theorem inc_ge {k : Nat} {p : Nat → Nat} (h : ∀ s t, s < t → t < k → p s < p t) : ∀ t, t < k → t ≤ p t := by
  intro t
  induction t with
  | zero => omega
  | succ t ih => intro ht; have := ih (by omega); have := h t (t + 1) (by omega) ht; omega
theorem inc_mono {k : Nat} {p : Nat → Nat} (h : ∀ s t, s < t → t < k → p s < p t) {s t : Nat} (hst : s ≤ t) (ht : t < k) : p s ≤ p t := by
  by_cases e : s = t
  · rw [e]; omega
  · have := h s t (by omega) ht; omega

/-- all rows are steps: the first columns are those of Identity -/
theorem good_full {r : Nat} {M : Nat → Nat → BitVec 8} {j : Nat} {p : Nat → Nat} (g : Good r M j r p) (hj : j ≤ r) : ∀ i c, i < r → c < r → M i c = if i = c then 1#8 else 0#8 := by
  have hp : ∀ d t, t < r → r = t + 1 + d → p t = t := by
    intro d
    induction d with
    | zero => intro t ht e; have := g.lt t ht; have := inc_ge g.inc t ht; omega
    | succ d ih =>
      intro t ht e
      have h1 := ih (t + 1) (by omega) (by omega)
      have h2 := g.inc t (t + 1) (by omega) (by omega)
      have := inc_ge g.inc t ht; omega
  intro i c hi hc
  have h := g.unit c i hc hi
  rwa [hp (r - c - 1) c hc (by omega)] at h

/-- a column that is no step is the sum of columns ahead of it -/
theorem good_dep {r n : Nat} {M : Nat → Nat → BitVec 8} {j k : Nat} {p : Nat → Nat} (g : Good r M j k p) (hj : j ≤ n) {c : Nat} (hc : c < j) (hn : ∀ t, t < k → p t ≠ c) :
    ∃ x : Nat → BitVec 8, x c = 1#8 ∧ (∀ c', c < c' → x c' = 0#8) ∧ Ker r n M x := by
  let y : Nat → BitVec 8 := fun c' => sm k (fun t => if p t = c' then M t c else 0#8)
  have y0 : ∀ c', c ≤ c' → y c' = 0#8 := fun c' h => sm_zero fun t ht => by
    by_cases e : p t = c'
    · rw [if_pos e]; exact g.left t c ht (by have := hn t ht; omega)
    · rw [if_neg e]
  refine ⟨fun c' => if c' = c then 1#8 else y c', by simp, fun c' h => by show (if c' = c then 1#8 else y c') = 0#8; rw [if_neg (by omega)]; exact y0 c' (by omega), fun i hi => ?_⟩
  have e1 : sm n (fun c' => gm (M i c') (if c' = c then 1#8 else y c')) = sm n (fun c' => (if c' = c then M i c else 0#8) ^^^ gm (M i c') (y c')) := sm_congr fun c' _ => by
    by_cases e : c' = c
    · subst e; rw [if_pos rfl, if_pos rfl, y0 c' (by omega), gm_zero_right, gm_one_right]; simp
    · rw [if_neg e, if_neg e]; simp
  rw [e1, sm_xor, sm_one (k := c) (by omega) (fun c' _ h => by rw [if_neg h]), if_pos rfl]
  have e2 : sm n (fun c' => gm (M i c') (y c')) = sm k (fun t => gm (M i (p t)) (M t c)) := by
    have : sm n (fun c' => gm (M i c') (y c')) = sm n (fun c' => sm k (fun t => gm (M i c') (if p t = c' then M t c else 0#8))) := sm_congr fun c' _ => (sm_mul _ _ _).symm
    rw [this, sm_swap]
    refine sm_congr fun t ht => ?_
    rw [sm_one (k := p t) (by have := g.lt t ht; omega) (fun c' _ h => by rw [if_neg (fun e => h e.symm), gm_zero_right]), if_pos rfl]
  rw [e2]
  by_cases hik : i < k
  · rw [sm_one (k := i) hik (fun t ht h => by rw [g.unit t i ht hi, if_neg (fun e => h e.symm), gm_zero_left]), g.unit i i hik hi, if_pos rfl, gm_one_left]; simp
  · rw [sm_zero (fun t ht => by rw [g.unit t i ht hi, if_neg (by omega), gm_zero_left]), g.below i c (by omega) hi hc]; simp

/-- a step's column is no such sum -/
theorem good_indep {r n : Nat} {M : Nat → Nat → BitVec 8} {j k : Nat} {p : Nat → Nat} (g : Good r M j k p) (hj : j ≤ n) {t : Nat} (ht : t < k) (x : Nat → BitVec 8) (h1 : x (p t) = 1#8) (h2 : ∀ c', p t < c' → x c' = 0#8) : ¬ Ker r n M x := by
  intro hk
  have h := hk t (by have := g.le; omega)
  rw [sm_one (k := p t) (by have := g.lt t ht; omega) (fun c' _ hne => by
    by_cases e : c' < p t
    · rw [g.left t c' ht e, gm_zero_left]
    · rw [h2 c' (by omega), gm_zero_right]), h1, gm_one_right, g.unit t t ht (by have := g.le; omega), if_pos rfl] at h
  exact absurd h (by decide)

/-- less steps than columns: something that is not nothing is sent to nothing -/
theorem good_null {r n : Nat} {M : Nat → Nat → BitVec 8} {k : Nat} {p : Nat → Nat} (g : Good r M n k p) (hk : k < n) : ∃ x : Nat → BitVec 8, (∃ c, c < n ∧ x c ≠ 0#8) ∧ Ker r n M x := by
  have hmiss : ∃ c, c < n ∧ ∀ t, t < k → p t ≠ c := by
    by_cases h : ∃ t, t < k ∧ p t ≠ t
    · obtain ⟨t, ht, hp⟩ := h
      have hmin : ∃ t, t < k ∧ p t ≠ t ∧ ∀ s, s < t → p s = s := by
        induction t using Nat.strongRecOn with
        | ind t ih =>
          by_cases h' : ∃ s, s < t ∧ p s ≠ s
          · obtain ⟨s, hs, hps⟩ := h'
            exact ih s hs (by omega) hps
          · refine ⟨t, ht, hp, fun s hs => ?_⟩
            by_cases e : p s = s
            · exact e
            · exact absurd ⟨s, hs, e⟩ h'
      obtain ⟨t, ht, hp, hall⟩ := hmin
      have hge := inc_ge g.inc t ht
      refine ⟨t, by omega, fun s hs => ?_⟩
      by_cases e : s < t
      · rw [hall s e]; omega
      · have := inc_mono g.inc (s := t) (t := s) (by omega) hs; omega
    · refine ⟨k, hk, fun t ht => ?_⟩
      by_cases e : p t = t
      · rw [e]; omega
      · exact absurd ⟨t, ht, e⟩ h
  obtain ⟨c, hc, hn⟩ := hmiss
  obtain ⟨x, hx, _, hker⟩ := good_dep g (Nat.le_refl n) hc hn
  exact ⟨x, ⟨c, hc, by rw [hx]; decide⟩, hker⟩

/-- the number of steps hangs on the kernel alone -/
theorem good_le {r n : Nat} {M M' : Nat → Nat → BitVec 8} {j k j' k' : Nat} {p p' : Nat → Nat} (g : Good r M j k p) (g' : Good r M' j' k' p') (hj : j ≤ n) (hj' : j' ≤ n) (hend : j' = n ∨ k' = r)
    (hker : ∀ x, Ker r n M' x → Ker r n M x) : k ≤ k' := by
  rcases hend with hend | hend
  · have hmap : ∀ t, t < k → ∃ t', t' < k' ∧ p' t' = p t := by
      intro t ht
      by_cases h : ∃ t', t' < k' ∧ p' t' = p t
      · exact h
      · exfalso
        obtain ⟨x, hx1, hx2, hx3⟩ := good_dep g' hj' (c := p t) (by have := g.lt t ht; omega) (fun t' ht' e => h ⟨t', ht', e⟩)
        exact good_indep g hj ht x hx1 hx2 (hker x hx3)
    have hle : ∀ t, t < k → ∀ t', t' < k' → p' t' = p t → t ≤ t' := by
      intro t
      induction t with
      | zero => intro _ t' _ _; omega
      | succ t ih =>
        intro ht t' ht' e
        obtain ⟨s, hs, hse⟩ := hmap t (by omega)
        have h1 := ih (by omega) s hs hse
        have h2 := g.inc t (t + 1) (by omega) ht
        have h3 : s < t' := by
          rcases Nat.lt_or_ge s t' with h | h
          · exact h
          · have := inc_mono g'.inc h hs; omega
        omega
    rcases Nat.lt_or_ge k' k with h | h
    · obtain ⟨t', ht', e⟩ := hmap (k - 1) (by omega)
      have := hle (k - 1) (by omega) t' ht' e
      omega
    · exact h
  · have := g.le; omega
end Go.Proofs.Ytbnfnijjldimkaa
