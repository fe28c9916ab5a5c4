/-
  The plain mathematics of inverses: what elimination of a matrix with Identity beside it gives. No Go in sight.
-/
import Derived.Test.YtbnfnijjldimkaaMx2
namespace Go.Proofs.Ytbnfnijjldimkaa
def idm (i k : Nat) : BitVec 8 := if i = k then 1#8 else 0#8
def mmul (n : Nat) (A B : Nat → Nat → BitVec 8) (i k : Nat) : BitVec 8 := sm n (fun j => gm (A i j) (B j k))
/-- A with Identity beside it -/
def aug (n : Nat) (A : Nat → Nat → BitVec 8) (i j : Nat) : BitVec 8 := if j < n then A i j else idm i (j - n)
/-- A sends nothing else to nothing -/
def Inj (n : Nat) (A : Nat → Nat → BitVec 8) : Prop := ∀ x, Ker n n A x → ∀ c, c < n → x c = 0#8
/-- B is A's inverse, from the right -/
def RInv (n : Nat) (A B : Nat → Nat → BitVec 8) : Prop := ∀ i k, i < n → k < n → mmul n A B i k = idm i k

theorem sm_split (a b : Nat) (f : Nat → BitVec 8) : sm (a + b) f = sm a f ^^^ sm b (fun j => f (a + j)) := by
  induction b with
  | zero => simp [sm]
  | succ b ih => rw [← Nat.add_assoc, sm, ih, sm]; ac_rfl

theorem mmul_assoc (n m : Nat) (A B C : Nat → Nat → BitVec 8) (i k : Nat) : mmul m (mmul n A B) C i k = mmul n A (mmul m B C) i k := by
  unfold mmul
  have e1 : sm m (fun j => gm (sm n (fun l => gm (A i l) (B l j))) (C j k)) = sm m (fun j => sm n (fun l => gm (gm (A i l) (B l j)) (C j k))) := sm_congr fun j _ => by
    rw [gm_comm, ← sm_mul]; exact sm_congr fun l _ => gm_comm _ _
  have e2 : sm n (fun l => gm (A i l) (sm m (fun j => gm (B l j) (C j k)))) = sm n (fun l => sm m (fun j => gm (gm (A i l) (B l j)) (C j k))) := sm_congr fun l _ => by
    rw [← sm_mul]; exact sm_congr fun j _ => (gm_assoc _ _ _).symm
  rw [e1, e2, sm_swap]
theorem mmul_idm_left (n : Nat) (A : Nat → Nat → BitVec 8) (i k : Nat) (hi : i < n) : mmul n idm A i k = A i k := by
  unfold mmul
  rw [sm_one (k := i) hi (fun j _ h => by unfold idm; rw [if_neg (fun e => h e.symm), gm_zero_left])]
  unfold idm; rw [if_pos rfl, gm_one_left]
theorem mmul_idm_right (n : Nat) (A : Nat → Nat → BitVec 8) (i k : Nat) (hk : k < n) : mmul n A idm i k = A i k := by
  unfold mmul
  rw [sm_one (k := k) hk (fun j _ h => by unfold idm; rw [if_neg h, gm_zero_right])]
  unfold idm; rw [if_pos rfl, gm_one_right]
theorem mmul_congr_left {n : Nat} {A A' B : Nat → Nat → BitVec 8} {i k : Nat} (h : ∀ j, j < n → A i j = A' i j) : mmul n A B i k = mmul n A' B i k := sm_congr fun j hj => by rw [h j hj]
theorem mmul_congr_right {n : Nat} {A B B' : Nat → Nat → BitVec 8} {i k : Nat} (h : ∀ j, j < n → B j k = B' j k) : mmul n A B i k = mmul n A B' i k := sm_congr fun j hj => by rw [h j hj]

theorem eq_of_xor_zero {a b : BitVec 8} (h : a ^^^ b = 0#8) : a = b := by
  have : (a ^^^ b) ^^^ b = 0#8 ^^^ b := by rw [h]
  rw [BitVec.xor_assoc] at this
  simpa using this

theorem unique_of_inj {n : Nat} {A B C : Nat → Nat → BitVec 8} (hi : Inj n A) (h : ∀ i k, i < n → k < n → mmul n A B i k = mmul n A C i k) : ∀ i k, i < n → k < n → B i k = C i k := by
  intro i k hi' hk
  apply eq_of_xor_zero
  refine hi (fun j => B j k ^^^ C j k) (fun r hr => ?_) i hi'
  have e : sm n (fun j => gm (A r j) (B j k ^^^ C j k)) = mmul n A B r k ^^^ mmul n A C r k := by
    unfold mmul; rw [← sm_xor]; exact sm_congr fun j _ => gm_xor_right _ _ _
  rw [e, h r k hr hk]; simp

/-- an inverse from the right of a matrix that sends nothing else to nothing is one from the left -/
theorem linv_of_rinv {n : Nat} {A B : Nat → Nat → BitVec 8} (hi : Inj n A) (h : RInv n A B) : RInv n B A := by
  have := unique_of_inj (B := mmul n B A) (C := idm) hi (fun i k hi' hk => by
    rw [← mmul_assoc, mmul_idm_right n A i k hk]
    rw [mmul_congr_left (A' := idm) (fun j hj => h i j hi' hj), mmul_idm_left n A i k hi'])
  exact this
theorem inj_of_linv {n : Nat} {A B : Nat → Nat → BitVec 8} (h : RInv n B A) : Inj n A := by
  intro x hx c hc
  have e1 : mmul n B (fun i _ => sm n (fun j => gm (A i j) (x j))) c 0 = 0#8 := sm_zero fun j hj => by
    show gm (B c j) (sm n (fun l => gm (A j l) (x l))) = 0#8
    rw [hx j hj, gm_zero_right]
  have e2 : mmul n B (mmul n A (fun j _ => x j)) c 0 = 0#8 := e1
  rw [← mmul_assoc, mmul_congr_left (A' := idm) (fun j hj => h c j hc hj), mmul_idm_left n _ c 0 hc] at e2
  exact e2

theorem ker_aug_low {n : Nat} {A : Nat → Nat → BitVec 8} {x : Nat → BitVec 8} : Ker n (n + n) (aug n A) (fun j => if j < n then x j else 0#8) ↔ Ker n n A x := by
  have e : ∀ i, sm (n + n) (fun j => gm (aug n A i j) (if j < n then x j else 0#8)) = sm n (fun j => gm (A i j) (x j)) := by
    intro i
    rw [sm_ext (n := n) (by omega) (fun j h _ => by rw [if_neg (by omega), gm_zero_right])]
    exact sm_congr fun j hj => by simp [aug, hj]
  constructor
  · intro h i hi; rw [← e]; exact h i hi
  · intro h i hi; rw [e]; exact h i hi

/-- all rows are steps: the matrix sends nothing else to nothing, and what stands beside Identity is its inverse -/
theorem good_inverse {n : Nat} {A M : Nat → Nat → BitVec 8} {j : Nat} {p : Nat → Nat} (g : Good n M j n p) (hj : j ≤ n) (hk : ∀ x, Ker n (n + n) M x ↔ Ker n (n + n) (aug n A) x) :
    Inj n A ∧ RInv n A (fun i k => M i (n + k)) := by
  have hf := good_full g hj
  have hid : ∀ i (x : Nat → BitVec 8), i < n → sm n (fun c => gm (M i c) (x c)) = x i := fun i x hi => by
    rw [sm_one (k := i) hi (fun c hc h => by rw [hf i c hi hc, if_neg (fun e => h e.symm), gm_zero_left]), hf i i hi hi, if_pos rfl, gm_one_left]
  constructor
  · intro x hx c hc
    have h1 := (hk _).2 (ker_aug_low.2 hx) c hc
    rw [sm_ext (n := n) (by omega) (fun j h _ => by rw [if_neg (by omega), gm_zero_right])] at h1
    have h2 : sm n (fun c' => gm (M c c') (if c' < n then x c' else 0#8)) = sm n (fun c' => gm (M c c') (x c')) := sm_congr fun j hj => by rw [if_pos hj]
    rw [h2, hid c x hc] at h1
    exact h1
  · intro i k hi hk'
    have nl : ∀ c, ¬ n + c < n := fun c => by omega
    let x : Nat → BitVec 8 := fun c => if c < n then M c (n + k) else idm k (c - n)
    have h1 : Ker n (n + n) M x := by
      intro r hr
      rw [sm_split]
      have a1 : sm n (fun c => gm (M r c) (x c)) = M r (n + k) := by
        rw [sm_congr (g := fun c => gm (M r c) (M c (n + k))) (fun c hc => by simp [x, hc])]
        exact hid r (fun c => M c (n + k)) hr
      have a2 : sm n (fun c => gm (M r (n + c)) (x (n + c))) = M r (n + k) := by
        rw [sm_one (k := k) hk' (fun c _ h => by simp [x, nl, idm, h.symm, gm_zero_right])]
        simp [x, nl, idm, gm_one_right]
      rw [a1, a2]; simp
    have h2 := (hk x).1 h1 i hi
    rw [sm_split] at h2
    have b1 : sm n (fun c => gm (aug n A i c) (x c)) = mmul n A (fun i k => M i (n + k)) i k := sm_congr fun c hc => by simp [aug, x, hc]
    have b2 : sm n (fun c => gm (aug n A i (n + c)) (x (n + c))) = idm i k := by
      rw [sm_one (k := k) hk' (fun c _ h => by simp [x, nl, idm, h.symm, gm_zero_right])]
      simp [aug, x, nl, idm, gm_one_right]
    rw [b1, b2] at h2
    exact eq_of_xor_zero h2
/-- less steps: it sends something else to nothing -/
theorem good_singular {n : Nat} {A M : Nat → Nat → BitVec 8} {k : Nat} {p : Nat → Nat} (g : Good n M n k p) (hlt : k < n) (hk : ∀ x, Ker n (n + n) M x ↔ Ker n (n + n) (aug n A) x) : ¬ Inj n A := by
  intro hi
  obtain ⟨x, ⟨c, hc, hx⟩, hker⟩ := good_null g hlt
  apply hx
  refine hi x (ker_aug_low.1 ((hk _).1 fun i hi' => ?_)) c hc
  rw [sm_ext (n := n) (by omega) (fun j h _ => by rw [if_neg (by omega), gm_zero_right])]
  rw [sm_congr (g := fun c => gm (M i c) (x c)) (fun c hc => by rw [if_pos hc])]
  exact hker i hi'
theorem good_singular' {n : Nat} {A M : Nat → Nat → BitVec 8} {k : Nat} {p : Nat → Nat} (g : Good n M n k p) (hlt : k < n) (hk : ∀ x, Ker n n M x ↔ Ker n n A x) : ¬ Inj n A := by
  intro hi
  obtain ⟨x, ⟨c, hc, hx⟩, hker⟩ := good_null g hlt
  exact hx (hi x ((hk x).1 hker) c hc)
theorem good_inj {n : Nat} {A M : Nat → Nat → BitVec 8} {j : Nat} {p : Nat → Nat} (g : Good n M j n p) (hj : j ≤ n) (hk : ∀ x, Ker n n M x ↔ Ker n n A x) : Inj n A := by
  have hf := good_full g hj
  intro x hx c hc
  have h1 := (hk x).2 hx c hc
  rw [sm_one (k := c) hc (fun c' hc' h => by rw [hf c c' hc hc', if_neg (fun e => h e.symm), gm_zero_left]), hf c c hc hc, if_pos rfl, gm_one_left] at h1
  exact h1
end Go.Proofs.Ytbnfnijjldimkaa
