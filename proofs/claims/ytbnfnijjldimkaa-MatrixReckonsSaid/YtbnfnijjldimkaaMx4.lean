/-
  The plain mathematics of Cauchy's matrix: any rows of Identity with Cauchy under it send nothing else to nothing. No Go in sight.
-/
import Derived.Test.YtbnfnijjldimkaaMx3
namespace Go.Proofs.Ytbnfnijjldimkaa
/-- the sum of f over pairs -/
def ls (f : BitVec 8 → BitVec 8 → BitVec 8) : List (BitVec 8 × BitVec 8) → BitVec 8
  | [] => 0#8
  | p :: l => f p.1 p.2 ^^^ ls f l
theorem ls_congr {f g : BitVec 8 → BitVec 8 → BitVec 8} {l : List (BitVec 8 × BitVec 8)} (h : ∀ p, p ∈ l → f p.1 p.2 = g p.1 p.2) : ls f l = ls g l := by
  induction l with
  | nil => rfl
  | cons p l ih => rw [ls, ls, h p (by simp), ih (fun q hq => h q (by simp [hq]))]
theorem ls_xor (f g : BitVec 8 → BitVec 8 → BitVec 8) (l : List (BitVec 8 × BitVec 8)) : ls (fun a b => f a b ^^^ g a b) l = ls f l ^^^ ls g l := by
  induction l with
  | nil => simp [ls]
  | cons p l ih => simp only [ls, ih]; ac_rfl
theorem ls_mul (c : BitVec 8) (f : BitVec 8 → BitVec 8 → BitVec 8) (l : List (BitVec 8 × BitVec 8)) : ls (fun a b => gm c (f a b)) l = gm c (ls f l) := by
  induction l with
  | nil => simp [ls, gm_zero_right]
  | cons p l ih => simp only [ls, ih, gm_xor_right]
theorem ls_zero {f : BitVec 8 → BitVec 8 → BitVec 8} {l : List (BitVec 8 × BitVec 8)} (h : ∀ p, p ∈ l → f p.1 p.2 = 0#8) : ls f l = 0#8 := by
  rw [ls_congr (g := fun _ _ => 0#8) h]
  induction l with
  | nil => rfl
  | cons p l ih => rw [ls, ih (fun q hq => h q (by simp [hq]))]; simp
theorem ls_map (f : BitVec 8 → BitVec 8 → BitVec 8) (g : BitVec 8 × BitVec 8 → BitVec 8 × BitVec 8) (l : List (BitVec 8 × BitVec 8)) : ls f (l.map g) = ls (fun a b => f (g (a, b)).1 (g (a, b)).2) l := by
  induction l with
  | nil => rfl
  | cons p l ih => rw [List.map_cons, ls, ls, ih]

theorem inv_ne' (a : BitVec 8) (h : a ≠ 0#8) : iv a ≠ 0#8 := by
  intro e
  have := gm_iv a h
  rw [e, gm_zero_right] at this
  exact absurd this (by decide)
theorem xor_ne {a b : BitVec 8} (h : a ≠ b) : a ^^^ b ≠ 0#8 := fun e => h (eq_of_xor_zero e)
/-- (z + y0) / (z + y) is 1 and (y0 + y) / (z + y) -/
theorem quot_split (z y y0 : BitVec 8) (h : z ≠ y) : gm (z ^^^ y0) (iv (z ^^^ y)) = 1#8 ^^^ gm (y0 ^^^ y) (iv (z ^^^ y)) := by
  have e : z ^^^ y0 = (z ^^^ y) ^^^ (y0 ^^^ y) := by
    have : (z ^^^ y) ^^^ (y0 ^^^ y) = (z ^^^ y0) ^^^ (y ^^^ y) := by ac_rfl
    rw [this]; simp
  rw [e, gm_xor_left, gm_iv _ (xor_ne h)]
theorem quot_sum (z z0 y : BitVec 8) (h : z ≠ y) (h0 : z0 ≠ y) : iv (z ^^^ y) ^^^ iv (z0 ^^^ y) = gm (z ^^^ z0) (gm (iv (z0 ^^^ y)) (iv (z ^^^ y))) := by
  have e : z ^^^ z0 = (z ^^^ y) ^^^ (z0 ^^^ y) := by
    have : (z ^^^ y) ^^^ (z0 ^^^ y) = (z ^^^ z0) ^^^ (y ^^^ y) := by ac_rfl
    rw [this]; simp
  rw [e, gm_xor_left]
  rw [gm_comm (iv (z0 ^^^ y)) (iv (z ^^^ y)), ← gm_assoc, gm_iv _ (xor_ne h), gm_one_left, gm_comm (iv (z ^^^ y)) (iv (z0 ^^^ y)), ← gm_assoc, gm_iv _ (xor_ne h0), gm_one_left, BitVec.xor_comm]

theorem cauchy : ∀ (n : Nat) (L : List (BitVec 8 × BitVec 8)) (Z : List (BitVec 8)), L.length = n → n ≤ Z.length → (L.map (·.1)).Nodup → Z.Nodup → (∀ z, z ∈ Z → ∀ p, p ∈ L → z ≠ p.1) →
    (∀ z, z ∈ Z → ls (fun y x => gm x (iv (z ^^^ y))) L = 0#8) → ∀ p, p ∈ L → p.2 = 0#8 := by
  intro n
  induction n with
  | zero => intro L Z hl _ _ _ _ _ p hp; have : L = [] := List.length_eq_zero_iff.1 hl; subst this; simp at hp
  | succ n ih =>
    intro L Z hl hz hL hZ hne heq
    match L, hl, Z, hz with
    | (y0, x0) :: L, hl, z0 :: Z, hz =>
      have hl' : L.length = n := by simpa using hl
      have hz' : n ≤ Z.length := by simpa using hz
      have hy : ∀ p, p ∈ L → y0 ≠ p.1 := by
        intro p hp e
        have h := (List.nodup_cons.1 (by simpa using hL : (y0 :: L.map (·.1)).Nodup)).1
        exact h (by rw [e]; exact List.mem_map_of_mem hp)
      have hLn : (L.map (·.1)).Nodup := (List.nodup_cons.1 (by simpa using hL : (y0 :: L.map (·.1)).Nodup)).2
      have hzn := List.nodup_cons.1 hZ
      -- each equation, times (z + y0)
      have hmul : ∀ z, z ∈ z0 :: Z → (x0 ^^^ ls (fun _ x => x) L) ^^^ ls (fun y x => gm (gm x (y0 ^^^ y)) (iv (z ^^^ y))) L = 0#8 := by
        intro z hzm
        have h := heq z hzm
        have hz0 : z ≠ y0 := hne z hzm (y0, x0) (by simp)
        have h1 : gm (z ^^^ y0) (ls (fun y x => gm x (iv (z ^^^ y))) ((y0, x0) :: L)) = 0#8 := by rw [h, gm_zero_right]
        rw [ls, gm_xor_right, ← ls_mul] at h1
        have e1 : gm (z ^^^ y0) (gm x0 (iv (z ^^^ y0))) = x0 := by
          rw [gm_comm x0, ← gm_assoc, gm_iv _ (xor_ne hz0), gm_one_left]
        have e2 : ls (fun y x => gm (z ^^^ y0) (gm x (iv (z ^^^ y)))) L = ls (fun y x => x ^^^ gm (gm x (y0 ^^^ y)) (iv (z ^^^ y))) L := ls_congr fun p hp => by
          have hzp := hne z hzm p (by simp [hp])
          rw [gm_comm p.2 (iv _), ← gm_assoc, quot_split z p.1 y0 hzp, gm_xor_left, gm_one_left, gm_comm (gm (y0 ^^^ p.1) (iv (z ^^^ p.1))) p.2, gm_assoc]
        simp only at h1
        rw [e1, e2, ls_xor] at h1
        rw [← h1]; ac_rfl
      have h0 := hmul z0 (by simp)
      -- the equation of z0 taken away, divided by (z + z0)
      have hsub : ∀ z, z ∈ Z → ls (fun y x => gm x (iv (z ^^^ y))) (L.map fun p => (p.1, gm (gm p.2 (y0 ^^^ p.1)) (iv (z0 ^^^ p.1)))) = 0#8 := by
        intro z hzm
        have h := hmul z (by simp [hzm])
        have hzz : z ≠ z0 := fun e => hzn.1 (e ▸ hzm)
        have h2 : ls (fun y x => gm (gm x (y0 ^^^ y)) (iv (z ^^^ y))) L = ls (fun y x => gm (gm x (y0 ^^^ y)) (iv (z0 ^^^ y))) L := by
          have a := eq_of_xor_zero h
          have b := eq_of_xor_zero h0
          rw [← a, ← b]
        have h3 : ls (fun y x => gm (gm x (y0 ^^^ y)) (iv (z ^^^ y)) ^^^ gm (gm x (y0 ^^^ y)) (iv (z0 ^^^ y))) L = 0#8 := by
          rw [ls_xor, h2]; simp
        have h4 : ls (fun y x => gm (z ^^^ z0) (gm (gm (gm x (y0 ^^^ y)) (iv (z0 ^^^ y))) (iv (z ^^^ y)))) L = 0#8 := by
          rw [← h3]
          refine ls_congr fun p hp => ?_
          have hzp := hne z (by simp [hzm]) p (by simp [hp])
          have hz0p := hne z0 (by simp) p (by simp [hp])
          rw [← gm_xor_right, quot_sum z z0 p.1 hzp hz0p, gm_assoc (gm p.2 (y0 ^^^ p.1)), ← gm_assoc (z ^^^ z0), gm_comm (z ^^^ z0) (gm p.2 (y0 ^^^ p.1)), gm_assoc]
        rw [ls_mul] at h4
        rcases (gm_eq_zero _ _).1 h4 with h5 | h5
        · exact absurd h5 (xor_ne hzz)
        · rw [ls_map]; exact h5
      have hih := ih (L.map fun p => (p.1, gm (gm p.2 (y0 ^^^ p.1)) (iv (z0 ^^^ p.1)))) Z (by simp [hl']) hz' (by simpa [List.map_map, Function.comp_def] using hLn) hzn.2 (by
        intro z hzm p hp
        obtain ⟨q, hq, rfl⟩ := List.mem_map.1 hp
        exact hne z (by simp [hzm]) q (by simp [hq])) hsub
      have hall : ∀ p, p ∈ L → p.2 = 0#8 := by
        intro p hp
        have h := hih _ (List.mem_map_of_mem hp)
        simp only at h
        rcases (gm_eq_zero _ _).1 h with h | h
        · rcases (gm_eq_zero _ _).1 h with h | h
          · exact h
          · exact absurd h (xor_ne (hy p hp))
        · exact absurd h (inv_ne' _ (xor_ne (hne z0 (by simp) p (by simp [hp]))))
      intro p hp
      rcases List.mem_cons.1 hp with rfl | hp
      · rw [ls_zero (fun p hp => hall p hp), ls_zero (fun p hp => by rw [hall p hp, gm_zero_left, gm_zero_left])] at h0
        simpa using h0
      · exact hall p hp
end Go.Proofs.Ytbnfnijjldimkaa
