/-
  The plain mathematics of Identity with Cauchy under it: whichever rows are taken, as many as there are columns, they send nothing else to nothing. No Go in sight.
-/
import Derived.Test.YtbnfnijjldimkaaMx4
namespace Go.Proofs.Ytbnfnijjldimkaa
def ivv0 (a : BitVec 8) : BitVec 8 := if a = 0#8 then 0#8 else iv a
/-- Cauchy's cell: the inverse of a sum -/
def cau (k i j : Nat) : BitVec 8 := ivv0 (BitVec.ofNat 8 (k + i) ^^^ BitVec.ofNat 8 j)
/-- Identity with Cauchy under it -/
def gen (k i j : Nat) : BitVec 8 := if i < k then idm i j else cau k (i - k) j

theorem ofNat_inj8 {a b : Nat} (ha : a < 256) (hb : b < 256) (h : BitVec.ofNat 8 a = BitVec.ofNat 8 b) : a = b := by
  have := congrArg BitVec.toNat h
  simp only [BitVec.toNat_ofNat] at this
  omega

theorem sm_list (n : Nat) (f : Nat → BitVec 8) (g : BitVec 8 → BitVec 8 → BitVec 8) (x : Nat → BitVec 8) (q : Nat → Bool) (h1 : ∀ j, j < n → q j = false → f j = 0#8) (h2 : ∀ j, j < n → q j = true → f j = g (BitVec.ofNat 8 j) (x j)) :
    sm n f = ls g (((List.range n).filter q).map fun j => (BitVec.ofNat 8 j, x j)) := by
  induction n with
  | zero => rfl
  | succ n ih =>
    have happ : ∀ a b, ls g (a ++ b) = ls g a ^^^ ls g b := by
      intro a b
      induction a with
      | nil => simp [ls]
      | cons p a iha => rw [List.cons_append, ls, ls, iha]; ac_rfl
    rw [sm, ih (fun j hj => h1 j (by omega)) (fun j hj => h2 j (by omega)), List.range_succ, List.filter_append, List.map_append, happ]
    congr 1
    cases hq : q n with
    | false => rw [h1 n (by omega) hq]; simp [hq, ls]
    | true => rw [h2 n (by omega) hq]; simp [hq, ls]

theorem length_filter_not {α : Type} (p : α → Bool) (l : List α) : (l.filter p).length + (l.filter fun a => !p a).length = l.length := by
  induction l with
  | nil => rfl
  | cons a l ih => cases h : p a <;> simp [h] <;> omega

theorem nodup_length_le {α : Type} [DecidableEq α] : ∀ (l l' : List α), l.Nodup → (∀ a, a ∈ l → a ∈ l') → l.length ≤ l'.length
  | [], _, _, _ => by simp
  | a :: l, l', hn, hs => by
    have h1 := List.nodup_cons.1 hn
    have ha := hs a (by simp)
    have h2 := nodup_length_le l (l'.erase a) h1.2 (fun b hb => by
      have hne : b ≠ a := fun e => h1.1 (e ▸ hb)
      exact (List.mem_erase_of_ne hne).2 (hs b (by simp [hb])))
    rw [List.length_erase_of_mem ha] at h2
    have := List.length_pos_of_mem ha
    simp only [List.length_cons]; omega

theorem inj_gen (k m : Nat) (hkm : k + m ≤ 256) (R : List Nat) (hl : R.length = k) (hn : R.Nodup) (hr : ∀ a, a ∈ R → a < k + m) : Inj k (fun i j => gen k (R.getD i 0) j) := by
  intro x hx
  have hrow : ∀ a, a ∈ R → sm k (fun j => gm (gen k a j) (x j)) = 0#8 := by
    intro a ha
    obtain ⟨i, hi, rfl⟩ := List.getElem_of_mem ha
    have := hx i (by omega)
    rw [show R[i] = R.getD i 0 from by simp [hi]]
    exact this
  have hlow : ∀ a, a ∈ R → a < k → x a = 0#8 := by
    intro a ha hak
    have h := hrow a ha
    rw [sm_one (k := a) hak (fun j _ hne => by unfold gen idm; rw [if_pos hak, if_neg (fun e => hne e.symm), gm_zero_left])] at h
    unfold gen idm at h
    rw [if_pos hak, if_pos rfl, gm_one_left] at h
    exact h
  let q : Nat → Bool := fun j => !(R.contains j)
  let L := ((List.range k).filter q).map fun j => (BitVec.ofNat 8 j, x j)
  let H := R.filter fun a => !(decide (a < k))
  let Z := H.map fun a => BitVec.ofNat 8 a
  have hH : ∀ a, a ∈ H → a ∈ R ∧ k ≤ a := by
    intro a ha
    have := List.mem_filter.1 ha
    simp at this
    exact this
  have hq : ∀ j, q j = true ↔ j ∉ R := by intro j; simp [q]
  have hlen : L.length ≤ Z.length := by
    have h1 := length_filter_not (fun a => decide (a < k)) R
    have h2 := length_filter_not (fun j => R.contains j) (List.range k)
    have h3 : (R.filter fun a => decide (a < k)).length ≤ ((List.range k).filter fun j => R.contains j).length := by
      refine nodup_length_le _ _ (List.Nodup.sublist List.filter_sublist hn) (fun a ha => ?_)
      have := List.mem_filter.1 ha
      simp at this
      exact List.mem_filter.2 ⟨by simp; exact this.2, by simp; exact this.1⟩
    have h4 : L.length = ((List.range k).filter q).length := by simp [L]
    have h5 : Z.length = (R.filter fun a => !(decide (a < k))).length := by simp [Z, H]
    have h6 : ((List.range k).filter q).length = ((List.range k).filter fun j => !(R.contains j)).length := rfl
    simp only [List.length_range] at h2
    omega
  have hLfst : L.map (·.1) = ((List.range k).filter q).map fun j => BitVec.ofNat 8 j := by simp [L, List.map_map, Function.comp_def]
  have nodup_map : ∀ (l : List Nat), l.Nodup → (∀ a, a ∈ l → a < 256) → (l.map fun j => BitVec.ofNat 8 j).Nodup := by
    intro l
    induction l with
    | nil => intro _ _; simp
    | cons a l ih =>
      intro h1 h2
      have h3 := List.nodup_cons.1 h1
      rw [List.map_cons]
      refine List.nodup_cons.2 ⟨fun hm => ?_, ih h3.2 (fun b hb => h2 b (by simp [hb]))⟩
      obtain ⟨b, hb, e⟩ := List.mem_map.1 hm
      have := ofNat_inj8 (h2 b (by simp [hb])) (h2 a (by simp)) e
      exact h3.1 (this ▸ hb)
  have hall := cauchy L.length L Z rfl hlen (by
    rw [hLfst]
    exact nodup_map _ (List.Nodup.sublist List.filter_sublist List.nodup_range) (fun a ha => by have := (List.mem_filter.1 ha).1; simp at this; omega)) (nodup_map _ (List.Nodup.sublist List.filter_sublist hn) (fun a ha => by have := hr a (hH a ha).1; omega)) (by
    intro z hz p hp e
    obtain ⟨a, ha, rfl⟩ := List.mem_map.1 hz
    obtain ⟨j, hj, rfl⟩ := List.mem_map.1 hp
    have h1 := hH a ha
    have h2 := hr a h1.1
    have h3 := (List.mem_filter.1 hj).1
    simp at h3
    have := ofNat_inj8 (by omega) (by omega) e
    omega) (by
    intro z hz
    obtain ⟨a, ha, rfl⟩ := List.mem_map.1 hz
    have h1 := hH a ha
    have h2 := hr a h1.1
    rw [← hrow a h1.1]
    refine (sm_list k _ _ x q (fun j hj hqj => ?_) (fun j hj _ => ?_)).symm
    · have : j ∈ R := by
        by_cases hm : j ∈ R
        · exact hm
        · have := (hq j).2 hm; rw [hqj] at this; exact absurd this (by decide)
      rw [hlow j this hj, gm_zero_right]
    · unfold gen cau ivv0
      rw [if_neg (by omega), show k + (a - k) = a from by omega, if_neg (xor_ne (fun e => by have := ofNat_inj8 (by omega) (by omega) e; omega)), gm_comm])
  intro c hc
  by_cases hm : c ∈ R
  · exact hlow c hm hc
  · exact hall (BitVec.ofNat 8 c, x c) (List.mem_map.2 ⟨c, List.mem_filter.2 ⟨by simp; exact hc, (hq c).2 hm⟩, rfl⟩)
end Go.Proofs.Ytbnfnijjldimkaa
