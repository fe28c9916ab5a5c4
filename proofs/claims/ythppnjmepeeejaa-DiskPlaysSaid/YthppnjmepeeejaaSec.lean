/-
  What a disk's sectors read as behind writes, flushes and losses. Plain lists of bytes.
-/
import Derived.Test.YthppnjmepeeejaaDiskLose
namespace Go.Proofs.Ythppnjmepeeejaa
open Go.RowKit
/-- sector a of a row of bytes -/
def sec (l : List UInt8) (a : Nat) : List UInt8 := (l.drop (a * 64)).take 64
theorem sec_get (l : List UInt8) (a i : Nat) : (sec l a)[i]? = if i < 64 then l[a * 64 + i]? else none := by
  unfold sec
  rw [List.getElem?_take, List.getElem?_drop]
theorem laidAt_get (l : List UInt8) (o : Nat) (s : List UInt8) (i : Nat) (h : o ≤ l.length) : (laidAt l o s)[i]? = if i < o then l[i]? else if i < o + s.length then s[i - o]? else l[i]? := by
  unfold laidAt
  have hl : (l.take o).length = o := by rw [List.length_take]; omega
  rw [List.append_assoc]
  by_cases h1 : i < o
  · rw [if_pos h1, List.getElem?_append_left (by omega), List.getElem?_take, if_pos h1]
  · rw [if_neg h1, List.getElem?_append_right (by omega), hl]
    by_cases h2 : i < o + s.length
    · rw [if_pos h2, List.getElem?_append_left (by omega)]
    · rw [if_neg h2, List.getElem?_append_right (by omega), List.getElem?_drop]
      congr 1; omega
theorem sec_laid_other (l : List UInt8) (a b : Nat) (s : List UInt8) (h : a * 64 ≤ l.length) (hs : s.length ≤ 64) (hab : a ≠ b) : sec (laidAt l (a * 64) s) b = sec l b := by
  apply List.ext_getElem?
  intro i
  rw [sec_get, sec_get]
  by_cases hi : i < 64
  · rw [if_pos hi, if_pos hi, laidAt_get l _ s _ h]
    by_cases h1 : b * 64 + i < a * 64
    · rw [if_pos h1]
    · rw [if_neg h1, if_neg (by omega)]
  · rw [if_neg hi, if_neg hi]
theorem sec_laid_self (l : List UInt8) (a : Nat) (s : List UInt8) (h : a * 64 ≤ l.length) (hs : s.length ≤ 64) : sec (laidAt l (a * 64) s) a = s ++ (sec l a).drop s.length := by
  apply List.ext_getElem?
  intro i
  rw [sec_get]
  by_cases h2 : i < s.length
  · rw [List.getElem?_append_left h2, if_pos (by omega), laidAt_get l _ s _ h, if_neg (by omega), if_pos (by omega)]
    congr 1; omega
  · rw [List.getElem?_append_right (by omega), List.getElem?_drop, sec_get, show s.length + (i - s.length) = i from by omega]
    by_cases hi : i < 64
    · rw [if_pos hi, if_pos hi, laidAt_get l _ s _ h, if_neg (by omega), if_neg (by omega)]
    · rw [if_neg hi, if_neg hi]
theorem sec_length (l : List UInt8) (n a : Nat) (h : l.length = 64 * n) (ha : a < n) : (sec l a).length = 64 := by
  unfold sec; rw [List.length_take, List.length_drop]; omega
theorem sec_laid_full (l : List UInt8) (n a : Nat) (s : List UInt8) (h : l.length = 64 * n) (ha : a < n) (hs : s.length = 64) : sec (laidAt l (a * 64) s) a = s := by
  rw [sec_laid_self l a s (by omega) (by omega), List.drop_of_length_le (by rw [sec_length l n a h ha]; omega), List.append_nil]
theorem take_sec (l : List UInt8) (k : Nat) : l.take (64 * (k + 1)) = l.take (64 * k) ++ sec l k := by
  unfold sec
  rw [show 64 * (k + 1) = 64 * k + 64 from by omega, List.take_add, Nat.mul_comm k 64]
theorem lasts_eq (D : Dk) (a : Nat) : D.lasts a = ⟨(sec D.has a).toArray⟩ := rfl
theorem ba_list (s : ByteArray) : (⟨s.data.toList.toArray⟩ : ByteArray) = s := by cases s; simp
/-- what is pending at a sector, in order: what it reads as -/
def readsOf (l : List (Nat × ByteArray)) (a : Nat) (s : ByteArray) : ByteArray := l.foldl (fun s x => if x.1 = a then x.2 else s) s
theorem reads_eq (D : Dk) (a : Nat) : D.reads a = readsOf D.wait a (D.lasts a) := rfl
theorem readsOf_snoc (l : List (Nat × ByteArray)) (a b : Nat) (s t : ByteArray) : readsOf (l ++ [(b, t)]) a s = if b = a then t else readsOf l a s := by
  unfold readsOf
  rw [List.foldl_append, List.foldl_cons, List.foldl_nil]
theorem lay1_sec (has : List UInt8) (x : Nat × ByteArray) (n a : Nat) (h : has.length = 64 * n) (hx : x.1 < n) (hs : x.2.size = 64) : (⟨(sec (lay1 has x) a).toArray⟩ : ByteArray) = if x.1 = a then x.2 else ⟨(sec has a).toArray⟩ := by
  have hl : x.2.data.toList.length = 64 := by simpa using hs
  unfold lay1
  by_cases e : x.1 = a
  · rw [if_pos e, ← e, sec_laid_full has n x.1 _ h hx hl, ba_list]
  · rw [if_neg e, sec_laid_other has x.1 a _ (by omega) (by omega) e]
theorem fold_lay1_sec (l : List (Nat × ByteArray)) (has : List UInt8) (n a : Nat) (h : has.length = 64 * n) (hx : ∀ x, x ∈ l → x.1 < n ∧ x.2.size = 64) : (⟨(sec (l.foldl lay1 has) a).toArray⟩ : ByteArray) = readsOf l a ⟨(sec has a).toArray⟩ := by
  induction l generalizing has with
  | nil => rfl
  | cons x l ih =>
    unfold readsOf
    rw [List.foldl_cons, List.foldl_cons, ih (lay1 has x) (lay1_length has x n h (hx x (by simp)).1 (hx x (by simp)).2) (fun y hy => hx y (by simp [hy])), lay1_sec has x n a h (hx x (by simp)).1 (hx x (by simp)).2]
    rfl
/-- a flush lets last what was read -/
theorem flushed_lasts {D : Dk} {n : Nat} (ok : D.ok n) (a : Nat) : D.flushed.lasts a = D.reads a := by
  rw [reads_eq, lasts_eq, lasts_eq]
  exact fold_lay1_sec D.wait D.has n a ok.len (fun x hx => ⟨ok.at_ x hx, ok.size x hx⟩)
theorem flushed_reads {D : Dk} {n : Nat} (ok : D.ok n) (a : Nat) : D.flushed.reads a = D.reads a := flushed_lasts ok a
theorem laid_nil (l : List UInt8) (o : Nat) : laidAt l o [] = l := by
  unfold laidAt; simp
/-- a loss that keeps nothing and tears nothing -/
theorem losing_none (D : Dk) (k : Nat) : D.losing [] 0 k = (D.has, 0) := by
  induction k with
  | zero => rfl
  | succ k ih =>
    simp only [Dk.losing, ih]
    split
    · rfl
    · simp [laid_nil]
theorem lost_none (D : Dk) : D.lost [] 0 = { D with wait := [] } := by
  unfold Dk.lost
  rw [show tornOf 0 = 0 from rfl, losing_none]
theorem image_eq {D : Dk} (hd : D.dead = false) : D.image = ⟨D.has.toArray⟩ := by unfold Dk.image; rw [hd]; rfl
end Go.Proofs.Ythppnjmepeeejaa
