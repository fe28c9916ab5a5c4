/-
  Texts under matrices, byte by byte. No Go.
-/
import Derived.Test.YtbnfnijjldimkabMapply
namespace Go.Proofs.Ytbnfnijjldimkab
open Go.RowKit
/-- a byte of a text (0 behind its end) -/
def byteAt (s : ByteArray) (p : Nat) : BitVec 8 := (s.data.toList.getD p 0).toBitVec
theorem byteAt_get (s : ByteArray) (p : Nat) (h : p < s.data.toList.length) : s.data.toList[p].toBitVec = byteAt s p := by
  unfold byteAt
  rw [List.getD_eq_getElem?_getD, List.getElem?_eq_getElem h, Option.getD_some]
theorem bytes_ext {s t : ByteArray} (h : s.size = t.size) (hb : ∀ p, p < s.size → byteAt s p = byteAt t p) : s = t := by
  have hs : s.data.toList.length = s.size := by simp
  have ht : t.data.toList.length = t.size := by simp
  have : s.data.toList = t.data.toList := by
    apply List.ext_getElem (by omega)
    intro i h1 h2
    have := hb i (by omega)
    unfold byteAt at this
    rw [List.getD_eq_getElem?_getD, List.getD_eq_getElem?_getD, List.getElem?_eq_getElem h1, List.getElem?_eq_getElem h2, Option.getD_some, Option.getD_some] at this
    exact UInt8.toBitVec_inj.1 this
  have h2 : s.data = t.data := Array.toList_inj.1 this
  cases s; cases t; simp_all
theorem rowText_eq (x : Nat → BitVec 8) (cols : List ByteArray) (len : Nat) (h : ∀ i, i < cols.length → (cols.getD i ⟨#[]⟩).size = len) (k : Nat) (hk : k ≤ cols.length) : rowText x cols len k = (List.range len).map fun p => UInt8.ofBitVec (sm k fun j => gm (x j) (byteAt (cols.getD j ⟨#[]⟩) p)) := by
  induction k with
  | zero =>
    rw [rowText]
    apply List.ext_getElem (by simp)
    intro i h1 h2
    simp [sm]
  | succ k ih =>
    have hl := rowText_length x cols len h k (by omega)
    have h2 := h k (by omega)
    have h3 : (cols.getD k ⟨#[]⟩).data.toList.length = len := by rw [← h2]; simp
    rw [rowText]
    apply List.ext_getElem
    · rw [scl_length _ _ _ (by rw [hl, h3]), hl]; simp
    · intro i h4 h5
      have hi : i < len := by simpa using h5
      rw [scl_get _ _ _ _ (by rw [hl]; exact hi) (by rw [h3]; exact hi)]
      have e1 : (rowText x cols len k)[i]'(by rw [hl]; exact hi) = UInt8.ofBitVec (sm k fun j => gm (x j) (byteAt (cols.getD j ⟨#[]⟩) i)) := by
        simp only [ih (by omega)]
        simp
      have e2 : ((cols.getD k ⟨#[]⟩).data.toList[i]'(by rw [h3]; exact hi)).toBitVec = byteAt (cols.getD k ⟨#[]⟩) i := byteAt_get _ _ (by rw [h3]; exact hi)
      rw [e1, e2]
      simp [sm]
theorem byteAt_row (x : Nat → BitVec 8) (cols : List ByteArray) (len : Nat) (h : ∀ i, i < cols.length → (cols.getD i ⟨#[]⟩).size = len) (k : Nat) (hk : k ≤ cols.length) (p : Nat) (hp : p < len) : byteAt (rowStr x cols len k) p = sm k fun j => gm (x j) (byteAt (cols.getD j ⟨#[]⟩) p) := by
  show ((rowText x cols len k).toArray.toList.getD p 0).toBitVec = _
  rw [List.toList_toArray, rowText_eq x cols len h k hk, List.getD_eq_getElem?_getD]
  simp [hp]
/-- a matrix' first r rows applied -/
def rowStrs (A : Nat → Nat → BitVec 8) (cols : List ByteArray) (len c r : Nat) : List ByteArray := (List.range r).map fun i => rowStr (A i) cols len c
theorem rowStrs_length (A : Nat → Nat → BitVec 8) (cols : List ByteArray) (len c r : Nat) : (rowStrs A cols len c r).length = r := by simp [rowStrs]
theorem rowStrs_get (A : Nat → Nat → BitVec 8) (cols : List ByteArray) (len c r i : Nat) (h : i < r) : (rowStrs A cols len c r).getD i ⟨#[]⟩ = rowStr (A i) cols len c := by
  rw [List.getD_eq_getElem?_getD]
  simp [rowStrs, h]
theorem rowStrs_size (A : Nat → Nat → BitVec 8) (cols : List ByteArray) (len c r : Nat) (h : ∀ i, i < cols.length → (cols.getD i ⟨#[]⟩).size = len) (hc : c ≤ cols.length) (i : Nat) (hi : i < (rowStrs A cols len c r).length) : ((rowStrs A cols len c r).getD i ⟨#[]⟩).size = len := by
  rw [rowStrs_length] at hi
  rw [rowStrs_get _ _ _ _ _ _ hi, rowStr_size _ _ _ h _ hc]
theorem rowStr_ext {s : ByteArray} {x : Nat → BitVec 8} {cols : List ByteArray} {len k : Nat} (h : ∀ i, i < cols.length → (cols.getD i ⟨#[]⟩).size = len) (hk : k ≤ cols.length) (hs : s.size = len) (hb : ∀ p, p < len → byteAt s p = sm k fun j => gm (x j) (byteAt (cols.getD j ⟨#[]⟩) p)) : s = rowStr x cols len k := by
  refine bytes_ext (by rw [hs, rowStr_size x cols len h k hk]) fun p hp => ?_
  rw [byteAt_row x cols len h k hk p (by omega), hb p (by omega)]
/-- products applied at once or one behind the other -/
theorem rowStr_chain (A B : Nat → Nat → BitVec 8) (cols : List ByteArray) (len n m i : Nat) (h : ∀ i, i < cols.length → (cols.getD i ⟨#[]⟩).size = len) (hm : m ≤ cols.length) : rowStr (mmul n A B i) cols len m = rowStr (A i) (rowStrs B cols len m n) len n := by
  refine rowStr_ext (rowStrs_size B cols len m n h hm) (by rw [rowStrs_length]; exact Nat.le_refl _) (rowStr_size _ _ _ h _ hm) fun p hp => ?_
  rw [byteAt_row _ _ _ h _ hm p hp]
  have e := mmul_assoc n m A B (fun t p => byteAt (cols.getD t ⟨#[]⟩) p) i p
  refine e.trans (sm_congr fun j hj => ?_)
  rw [rowStrs_get _ _ _ _ _ _ hj, byteAt_row _ _ _ h _ hm p hp]
  rfl
theorem appCells_rowStrs (A : Nat → Nat → BitVec 8) (cols : List ByteArray) (len c r : Nat) : appCells A cols len c r = (rowStrs A cols len c r).map .string := by
  unfold appCells rowStrs
  rw [List.map_map]
  rfl
end Go.Proofs.Ytbnfnijjldimkab
