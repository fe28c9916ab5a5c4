/-
  Size, Encode and the document's, whatever they are asked.
-/
import Derived.Test.YtbnfnijjldimkabEknown
namespace Go.Proofs.Ytbnfnijjldimkab
open Go.RowKit
set_option linter.unusedVariables false
set_option linter.unusedSimpArgs false
def szI (k l : Int) : Int := if mayB k 0 l = true then (szOf k.toNat l.toNat : Int) else 0
def szC (k l : Int) : Int := if mayB k 0 l = true then 0 else 1
theorem szI_bd (k l : Int) (h : l ≤ 9223372036854775807) : 0 ≤ szI k l ∧ szI k l ≤ 9223372036854775807 := by
  unfold szI
  split
  · rename_i hm
    obtain ⟨a, b, c, rfl, _, rfl, h1, h2⟩ := mayB_out hm
    simp only [Int.toNat_natCast]
    refine ⟨by omega, ?_⟩
    unfold szOf
    have h4 := Nat.div_add_mod c a
    have h5 : c / a ≤ a * (c / a) := Nat.le_mul_of_pos_left _ (by omega)
    split <;> omega
  · omega
theorem size_gen (k l : Int) (w : World) (h : l ≤ 9223372036854775807) :
    Calls Try.prog 10 #[.int .i64 k, .int .i64 l] w fun e w' => ∃ ev, e = .returned (.tuple #[.int .i64 (szI k l), ev]) ∧ ErrAt w.heap.size w' ev (szC k l) ∧ Below w.heap.size w w' := by
  unfold szI szC
  cases hm : mayB k 0 l
  · exact size_bad k l w hm
  · obtain ⟨a, b, c, rfl, _, rfl, h1, h2⟩ := mayB_out hm
    refine (size_ok a c w h1 (by omega) (by omega)).mono ?_
    rintro e w' ⟨rfl, rfl⟩
    exact ⟨_, by simp, ErrAt.ok0 _ _, Below.refl _ _⟩
theorem rsize_gen (k l : Int) (w : World) (h : l ≤ 9223372036854775807) :
    Calls Try.prog 11 #[.int .i64 k, .int .i64 l] w fun e w' => e = .returned (.tuple #[.int .i64 (szI k l), .int .i64 (szC k l)]) ∧ Below w.heap.size w w' := by
  unfold szI szC
  cases hm : mayB k 0 l
  · refine (rsize_bad k l w hm).mono ?_
    rintro e w' ⟨rfl, rfl⟩
    exact ⟨by simp, Below.refl _ _⟩
  · obtain ⟨a, b, c, rfl, _, rfl, h1, h2⟩ := mayB_out hm
    refine (rsize_ok a c w h1 (by omega) (by omega)).mono ?_
    rintro e w' ⟨rfl, rfl⟩
    exact ⟨by simp, Below.refl _ _⟩
def encC (k m : Int) : Int := if mayB k m 0 = true then 0 else 1
def encT (k m : Int) (t : ByteArray) : List ByteArray := if mayB k m 0 = true then shards k.toNat m.toNat t else []
theorem encT_le (k m : Int) (t : ByteArray) : (encT k m t).length ≤ 255 := by
  unfold encT
  split
  · rename_i hm
    obtain ⟨a, b, c, rfl, rfl, _, h1, h2⟩ := mayB_out hm
    rw [shards_length]
    simp only [Int.toNat_natCast]
    omega
  · simp
theorem encode_gen (k m : Int) (t : ByteArray) (w : World) (h : t.size ≤ 50000) :
    Calls Try.prog 14 #[.int .i64 k, .int .i64 m, .string t] w fun e w' => ∃ a cap ev, e = .returned (.tuple #[.slice a (encT k m t).length cap, ev]) ∧ ErrAt w.heap.size w' ev (encC k m) ∧ StrsRd w' a (encT k m t) ∧ Below w.heap.size w w' := by
  unfold encC encT
  cases hm : mayB k m 0
  · refine (encode_bad k m t w hm).mono ?_
    rintro e w' ⟨ev, rfl, he, hb⟩
    exact ⟨none, 0, ev, rfl, he, fun i hi => by simp at hi, hb⟩
  · obtain ⟨a, b, c, rfl, rfl, hc, h1, h2⟩ := mayB_out hm
    clear hc
    refine (encode_ok a b t w h1 h2 h).mono ?_
    rintro e w' ⟨g, cap, rfl, hs, hb⟩
    refine ⟨some ⟨g, 0, none⟩, cap, .nilIface, ?_, ErrAt.ok0 _ _, ?_, hb⟩
    · rw [if_pos rfl, shards_length]; rfl
    · rw [if_pos rfl]; exact hs.1
theorem rencode_gen (k m : Int) (t : ByteArray) (w : World) (h : t.size ≤ 50000) :
    Calls Try.prog 15 #[.int .i64 k, .int .i64 m, .string t] w fun e w' => ∃ a cap, e = .returned (.tuple #[.slice a (encT k m t).length cap, .int .i64 (encC k m)]) ∧ StrsRd w' a (encT k m t) ∧ Below w.heap.size w w' := by
  unfold encC encT
  cases hm : mayB k m 0
  · refine (rencode_bad k m t w hm).mono ?_
    rintro e w' ⟨rfl, rfl⟩
    exact ⟨none, 0, rfl, fun i hi => by simp at hi, Below.refl _ _⟩
  · obtain ⟨a, b, c, rfl, rfl, hc, h1, h2⟩ := mayB_out hm
    clear hc
    refine (rencode_ok a b t w h1 h2 h).mono ?_
    rintro e w' ⟨g, cap, rfl, hs, hb⟩
    refine ⟨some ⟨g, 0, none⟩, cap, ?_, ?_, hb⟩
    · rw [if_pos rfl, shards_length]; rfl
    · rw [if_pos rfl]; exact hs
end Go.Proofs.Ytbnfnijjldimkab
