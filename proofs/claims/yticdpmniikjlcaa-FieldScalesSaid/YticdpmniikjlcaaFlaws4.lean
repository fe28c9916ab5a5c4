/-
  The walk of the law FieldScales.
-/
import Derived.Test.YticdpmniikjlcaaFlaws
namespace Go.Proofs.Yticdpmniikjlcaa
open Go.RowKit
/-- what both Scale functions answer -/
@[irreducible] def sclS (c : Int) (s t : ByteArray) : ByteArray := if s.size = t.size then ⟨(scl (bv c) s.data.toList t.data.toList).toArray⟩ else ⟨#[]⟩
@[irreducible] def sclB (s t : ByteArray) : Bool := decide (s.size = t.size)
theorem scale_any (s t : ByteArray) (c : Int) (w : World) (hs : s.size ≤ 9223372036854775807) (h0 : 0 ≤ c) (h1 : c < 256) :
    Calls Try.prog 32 #[.string s, .string t, .int .u8 c] w fun e w' => e = .returned (.tuple #[.string (sclS c s t), .bool (sclB s t)]) ∧ Below w.heap.size w w' := by
  unfold sclS sclB
  by_cases h : s.size = t.size
  · simp only [h, if_true, decide_true]; exact scale_yes s t c w h hs h0 h1
  · simp only [h, if_false, decide_false]; exact scale_no s t c w h
theorem rscale_any (s t : ByteArray) (c : Int) (w : World) (hs : s.size ≤ 9223372036854775807) (h0 : 0 ≤ c) (h1 : c < 256) :
    Calls Try.prog 33 #[.string s, .string t, .int .u8 c] w fun e w' => e = .returned (.tuple #[.string (sclS c s t), .bool (sclB s t)]) ∧ Below w.heap.size w w' := by
  unfold sclS sclB
  by_cases h : s.size = t.size
  · simp only [h, if_true, decide_true]; exact rscale_yes s t c w h hs h0 h1
  · simp only [h, if_false, decide_false]; exact rscale_no s t c w h
theorem size_cut (s : ByteArray) (n : Nat) (h : n ≤ 9223372036854775807) : (s.extract 0 n).size ≤ 9223372036854775807 := by
  rw [ByteArray.size_extract]; omega
set_option maxRecDepth 100000 in
set_option maxHeartbeats 1000000 in
theorem scales_walk (s t : ByteArray) (c : Int) (hs : s.size ≤ maxLen) (_ht : t.size ≤ maxLen) (h0 : 0 ≤ c) (h1 : c < 256) (w : World) :
    Calls Try.prog 4 #[.string s, .string t, .int .u8 c] w fun e w' => e = .returned (.bool true) ∧ Below w.heap.size w w' := by
  unfold maxLen at hs
  have hs' : s.size ≤ 9223372036854775807 := hs
  clear hs
  go_enter Try.func4, Try.ntmps4
  go_wp2_with (first
    | (go_at_call 19; refine (known_any _).mono ?_; rintro e w1 ⟨rfl, hb1⟩)
    | (go_at_call 32; refine (scale_any _ _ _ _ (by first | exact hs' | exact size_cut _ _ (by decide)) h0 h1).mono ?_; rintro e w2 ⟨rfl, hb2⟩; have hb3 := hb1.trans (hb2.mono hb1.size); clear hb1 hb2)
    | (go_at_call 33; refine (rscale_any _ _ _ _ (by first | exact hs' | exact size_cut _ _ (by decide)) h0 h1).mono ?_; rintro e w2 ⟨rfl, hb2⟩; have hb4 := hb3.trans (hb2.mono hb3.size); clear hb3 hb2))
  all_goals go_ret
  all_goals exact ⟨rfl, by assumption⟩
end Go.Proofs.Yticdpmniikjlcaa
