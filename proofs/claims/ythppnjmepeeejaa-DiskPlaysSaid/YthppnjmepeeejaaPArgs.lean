/-
  The law DiskPlays' script among its arguments: a slice of steps, each with its own slice of Booleans.
-/
import Derived.Test.YthppnjmepeeejaaPlays
import Derived.Deep.Fields
namespace Go.Proofs.Ythppnjmepeeejaa
open Go.RowKit Go.ChangeShapes Go.WideShapes Go.Deep
section
variable {H : Type} {enc : TypeId × Value → H} {W : World}
/-- what stands in one field of a struct whose fields have one cell each -/
theorem field_of {fuel : Nat} {t : TypeId} {fs : Array Field} {cs : List Value} {x : DataW H × List MemPlace} (ht : Try.prog.underlying t = some (.struct fs)) (hone : oneCellFields Try.prog fs = true) (hC : Try.prog.cellsOf t = fs.size)
    (h : DataW.trod enc Try.prog W 0 (fun _ => true) true fuel t cs = some x) : cs.length = fs.size ∧ ∀ (j : Nat) (T : TypeId), (fs.map (·.type))[j]? = some T → ∃ (v : Value) (y : DataW H × List MemPlace) (n : Nat), cs[j]? = some v ∧ DataW.trod enc Try.prog W 0 (fun _ => true) true n T [v] = some y := by
  obtain ⟨xs, n, _, _, hl, hx, hf⟩ := DataW.trod_struct ht h
  refine ⟨hl.trans hC, fun j T hj => ?_⟩
  rw [Array.getElem?_map, Option.map_eq_some_iff] at hj
  obtain ⟨f, hj, rfl⟩ := hj
  obtain ⟨ho, hk⟩ := hone_of hone j f hj
  have hjl : j < fs.size := (Array.getElem?_eq_some_iff.1 hj).1
  have h1 := hf j f hj
  have hcl : j < cs.length := by rw [hl, hC]; exact hjl
  rw [ho, hk, List.drop_eq_getElem_cons hcl, List.getElem?_eq_getElem (by omega)] at h1
  exact ⟨cs[j], _, n, List.getElem?_eq_getElem hcl, h1⟩
theorem boolsin_of {n : Nat} {v : Value} {y : DataW H × List MemPlace} (h : DataW.trod enc Try.prog W 0 (fun _ => true) true n 23 [v] = some y) : ∃ ka kc keep, v = .slice ka (List.length keep) kc ∧ BoolsIn W ka keep := by
  rcases open_bools Try.underlying23 Try.underlying4 (by kernel_rfl) h with ⟨hcs, _⟩ | ⟨x, l, c, B, hcs, _, hl, _, _, hcell⟩
  · obtain rfl := List.singleton_inj.1 hcs
    exact ⟨none, 0, [], rfl, fun i hi => by simp at hi⟩
  · obtain rfl := List.singleton_inj.1 hcs
    refine ⟨some x, c, (List.range l).map B, by simp, fun i hi => ?_⟩
    have hi2 : i < l := by simpa using hi
    have hc := hcell i (by omega)
    have hc0 := hcell 0 (by omega)
    obtain ⟨b, o, spot⟩ := x
    have hspot : spot = none := by simpa [Addr.add] using World.cell?_spot hc0
    subst hspot
    have e1 : (⟨b, o, none⟩ : Addr).add i = ⟨b, o + i, none⟩ := by unfold Addr.add; split <;> simp_all
    rw [e1] at hc
    refine ⟨b, o, rfl, cell_lt hc, ?_⟩
    rw [hc]
    simp
theorem int_of {n : Nat} {v : Value} {y : DataW H × List MemPlace} (h : DataW.trod enc Try.prog W 0 (fun _ => true) true n 3 [v] = some y) : ∃ m : Int, v = .int .i64 m ∧ -9223372036854775808 ≤ m ∧ m ≤ 9223372036854775807 := by
  obtain ⟨m, hcs, _, hw⟩ := DataW.trod_int Try.underlying3 h
  simp [Lit.wf, IntKind.min, IntKind.max, IntKind.signed, IntKind.bits] at hw
  exact ⟨m, List.singleton_inj.1 hcs, by omega, by omega⟩
theorem string_of {n : Nat} {v : Value} {y : DataW H × List MemPlace} (h : DataW.trod enc Try.prog W 0 (fun _ => true) true n 9 [v] = some y) : ∃ s : ByteArray, v = .string s ∧ s.size ≤ maxLen := by
  obtain ⟨s, hcs, _, hw⟩ := DataW.trod_string Try.underlying9 h
  exact ⟨s, List.singleton_inj.1 hcs, hw⟩
theorem step_of {fuel : Nat} {cs : List Value} {x : DataW H × List MemPlace} (h : DataW.trod enc Try.prog W 0 (fun _ => true) true fuel 68 cs = some x) : ∃ st : Stp, cs = st.cells ∧ st.ok W := by
  obtain ⟨fs, hfs, hone, hC, hT⟩ : ∃ fs, Try.prog.underlying 68 = some (.struct fs) ∧ oneCellFields Try.prog fs = true ∧ Try.prog.cellsOf 68 = fs.size ∧ fs.map (·.type) = #[3, 3, 3, 3, 9, 23] := ⟨_, Try.underlying68, by kernel_rfl, by kernel_rfl, by kernel_rfl⟩
  obtain ⟨hl, hf⟩ := field_of hfs hone hC h
  have hs : fs.size = 6 := by have := congrArg Array.size hT; simpa using this
  rw [hT] at hf
  rw [hs] at hl
  match cs, hl with
  | [c0, c1, c2, c3, c4, c5], _ =>
    obtain ⟨_, _, _, e0, h0⟩ := hf 0 _ rfl
    obtain ⟨_, _, _, e1, h1⟩ := hf 1 _ rfl
    obtain ⟨_, _, _, e2, h2⟩ := hf 2 _ rfl
    obtain ⟨_, _, _, e3, h3⟩ := hf 3 _ rfl
    obtain ⟨_, _, _, e4, h4⟩ := hf 4 _ rfl
    obtain ⟨_, _, _, e5, h5⟩ := hf 5 _ rfl
    obtain rfl : c0 = _ := Option.some.inj e0
    obtain rfl : c1 = _ := Option.some.inj e1
    obtain rfl : c2 = _ := Option.some.inj e2
    obtain rfl : c3 = _ := Option.some.inj e3
    obtain rfl : c4 = _ := Option.some.inj e4
    obtain rfl : c5 = _ := Option.some.inj e5
    obtain ⟨m0, rfl, _, _⟩ := int_of h0
    obtain ⟨m1, rfl, a1, b1⟩ := int_of h1
    obtain ⟨m2, rfl, _, _⟩ := int_of h2
    obtain ⟨m3, rfl, _, b3⟩ := int_of h3
    obtain ⟨s, rfl, hs⟩ := string_of h4
    obtain ⟨ka, kc, keep, rfl, hb⟩ := boolsin_of h5
    exact ⟨⟨m0, m1, m2, m3, s, ka, kc, keep⟩, rfl, ⟨a1, b1, b3, hs, hb⟩⟩
theorem script_open {a : Option Addr} {len cap : Nat} {d : DataW H} {p : List MemPlace} (h : DataW.Trod enc Try.prog W 0 (fun _ => true) true 54 (.slice a len cap) d p) : ∃ l : List Stp, len = l.length ∧ l.length ≤ maxLen ∧ ScriptAt W a l := by
  obtain ⟨fuel, hf⟩ := h
  rcases open_slice Try.underlying54 hf with ⟨hcs, _⟩ | ⟨x, l, c, m, n, D, Pl, hcs, _, hl, hm, hmm, _, hi⟩
  · simp [Value.cells] at hcs
    obtain ⟨rfl, rfl, rfl⟩ := hcs
    exact ⟨[], rfl, by simp, fun i hi => by simp at hi⟩
  · simp [Value.cells] at hcs
    obtain ⟨rfl, rfl, rfl⟩ := hcs
    simp only [if_true] at hmm
    subst hmm
    have h6 : Try.prog.cellsOf 68 = 6 := by kernel_rfl
    rw [h6] at hi
    have hex : ∀ i, i < len → ∃ st : Stp, st.ok W ∧ ∀ j v, st.cells[j]? = some v → W.cell? ((x.add (i * 6)).add j) = some v := by
      intro i hil
      obtain ⟨cs', hc, ht⟩ := hi i (by omega)
      obtain ⟨st, rfl, hok⟩ := step_of ht
      obtain ⟨_, hcl, hat⟩ := World.cells?_some hc
      refine ⟨st, hok, fun j v hj => ?_⟩
      obtain ⟨hj1, _⟩ := List.getElem?_eq_some_iff.1 hj
      rw [← hj]
      exact hat j (by rw [← hcl]; exact hj1)
    have : Inhabited Stp := ⟨⟨0, 0, 0, 0, ⟨#[]⟩, none, 0, []⟩⟩
    obtain ⟨f, hf2⟩ := choose_lt (α := Stp) hex
    refine ⟨(List.range len).map f, by simp, by simp; omega, fun i hil => ?_⟩
    have hil2 : i < len := by simpa using hil
    have e0 : ((List.range len).map f)[i] = f i := by simp
    rw [e0]
    obtain ⟨hok, hcell⟩ := hf2 i hil2
    have hc0 := hcell 0 _ rfl
    have hcz := (hf2 0 (by omega)).2 0 _ rfl
    obtain ⟨b, o, spot⟩ := x
    have hspot : spot = none := by simpa [Addr.add] using World.cell?_spot hcz
    subst hspot
    have ea : ∀ j, ((⟨b, o, none⟩ : Addr).add (i * 6)).add j = ⟨b, o + i * 6 + j, none⟩ := by
      intro j
      rw [add_add]
      unfold Addr.add
      by_cases h : i * 6 + j = 0
      · rw [if_pos h, show o + i * 6 + j = o from by omega]
      · rw [if_neg h, ← Nat.add_assoc]
    refine ⟨hok, b, o, rfl, ?_, fun j v hj => ?_⟩
    · have := hc0
      rw [ea] at this
      exact cell_lt this
    · rw [← ea]; exact hcell j v hj
end
end Go.Proofs.Ythppnjmepeeejaa
