/-
  Pieces: an argument, a copy; Restore and the document's, whatever they are asked.
-/
import Derived.Test.YtbnfnijjldimkabEgen
import Derived.SliceStrings
import Derived.SizedLaws
import Derived.Deep.SlicePairs
namespace Go.Proofs.Ytbnfnijjldimkab
open Go.RowKit Go.ChangeShapes Go.WideShapes Go.Deep
set_option linter.unusedVariables false
set_option linter.unusedSimpArgs false
theorem pcells_inv : ∀ (L : List (Bool × ByteArray)) (j : Nat) (u : Value), (pcells L)[j]? = some u → ∃ i, ∃ h : i < L.length, (j = i * 2 ∧ u = .bool L[i].1) ∨ (j = i * 2 + 1 ∧ u = .string L[i].2)
  | [], j, u, h => by simp [pcells] at h
  | p :: l, 0, u, h => ⟨0, by simp, Or.inl ⟨rfl, by simpa [pcells] using h.symm⟩⟩
  | p :: l, 1, u, h => ⟨0, by simp, Or.inr ⟨rfl, by simpa [pcells] using h.symm⟩⟩
  | p :: l, j + 2, u, h => by
    obtain ⟨i, hi, hx⟩ := pcells_inv l j u (by simpa [pcells] using h)
    refine ⟨i + 1, by simp; omega, ?_⟩
    rcases hx with ⟨h1, h2⟩ | ⟨h1, h2⟩
    · exact Or.inl ⟨by omega, by simpa using h2⟩
    · exact Or.inr ⟨by omega, by simpa using h2⟩
theorem pcells_one (L : List (Bool × ByteArray)) : ∀ u ∈ pcells L, u.oneCell' = true := by
  intro u hu
  obtain ⟨j, hj⟩ := List.mem_iff_getElem?.1 hu
  obtain ⟨i, hi, ⟨_, rfl⟩ | ⟨_, rfl⟩⟩ := pcells_inv L j u hj <;> rfl
theorem PcRd.cells {w : World} {p : Addr} {L : List (Bool × ByteArray)} (h : PcRd w (some p) L) : ∀ j u, (pcells L)[j]? = some u → w.cell? (p.add j) = some u := by
  intro j u hj
  obtain ⟨i, hi, hx⟩ := pcells_inv L j u hj
  obtain ⟨g, o, ha, h1, h2⟩ := h i hi
  obtain rfl := Option.some.inj ha
  have e : ∀ n, (⟨g, o, none⟩ : Addr).add n = ⟨g, o + n, none⟩ := fun n => by unfold Addr.add; split <;> simp_all
  rw [e]
  rcases hx with ⟨rfl, rfl⟩ | ⟨rfl, rfl⟩
  · exact h1
  · rw [← Nat.add_assoc]; exact h2
theorem PcRd.own {w : World} {base n c : Nat} {e : TypeId} {a : Option Addr} {L : List (Bool × ByteArray)} (h : w.ownsRow base e 2 (.slice a n c) n (pcells L)) : PcRd w a L := fun j hj => by
  have hx := pcells_get L j hj
  obtain ⟨g, ha, _, h1⟩ := own_at h hx.1
  obtain ⟨g', ha', _, h2⟩ := own_at h hx.2
  rw [ha] at ha'
  simp only [Option.some.injEq, Addr.mk.injEq, and_true] at ha'
  subst ha'
  exact ⟨g, 0, ha, by rw [Nat.zero_add]; exact h1, by rw [Nat.zero_add]; exact h2⟩
theorem pieceparts : (Try.prog.info? 40).map (fun i => (i.zero, i.size, i.bytes)) = some (some (.agg #[.bool false, .string ⟨#[]⟩]), 2, 24) := by kernel_rfl
/-- pieces that were handed in -/
structure PcArg (W : World) (a : Option Addr) (cap : Nat) (L : List (Bool × ByteArray)) : Prop where
  rd : PcRd W a L
  sz : ∀ p ∈ L, p.2.size ≤ maxLen
  nn : a = none → cap = 0
  le : L.length ≤ maxLen
section
variable {H : Type} {enc : TypeId × Value → H} {W : World}
theorem pcs_open {a : Option Addr} {len cap : Nat} {d : DataW H} {p : List MemPlace} (h : DataW.Trod enc Try.prog W 0 (fun _ => true) true 38 (.slice a len cap) d p) : ∃ L : List (Bool × ByteArray), len = L.length ∧ PcArg W a cap L := by
  obtain ⟨fuel, hf⟩ := h
  rcases open_slice_pairs Try.underlying38 Try.underlying40 (by kernel_rfl) rfl rfl (by kernel_rfl) (by kernel_rfl) hf with ⟨hcs, _⟩ | ⟨x, l, c, m, n, V0, V1, D0, D1, P0, P1, hcs, _, hl, hm, hmm, _, hi⟩
  · simp [Value.cells] at hcs
    obtain ⟨rfl, rfl, rfl⟩ := hcs
    exact ⟨[], rfl, ⟨fun i hi => by simp at hi, by simp, fun _ => rfl, by simp⟩⟩
  · simp [Value.cells] at hcs
    obtain ⟨rfl, rfl, rfl⟩ := hcs
    simp only [if_true] at hmm
    subst hmm
    have hex : ∀ i, i < len → ∃ q : Bool × ByteArray, W.cell? (x.add (i * 2)) = some (.bool q.1) ∧ W.cell? (x.add (i * 2 + 1)) = some (.string q.2) ∧ q.2.size ≤ maxLen := by
      intro i hil
      obtain ⟨h1, h2, h3, h4⟩ := hi i (by omega)
      obtain ⟨b, hb, _⟩ := DataW.trod_bool Try.underlying4 h3
      obtain ⟨s, hs, _, hw⟩ := DataW.trod_string Try.underlying9 h4
      rw [List.singleton_inj.1 hb] at h1
      rw [List.singleton_inj.1 hs] at h2
      exact ⟨(b, s), h1, h2, hw⟩
    obtain ⟨f, hf2⟩ := choose_lt (α := Bool × ByteArray) hex
    refine ⟨(List.range len).map f, by simp, ⟨fun i hil => ?_, fun q hq => ?_, fun h => (by cases h), by simp; omega⟩⟩
    · have hil2 : i < len := by simpa using hil
      have e0 : ((List.range len).map f)[i] = f i := by simp
      rw [e0]
      obtain ⟨h1, h2, _⟩ := hf2 i hil2
      have hcz := (hf2 0 (by omega)).1
      obtain ⟨b, o, spot⟩ := x
      have hspot : spot = none := by simpa [Addr.add] using World.cell?_spot hcz
      subst hspot
      have ea : ∀ j, (⟨b, o, none⟩ : Addr).add j = ⟨b, o + j, none⟩ := by
        intro j
        unfold Addr.add
        split <;> simp_all
      rw [ea] at h1 h2
      exact ⟨b, o, rfl, h1, by rw [Nat.add_assoc]; exact h2⟩
    · obtain ⟨i, hi2, rfl⟩ := List.mem_map.1 hq
      exact (hf2 i (by simpa using hi2)).2.2
end
/-- what Restore answers -/
def RestG (k m l : Int) (L : List (Bool × ByteArray)) (code : Int) (T : List ByteArray) : Prop :=
  (mayB k m l = false ∧ code = 1 ∧ T = []) ∨ (mayB k m l = true ∧ (L.length : Int) ≠ k + m ∧ code = 19 ∧ T = []) ∨ (mayB k m l = true ∧ (L.length : Int) = k + m ∧ RestOut k.toNat m.toNat (szOf k.toNat l.toNat) L code T)
theorem restg_one {k m l : Int} {L : List (Bool × ByteArray)} {c c' : Int} {T T' : List ByteArray} (h : RestG k m l L c T) (h' : RestG k m l L c' T') : c' = c ∧ T' = T := by
  rcases h with ⟨h1, rfl, rfl⟩ | ⟨h1, h2, rfl, rfl⟩ | ⟨h1, h2, h3⟩
  · rcases h' with ⟨_, rfl, rfl⟩ | ⟨h4, _⟩ | ⟨h4, _⟩
    · exact ⟨rfl, rfl⟩
    · rw [h1] at h4; cases h4
    · rw [h1] at h4; cases h4
  · rcases h' with ⟨h4, _⟩ | ⟨_, _, rfl, rfl⟩ | ⟨_, h4, _⟩
    · rw [h1] at h4; cases h4
    · exact ⟨rfl, rfl⟩
    · exact absurd h4 h2
  · rcases h' with ⟨h4, _⟩ | ⟨_, h4, _⟩ | ⟨_, _, h4⟩
    · rw [h1] at h4; cases h4
    · exact absurd h2 h4
    · obtain ⟨a, b, c0, rfl, rfl, _, h5, h6⟩ := mayB_out h1
      simp only [Int.toNat_natCast] at h3 h4
      obtain ⟨rfl, rfl⟩ := rest_one h6 h3 h4
      exact ⟨rfl, rfl⟩
theorem restg_len {k m l : Int} {L : List (Bool × ByteArray)} {c : Int} {T : List ByteArray} (h : RestG k m l L c T) : T.length ≤ 255 := by
  rcases h with ⟨_, _, rfl⟩ | ⟨_, _, _, rfl⟩ | ⟨h1, h2, h3⟩
  · simp
  · simp
  · obtain ⟨a, b, c0, rfl, rfl, _, h5, h6⟩ := mayB_out h1
    simp only [Int.toNat_natCast] at h3
    rcases h3 with ⟨_, _, rfl⟩ | ⟨_, _, _, rfl⟩ | ⟨_, _, _, B, _, rfl⟩
    · simp
    · simp
    · rw [rowStrs_length]; exact h6
theorem restore_gen (k m l : Int) (pa : Option Addr) (pn pc : Nat) (L : List (Bool × ByteArray)) (w : World) (h3 : l ≤ 9223372036854775807) (hl : pn = L.length) (hp : pn ≤ maxLen) (hP : PcRd w pa L) (hsz : ∀ j, j < L.length → (pcAt L j).2.size ≤ 100000) :
    Calls Try.prog 17 #[.int .i64 k, .int .i64 m, .int .i64 l, .slice pa pn pc] w fun e w' => ∃ code T a' cap' ev, RestG k m l L code T ∧ e = .returned (.tuple #[.slice a' T.length cap', ev]) ∧ ErrAt w.heap.size w' ev code ∧ StrsRd w' a' T ∧ Below w.heap.size w w' := by
  cases hm : mayB k m l
  · refine (restore_bad1 k m l pa pn pc w hm).mono ?_
    rintro e w' ⟨ev, rfl, hE, hb⟩
    exact ⟨1, [], none, 0, ev, Or.inl ⟨hm, rfl, rfl⟩, rfl, hE, fun j hj => by simp at hj, hb⟩
  · obtain ⟨a, b, c, rfl, rfl, rfl, h1, h2⟩ := mayB_out hm
    by_cases hn : L.length = a + b
    · rw [hn] at hl
      subst hl
      refine (restore_main a b c pa pc L w h1 h2 (by omega) hn hP (fun j hj _ => hsz j (by omega))).mono ?_
      rintro e w' ⟨code, T, a', cap', ev, hR, rfl, hE, hs, hb⟩
      exact ⟨code, T, a', cap', ev, Or.inr (Or.inr ⟨hm, by rw [hn]; simp, by simpa using hR⟩), rfl, hE, hs.1, hb⟩
    · refine (restore_bad2 a b c pa pn pc w h1 h2 (by omega) hp (by rw [hl]; exact hn)).mono ?_
      rintro e w' ⟨ev, rfl, hE, hb⟩
      exact ⟨19, [], none, 0, ev, Or.inr (Or.inl ⟨hm, by omega, rfl, rfl⟩), rfl, hE, fun j hj => by simp at hj, hb⟩
theorem rrestore_gen (k m l : Int) (pa : Option Addr) (pn pc : Nat) (L : List (Bool × ByteArray)) (w : World) (h3 : l ≤ 9223372036854775807) (hl : pn = L.length) (hp : pn ≤ maxLen) (hP : PcRd w pa L) (hsz : ∀ j, j < L.length → (pcAt L j).2.size ≤ 100000) :
    Calls Try.prog 18 #[.int .i64 k, .int .i64 m, .int .i64 l, .slice pa pn pc] w fun e w' => ∃ code T a' cap', RestG k m l L code T ∧ e = .returned (.tuple #[.slice a' T.length cap', .int .i64 code]) ∧ StrsRd w' a' T ∧ Below w.heap.size w w' := by
  cases hm : mayB k m l
  · refine (rrestore_bad1 k m l pa pn pc w hm).mono ?_
    rintro e w' ⟨rfl, hb⟩
    exact ⟨1, [], none, 0, Or.inl ⟨hm, rfl, rfl⟩, rfl, fun j hj => by simp at hj, hb⟩
  · obtain ⟨a, b, c, rfl, rfl, rfl, h1, h2⟩ := mayB_out hm
    by_cases hn : L.length = a + b
    · rw [hn] at hl
      subst hl
      refine (rrestore_main a b c pa pc L w h1 h2 (by omega) hn hP (fun j hj _ => hsz j (by omega))).mono ?_
      rintro e w' ⟨code, T, a', cap', hR, rfl, hs, hb⟩
      exact ⟨code, T, a', cap', Or.inr (Or.inr ⟨hm, by rw [hn]; simp, by simpa using hR⟩), rfl, hs, hb⟩
    · refine (rrestore_bad2 a b c pa pn pc w h1 h2 (by omega) hp (by rw [hl]; exact hn)).mono ?_
      rintro e w' ⟨rfl, hb⟩
      exact ⟨19, [], none, 0, Or.inr (Or.inl ⟨hm, by omega, rfl, rfl⟩), rfl, fun j hj => by simp at hj, hb⟩
end Go.Proofs.Ytbnfnijjldimkab
