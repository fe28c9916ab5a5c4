/-
  Apply where all fits: what texts come of it.
-/
import Derived.Test.YtbnfnijjldimkabMappG
import Derived.Test.YtbnfnijjldimkabMtext
namespace Go.Proofs.Ytbnfnijjldimkab
open Go.RowKit
set_option linter.unusedVariables false
theorem strs_cells {w : World} {g o : Nat} {ss : List ByteArray} (h : StrsRd w (some ⟨g, o, none⟩) ss) (j : Nat) (hj : j < ss.length) : w.cell? ⟨g, o + j, none⟩ = some (.string (ss.getD j ⟨#[]⟩)) := by
  obtain ⟨g', o', ha, hc⟩ := h j hj
  simp only [Option.some.injEq, Addr.mk.injEq] at ha
  rw [ha.1, ha.2.1, hc, List.getD_eq_getElem?_getD, List.getElem?_eq_getElem hj, Option.getD_some]
theorem apply_fine (r c ga oa n cap lcap len : Nat) (la : Option Addr) (A : Nat → Nat → BitVec 8) (cols : List ByteArray) (w : World) (r1 : 1 ≤ r) (r2 : r ≤ 255) (c1 : 1 ≤ c) (c2 : c ≤ 255) (hn : n = r * c) (hcap : n ≤ cap) (hcap2 : cap ≤ 9223372036854775807) (hlen : cols.length = c) (hsz : ∀ i, i < cols.length → (cols.getD i ⟨#[]⟩).size = len) (hl : len ≤ 100000)
    (ha : MatRd w ga oa r c A) (hL : StrsRd w la cols) :
    Calls Try.prog 34 #[.agg #[.int .i64 r, .int .i64 c, .slice (some ⟨ga, oa, none⟩) n cap], .slice la c lcap] w fun e w' => ∃ g cap', e = .returned (.tuple #[.slice (some ⟨g, 0, none⟩) r cap', .nilIface]) ∧ StrsRd w' (some ⟨g, 0, none⟩) (rowStrs A cols len c r) ∧ Below w.heap.size w w' := by
  obtain ⟨lg, lo, rfl, _, hcell⟩ := hL.open (by omega)
  refine (apply_ok r c ga oa n cap lg lo lcap A cols w r1 r2 c1 c2 hn hcap hcap2 hlen (fun i hi => by rw [hsz i hi]; exact hl) ha hcell).mono ?_
  rintro e w' ⟨h | h, hb⟩
  · obtain ⟨⟨i, hi, hne⟩, _⟩ := h
    exact absurd (by rw [hsz i hi, hsz 0 (by omega)]) hne
  · obtain ⟨hall, v, rfl, hown⟩ := h
    rw [hsz 0 (by omega), appCells_rowStrs] at hown
    rcases hown.2 with ⟨_, h0⟩ | ⟨g2, cap2, cur, rfl, _⟩
    · omega
    · exact ⟨_, _, rfl, StrsRd.own hown, hb⟩
theorem apply_caps (r c ga oa n cap lcap len : Nat) (la : Option Addr) (A : Nat → Nat → BitVec 8) (cols : List ByteArray) (w : World) (r1 : 1 ≤ r) (r2 : r ≤ 255) (c1 : 1 ≤ c) (c2 : c ≤ 255) (hn : n = r * c) (hcap : n ≤ cap) (hcap2 : cap ≤ 9223372036854775807) (hlen : cols.length = c) (hsz : ∀ i, i < cols.length → (cols.getD i ⟨#[]⟩).size = len) (hl : len ≤ 100000)
    (ha : MatRd w ga oa r c A) (hL : StrsRd w la cols) :
    Calls Try.prog 34 #[.agg #[.int .i64 r, .int .i64 c, .slice (some ⟨ga, oa, none⟩) n cap], .slice la c lcap] w fun e w' => ∃ g cap', e = .returned (.tuple #[.slice (some ⟨g, 0, none⟩) r cap', .nilIface]) ∧ (StrsRd w' (some ⟨g, 0, none⟩) (rowStrs A cols len c r) ∧ r ≤ cap' ∧ cap' ≤ 9223372036854775807) ∧ Below w.heap.size w w' := by
  obtain ⟨lg, lo, rfl, _, hcell⟩ := hL.open (by omega)
  refine (apply_ok r c ga oa n cap lg lo lcap A cols w r1 r2 c1 c2 hn hcap hcap2 hlen (fun i hi => by rw [hsz i hi]; exact hl) ha hcell).mono ?_
  rintro e w' ⟨h | h, hb⟩
  · obtain ⟨⟨i, hi, hne⟩, _⟩ := h
    exact absurd (by rw [hsz i hi, hsz 0 (by omega)]) hne
  · obtain ⟨hall, v, rfl, hown⟩ := h
    rw [hsz 0 (by omega), appCells_rowStrs] at hown
    rcases hown.2 with ⟨_, h0⟩ | ⟨g2, cap2, cur, rfl, _⟩
    · omega
    · have hc := own_caps hown
      exact ⟨_, _, rfl, ⟨StrsRd.own hown, hc.1, Nat.le_trans hc.2.1 (by decide)⟩, hb⟩
theorem rapply_fine (r c ga oa n cap lcap len : Nat) (la : Option Addr) (A : Nat → Nat → BitVec 8) (cols : List ByteArray) (w : World) (r1 : 1 ≤ r) (r2 : r ≤ 255) (c1 : 1 ≤ c) (c2 : c ≤ 255) (hn : n = r * c) (hlen : cols.length = c) (hsz : ∀ i, i < cols.length → (cols.getD i ⟨#[]⟩).size = len) (hl : len ≤ 100000)
    (ha : MatRd w ga oa r c A) (hL : StrsRd w la cols) :
    Calls Try.prog 38 #[.agg #[.int .i64 r, .int .i64 c, .slice (some ⟨ga, oa, none⟩) n cap], .slice la c lcap] w fun e w' => ∃ g cap', e = .returned (.tuple #[.slice (some ⟨g, 0, none⟩) r cap', .int .i64 0]) ∧ StrsRd w' (some ⟨g, 0, none⟩) (rowStrs A cols len c r) ∧ Below w.heap.size w w' := by
  obtain ⟨lg, lo, rfl, _, hcell⟩ := hL.open (by omega)
  refine (rapply_ok r c ga oa n cap lg lo lcap A cols w r1 r2 c1 c2 hn hlen (fun i hi => by rw [hsz i hi]; exact hl) ha hcell).mono ?_
  rintro e w' ⟨h | h, hb⟩
  · obtain ⟨⟨i, hi, hne⟩, _⟩ := h
    exact absurd (by rw [hsz i hi, hsz 0 (by omega)]) hne
  · obtain ⟨hall, v, rfl, hown⟩ := h
    rw [hsz 0 (by omega), appCells_rowStrs] at hown
    rcases hown.2 with ⟨_, h0⟩ | ⟨g2, cap2, cur, rfl, _⟩
    · omega
    · exact ⟨_, _, rfl, StrsRd.own hown, hb⟩
end Go.Proofs.Ytbnfnijjldimkab
