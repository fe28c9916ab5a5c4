/-
  Slices of numbers among the erasure laws' arguments; a row of pieces that the laws make and fill.
-/
import Derived.Test.YtbnfnijjldimkabEPcs
import Derived.ChangeSlices
import Derived.Deep.Grids
namespace Go.Proofs.Ytbnfnijjldimkab
open Go.RowKit Go.ChangeShapes Go.WideShapes Go.Deep
set_option linter.unusedVariables false
set_option linter.unusedSimpArgs false
/-- numbers that were handed in -/
def RdN (w : World) (a : Option Addr) (L : List Int) : Prop := ∀ i (h : i < L.length), ∃ g o, a = some ⟨g, o, none⟩ ∧ w.cell? ⟨g, o + i, none⟩ = some (.int .i64 L[i])
structure IntArg (W : World) (a : Option Addr) (L : List Int) : Prop where
  rd : RdN W a L
  le : L.length ≤ maxLen
  bd : ∀ x ∈ L, -9223372036854775808 ≤ x ∧ x ≤ 9223372036854775807
theorem IntArg.at_ {w : World} {a : Option Addr} {L : List Int} (h : IntArg w a L) {i : Nat} (hi : i < L.length) : ∃ g o x, a = some ⟨g, o, none⟩ ∧ g < w.heap.size ∧ w.cell? ⟨g, o + i, none⟩ = some (.int .i64 x) ∧ -9223372036854775808 ≤ x ∧ x ≤ 9223372036854775807 := by
  obtain ⟨g, o, ha, hc⟩ := h.rd i hi
  have := h.bd L[i] (List.getElem_mem _)
  exact ⟨g, o, L[i], ha, rd_cell_lt hc, hc, this.1, this.2⟩
section
variable {H : Type} {enc : TypeId × Value → H} {W : World}
theorem intsn_open {a : Option Addr} {len cap : Nat} {d : DataW H} {p : List MemPlace} (h : DataW.Trod enc Try.prog W 0 (fun _ => true) true 52 (.slice a len cap) d p) : ∃ L : List Int, len = L.length ∧ IntArg W a L := by
  obtain ⟨fuel, hf⟩ := h
  rcases open_ints Try.underlying52 Try.underlying3 (by kernel_rfl) hf with ⟨hcs, _⟩ | ⟨x, l, c, zs, hcs, _, hl, hm, hlen, _, hcell, hwf⟩
  · simp [Value.cells] at hcs
    obtain ⟨rfl, rfl, rfl⟩ := hcs
    exact ⟨[], rfl, ⟨fun i hi => by simp at hi, by simp, fun x hx => by simp at hx⟩⟩
  · simp [Value.cells] at hcs
    obtain ⟨rfl, rfl, rfl⟩ := hcs
    simp only [if_true] at hlen
    refine ⟨zs.take len, by simp [hlen]; omega, ⟨fun i hi => ?_, by simp; omega, fun x hx => ?_⟩⟩
    · have hi2 : i < zs.length := by simp at hi; omega
      have hc := hcell i hi2
      have hc0 := hcell 0 (by omega)
      obtain ⟨b, o, spot⟩ := x
      have hspot : spot = none := by simpa [Addr.add] using World.cell?_spot hc0
      subst hspot
      refine ⟨b, o, rfl, ?_⟩
      have e1 : (⟨b, o, none⟩ : Addr).add i = ⟨b, o + i, none⟩ := by unfold Addr.add; split <;> simp_all
      rw [e1] at hc
      rw [hc]
      simp only [List.getElem_take, List.getD_eq_getElem?_getD, List.getElem?_eq_getElem hi2, Option.getD_some]
    · have hw := hwf x (List.mem_of_mem_take hx)
      simp [Lit.wf, IntKind.min, IntKind.max, IntKind.signed, IntKind.bits] at hw
      omega
end
/-- 'make([]api.Piece, n)' -/
theorem run_make_pcs (i0 : TypeInfo) (hi : Try.prog.info? 40 = some i0) (hz : i0.zero = some (.agg #[.bool false, .string ⟨#[]⟩])) (hs : i0.size = 2) (hb : i0.bytes = 24) (n : Nat) (hn : n ≤ 1000) (W : World) :
    (Instr.makeSlice 38 (.int .i64 (n : Int)) (.int .i64 (n : Int))).run Try.prog W = .ok (.slice (some ⟨W.heap.size, 0, none⟩) n n) (W.alloc (.cells (pcells (List.replicate n (false, ⟨#[]⟩))).toArray 40)) := by
  have h := run_make (P := Try.prog) W 38 40 i0 (.agg #[.bool false, .string ⟨#[]⟩]) Try.underlying38 hi hz .i64 .i64 (n : Int) (n : Int) (by omega) (by omega) (by rw [hb]; omega) (by omega)
  have e : madeCells (Value.agg #[.bool false, .string ⟨#[]⟩]).cells (((n : Nat) : Int).toNat * i0.size) = (pcells (List.replicate n (false, ⟨#[]⟩))).toArray := by
    rw [hs, Int.toNat_natCast]
    apply Array.ext
    · simp [madeCells, pcells_length]
    · intro i h1 h2
      have hl : i < n * 2 := by simpa [pcells_length] using h2
      have hx := pcells_get (List.replicate n (false, (⟨#[]⟩ : ByteArray))) (i / 2) (by simp; omega)
      have e1 : (pcells (List.replicate n (false, (⟨#[]⟩ : ByteArray)))).toArray[i] = if i % 2 = 0 then Value.bool false else .string ⟨#[]⟩ := by
        have e2 : (pcells (List.replicate n (false, (⟨#[]⟩ : ByteArray))))[i]? = some (if i % 2 = 0 then Value.bool false else .string ⟨#[]⟩) := by
          by_cases hm : i % 2 = 0
          · rw [if_pos hm, show i = i / 2 * 2 from by omega, hx.1]; simp
          · rw [if_neg hm, show i = i / 2 * 2 + 1 from by omega, hx.2]; simp
        rw [List.getElem?_eq_getElem (by simpa using h2)] at e2
        simpa using e2
      rw [e1]
      rcases Nat.mod_two_eq_zero_or_one i with hm | hm <;> simp [madeCells, Value.cells, hm]
  rw [e] at h
  simpa using h
theorem pcells_set : ∀ (L : List (Bool × ByteArray)) (j : Nat) (q : Bool × ByteArray), ((pcells L).set (j * 2) (.bool q.1)).set (j * 2 + 1) (.string q.2) = pcells (L.set j q)
  | [], j, q => by simp [pcells]
  | p :: l, 0, q => by simp [pcells]
  | p :: l, j + 1, q => by
    have e : (j + 1) * 2 = j * 2 + 1 + 1 := by omega
    rw [e]
    simp only [pcells, List.set_cons_succ]
    rw [pcells_set l j q]
/-- a row of pieces -/
theorem Row.pcs {w : World} {g : Nat} {L : List (Bool × ByteArray)} (h : Row w g 40 (pcells L)) : PcRd w (some ⟨g, 0, none⟩) L := pc_of fun j u hj => by
  rw [Nat.zero_add]; exact h.cell hj
theorem Row.setPc {w : World} {g : Nat} {L : List (Bool × ByteArray)} (h : Row w g 40 (pcells L)) (j : Nat) (b : Bool) (s : ByteArray) : Row ((w.setCell ⟨g, j * 2, none⟩ (.bool b)).setCell ⟨g, j * 2 + 1, none⟩ (.string s)) g 40 (pcells (L.set j (b, s))) := by
  have := (h.set (j * 2) (.bool b)).set (j * 2 + 1) (.string s)
  rw [pcells_set L j (b, s)] at this
  exact this
theorem pcAt_set (L : List (Bool × ByteArray)) (n : Nat) (q : Bool × ByteArray) (h : n < L.length) (j : Nat) : pcAt (L.set n q) j = if j = n then q else pcAt L j := by
  unfold pcAt
  rw [List.getD_eq_getElem?_getD, List.getElem?_set, List.getD_eq_getElem?_getD]
  by_cases e : n = j
  · rw [if_pos e, if_pos e.symm, if_pos h]; rfl
  · rw [if_neg e, if_neg (fun h => e h.symm)]
theorem whF_count (L : List (Bool × ByteArray)) (K : Nat) : (whF L K).length = (List.range K).countP fun j => (pcAt L j).1 := by
  unfold whF
  rw [List.countP_eq_length_filter]
/-- one piece changed, one more or less -/
theorem whF_le_set (L : List (Bool × ByteArray)) (n : Nat) (q : Bool × ByteArray) (hn : n < L.length) : ∀ K, (whF (L.set n q) K).length ≤ (whF L K).length + (if n < K then 1 else 0) ∧ (whF L K).length ≤ (whF (L.set n q) K).length + (if n < K then 1 else 0)
  | 0 => by simp [whF]
  | K + 1 => by
    have ih := whF_le_set L n q hn K
    have hs : ∀ M : List (Bool × ByteArray), (whF M (K + 1)).length = (whF M K).length + (if (pcAt M K).1 = true then 1 else 0) := fun M => by
      cases h : (pcAt M K).1
      · rw [whF_no h]; simp
      · rw [whF_yes h]; simp
    rw [hs, hs, pcAt_set L n q hn]
    by_cases e : K = n
    · subst e
      rw [if_pos rfl]
      simp only [Nat.lt_irrefl, if_false] at ih
      have := ih.1
      have := ih.2
      constructor <;> (split <;> split <;> simp <;> omega)
    · rw [if_neg e]
      by_cases h : n < K
      · rw [if_pos h] at ih
        rw [if_pos (show n < K + 1 by omega)]
        omega
      · rw [if_neg h] at ih
        rw [if_neg (show ¬ n < K + 1 by omega)]
        omega
theorem whF_all (L : List (Bool × ByteArray)) : ∀ K, (∀ i, i < K → (pcAt L i).1 = true) → (whF L K).length = K
  | 0, _ => rfl
  | K + 1, h => by rw [whF_yes (h K (by omega)), List.length_append, whF_all L K (fun i hi => h i (by omega))]; rfl
theorem whF_none (L : List (Bool × ByteArray)) : ∀ K, (∀ i, i < K → (pcAt L i).1 = false) → (whF L K).length = 0
  | 0, _ => rfl
  | K + 1, h => by rw [whF_no (h K (by omega)), whF_none L K (fun i hi => h i (by omega))]
theorem pcAt_rep (K i : Nat) : pcAt (List.replicate K (false, (⟨#[]⟩ : ByteArray))) i = (false, ⟨#[]⟩) := by
  unfold pcAt
  rw [List.getD_eq_getElem?_getD, List.getElem?_replicate]
  split <;> rfl
/-- pieces that a law makes and fills -/
structure PieS (w2 : World) (gp K : Nat) (S : List ByteArray) (P : List (Bool × ByteArray)) (wr : World) : Prop where
  row : Row wr gp 40 (pcells P)
  len : P.length = K
  ok : ∀ i, i < K → (pcAt P i).1 = true → (pcAt P i).2 = S.getD i ⟨#[]⟩
  bel : Below w2.heap.size w2 wr
  hg : w2.heap.size ≤ gp
theorem PieS.start (w2 : World) (K : Nat) (S : List ByteArray) : PieS w2 w2.heap.size K S (List.replicate K (false, ⟨#[]⟩)) (w2.alloc (.cells (pcells (List.replicate K (false, ⟨#[]⟩))).toArray 40)) :=
  ⟨Row.new _ _ _, by simp, fun i _ h => (by rw [pcAt_rep] at h; cases h), (Below.refl _ _).alloc (Nat.le_refl _) _, Nat.le_refl _⟩
theorem PieS.put {w2 wr : World} {gp K : Nat} {S : List ByteArray} {P : List (Bool × ByteArray)} (h : PieS w2 gp K S P wr) {n : Nat} (hn : n < K) (b : Bool) (s : ByteArray) (hs : b = true → s = S.getD n ⟨#[]⟩) : PieS w2 gp K S (P.set n (b, s)) ((wr.setCell ⟨gp, n * 2, none⟩ (.bool b)).setCell ⟨gp, n * 2 + 1, none⟩ (.string s)) :=
  ⟨h.row.setPc n b s, by rw [List.length_set]; exact h.len, fun i hi ht => (by
    rw [pcAt_set P n (b, s) (by rw [h.len]; exact hn)] at ht ⊢
    by_cases e : i = n
    · rw [if_pos e] at ht ⊢; rw [e]; exact hs ht
    · rw [if_neg e] at ht ⊢; exact h.ok i hi ht), (h.bel.setCell h.hg _).setCell h.hg _, h.hg⟩
theorem PieS.drew {w2 wr : World} {gp K : Nat} {S : List ByteArray} {P : List (Bool × ByteArray)} (h : PieS w2 gp K S P wr) : PieS w2 gp K S P wr.drew := ⟨h.row.drew, h.len, h.ok, h.bel.drew, h.hg⟩
theorem PieS.few {w2 wr : World} {gp K kn mn : Nat} {u : ByteArray} {S : List ByteArray} {P : List (Bool × ByteArray)} (h : PieS w2 gp K S P wr) (h1 : 1 ≤ kn) (hK : K = kn + mn) (hK2 : K ≤ 255) (hS : S = shards kn mn u) (hc : (whF P K).length < kn) {code : Int} {T : List ByteArray} (hR : RestOut kn mn (szOf kn u.size) P code T) : code = 17 ∧ T = [] :=
  rest_one (by omega) hR (Or.inr (Or.inl ⟨fun j hj ht => by rw [h.ok j (by omega) ht, hS, shards_size kn mn u h1 j hj], by rw [← hK]; exact hc, rfl, rfl⟩))
theorem PieS.enough {w2 wr : World} {gp K kn mn : Nat} {u : ByteArray} {S : List ByteArray} {P : List (Bool × ByteArray)} (h : PieS w2 gp K S P wr) (h1 : 1 ≤ kn) (hK : K = kn + mn) (hK2 : K ≤ 255) (hS : S = shards kn mn u) (hc : kn ≤ (whF P K).length) {code : Int} {T : List ByteArray} (hR : RestOut kn mn (szOf kn u.size) P code T) : code = 0 ∧ T = S := by
  rw [hS]
  exact rest_shards h1 (by omega) (fun j hj ht => by rw [h.ok j (by omega) ht, hS]) (by rw [← hK]; exact hc) hR
theorem PieS.sz {w2 wr : World} {gp K kn mn : Nat} {u : ByteArray} {S : List ByteArray} {P : List (Bool × ByteArray)} (h : PieS w2 gp K S P wr) (h1 : 1 ≤ kn) (hK : K = kn + mn) (hS : S = shards kn mn u) (hu : u.size ≤ 50000) : ∀ j, j < kn + mn → (pcAt P j).1 = true → (pcAt P j).2.size ≤ 100000 := fun j hj ht => by
  rw [h.ok j (by omega) ht, hS]
  exact shards_small kn mn u h1 hu j (by rw [shards_length]; exact hj)
theorem PieS.cells {w2 wr : World} {gp K : Nat} {S : List ByteArray} {P : List (Bool × ByteArray)} (h : PieS w2 gp K S P wr) {n : Nat} (hn : n < K) : wr.cell? ⟨gp, n * 2, none⟩ = some (.bool (pcAt P n).1) ∧ wr.cell? ⟨gp, n * 2 + 1, none⟩ = some (.string (pcAt P n).2) := by
  have hl : n < P.length := by rw [h.len]; exact hn
  have := pcells_get P n hl
  rw [pcAt_get P n hl] at this
  exact ⟨h.row.cell this.1, h.row.cell this.2⟩
theorem PieS.free {w2 wr : World} {gp K : Nat} {S : List ByteArray} {P : List (Bool × ByteArray)} (h : PieS w2 gp K S P wr) {n : Nat} (hn : n < K) : wr.frozen? ⟨gp, n * 2, none⟩ = false ∧ wr.frozen? ⟨gp, n * 2 + 1, none⟩ = false :=
  ⟨h.row.free (by rw [pcells_length, h.len]; omega), h.row.free (by rw [pcells_length, h.len]; omega)⟩
end Go.Proofs.Ytbnfnijjldimkab
