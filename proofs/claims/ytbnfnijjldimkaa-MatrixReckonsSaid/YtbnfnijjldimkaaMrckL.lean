/-
  The walk of MatrixReckons.
-/
import Derived.Test.YtbnfnijjldimkaaMrck
import Derived.Test.YtbnfnijjldimkaaMgen
namespace Go.Proofs.Ytbnfnijjldimkaa
open Go.RowKit
set_option linter.unusedVariables false
set_option linter.unusedSimpArgs false
/-- what MatrixReckons keeps all along -/
structure RkF (b0 bx by_ gx gy n m cx cy : Nat) (ar ac br bc : Int) (aa ba : Option Addr) (acap bcap : Nat) (LA LB : List (BitVec 8)) (spx spy : List Value) (x : World) : Prop where
  boxa : Row x b0 24 [.int .i64 ar, .int .i64 ac, .slice aa n acap]
  boxb : Row x (b0 + 1) 24 [.int .i64 br, .int .i64 bc, .slice ba m bcap]
  rx : Row x gx 5 ((ncells LA ++ [.int .u8 77]) ++ spx)
  boxx : Row x bx 24 [.int .i64 ar, .int .i64 ac, .slice (some ⟨gx, 0, none⟩) n cx]
  ry : Row x gy 5 ((ncells LB ++ [.int .u8 77]) ++ spy)
  boxy : Row x by_ 24 [.int .i64 br, .int .i64 bc, .slice (some ⟨gy, 0, none⟩) m cy]
  rda : Rd x aa LA
  rdb : Rd x ba LB
/-- a block that may be written, from lo on -/
def OwnL (w : World) (lo : Nat) (a : Option Addr) (N : Nat) : Prop := N = 0 ∨ ∃ g l, a = some ⟨g, 0, none⟩ ∧ lo ≤ g ∧ N ≤ l.length ∧ Row w g 5 l
/-- what the loops that spoil the results hold -/
structure RkL (wn : World) (h1 bq bu NQ NU : Nat) (aq au : Option Addr) (LQ LU : List Value) (w : World) : Prop where
  bq : Row w bq 24 LQ
  bu : Row w bu 24 LU
  oq : NQ = 0 ∨ ∃ g l, aq = some ⟨g, 0, none⟩ ∧ wn.heap.size ≤ g ∧ g < h1 ∧ NQ ≤ l.length ∧ Row w g 5 l
  ou : OwnL w h1 au NU
  le : wn.heap.size ≤ h1
  bel : Below wn.heap.size wn w
theorem RkL.wq {wn w : World} {h1 bq bu NQ NU g : Nat} {au : Option Addr} {LQ LU l : List Value} (h : RkL wn h1 bq bu NQ NU (some ⟨g, 0, none⟩) au LQ LU w) (hlo : wn.heap.size ≤ g) (hhi : g < h1) (hl : NQ ≤ l.length) (hr : Row w g 5 l) (j : Nat) (v : Value) : RkL wn h1 bq bu NQ NU (some ⟨g, 0, none⟩) au LQ LU (w.setCell ⟨g, j, none⟩ v) := by
  refine ⟨h.bq.other (by exact h.bq.ne hr (by decide)) v, h.bu.other (by exact h.bu.ne hr (by decide)) v, Or.inr ⟨g, l.set j v, rfl, hlo, hhi, by rw [List.length_set]; exact hl, hr.set j v⟩, ?_, h.le, h.bel.setCell hlo v⟩
  rcases h.ou with h0 | ⟨g', l', ha, hg, hl', hr'⟩
  · exact Or.inl h0
  · exact Or.inr ⟨g', l', ha, hg, hl', hr'.other (by show g' ≠ g; omega) v⟩
theorem RkL.wu {wn w : World} {h1 bq bu NQ NU g : Nat} {aq : Option Addr} {LQ LU l : List Value} (h : RkL wn h1 bq bu NQ NU aq (some ⟨g, 0, none⟩) LQ LU w) (hlo : h1 ≤ g) (hl : NU ≤ l.length) (hr : Row w g 5 l) (j : Nat) (v : Value) : RkL wn h1 bq bu NQ NU aq (some ⟨g, 0, none⟩) LQ LU (w.setCell ⟨g, j, none⟩ v) := by
  have hle := h.le
  refine ⟨h.bq.other (by exact h.bq.ne hr (by decide)) v, h.bu.other (by exact h.bu.ne hr (by decide)) v, ?_, Or.inr ⟨g, l.set j v, rfl, hlo, by rw [List.length_set]; exact hl, hr.set j v⟩, hle, h.bel.setCell (by show wn.heap.size ≤ g; omega) v⟩
  rcases h.oq with h0 | ⟨g', l', ha, hg, hh, hl', hr'⟩
  · exact Or.inl h0
  · exact Or.inr ⟨g', l', ha, hg, hh, hl', hr'.other (by show g' ≠ g; omega) v⟩
/-- a result's own block -/
def OwnM (lo hi : Nat) (a : Option Addr) (L : List (BitVec 8)) (x : World) : Prop := L.length = 0 ∨ ∃ g sp, a = some ⟨g, 0, none⟩ ∧ lo ≤ g ∧ g < hi ∧ Row x g 5 (ncells L ++ sp)
theorem OwnM.of {lo : Nat} {a : Option Addr} {L : List (BitVec 8)} {w' x : World} (h : L.length = 0 ∨ ∃ g sp, a = some ⟨g, 0, none⟩ ∧ lo ≤ g ∧ Row w' g 5 (ncells L ++ sp)) (hb : Below w'.heap.size w' x) : OwnM lo w'.heap.size a L x := by
  rcases h with h | ⟨g, sp, ha, hg, hr⟩
  · exact Or.inl h
  · exact Or.inr ⟨g, sp, ha, hg, hr.lt, hr.after hb⟩
theorem RdI.after {w w' : World} {a : Option Addr} {L : List Int} (h : RdI w a L) (hb : Below w.heap.size w w') : RdI w' a L := fun j hj => by
  obtain ⟨g, o, ha, hc⟩ := h j hj
  exact ⟨g, o, ha, (hb.cell (p := ⟨g, o + j, none⟩) (rd_cell_lt hc)).trans hc⟩
def zcells (L : List Int) : List Value := L.map (.int .i64)
theorem zcells_length (L : List Int) : (zcells L).length = L.length := by simp [zcells]
theorem zcells_get (L : List Int) (j : Nat) (h : j < L.length) : (zcells L)[j]? = some (.int .i64 L[j]) := by simp [zcells, h]
theorem zcells_one (L : List Int) : ∀ u ∈ zcells L, u.oneCell' = true := by
  intro u hu
  simp only [zcells, List.mem_map] at hu
  obtain ⟨x, _, rfl⟩ := hu
  rfl
theorem RdI.own {w : World} {base n c : Nat} {e : TypeId} {a : Option Addr} {L : List Int} (h : w.ownsRow base e 1 (.slice a n c) n (zcells L)) : RdI w a L := fun j hj => by
  obtain ⟨g, ha, _, hc⟩ := own_at h (zcells_get L j hj)
  exact ⟨g, 0, ha, by rw [Nat.zero_add]; exact hc⟩
theorem RdI.news {w : World} {p : Addr} {L : List Int} (h : RdI w (some p) L) : ∀ j u, (zcells L)[j]? = some u → w.cell? (p.add j) = some u := by
  intro j u hj
  have hl : j < L.length := by
    have := (List.getElem?_eq_some_iff.1 hj).1
    rwa [zcells_length] at this
  obtain ⟨g, o, ha, hc⟩ := h j hl
  obtain rfl := Option.some.inj ha
  rw [zcells_get _ _ hl] at hj
  have e1 : (⟨g, o, none⟩ : Addr).add j = ⟨g, o + j, none⟩ := by unfold Addr.add; split <;> simp_all
  rw [e1, ← hj]; exact hc
theorem intparts' : (Try.prog.info? 3).map (fun i => (i.zero, i.size, i.bytes)) = some (some (.int .i64 0), 1, 8) := by kernel_rfl
theorem right_le {r c : Int} {L : List (BitVec 8)} (h : rightB r c L.length = true) : r.toNat ≤ 255 ∧ c.toNat ≤ 255 := by
  obtain ⟨a, b, rfl, rfl, _, h1, _, h2, _⟩ := rightB_out h
  simp only [Int.toNat_natCast]
  omega
theorem mat_len {r c : Nat} {M : Nat → Nat → BitVec 8} (hr : r ≤ 1000) (hc : c ≤ 1000) : (mat r c M).cells.length ≤ 1000000 := by
  rw [tb_cells, tab_length]
  exact Nat.le_trans (Nat.mul_le_mul hr hc) (by omega)
theorem mulSp_len (ar ac br bc : Int) (LA LB : List (BitVec 8)) : (mulSp ar ac br bc LA LB).cells.length ≤ 1000000 := by
  unfold mulSp
  split
  · simp [noSp]
  · rename_i h
    have h1 : rightB ar ac LA.length = true := by cases hx : rightB ar ac LA.length; exact absurd (Or.inl hx) h; rfl
    have h2 : rightB br bc LB.length = true := by cases hx : rightB br bc LB.length; exact absurd (Or.inr hx) h; rfl
    split
    · simp [noSp]
    · have := right_le h1
      have := right_le h2
      exact mat_len (by omega) (by omega)
theorem undSp_len (ar ac br bc : Int) (LA LB : List (BitVec 8)) : (undSp ar ac br bc LA LB).cells.length ≤ 1000000 := by
  unfold undSp
  split
  · simp [noSp]
  · rename_i h
    have h1 : rightB ar ac LA.length = true := by cases hx : rightB ar ac LA.length; exact absurd (Or.inl hx) h; rfl
    have h2 : rightB br bc LB.length = true := by cases hx : rightB br bc LB.length; exact absurd (Or.inr (Or.inl hx)) h; rfl
    split
    · simp [noSp]
    · have := right_le h1
      have := right_le h2
      exact mat_len (by omega) (by omega)
theorem pickSp_len (r c : Int) (L : List (BitVec 8)) (R : List Int) : (pickSp r c L R).cells.length ≤ 1000000 := by
  unfold pickSp
  split
  · simp [noSp]
  · rename_i h
    have h1 : rightB r c L.length = true := by cases hx : rightB r c L.length; exact absurd (Or.inl hx) h; rfl
    have h2 : R.length ≤ 255 := Nat.le_of_not_lt fun hx => h (Or.inr (Or.inr hx))
    split
    · have := right_le h1
      exact mat_len (r := R.length) (c := c.toNat) (M := fun i j => fm L c.toNat (R.getD i 0).toNat j) (by omega) (by omega)
    · simp [noSp]
theorem invSp_len {r c : Int} {L : List (BitVec 8)} {S : MSp} (h : InvSp r c L S) : S.cells.length ≤ 1000000 := by
  rcases h with ⟨_, rfl⟩ | ⟨_, _, rfl⟩ | ⟨_, n, _, _, _, rfl⟩ | ⟨h, n, rfl, rfl, _, B, _, rfl⟩
  · simp [noSp]
  · simp [noSp]
  · simp [noSp]
  · have := right_le h
    simp only [Int.toNat_natCast] at this
    exact mat_len (by omega) (by omega)
set_option maxRecDepth 100000 in
set_option maxHeartbeats 6400000 in
theorem reckons_any (ar ac br bc : Int) (aa ba la : Option Addr) (acap bcap lcap : Nat) (LA LB : List (BitVec 8)) (R : List Int) (w : World) (hA : MatArg w ar ac aa acap LA) (hB : MatArg w br bc ba bcap LB) (hR : RdI w la R) (hRm : R.length ≤ maxLen) (hnone : la = none → lcap = 0) :
    Calls Try.prog 7 #[.agg #[.int .i64 ar, .int .i64 ac, .slice aa LA.length acap], .agg #[.int .i64 br, .int .i64 bc, .slice ba LB.length bcap], .slice la R.length lcap] w fun e w' => e = .returned (.bool true) ∧ Below w.heap.size w w' := by
  obtain ⟨n, hn⟩ : ∃ n, n = LA.length := ⟨_, rfl⟩
  obtain ⟨m, hm⟩ : ∃ n, n = LB.length := ⟨_, rfl⟩
  obtain ⟨ln, hln⟩ : ∃ n, n = R.length := ⟨_, rfl⟩
  obtain ⟨i9, hi0, hz0, hz1, hz2⟩ := info_parts intparts'
  have na := hA.le
  have nb := hB.le
  have ca := hA.cap
  have cb := hB.cap
  unfold maxLen at ca cb hRm
  rw [← hn] at na
  rw [← hm] at nb
  rw [← hln] at hRm
  have nna : aa = none → n = 0 ∧ acap = 0 := fun h => by have := hA.nn h; omega
  have nnb : ba = none → m = 0 ∧ bcap = 0 := fun h => by have := hB.nn h; omega
  have nnl : la = none → ln = 0 ∧ lcap = 0 := by
    intro h
    refine ⟨?_, hnone h⟩
    rcases Nat.eq_zero_or_pos R.length with h0 | h0
    · omega
    · obtain ⟨g, o, hx, _⟩ := hR 0 h0
      rw [h] at hx
      cases hx
  have hread : ∀ w', Below w.heap.size w w' → ∀ p, la = some p → ∀ j u, (zcells R)[j]? = some u → w'.cell? (p.add j) = some u := fun w' hb p hp => by subst hp; exact (hR.after hb).news
  have hzl : (zcells R).length = ln * 1 := by rw [zcells_length, Nat.mul_one, hln]
  have S0 := Lib.hid (two_boxes' w (.int .i64 ar) (.int .i64 ac) (.slice aa n acap) (.int .i64 br) (.int .i64 bc) (.slice ba m bcap))
  rw [← hn, ← hm, ← hln]
  have HN := Lib.hid hn
  have HM := Lib.hid hm
  have HLN := Lib.hid hln
  have HRA := Lib.hid hA.rd
  have HRB := Lib.hid hB.rd
  have HR := Lib.hid hR
  have HNA := Lib.hid nna
  have HNB := Lib.hid nnb
  have HNL := Lib.hid nnl
  have HRD := Lib.hid hread
  have HZL := Lib.hid hzl
  clear hn hm hln hA hB hR nna nnb nnl hread hzl hnone
  have T0 : Hid (Bun w (fun x => Row x w.heap.size 24 [.int .i64 ar, .int .i64 ac, .slice aa n acap] ∧ Row x (w.heap.size + 1) 24 [.int .i64 br, .int .i64 bc, .slice ba m bcap]) ((w.alloc (.cells #[.int .i64 ar, .int .i64 ac, .slice aa n acap] 24)).alloc (.cells #[.int .i64 br, .int .i64 bc, .slice ba m bcap] 24))) := Lib.hid ⟨fun w' hb => ⟨Row.after S0.out.1 hb, Row.after S0.out.2.1 hb⟩, S0.out.2.2⟩
  clear S0
  obtain ⟨B1, hB1⟩ : ∃ B, B = wideB ar ac n := ⟨_, rfl⟩
  obtain ⟨B2, hB2⟩ : ∃ B, B = wideB br bc m := ⟨_, rfl⟩
  have HB1 := Lib.hid hB1
  have HB2 := Lib.hid hB2
  clear hB1 hB2
  have hcase : B1 = true ∨ (B1 = false ∧ B2 = true) ∨ (B1 = false ∧ B2 = false ∧ (300 : Int) < (ln : Int)) ∨ (B1 = false ∧ B2 = false ∧ ¬ (300 : Int) < (ln : Int)) := by
    cases B1
    · cases B2
      · by_cases h : (300 : Int) < (ln : Int)
        · exact Or.inr (Or.inr (Or.inl ⟨rfl, rfl, h⟩))
        · exact Or.inr (Or.inr (Or.inr ⟨rfl, rfl, h⟩))
      · exact Or.inr (Or.inl ⟨rfl, rfl⟩)
    · exact Or.inl rfl
  rcases hcase with rfl | ⟨rfl, rfl⟩ | ⟨rfl, rfl, h3⟩ | ⟨rfl, rfl, h3⟩
  · go_enter Try.func7, Try.ntmps7
    go_wp2_with (first
      | (go_at_call 9; have h9 := T0.out; clear T0; refine (known_any _).mono ?_; rintro e w1 ⟨rfl, hb⟩; have hmm := h9.after hb; obtain ⟨x0, x1, x2⟩ := box3 hmm.here.1; obtain ⟨y0, y1, y2⟩ := box3 hmm.here.2; have T1 := Lib.hid hmm; clear h9 hb hmm)
      | (go_at_call 10; have h9 := T1.out; clear T1; refine (wide_any ar ac n acap aa _ (by unfold maxLen; omega)).mono ?_; rintro e w2 ⟨rfl, hb⟩; rw [← HB1.out]; have hmm := h9.after hb; obtain ⟨x0, x1, x2⟩ := box3 hmm.here.1; obtain ⟨y0, y1, y2⟩ := box3 hmm.here.2; have T2 := Lib.hid hmm; clear h9 hb hmm))
    go_ret
    exact ⟨rfl, T2.out.bel⟩
  · go_enter Try.func7, Try.ntmps7
    go_wp2_with (first
      | (go_at_call 9; have h9 := T0.out; clear T0; refine (known_any _).mono ?_; rintro e w1 ⟨rfl, hb⟩; have hmm := h9.after hb; obtain ⟨x0, x1, x2⟩ := box3 hmm.here.1; obtain ⟨y0, y1, y2⟩ := box3 hmm.here.2; have T1 := Lib.hid hmm; clear h9 hb hmm)
      | (go_at_call 10; have h9 := T1.out; clear T1; refine (wide_any ar ac n acap aa _ (by unfold maxLen; omega)).mono ?_; rintro e w2 ⟨rfl, hb⟩; rw [← HB1.out]; have hmm := h9.after hb; obtain ⟨x0, x1, x2⟩ := box3 hmm.here.1; obtain ⟨y0, y1, y2⟩ := box3 hmm.here.2; have T2 := Lib.hid hmm; clear h9 hb hmm)
      | (go_at_call 10; have h9 := T2.out; clear T2; refine (wide_any br bc m bcap ba _ (by unfold maxLen; omega)).mono ?_; rintro e w3 ⟨rfl, hb⟩; rw [← HB2.out]; have hmm := h9.after hb; obtain ⟨x0, x1, x2⟩ := box3 hmm.here.1; obtain ⟨y0, y1, y2⟩ := box3 hmm.here.2; have T3 := Lib.hid hmm; clear h9 hb hmm))
    go_ret
    exact ⟨rfl, T3.out.bel⟩
  · go_enter Try.func7, Try.ntmps7
    go_wp2_with (first
      | (go_at_call 9; have h9 := T0.out; clear T0; refine (known_any _).mono ?_; rintro e w1 ⟨rfl, hb⟩; have hmm := h9.after hb; obtain ⟨x0, x1, x2⟩ := box3 hmm.here.1; obtain ⟨y0, y1, y2⟩ := box3 hmm.here.2; have T1 := Lib.hid hmm; clear h9 hb hmm)
      | (go_at_call 10; have h9 := T1.out; clear T1; refine (wide_any ar ac n acap aa _ (by unfold maxLen; omega)).mono ?_; rintro e w2 ⟨rfl, hb⟩; rw [← HB1.out]; have hmm := h9.after hb; obtain ⟨x0, x1, x2⟩ := box3 hmm.here.1; obtain ⟨y0, y1, y2⟩ := box3 hmm.here.2; have T2 := Lib.hid hmm; clear h9 hb hmm)
      | (go_at_call 10; have h9 := T2.out; clear T2; refine (wide_any br bc m bcap ba _ (by unfold maxLen; omega)).mono ?_; rintro e w3 ⟨rfl, hb⟩; rw [← HB2.out]; have hmm := h9.after hb; obtain ⟨x0, x1, x2⟩ := box3 hmm.here.1; obtain ⟨y0, y1, y2⟩ := box3 hmm.here.2; have T3 := Lib.hid hmm; clear h9 hb hmm))
    go_ret
    exact ⟨rfl, T3.out.bel⟩
  · obtain ⟨r40, c40, n16⟩ := wideB_no HB1.out.symm
    obtain ⟨r41, c41, m16⟩ := wideB_no HB2.out.symm
    obtain ⟨SM, hSM⟩ : ∃ S, S = mulSp ar ac br bc LA LB := ⟨_, rfl⟩
    obtain ⟨SQ, hSQ⟩ : ∃ S, S = pickSp ar ac LA R := ⟨_, rfl⟩
    obtain ⟨SU, hSU⟩ : ∃ S, S = undSp ar ac br bc LA LB := ⟨_, rfl⟩
    have lSM : SM.cells.length ≤ 1000000 := by rw [hSM]; exact mulSp_len _ _ _ _ _ _
    have lSQ : SQ.cells.length ≤ 1000000 := by rw [hSQ]; exact pickSp_len _ _ _ _
    have lSU : SU.cells.length ≤ 1000000 := by rw [hSU]; exact undSp_len _ _ _ _ _ _
    have HSM := Lib.hid hSM
    have HSQ := Lib.hid hSQ
    have HSU := Lib.hid hSU
    clear hSM hSQ hSU
    go_enter Try.func7, Try.ntmps7
    go_wp2_with (first
      | (go_at_call 9; have h9 := T0.out; clear T0; refine (known_any _).mono ?_; rintro e w1 ⟨rfl, hb⟩; have hmm := h9.after hb; obtain ⟨x0, x1, x2⟩ := box3 hmm.here.1; obtain ⟨y0, y1, y2⟩ := box3 hmm.here.2; have T1 := Lib.hid hmm; clear h9 hb hmm)
      | (go_at_call 10; have h9 := T1.out; clear T1; refine (wide_any ar ac n acap aa _ (by unfold maxLen; omega)).mono ?_; rintro e w2 ⟨rfl, hb⟩; rw [← HB1.out]; have hmm := h9.after hb; obtain ⟨x0, x1, x2⟩ := box3 hmm.here.1; obtain ⟨y0, y1, y2⟩ := box3 hmm.here.2; have T2 := Lib.hid hmm; clear h9 hb hmm)
      | (go_at_call 10; have h9 := T2.out; clear T2; refine (wide_any br bc m bcap ba _ (by unfold maxLen; omega)).mono ?_; rintro e w3 ⟨rfl, hb⟩; rw [← HB2.out]; have hmm := h9.after hb; obtain ⟨x0, x1, x2⟩ := box3 hmm.here.1; obtain ⟨y0, y1, y2⟩ := box3 hmm.here.2; have T3 := Lib.hid hmm; clear h9 hb hmm)
      | (go_at_call 12; have h9 := T3.out; clear T3; refine (lent_any ar ac aa n acap LA _ HN.out n16 (HRA.out.after h9.bel) HNA.out).mono ?_; rintro e w4 ⟨gx, cx, spx, rfl, hg, hc1, hc2, hrow, hb⟩; unfold maxLen at hc2; have hmm := ((h9.after hb).add (fun _ h => Row.after hrow h)).box 24 [.int .i64 ar, .int .i64 ac, .slice (some ⟨gx, 0, none⟩) n cx]; obtain ⟨y0, y1, y2⟩ := box3 hmm.here.1.1.2; have T4 := Lib.hid hmm; clear h9 hb hmm hrow hg)
      | (go_at_call 12; have h9 := T4.out; clear T4; refine (lent_any br bc ba m bcap LB _ HM.out m16 (HRB.out.after h9.bel) HNB.out).mono ?_; rintro e w5 ⟨gy, cy, spy, rfl, hg, hc3, hc4, hrow, hb⟩; unfold maxLen at hc4; have hmm := ((h9.after hb).add (fun _ h => Row.after hrow h)).box 24 [.int .i64 br, .int .i64 bc, .slice (some ⟨gy, 0, none⟩) m cy]; have hbm := hmm.bel; have hra := HRA.out.after hbm; have hrb := HRB.out.after hbm; have T5 := Lib.hid ((((hmm.add (fun _ h => hra.after h)).add (fun _ h => hrb.after h)).map (fun x h => (⟨h.1.1.1.1.1.1.1, h.1.1.1.1.1.1.2, h.1.1.1.1.1.2, h.1.1.1.1.2, h.1.1.1.2, h.1.1.2, h.1.2, h.2⟩ : RkF w.heap.size w4.heap.size w5.heap.size gx gy n m cx cy ar ac br bc aa ba acap bcap LA LB spx spy x)))); clear h9 hb hmm hrow hg hbm hra hrb)
      | (at_builtin; have h9 := T5.out; clear T5; go_loud (skip; refine wpList_append_copy _ rfl _ (.tmp 56) 54 rfl 3 i9 _ 1 8 Try.underlying54 hi0 hz0 hz1 hz2 rfl (by omega) rfl la ln lcap (zcells R) rfl HNL.out HZL.out (HRD.out _ h9.bel) (zcells_one R) (by unfold maxLen; omega) (by omega) ?_; intro a6 cap6 w6 hown hb; have hri := RdI.own hown; have hmm := (h9.after hb).add (fun _ h => hri.after h); obtain ⟨x0, x1, x2⟩ := box3 hmm.here.1.boxx; obtain ⟨y0, y1, y2⟩ := box3 hmm.here.1.boxy; have T6 := Lib.hid hmm; clear h9 hown hb hmm hri))
      | (go_at_call 20; have h9 := T6.out; clear T6; refine (mul_gen ar ac br bc n m cx cy _ _ LA LB _ ⟨HN.out, by omega, by omega, lent_rd' h9.here.1.rx⟩ ⟨HM.out, by omega, by omega, lent_rd' h9.here.1.ry⟩).mono ?_; rw [← HSM.out]; rintro e wp ⟨ap, capp, evp, rfl, he, hrd, _, hb⟩; have hm1 := (h9.after hb).add (fun _ h => And.intro (he.after h) (hrd.after h)); have hmm := hm1.box 24 [.int .i64 SM.rows, .int .i64 SM.cols, .slice ap SM.cells.length capp]; obtain ⟨x0, x1, x2⟩ := box3 hmm.here.1.1.1.boxx; have T7 := Lib.hid hmm; clear h9 hb hmm hm1)
      | (go_at_call 18; have h9 := T7.out; clear T7; refine (invert_gen ar ac n cx _ LA _ ⟨HN.out, by omega, by omega, lent_rd' h9.here.1.1.1.rx⟩).mono ?_; rintro e wi ⟨SI, hSI, ai, capi, evi, rfl, he, hrd, _, hb⟩; have lSI := invSp_len hSI; have HSI := Lib.hid hSI; clear hSI; have hm1 := (h9.after hb).add (fun _ h => And.intro (he.after h) (hrd.after h)); have hmm := hm1.box 24 [.int .i64 SI.rows, .int .i64 SI.cols, .slice ai SI.cells.length capi]; obtain ⟨x0, x1, x2⟩ := box3 hmm.here.1.1.1.1.1.boxx; have T8 := Lib.hid hmm; clear h9 hb hmm hm1)
      | (go_at_call 17; have h9 := T8.out; clear T8; refine (rank_gen ar ac n cx _ LA _ ⟨HN.out, by omega, by omega, lent_rd' h9.here.1.1.1.1.1.rx⟩).mono ?_; rintro e wn ⟨rk, rd, evn, hrk, rfl, he, hb⟩; have HRK := Lib.hid hrk; clear hrk; have hm1 := (h9.after hb).add (fun _ h => And.intro (he.after h) h); have hmm := hm1; have TN := Lib.hid (hmm.map (fun x h => h.1.1.1.1.1.1)); obtain ⟨x0, x1, x2⟩ := box3 hmm.here.1.1.1.1.1.1.boxx; have T9 := Lib.hid hmm; clear h9 hb hmm hm1)
      | (go_at_call 28; have h9 := T9.out; clear T9; refine (pick_gen ar ac n cx ln cap6 _ _ LA R _ ⟨HN.out, by omega, by omega, lent_rd' h9.here.1.1.1.1.1.1.rx⟩ HLN.out (by unfold maxLen; omega) h9.here.1.1.1.1.1.2).mono ?_; rw [← HSQ.out]; rintro e wq ⟨aq, capq, evq, rfl, he, hrd, hoq, hb⟩; have HBQ := Lib.hid hb; have hm1 := (h9.after hb).add (fun _ h => And.intro (he.after h) (And.intro (hrd.after h) (OwnM.of hoq h))); have hmm := hm1.box 24 [.int .i64 SQ.rows, .int .i64 SQ.cols, .slice aq SQ.cells.length capq]; obtain ⟨x0, x1, x2⟩ := box3 hmm.here.1.1.1.1.1.1.1.1.boxx; obtain ⟨y0, y1, y2⟩ := box3 hmm.here.1.1.1.1.1.1.1.1.boxy; have T10 := Lib.hid hmm; clear h9 hb hmm hm1)
      | (go_at_call 26; have h9 := T10.out; clear T10; refine (under_gen ar ac br bc n m cx cy _ _ LA LB _ ⟨HN.out, by omega, by omega, lent_rd' h9.here.1.1.1.1.1.1.1.1.rx⟩ ⟨HM.out, by omega, by omega, lent_rd' h9.here.1.1.1.1.1.1.1.1.ry⟩).mono ?_; rw [← HSU.out]; rintro e wu ⟨au, capu, evu, rfl, he, hrd, hoq, hb⟩; have HBU := Lib.hid hb; have hm1 := (h9.after hb).add (fun _ h => And.intro (he.after h) (And.intro (hrd.after h) (OwnM.of hoq h))); have hmm := hm1.box 24 [.int .i64 SU.rows, .int .i64 SU.cols, .slice au SU.cells.length capu]; obtain ⟨x0, x1, x2⟩ := box3 hmm.here.1.1.1.1.1.1.1.1.1.1.boxa; obtain ⟨y0, y1, y2⟩ := box3 hmm.here.1.1.1.1.1.1.1.1.1.1.boxb; have T11 := Lib.hid hmm; clear h9 hb hmm hm1)
      | (go_at_call 29; have h9 := T11.out; clear T11; refine (rmul_gen ar ac br bc n m acap bcap _ _ LA LB _ ⟨HN.out, na, ca, h9.here.1.1.1.1.1.1.1.1.1.1.rda⟩ ⟨HM.out, nb, cb, h9.here.1.1.1.1.1.1.1.1.1.1.rdb⟩).mono ?_; rw [← HSM.out]; rintro e wp1 ⟨ap1, capp1, rfl, hrd, hb⟩; have hm1 := (h9.after hb).add (fun _ h => hrd.after h); have hmm := hm1.box 24 [.int .i64 SM.rows, .int .i64 SM.cols, .slice ap1 SM.cells.length capp1]; obtain ⟨x0, x1, x2⟩ := box3 hmm.here.1.1.1.1.1.1.1.1.1.1.1.1.boxa; have T12 := Lib.hid hmm; clear h9 hb hmm hm1)
      | (go_at_call 30; have h9 := T12.out; clear T12; refine (rinvert_gen ar ac n acap _ LA _ ⟨HN.out, na, ca, h9.here.1.1.1.1.1.1.1.1.1.1.1.1.rda⟩).mono ?_; rintro e wi1 ⟨SI', hSI', hx⟩; obtain rfl := inv_one HSI.out hSI'; obtain ⟨ai1, capi1, rfl, hrd, hb⟩ := hx; clear hSI'; have hm1 := (h9.after hb).add (fun _ h => hrd.after h); have hmm := hm1.box 24 [.int .i64 SI.rows, .int .i64 SI.cols, .slice ai1 SI.cells.length capi1]; obtain ⟨x0, x1, x2⟩ := box3 hmm.here.1.1.1.1.1.1.1.1.1.1.1.1.1.1.boxa; have T13 := Lib.hid hmm; clear h9 hb hmm hm1)
      | (go_at_call 31; have h9 := T13.out; clear T13; refine (rrank_gen ar ac n acap _ LA _ ⟨HN.out, na, ca, h9.here.1.1.1.1.1.1.1.1.1.1.1.1.1.1.rda⟩).mono ?_; rintro e wn1 ⟨rk', rd', hrk', rfl, hb⟩; obtain ⟨e8, e9⟩ := ranksp_one HRK.out hrk'; rw [← e8, ← e9]; clear hrk' e8 e9; have hm1 := h9.after hb; have hmm := hm1; obtain ⟨x0, x1, x2⟩ := box3 hmm.here.1.1.1.1.1.1.1.1.1.1.1.1.1.1.boxa; have T14 := Lib.hid hmm; clear h9 hb hmm hm1)
      | (go_at_call 32; have h9 := T14.out; clear T14; refine (rpick_gen ar ac n acap ln lcap _ _ LA R _ ⟨HN.out, na, ca, h9.here.1.1.1.1.1.1.1.1.1.1.1.1.1.1.rda⟩ HLN.out (by unfold maxLen; omega) (HR.out.after h9.bel)).mono ?_; rw [← HSQ.out]; rintro e wq1 ⟨aq1, capq1, rfl, hrd, hb⟩; have hm1 := (h9.after hb).add (fun _ h => hrd.after h); have hmm := hm1.box 24 [.int .i64 SQ.rows, .int .i64 SQ.cols, .slice aq1 SQ.cells.length capq1]; obtain ⟨x0, x1, x2⟩ := box3 hmm.here.1.1.1.1.1.1.1.1.1.1.1.1.1.1.1.1.boxa; obtain ⟨y0, y1, y2⟩ := box3 hmm.here.1.1.1.1.1.1.1.1.1.1.1.1.1.1.1.1.boxb; have T15 := Lib.hid hmm; clear h9 hb hmm hm1)
      | (go_at_call 33; have h9 := T15.out; clear T15; refine (runder_gen ar ac br bc n m acap bcap _ _ LA LB _ ⟨HN.out, na, ca, h9.here.1.1.1.1.1.1.1.1.1.1.1.1.1.1.1.1.rda⟩ ⟨HM.out, nb, cb, h9.here.1.1.1.1.1.1.1.1.1.1.1.1.1.1.1.1.rdb⟩).mono ?_; rw [← HSU.out]; rintro e wu1 ⟨au1, capu1, rfl, hrd, hb⟩; have hm1 := (h9.after hb).add (fun _ h => hrd.after h); have hmm := hm1.box 24 [.int .i64 SU.rows, .int .i64 SU.cols, .slice au1 SU.cells.length capu1]; obtain ⟨x0, x1, x2⟩ := box3 hmm.here.1.1.1.1.1.1.1.1.1.1.1.1.1.1.1.2; obtain ⟨y0, y1, y2⟩ := box3 hmm.here.1.1.1.1.1.1.2; have T16 := Lib.hid hmm; clear h9 hb hmm hm1)
      | (go_at_call 21; have h9 := T16.out; clear T16; refine (same_trueN SM.rows SM.cols SM.cells.length SM.cells _ _ _ _ _ rfl (by unfold maxLen; omega) h9.here.1.1.1.1.1.1.1.1.1.1.1.1.1.1.1.1.2.2 h9.here.1.1.1.1.1.1.1.2).mono ?_; rintro e ws ⟨rfl, hb⟩; have T17 := Lib.hid (h9.after hb); clear h9 hb)
      | (go_at_call 14; have h9 := T17.out; clear T17; refine (is_ok _ evp SM.code _ h9.here.1.1.1.1.1.1.1.1.1.1.1.1.1.1.1.1.2.1).mono ?_; rintro e ws ⟨rfl, rfl⟩; have hmm := h9; obtain ⟨x0, x1, x2⟩ := box3 hmm.here.1.1.1.1.1.1.1.1.1.1.1.1.1.2; obtain ⟨y0, y1, y2⟩ := box3 hmm.here.1.1.1.1.2; have T18 := Lib.hid hmm; clear h9 hmm)
      | (go_at_call 21; have h9 := T18.out; clear T18; refine (same_trueN SI.rows SI.cols SI.cells.length SI.cells _ _ _ _ _ rfl (by unfold maxLen; omega) h9.here.1.1.1.1.1.1.1.1.1.1.1.1.1.1.2.2 h9.here.1.1.1.1.1.2).mono ?_; rintro e ws ⟨rfl, hb⟩; have T19 := Lib.hid (h9.after hb); clear h9 hb)
      | (go_at_call 14; have h9 := T19.out; clear T19; refine (is_ok _ evi SI.code _ h9.here.1.1.1.1.1.1.1.1.1.1.1.1.1.1.2.1).mono ?_; rintro e ws ⟨rfl, rfl⟩; have hmm := h9; have T20 := Lib.hid hmm; clear h9 hmm)
      | (go_at_call 14; have h9 := T20.out; clear T20; refine (is_ok _ evn rd _ h9.here.1.1.1.1.1.1.1.1.1.1.1.1.2.1).mono ?_; rintro e ws ⟨rfl, rfl⟩; have hmm := h9; obtain ⟨x0, x1, x2⟩ := box3 hmm.here.1.1.1.1.1.1.1.1.1.1.2; obtain ⟨y0, y1, y2⟩ := box3 hmm.here.1.1.2; have T21 := Lib.hid hmm; clear h9 hmm)
      | (go_at_call 21; have h9 := T21.out; clear T21; refine (same_trueN SQ.rows SQ.cols SQ.cells.length SQ.cells _ _ _ _ _ rfl (by unfold maxLen; omega) h9.here.1.1.1.1.1.1.1.1.1.1.1.2.2.1 h9.here.1.1.1.2).mono ?_; rintro e ws ⟨rfl, hb⟩; have T22 := Lib.hid (h9.after hb); clear h9 hb)
      | (go_at_call 14; have h9 := T22.out; clear T22; refine (is_ok _ evq SQ.code _ h9.here.1.1.1.1.1.1.1.1.1.1.1.2.1).mono ?_; rintro e ws ⟨rfl, rfl⟩; have hmm := h9; obtain ⟨x0, x1, x2⟩ := box3 hmm.here.1.1.1.1.1.1.1.1.2; obtain ⟨y0, y1, y2⟩ := box3 hmm.here.2; have T23 := Lib.hid hmm; clear h9 hmm)
      | (go_at_call 21; have h9 := T23.out; clear T23; refine (same_trueN SU.rows SU.cols SU.cells.length SU.cells _ _ _ _ _ rfl (by unfold maxLen; omega) h9.here.1.1.1.1.1.1.1.1.1.2.2.1 h9.here.1.2).mono ?_; rintro e ws ⟨rfl, hb⟩; have T24 := Lib.hid (h9.after hb); clear h9 hb)
      | (go_at_call 14; have h9 := T24.out; clear T24; refine (is_ok _ evu SU.code _ h9.here.1.1.1.1.1.1.1.1.1.2.1).mono ?_; rintro e ws ⟨rfl, rfl⟩; have hmm := h9; have T25 := Lib.hid hmm; clear h9 hmm))
    have C0 : Hid (RkL wn wq.heap.size wq.heap.size wu.heap.size SQ.cells.length SU.cells.length aq au [.int .i64 SQ.rows, .int .i64 SQ.cols, .slice aq SQ.cells.length capq] [.int .i64 SU.rows, .int .i64 SU.cols, .slice au SU.cells.length capu] ws) := by
      have h9 := T25.out.here
      have hle := HBQ.out.size
      refine Lib.hid ⟨h9.1.1.1.1.1.1.1.1.1.1.2, h9.1.1.1.1.1.1.1.1.2, ?_, ?_, hle, h9.1.1.1.1.1.1.1.1.1.1.1.1.2.2⟩
      · rcases h9.1.1.1.1.1.1.1.1.1.1.1.2.2.2 with h | ⟨g, sp, ha, h1, h2, hr⟩
        · exact Or.inl h
        · exact Or.inr ⟨g, _, ha, h1, h2, by rw [List.length_append, ncells_length]; omega, hr⟩
      · rcases h9.1.1.1.1.1.1.1.1.1.2.2.2 with h | ⟨g, sp, ha, h1, h2, hr⟩
        · exact Or.inl h
        · exact Or.inr ⟨g, _, ha, Nat.le_trans (by simp) h1, by rw [List.length_append, ncells_length]; omega, hr⟩
    clear T25
    go_loopw [36] (fun i wr => ∃ j : Nat, j ≤ SQ.cells.length ∧ i = .int .i64 j ∧ RkL wn wq.heap.size wq.heap.size wu.heap.size SQ.cells.length SU.cells.length aq au [.int .i64 SQ.rows, .int .i64 SQ.cols, .slice aq SQ.cells.length capq] [.int .i64 SU.rows, .int .i64 SU.cols, .slice au SU.cells.length capu] wr) (fun i _ => SQ.cells.length - (intOf i).toNat)
    case atStart => exact ⟨0, by omega, rfl, C0.out⟩
    case round =>
      clear C0
      obtain ⟨j, hj, rfl, hc⟩ := hrel
      obtain ⟨x0, x1, x2⟩ := box3 hc.bq
      by_cases hlt : j < SQ.cells.length
      · rcases hc.oq with h0 | ⟨g, l, rfl, hlo, hhi, hl, hrow⟩
        · omega
        · have hjl : j < l.length := by omega
          have ck : World.cell? wr ⟨g, j, none⟩ = some l[j] := hrow.cell (List.getElem?_eq_getElem hjl)
          have fk : World.frozen? wr ⟨g, j, none⟩ = false := hrow.free hjl
          have C1 := Lib.hid (hc.wq hlo hhi hl hrow j (.int .u8 99))
          obtain ⟨v, hv⟩ : ∃ v, v = l[j] := ⟨_, rfl⟩
          rw [← hv] at ck
          clear hc hrow hv
          go_wp2
          go_roundw
          case measure => simp [intOf]; omega
          case rel => exact ⟨j + 1, by omega, by go_num, C1.out⟩
      · obtain rfl : j = SQ.cells.length := by omega
        have C1 := Lib.hid hc
        clear hc hlt hj
        go_wp2
        clear x0 x1 x2
        go_loopw [37] (fun i wr => ∃ j : Nat, j ≤ SU.cells.length ∧ i = .int .i64 j ∧ RkL wn wq.heap.size wq.heap.size wu.heap.size SQ.cells.length SU.cells.length aq au [.int .i64 SQ.rows, .int .i64 SQ.cols, .slice aq SQ.cells.length capq] [.int .i64 SU.rows, .int .i64 SU.cols, .slice au SU.cells.length capu] wr) (fun i _ => SU.cells.length - (intOf i).toNat)
        case atStart => exact ⟨0, by omega, rfl, C1.out⟩
        case round =>
          clear C1
          obtain ⟨j, hj, rfl, hc⟩ := hrel
          obtain ⟨x0, x1, x2⟩ := box3 hc.bu
          by_cases hlt : j < SU.cells.length
          · rcases hc.ou with h0 | ⟨g, l, rfl, hlo, hl, hrow⟩
            · omega
            · have hjl : j < l.length := by omega
              have ck : World.cell? wr ⟨g, j, none⟩ = some l[j] := hrow.cell (List.getElem?_eq_getElem hjl)
              have fk : World.frozen? wr ⟨g, j, none⟩ = false := hrow.free hjl
              have C2 := Lib.hid (hc.wu hlo hl hrow j (.int .u8 99))
              obtain ⟨v, hv⟩ : ∃ v, v = l[j] := ⟨_, rfl⟩
              rw [← hv] at ck
              clear hc hrow hv
              go_wp2
              go_roundw
              case measure => simp [intOf]; omega
              case rel => exact ⟨j + 1, by omega, by go_num, C2.out⟩
          · obtain rfl : j = SU.cells.length := by omega
            have h9 := TN.out.after hc.bel
            obtain ⟨u0, u1, u2⟩ := box3 h9.here.boxx
            obtain ⟨v0, v1, v2⟩ := box3 h9.here.boxa
            have T1 := Lib.hid h9
            clear hc hlt hj h9 TN
            go_wp2_with (first
              | (go_at_call 34; have h9 := T1.out; clear T1; refine (kept_any ar ac gx n cx acap aa LA spx _ HN.out n16 hc1 hc2 h9.here.rx h9.here.rda).mono ?_; rintro e w8 ⟨rfl, hb⟩; have hmm := h9.after hb; obtain ⟨u0, u1, u2⟩ := box3 hmm.here.boxy; obtain ⟨v0, v1, v2⟩ := box3 hmm.here.boxb; have T2 := Lib.hid hmm; clear h9 hb hmm)
              | (go_at_call 34; have h9 := T2.out; clear T2; refine (kept_any br bc gy m cy bcap ba LB spy _ HM.out m16 hc3 hc4 h9.here.ry h9.here.rdb).mono ?_; rintro e w8 ⟨rfl, hb⟩; have T3 := Lib.hid (h9.after hb); clear h9 hb))
            go_ret
            exact ⟨rfl, T3.out.bel⟩
theorem reckons_walk (ar ac : Int) (aa : Option Addr) (acap : Nat) (LA : List (BitVec 8)) (br bc : Int) (ba : Option Addr) (bcap : Nat) (LB : List (BitVec 8)) (la : Option Addr) (lcap : Nat) (R : List Int) (w : World) (hA : MatArg w ar ac aa acap LA) (hB : MatArg w br bc ba bcap LB) (hR : (RdI w la R ∧ R.length ≤ maxLen ∧ ∀ x ∈ R, -9223372036854775808 ≤ x ∧ x ≤ 9223372036854775807) ∧ (la = none → lcap = 0)) :
    Calls Try.prog 7 #[.agg #[.int .i64 ar, .int .i64 ac, .slice aa LA.length acap], .agg #[.int .i64 br, .int .i64 bc, .slice ba LB.length bcap], .slice la R.length lcap] w fun e w' => e = .returned (.bool true) ∧ Below w.heap.size w w' :=
  reckons_any ar ac br bc aa ba la acap bcap lcap LA LB R w hA hB hR.1.1 hR.1.2.1 hR.2
section
open Go.ChangeShapes Go.WideShapes
variable {H : Type} {enc : TypeId × Value → H} {W : World}
theorem intsn_open {a : Option Addr} {len cap : Nat} {d : DataW H} {p : List MemPlace} (h : DataW.Trod enc Try.prog W 0 (fun _ => true) true 54 (.slice a len cap) d p) : ∃ L : List Int, len = L.length ∧ ((RdI W a L ∧ L.length ≤ maxLen ∧ ∀ x ∈ L, -9223372036854775808 ≤ x ∧ x ≤ 9223372036854775807) ∧ (a = none → cap = 0)) := by
  obtain ⟨L, h1, h2⟩ := ints_open h
  refine ⟨L, h1, h2, fun ha => ?_⟩
  obtain ⟨fuel, hf⟩ := h
  rcases open_ints Try.underlying54 Try.underlying3 (by kernel_rfl) hf with ⟨hcs, _⟩ | ⟨x, l, c, zs, hcs, _⟩
  · simp [Value.cells] at hcs
    exact hcs.2.2
  · simp [Value.cells] at hcs
    rw [ha] at hcs
    exact absurd hcs.1 (by simp)
end
end Go.Proofs.Ytbnfnijjldimkaa
