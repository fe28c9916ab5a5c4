/-
  The builtin copy between tables of bytes; the walks of matrix.own and matrix.Rank.
-/
import Derived.Test.YtbnfnijjldimkaaMstep
namespace Go.Proofs.Ytbnfnijjldimkaa
open Go.RowKit
set_option linter.unusedVariables false
set_option linter.unusedSimpArgs false
/-- a table in a part of which another one has been laid -/
def layF (f : Nat → BitVec 8) (o n : Nat) (of : Nat → BitVec 8) (j : Nat) : BitVec 8 := if o ≤ j ∧ j < o + n then of (j - o) else f j
theorem layF_cells (f of : Nat → BitVec 8) (o n N : Nat) (h : o + n ≤ N) : (ncells (tab N f)).take o ++ (ncells (tab n of) ++ (ncells (tab N f)).drop (o + n)) = ncells (tab N (layF f o n of)) := by
  unfold ncells
  rw [← List.map_take, ← List.map_drop, ← List.map_append, ← List.map_append]
  congr 1
  apply List.ext_getElem
  · simp [tab_length]; omega
  · intro i h1 h2
    have hi : i < N := by rw [tab_length] at h2; exact h2
    rw [tab_get _ _ _ hi]
    unfold layF
    by_cases e1 : i < o
    · rw [if_neg (by omega), List.getElem_append_left (by simp [tab_length]; omega), List.getElem_take, tab_get _ _ _ hi]
    · rw [List.getElem_append_right (by simp [tab_length]; omega)]
      simp only [List.length_take, tab_length, Nat.min_eq_left (show o ≤ N by omega)]
      by_cases e2 : i < o + n
      · rw [if_pos ⟨by omega, e2⟩, List.getElem_append_left (by rw [tab_length]; omega), tab_get _ _ _ (by omega)]
      · rw [if_neg (by omega), List.getElem_append_right (by rw [tab_length]; omega), List.getElem_drop, tab_get _ _ _ (by rw [tab_length]; omega)]
        congr 1
        rw [tab_length]; omega
section
variable {P : Program}
theorem run_copy_tab (w : World) (dT sT ty elem : TypeId) (hu : P.underlying dT = some (.slice elem)) (hsz : (P.info? elem).map (·.size) = some 1) (g o dLen dCap gs os sLen sCap n N : Nat) (t : TypeId) (f of : Nat → BitVec 8)
    (hrow : Row0 w g t (ncells (tab N f))) (hn : n = Nat.min sLen dLen) (hfit : o + n ≤ N) (hsrc : ∀ j, j < n → w.cell? ⟨gs, os + j, none⟩ = some (.int .u8 (nv (of j)))) :
    (Builtin.copy_ #[dT, sT] ty #[.slice (some ⟨g, o, none⟩) dLen dCap, .slice (some ⟨gs, os, none⟩) sLen sCap]).run P w = .ok (goInt n) (w.setRow g (ncells (tab N (layF f o n of))).toArray) := by
  have hl : (ncells (tab n of)).length = n := by rw [ncells_length, tab_length]
  have h := run_copy_row (P := P) w dT sT ty elem g o dLen dCap ⟨gs, os, none⟩ sLen sCap (ncells (tab N f)).toArray t (ncells (tab n of)) hu hsz hrow (by rw [hl]; exact hn)
    (fun j v hj => by
      have hjn : j < n := by
        have := (List.getElem?_eq_some_iff.1 hj).1
        rwa [hl] at this
      rw [ncells_get _ _ (by rw [tab_length]; exact hjn), tab_get _ _ _ hjn] at hj
      have e1 : (⟨gs, os, none⟩ : Addr).add j = ⟨gs, os + j, none⟩ := by unfold Addr.add; split <;> simp_all
      rw [e1, hsrc j hjn]; exact hj)
    (by rw [hl]; simp [ncells_length, tab_length]; omega)
    (fun v hv => by
      unfold ncells at hv
      obtain ⟨x, _, rfl⟩ := List.mem_map.1 hv
      rfl)
  rw [hl, List.toList_toArray, List.append_assoc, layF_cells f of o n N hfit] at h
  exact h
theorem wpList_copy_tab {ops : Array Oper} {rest : List Oper} {o : Oper} {a : Act} {w : World} {Q : Exit → Act → World → Prop} (hgd : o.guard = none) (d s : Operand) (dT sT : TypeId)
    (ho : o.op = .call { callee := .builtin .copy, args := #[d, s], argTypes := #[dT, sT] }) (elem : TypeId) (hu : P.underlying dT = some (.slice elem)) (hsz : (P.info? elem).map (·.size) = some 1)
    (g off dLen dCap gs os sLen sCap n N : Nat) (hd : a.eval d = .slice (some ⟨g, off, none⟩) dLen dCap) (hs : a.eval s = .slice (some ⟨gs, os, none⟩) sLen sCap) (t : TypeId) (f of : Nat → BitVec 8)
    (hrow : Row0 w g t (ncells (tab N f))) (hn : n = Nat.min sLen dLen) (hfit : off + n ≤ N) (hsrc : ∀ j, j < n → w.cell? ⟨gs, os + j, none⟩ = some (.int .u8 (nv (of j))))
    (h : ∀ w', Row0 w' g t (ncells (tab N (layF f off n of))) → Fr [g] w w' → wpList P ops Q rest (a.put o.dst (goInt n)) w') : wpList P ops Q (o :: rest) a w := by
  refine wpList_plain hgd fun K hK => ?_
  have hrun := run_copy_tab (P := P) w dT sT o.type elem hu hsz g off dLen dCap gs os sLen sCap n N t f of hrow hn hfit hsrc
  unfold Oper.wp
  simp [execOp, ho, resolve, invoke, builtin, hd, hs, hrun, Result.andThen]
  exact hK _ _ (h _ (hrow.setRow _) ((Fr.refl _ _).setRow (Or.inl (by simp)) _))
theorem step_copy_tab {ops : Array Oper} {o : Oper} {a : Act} {w : World} {K : Act → World → Prop} {Q : Exit → Act → World → Prop} {E : Prop} (hgd : o.guard = none) (d s : Operand) (dT sT : TypeId)
    (ho : o.op = .call { callee := .builtin .copy, args := #[d, s], argTypes := #[dT, sT] }) (elem : TypeId) (hu : P.underlying dT = some (.slice elem)) (hsz : (P.info? elem).map (·.size) = some 1)
    (g off dLen dCap gs os sLen sCap n N : Nat) (hd : a.eval d = .slice (some ⟨g, off, none⟩) dLen dCap) (hs : a.eval s = .slice (some ⟨gs, os, none⟩) sLen sCap) (t : TypeId) (f of : Nat → BitVec 8)
    (hrow : Row0 w g t (ncells (tab N f))) (hn : n = Nat.min sLen dLen) (hfit : off + n ≤ N) (hsrc : ∀ j, j < n → w.cell? ⟨gs, os + j, none⟩ = some (.int .u8 (nv (of j))))
    (h : ∀ w', Row0 w' g t (ncells (tab N (layF f off n of))) → Fr [g] w w' → K (a.put o.dst (goInt n)) w') :
    if Region.wanted o (yielded ops a.tmps) = true then Oper.wp P o a w K Q else E := by
  have hw : Region.wanted o (yielded ops a.tmps) = true := by simp [Region.wanted, hgd]
  rw [if_pos hw]
  have hrun := run_copy_tab (P := P) w dT sT o.type elem hu hsz g off dLen dCap gs os sLen sCap n N t f of hrow hn hfit hsrc
  unfold Oper.wp
  simp [execOp, ho, resolve, invoke, builtin, hd, hs, hrun, Result.andThen]
  exact h _ (hrow.setRow _) ((Fr.refl _ _).setRow (Or.inl (by simp)) _)
end
theorem MatRd.flat {w : World} {g o r c : Nat} {M : Nat → Nat → BitVec 8} (h : MatRd w g o r c M) (hc : 1 ≤ c) (j : Nat) (hj : j < r * c) : w.cell? ⟨g, o + j, none⟩ = some (.int .u8 (nv (tb c M j))) := by
  have := h (j / c) (j % c) (row_lt hj) (Nat.mod_lt _ (by omega))
  rw [Nat.add_assoc, Nat.mul_comm, Nat.div_add_mod] at this
  exact this
theorem layF_full (n : Nat) (f of : Nat → BitVec 8) : tab n (layF f 0 n of) = tab n of := tab_congr fun j hj => by
  unfold layF; rw [if_pos ⟨by omega, by omega⟩, Nat.sub_zero]
set_option maxRecDepth 100000 in
set_option maxHeartbeats 1600000 in
theorem own_any (r c ga oa n cap : Nat) (A : Nat → Nat → BitVec 8) (w : World) (r1 : 1 ≤ r) (r2 : r ≤ 255) (c1 : 1 ≤ c) (c2 : c ≤ 255) (hn : n = r * c) (hcap : n ≤ cap) (ha : MatRd w ga oa r c A) :
    Calls Try.prog 42 #[.agg #[.int .i64 r, .int .i64 c, .slice (some ⟨ga, oa, none⟩) n cap]] w fun e w' => ∃ g, e = .returned (.agg #[.int .i64 r, .int .i64 c, .slice (some ⟨g, 0, none⟩) n n]) ∧ w.heap.size ≤ g ∧ Row0 w' g 5 (ncells (tab n (tb c A))) ∧ Below w.heap.size w w' := by
  have hs : ∀ (W : World) (o : Obj), (W.alloc o).heap.size = W.heap.size + 1 := fun W o => by simp
  have hb0 := (Row.new w 24 [.int .i64 r, .int .i64 c, .slice (some ⟨ga, oa, none⟩) n cap]).alloc (.cells #[.int .i64 0, .int .i64 0, .slice none 0 0] 24)
  have hb1 := Row.new (w.alloc (.cells #[.int .i64 r, .int .i64 c, .slice (some ⟨ga, oa, none⟩) n cap] 24)) 24 [.int .i64 0, .int .i64 0, .slice none 0 0]
  rw [hs] at hb1
  have hbl : Below w.heap.size w ((w.alloc (.cells #[.int .i64 r, .int .i64 c, .slice (some ⟨ga, oa, none⟩) n cap] 24)).alloc (.cells #[.int .i64 0, .int .i64 0, .slice none 0 0] 24)) := ((Below.refl _ _).alloc (Nat.le_refl _) _).alloc (by simp) _
  have S0 := Lib.hid (And.intro hb0 (And.intro hb1 hbl))
  have HA := Lib.hid ha
  have gal : ga < w.heap.size := rd_cell_lt (ha 0 0 (by omega) (by omega))
  have HN := Lib.hid hn
  clear hb0 hb1 hbl hs ha hn
  go_enter Try.func42, Try.ntmps42
  go_wp2_with (first
    | (go_at_call 43; have h9 := S0.out; clear S0; refine (zero_any r c _ (by omega) (by omega)).mono ?_; rintro e w1 ⟨g, rfl, hg, hrow, hb⟩; unfold mval; rw [← HN.out] at hrow ⊢; have hg2 : w.heap.size ≤ g := (by have := hg; simp at this; omega); have hz := hb.size; simp at hz; have hal : Below w1.heap.size w1 (w1.alloc (.cells #[.int .i64 r, .int .i64 c, .slice (some ⟨g, 0, none⟩) n n] 24)) := (Below.refl _ _).alloc (Nat.le_refl _) _; obtain ⟨x0, x1, x2⟩ := box3 ((h9.1.after hb).after hal); have hbel := (h9.2.2.trans (hb.mono (by simp; omega))).trans (hal.mono (by omega)); have S1 := Lib.hid (And.intro ((h9.2.1.after hb).after hal) (And.intro hbel (And.intro (hrow.fr (Fr.of_below (L := []) hal) (by simp)) (And.intro (Row.new w1 24 [.int .i64 r, .int .i64 c, .slice (some ⟨g, 0, none⟩) n n]) (fun j hj => (hbel.cell (p := ⟨ga, oa + j, none⟩) gal).trans (HA.out.flat c1 j hj)))))); clear h9 hb hg hrow hal hbel)
    | (refine wpList_copy_tab rfl (.tmp 10) (.tmp 12) 22 22 rfl 5 Try.underlying22 u8size g 0 n n ga oa n cap n n rfl rfl 5 (fun _ => 0#8) (tb c A) S1.out.2.2.1 (by simp) (by omega) (fun j hj => S1.out.2.2.2.2 j (by rw [← HN.out]; exact hj)) ?_; intro w3 hr3 hf3; rw [layF_full] at hr3; have h9 := S1.out; clear S1; have n1 := h9.1.ne h9.2.2.1.row (by decide); have n2 := h9.2.2.2.1.ne h9.2.2.1.row (by decide); have k1 := h9.1.fr hf3 (by simp only [List.mem_singleton]; exact n1); have k2 := h9.2.2.2.1.fr hf3 (by simp only [List.mem_singleton]; exact n2); obtain ⟨y0, y1, y2⟩ := box3 k2; obtain ⟨t0, t1, t2⟩ := box3 k1; obtain ⟨f0, f1, f2⟩ := box3f k1; have S2 := Lib.hid (And.intro k1 (And.intro (h9.2.1.trans (hf3.below (B := w.heap.size) (by simp; omega) (fun i hi => by simp only [List.mem_singleton] at hi; omega))) hr3)); clear h9 n1 n2 k1 k2 hr3 hf3))
  have hy := set3_row (a := .int .i64 r) (b := .int .i64 c) (c := .slice (some ⟨g, 0, none⟩) n n) S2.out.1
  obtain ⟨z0, z1, z2⟩ := box3 hy
  exact bodyPost_ret (v := .agg #[.int .i64 r, .int .i64 c, .slice (some ⟨g, 0, none⟩) n n]) (by simp [results, Try.results42, go_sem, z0, z1, z2]) rfl ⟨g, rfl, hg2, S2.out.2.2.fr ((((Fr.refl [w.heap.size + 1] w3).setCell (Or.inl (by simp)) _).setCell (Or.inl (by simp)) _).setCell (Or.inl (by simp)) _) (by simp only [List.mem_singleton]; exact fun e => S2.out.1.ne S2.out.2.2.row (by decide) e.symm), set3_below S2.out.2.1 (by omega)⟩
set_option maxRecDepth 100000 in
set_option maxHeartbeats 1600000 in
theorem rank_bad (r c : Int) (n cap : Nat) (a : Option Addr) (w : World) (hl : n ≤ maxLen) (h : rightB r c n = false) :
    Calls Try.prog 17 #[.agg #[.int .i64 r, .int .i64 c, .slice a n cap]] w fun e w' => ∃ ev, e = .returned (.tuple #[.int .i64 0, ev]) ∧ ErrAt w.heap.size w' ev 1 ∧ Below w.heap.size w w' := by
  have S0 := Lib.hid (((Below.refl w.heap.size w).alloc (Nat.le_refl _) (.cells #[.int .i64 r, .int .i64 c, .slice a n cap] 24)))
  have HX := Lib.hid h
  clear h
  go_enter Try.func17, Try.ntmps17
  go_wp2_with (first
    | (go_at_call 27; have h9 := S0.out; clear S0; refine (right_gen r c n a cap _ hl).mono ?_; rintro e w1 ⟨rfl, hb⟩; rw [HX.out]; have S1 := Lib.hid (h9.trans (hb.mono (by simp))); clear h9 hb)
    | (go_at_call 36; have h9 := S1.out; clear S1; refine (fault_any 1 (by decide) _).mono ?_; rintro e w2 ⟨ev, rfl, he, hb⟩; have S2 := Lib.hid (And.intro (h9.trans (hb.mono h9.size)) (he.mono h9.size)); clear h9 hb he))
  go_ret2
  exact ⟨ev, rfl, S2.out.2, S2.out.1⟩
set_option maxRecDepth 100000 in
set_option maxHeartbeats 1600000 in
theorem rank_ok (r c ga oa n cap : Nat) (A : Nat → Nat → BitVec 8) (w : World) (r1 : 1 ≤ r) (r2 : r ≤ 255) (c1 : 1 ≤ c) (c2 : c ≤ 255) (hn : n = r * c) (hcap : n ≤ cap) (ha : MatRd w ga oa r c A) :
    Calls Try.prog 17 #[.agg #[.int .i64 r, .int .i64 c, .slice (some ⟨ga, oa, none⟩) n cap]] w fun e w' => ∃ k M' j p, e = .returned (.tuple #[.int .i64 (k : Nat), .nilIface]) ∧ Good r M' j k p ∧ j ≤ c ∧ (j = c ∨ k = r) ∧ (∀ x, Ker r c M' x ↔ Ker r c A x) ∧ Below w.heap.size w w' := by
  have hb0 := Row.new w 24 [.int .i64 r, .int .i64 c, .slice (some ⟨ga, oa, none⟩) n cap]
  have hbl : Below w.heap.size w (w.alloc (.cells #[.int .i64 r, .int .i64 c, .slice (some ⟨ga, oa, none⟩) n cap] 24)) := (Below.refl _ _).alloc (Nat.le_refl _) _
  have q1 : n ≤ 255 * 255 := by rw [hn]; exact Nat.mul_le_mul r2 c2
  have hm := rightB_ok r1 r2 c1 c2 hn
  have HX := Lib.hid hm
  have S0 := Lib.hid (And.intro hb0 (And.intro hbl (ha.after hbl)))
  have HN := Lib.hid hn
  clear hb0 hbl ha hn hm
  go_enter Try.func17, Try.ntmps17
  go_wp2_with (go_at_call 27; have h9 := S0.out; clear S0; refine (right_gen r c n _ cap _ (by unfold maxLen; omega)).mono ?_; rintro e w1 ⟨rfl, hb⟩; rw [HX.out]; have hB := h9.1.after hb; obtain ⟨x0, x1, x2⟩ := box3 hB; have S1 := Lib.hid (And.intro hB (And.intro (h9.2.1.trans (hb.mono (by simp))) (h9.2.2.after hb))); clear h9 hb hB)
  go_region_held3 (fun w' => w'.cell? ⟨w.heap.size, 0, none⟩ = some (.int .i64 r) ∧ w'.cell? ⟨w.heap.size, 1, none⟩ = some (.int .i64 c) ∧ w'.cell? ⟨w.heap.size, 2, none⟩ = some (.slice (some ⟨ga, oa, none⟩) n cap)) (first | exact ⟨by assumption, by assumption, by assumption⟩)
    (first
    | (go_at_call 42; have h9 := S1.out; clear S1; refine (own_any r c ga oa n cap A _ r1 r2 c1 c2 HN.out hcap (h9.2.2.after (Below.refl _ _).drew)).mono ?_; rintro e w2 ⟨g, rfl, hg, hrow, hb⟩; have hB := h9.1.after ((Below.refl _ _).drew.trans hb); obtain ⟨y0, y1, y2⟩ := box3 hB; have hz := h9.2.1.size; have S2 := Lib.hid (And.intro hB (And.intro (h9.2.1.trans (((Below.refl _ _).drew.trans hb).mono hz)) hrow)); have hg2 : w.heap.size ≤ g := (by have : w1.heap.size ≤ g := hg; omega); clear h9 hb hB hrow)
    | (go_at_call 41; have h9 := S2.out; clear S2; refine (steps_any r c c g n n A [] _ r1 r2 c1 (by omega) HN.out (Nat.le_refl _) (by omega) (Nat.le_refl _) (by rw [List.append_nil]; exact h9.2.2.row)).mono ?_; rintro e w3 ⟨k, M', j, p, rfl, hr, hf, hgood, hj, hend, hker⟩; have hB := h9.1.fr hf (by simp only [List.mem_singleton]; exact h9.1.ne h9.2.2.row (by decide)); obtain ⟨z0, z1, z2⟩ := box3 hB; have S3 := Lib.hid (And.intro hgood (And.intro hj (And.intro hend (And.intro hker (h9.2.1.trans (hf.below h9.2.1.size (fun i hi => by simp only [List.mem_singleton] at hi; omega))))))); clear h9 hr hf hgood hj hend hker hB))
  go_wp2
  go_ret2
  exact ⟨k, M', j, p, rfl, S3.out.1, S3.out.2.1, S3.out.2.2.1, S3.out.2.2.2.1, S3.out.2.2.2.2⟩
end Go.Proofs.Ytbnfnijjldimkaa
