/-
  The builtin copy between tables of bytes; the walks of matrix.own and matrix.Rank.
-/
import Derived.Test.YtbnfnijjldimkabMstep
namespace Go.Proofs.Ytbnfnijjldimkab
open Go.RowKit
set_option linter.unusedVariables false
set_option linter.unusedSimpArgs false
/-- a table in a part of which another one has been laid -/
def layF (f : Nat → BitVec 8) (o n : Nat) (of : Nat → BitVec 8) (j : Nat) : BitVec 8 := if o ≤ j ∧ j < o + n then of (j - o) else f j
theorem layF_cells (f of : Nat → BitVec 8) (o n N : Nat) (h : o + n ≤ N) : (ncells (tab N f)).take o ++ (ncells (tab n of) ++ (ncells (tab N f)).drop (o + n)) = ncells (tab N (layF f o n of)) := by
  unfold ncells
  rw [← List.map_take, ← List.map_drop, ← List.map_append, ← List.map_append]
  congr 1
  apply List.ext_getElem
  · simp [tab_length]; omega
  · intro i h1 h2
    have hi : i < N := by rw [tab_length] at h2; exact h2
    rw [tab_get _ _ _ hi]
    unfold layF
    by_cases e1 : i < o
    · rw [if_neg (by omega), List.getElem_append_left (by simp [tab_length]; omega), List.getElem_take, tab_get _ _ _ hi]
    · rw [List.getElem_append_right (by simp [tab_length]; omega)]
      simp only [List.length_take, tab_length, Nat.min_eq_left (show o ≤ N by omega)]
      by_cases e2 : i < o + n
      · rw [if_pos ⟨by omega, e2⟩, List.getElem_append_left (by rw [tab_length]; omega), tab_get _ _ _ (by omega)]
      · rw [if_neg (by omega), List.getElem_append_right (by rw [tab_length]; omega), List.getElem_drop, tab_get _ _ _ (by rw [tab_length]; omega)]
        congr 1
        rw [tab_length]; omega
section
variable {P : Program}
theorem run_copy_tab (w : World) (dT sT ty elem : TypeId) (hu : P.underlying dT = some (.slice elem)) (hsz : (P.info? elem).map (·.size) = some 1) (g o dLen dCap gs os sLen sCap n N : Nat) (t : TypeId) (f of : Nat → BitVec 8)
    (hrow : Row0 w g t (ncells (tab N f))) (hn : n = Nat.min sLen dLen) (hfit : o + n ≤ N) (hsrc : ∀ j, j < n → w.cell? ⟨gs, os + j, none⟩ = some (.int .u8 (nv (of j)))) :
    (Builtin.copy_ #[dT, sT] ty #[.slice (some ⟨g, o, none⟩) dLen dCap, .slice (some ⟨gs, os, none⟩) sLen sCap]).run P w = .ok (goInt n) (w.setRow g (ncells (tab N (layF f o n of))).toArray) := by
  have hl : (ncells (tab n of)).length = n := by rw [ncells_length, tab_length]
  have h := run_copy_row (P := P) w dT sT ty elem g o dLen dCap ⟨gs, os, none⟩ sLen sCap (ncells (tab N f)).toArray t (ncells (tab n of)) hu hsz hrow (by rw [hl]; exact hn)
    (fun j v hj => by
      have hjn : j < n := by
        have := (List.getElem?_eq_some_iff.1 hj).1
        rwa [hl] at this
      rw [ncells_get _ _ (by rw [tab_length]; exact hjn), tab_get _ _ _ hjn] at hj
      have e1 : (⟨gs, os, none⟩ : Addr).add j = ⟨gs, os + j, none⟩ := by unfold Addr.add; split <;> simp_all
      rw [e1, hsrc j hjn]; exact hj)
    (by rw [hl]; simp [ncells_length, tab_length]; omega)
    (fun v hv => by
      unfold ncells at hv
      obtain ⟨x, _, rfl⟩ := List.mem_map.1 hv
      rfl)
  rw [hl, List.toList_toArray, List.append_assoc, layF_cells f of o n N hfit] at h
  exact h
theorem wpList_copy_tab {ops : Array Oper} {rest : List Oper} {o : Oper} {a : Act} {w : World} {Q : Exit → Act → World → Prop} (hgd : o.guard = none) (d s : Operand) (dT sT : TypeId)
    (ho : o.op = .call { callee := .builtin .copy, args := #[d, s], argTypes := #[dT, sT] }) (elem : TypeId) (hu : P.underlying dT = some (.slice elem)) (hsz : (P.info? elem).map (·.size) = some 1)
    (g off dLen dCap gs os sLen sCap n N : Nat) (hd : a.eval d = .slice (some ⟨g, off, none⟩) dLen dCap) (hs : a.eval s = .slice (some ⟨gs, os, none⟩) sLen sCap) (t : TypeId) (f of : Nat → BitVec 8)
    (hrow : Row0 w g t (ncells (tab N f))) (hn : n = Nat.min sLen dLen) (hfit : off + n ≤ N) (hsrc : ∀ j, j < n → w.cell? ⟨gs, os + j, none⟩ = some (.int .u8 (nv (of j))))
    (h : ∀ w', Row0 w' g t (ncells (tab N (layF f off n of))) → Fr [g] w w' → wpList P ops Q rest (a.put o.dst (goInt n)) w') : wpList P ops Q (o :: rest) a w := by
  refine wpList_plain hgd fun K hK => ?_
  have hrun := run_copy_tab (P := P) w dT sT o.type elem hu hsz g off dLen dCap gs os sLen sCap n N t f of hrow hn hfit hsrc
  unfold Oper.wp
  simp [execOp, ho, resolve, invoke, builtin, hd, hs, hrun, Result.andThen]
  exact hK _ _ (h _ (hrow.setRow _) ((Fr.refl _ _).setRow (Or.inl (by simp)) _))
theorem step_copy_tab {ops : Array Oper} {o : Oper} {a : Act} {w : World} {K : Act → World → Prop} {Q : Exit → Act → World → Prop} {E : Prop} (hgd : o.guard = none) (d s : Operand) (dT sT : TypeId)
    (ho : o.op = .call { callee := .builtin .copy, args := #[d, s], argTypes := #[dT, sT] }) (elem : TypeId) (hu : P.underlying dT = some (.slice elem)) (hsz : (P.info? elem).map (·.size) = some 1)
    (g off dLen dCap gs os sLen sCap n N : Nat) (hd : a.eval d = .slice (some ⟨g, off, none⟩) dLen dCap) (hs : a.eval s = .slice (some ⟨gs, os, none⟩) sLen sCap) (t : TypeId) (f of : Nat → BitVec 8)
    (hrow : Row0 w g t (ncells (tab N f))) (hn : n = Nat.min sLen dLen) (hfit : off + n ≤ N) (hsrc : ∀ j, j < n → w.cell? ⟨gs, os + j, none⟩ = some (.int .u8 (nv (of j))))
    (h : ∀ w', Row0 w' g t (ncells (tab N (layF f off n of))) → Fr [g] w w' → K (a.put o.dst (goInt n)) w') :
    if Region.wanted o (yielded ops a.tmps) = true then Oper.wp P o a w K Q else E := by
  have hw : Region.wanted o (yielded ops a.tmps) = true := by simp [Region.wanted, hgd]
  rw [if_pos hw]
  have hrun := run_copy_tab (P := P) w dT sT o.type elem hu hsz g off dLen dCap gs os sLen sCap n N t f of hrow hn hfit hsrc
  unfold Oper.wp
  simp [execOp, ho, resolve, invoke, builtin, hd, hs, hrun, Result.andThen]
  exact h _ (hrow.setRow _) ((Fr.refl _ _).setRow (Or.inl (by simp)) _)
end
theorem MatRd.flat {w : World} {g o r c : Nat} {M : Nat → Nat → BitVec 8} (h : MatRd w g o r c M) (hc : 1 ≤ c) (j : Nat) (hj : j < r * c) : w.cell? ⟨g, o + j, none⟩ = some (.int .u8 (nv (tb c M j))) := by
  have := h (j / c) (j % c) (row_lt hj) (Nat.mod_lt _ (by omega))
  rw [Nat.add_assoc, Nat.mul_comm, Nat.div_add_mod] at this
  exact this
theorem layF_full (n : Nat) (f of : Nat → BitVec 8) : tab n (layF f 0 n of) = tab n of := tab_congr fun j hj => by
  unfold layF; rw [if_pos ⟨by omega, by omega⟩, Nat.sub_zero]
end Go.Proofs.Ytbnfnijjldimkab
