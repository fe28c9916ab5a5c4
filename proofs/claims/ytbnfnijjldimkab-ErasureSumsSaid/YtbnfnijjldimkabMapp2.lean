/-
  append to a slice of the call's own, at a step of a region that draws; numbers as cells.
-/
import Derived.Test.YtbnfnijjldimkabMapp
import Derived.Test.YtbnfnijjldimkabMat
namespace Go.Proofs.Ytbnfnijjldimkab
open Go.RowKit
set_option linter.unusedVariables false
theorem own_grown_below {w0 w w' : World} {B e size n : Nat} {v : Value} {xs : List Value} (h1 : w.ownsRow B e size v n xs) (h3 : Below B w0 w) (hB : B ≤ w.heap.size) (hg : w.grownBy w' v.ownBlock) : Below B w0 w' := by
  have hf : Fr (match v.ownBlock with | some g => [g] | none => []) w w' := (Fr.refl _ _).grown hg (fun g hg => Or.inl (by rw [hg]; simp))
  refine h3.trans (hf.below hB (fun g hm => ?_))
  cases hv : v.ownBlock with
  | none => rw [hv] at hm; simp at hm
  | some g' =>
    rw [hv] at hm
    simp only [List.mem_singleton] at hm
    rcases h1.2 with ⟨h, _⟩ | ⟨g2, cap, cur, h, hb, _⟩
    · rw [h] at hv; cases hv
    · rw [h] at hv
      simp only [Value.ownBlock, Option.some.injEq] at hv
      omega
section
variable {P : Program}
theorem step_append_more {ops : Array Oper} {o : Oper} {a : Act} {K : Act → World → Prop} {Q : Exit → Act → World → Prop} {E : Prop} (w : World) (hgd : o.guard = none) (s x : Operand) (t : TypeId)
    (ho : o.op = .call { callee := .builtin .append, args := #[s, x], argTypes := #[t, t] })
    (base : Nat) (e : TypeId) (i : TypeInfo) (z : Value) (size bytes : Nat) (ht : P.underlying t = some (.slice e)) (hi : P.info? e = some i) (hz : i.zero = some z)
    (hsize : i.size = size) (hby : i.bytes = bytes) (hzs : z.cells.size = size) (hsz : 0 < size)
    (v : Value) (k : Nat) (ys : List Value) (hs : a.eval s = v) (hown : w.ownsRow base e size v k ys) (p : Addr) (n c : Nat) (xs : List Value) (hx : a.eval x = .slice (some p) n c) (hl : xs.length = n * size)
    (hread : ∀ j u, xs[j]? = some u → w.cell? (p.add j) = some u) (h1 : ∀ u ∈ xs, u.oneCell' = true)
    (h63 : k + n ≤ maxLen) (hbytes : (k + n) * bytes ≤ 140737488355328) (hbase : base ≤ w.heap.size)
    (h : ∀ a' c' w', w'.ownsRow base e size (.slice a' (k + n) c') (k + n) (ys ++ xs) → w.grownBy w' v.ownBlock → K (a.put o.dst (.slice a' (k + n) c')) w') :
    if Region.wanted o (yielded ops a.tmps) = true then Oper.wp P o a w K Q else E := by
  have hw : Region.wanted o (yielded ops a.tmps) = true := by simp [Region.wanted, hgd]
  rw [if_pos hw]
  refine wp_append_own w s x t ho base e i z size bytes ht hi hz hsize hby hzs hsz v k ys hs hown p n c xs hx hl hread h1 h63 hbytes hbase ?_
  intro v' w' hown' hgr _
  rcases hown'.2 with ⟨hv, hn⟩ | ⟨g, cap, cur, hv, _⟩
  · rw [hv] at hown' ⊢
    have h9 := h none 0 w'
    rw [hn] at h9 hown'
    exact h9 hown' hgr
  · rw [hv] at hown' ⊢
    exact h _ _ w' hown' hgr
end
/-- numbers as cells -/
def icells (L : List Nat) : List Value := L.map fun (x : Nat) => .int .i64 (x : Int)
theorem icells_length (L : List Nat) : (icells L).length = L.length := by simp [icells]
theorem icells_get (L : List Nat) (j : Nat) (h : j < L.length) : (icells L)[j]? = some (.int .i64 (L[j] : Int)) := by simp [icells, h]
theorem icells_getD (L : List Nat) (j : Nat) (h : j < L.length) : (icells L)[j]? = some (.int .i64 (L.getD j 0 : Int)) := by
  rw [icells_get L j h, List.getD_eq_getElem?_getD, List.getElem?_eq_getElem h, Option.getD_some]
theorem icells_append (L M : List Nat) : icells (L ++ M) = icells L ++ icells M := by simp [icells]
theorem icells_one (L : List Nat) : ∀ u ∈ icells L, u.oneCell' = true := by
  intro u hu
  simp only [icells, List.mem_map] at hu
  obtain ⟨x, _, rfl⟩ := hu
  rfl
/-- numbers that lie in a block from a place on -/
def IntsAt (w : World) (g o : Nat) (L : List Nat) : Prop := ∀ j, j < L.length → w.cell? ⟨g, o + j, none⟩ = some (.int .i64 (L.getD j 0 : Int))
theorem IntsAt.news {w : World} {g o : Nat} {L : List Nat} (h : IntsAt w g o L) : ∀ j u, (icells L)[j]? = some u → w.cell? ((⟨g, o, none⟩ : Addr).add j) = some u := by
  intro j u hj
  have hl : j < L.length := by
    have := (List.getElem?_eq_some_iff.1 hj).1
    rwa [icells_length] at this
  rw [icells_getD L j hl] at hj
  have e1 : (⟨g, o, none⟩ : Addr).add j = ⟨g, o + j, none⟩ := by unfold Addr.add; split <;> simp_all
  rw [e1, h j hl, hj]
theorem IntsAt.take {w : World} {g o : Nat} {L : List Nat} (h : IntsAt w g o L) (q : Nat) : IntsAt w g o (L.take q) := fun j hj => by
  rw [List.length_take] at hj
  rw [h j (by omega), List.getD_eq_getElem?_getD, List.getD_eq_getElem?_getD, List.getElem?_take, if_pos (by omega)]
theorem IntsAt.drop {w : World} {g o : Nat} {L : List Nat} (h : IntsAt w g o L) (q : Nat) : IntsAt w g (o + q) (L.drop q) := fun j hj => by
  rw [List.length_drop] at hj
  rw [Nat.add_assoc, h (q + j) (by omega), List.getD_eq_getElem?_getD, List.getD_eq_getElem?_getD, List.getElem?_drop]
theorem IntsAt.fr {w w' : World} {g o : Nat} {L : List Nat} (h : IntsAt w g o L) {Ls : List Nat} (hf : Fr Ls w w') (hg : g ∉ Ls) : IntsAt w' g o L := fun j hj => cell_fr hf hg (h j hj)
theorem IntsAt.after {w w' : World} {g o : Nat} {L : List Nat} (h : IntsAt w g o L) (hb : Below w.heap.size w w') : IntsAt w' g o L := h.fr (Fr.of_below (L := []) hb) (by simp)
theorem IntsAt.own {w : World} {base g n c : Nat} {e : TypeId} {L : List Nat} (h : w.ownsRow base e 1 (.slice (some ⟨g, 0, none⟩) n c) n (icells L)) : IntsAt w g 0 L := fun j hj => by
  obtain ⟨g', ha, _, hc⟩ := own_at h (icells_getD L j hj)
  simp only [Option.some.injEq, Addr.mk.injEq] at ha
  rw [Nat.zero_add, ha.1]; exact hc
theorem own_some {w : World} {base n c size : Nat} {e : TypeId} {a : Option Addr} {xs : List Value} (h : w.ownsRow base e size (.slice a n c) n xs) (hn : 0 < n) : ∃ g, a = some ⟨g, 0, none⟩ ∧ base ≤ g ∧ n ≤ c ∧ c ≤ maxLen := by
  rcases h.2 with ⟨_, h0⟩ | ⟨g, cap, cur, hv, hb, _, h1, h2, _⟩
  · omega
  · simp only [Value.slice.injEq, true_and] at hv
    obtain ⟨rfl, rfl⟩ := hv
    exact ⟨g, rfl, hb, h1, h2⟩
theorem perm_pick (R L : List Nat) (q : Nat) (h : q < L.length) : ((R ++ [L[q]]) ++ (L.take q ++ L.drop (q + 1))).Perm (R ++ L) := by
  rw [List.append_assoc]
  refine List.Perm.append_left R ?_
  have e : L = L.take q ++ (L[q] :: L.drop (q + 1)) := by
    rw [← List.drop_eq_getElem_cons h, List.take_append_drop]
  conv => rhs; rw [e]
  show (L[q] :: (L.take q ++ L.drop (q + 1))).Perm _
  exact List.perm_middle.symm
end Go.Proofs.Ytbnfnijjldimkab
