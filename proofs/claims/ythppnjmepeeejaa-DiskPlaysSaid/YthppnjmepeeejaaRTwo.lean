/-
  Two reference disks of one power, held as one bundle.
-/
import Derived.Test.YthppnjmepeeejaaRef6
import Derived.Test.YthppnjmepeeejaaDall2
namespace Go.Proofs.Ythppnjmepeeejaa
open Go.RowKit
structure RTwo (w0 : World) (q r s : Nat) (n1 n2 : Nat) (P : Pw) (D1 D2 : Dk) (w : World) : Prop where
  pw : RPowAt w q P
  dk : ∃ h1 c1 v1 h2 c2 v2, RDiskAt w q r h1 c1 v1 n1 D1 ∧ RDiskAt w q s h2 c2 v2 n2 D2 ∧ (∀ g, v1.ownBlock = some g → w0.heap.size ≤ g) ∧ (∀ g, v2.ownBlock = some g → w0.heap.size ≤ g) ∧ (∀ g, v1.ownBlock = some g → v2.ownBlock ≠ some g) ∧ w0.heap.size ≤ h1 ∧ w0.heap.size ≤ h2 ∧ h1 ≠ h2
  q0 : w0.heap.size ≤ q
  r0 : w0.heap.size ≤ r
  s0 : w0.heap.size ≤ s
  rs : r ≠ s
  sz : w0.heap.size ≤ w.heap.size
section
variable {w0 : World} {q r s n1 n2 : Nat} {P : Pw} {D1 D2 : Dk} {w : World}
theorem RTwo.swap (h : RTwo w0 q r s n1 n2 P D1 D2 w) : RTwo w0 q s r n2 n1 P D2 D1 w := by
  obtain ⟨h1, c1, v1, h2, c2, v2, k1, k2, k3, k4, k5, k6, k7, k8⟩ := h.dk
  exact ⟨h.pw, ⟨h2, c2, v2, h1, c1, v1, k2, k1, k4, k3, fun g hg hg' => k5 g hg' hg, k7, k6, fun x => k8 x.symm⟩, h.q0, h.s0, h.r0, fun x => h.rs x.symm, h.sz⟩
theorem RTwo.after (h : RTwo w0 q r s n1 n2 P D1 D2 w) {w' : World} (hb : Below w.heap.size w w') : RTwo w0 q r s n1 n2 P D1 D2 w' := by
  obtain ⟨h1, c1, v1, h2, c2, v2, k1, k2, k3⟩ := h.dk
  have hf : Fr [] w w' := Fr.of_below hb
  exact ⟨Row.fr h.pw hf (by simp), ⟨h1, c1, v1, h2, c2, v2, k1.fr hf (by simp) (by simp) (by simp), k2.fr hf (by simp) (by simp) (by simp), k3⟩, h.q0, h.r0, h.s0, h.rs, Nat.le_trans h.sz hb.size⟩
theorem rown_lt {w : World} {v : Value} {n : Nat} {l : List Value} (h : w.ownsRow 0 108 2 v n l) {g : Nat} (hg : v.ownBlock = some g) : g < w.heap.size := by
  rcases h.2 with ⟨hv, _⟩ | ⟨g', cap, cur, hv, _, hh, _⟩
  · rw [hv] at hg; cases hg
  · rw [hv] at hg
    simp only [Value.ownBlock, Option.some.injEq] at hg
    subst hg
    exact (Array.getElem?_eq_some_iff.1 hh).1
/-- a call on the first reference disk: the blocks that it may have changed -/
theorem RTwo.step (h : RTwo w0 q r s n1 n2 P D1 D2 w) {P' : Pw} {D1' : Dk} {w' : World} (hl : ∀ h1 c1 v1, RDiskAt w q r h1 c1 v1 n1 D1 → RLeft q r h1 v1 n1 P' D1' w w') : RTwo w0 q r s n1 n2 P' D1' D2 w' ∧ ∃ L, Fr L w w' ∧ ∀ i, i ∈ L → w0.heap.size ≤ i := by
  obtain ⟨h1, c1, v1, h2, c2, v2, k1, k2, k3, k4, k5, k6, k7, k8⟩ := h.dk
  obtain ⟨h1', c1', v1', hp', hd', hf, hown, hhg⟩ := hl h1 c1 v1 k1
  have s1 := rsep h.pw k1
  have s2 := rsep h.pw k2
  obtain ⟨sp1, hs1⟩ := k1.has
  obtain ⟨sp2, hs2⟩ := k2.has
  have t1 := k1.top.ne hs2 (by decide)
  have t2 := k2.top.ne hs1 (by decide)
  have t3 := hs1.ne_own k2.late (by decide)
  have t4 := hs2.ne_own k1.late (by decide)
  have t5 := k1.top.ne_own k2.late (by decide)
  have t6 := k2.top.ne_own k1.late (by decide)
  have he : s ∉ q :: r :: h1 :: ownL v1 := by
    simp only [List.mem_cons, mem_ownL, not_or]
    exact ⟨s2.pd, fun x => h.rs x.symm, t2, t6⟩
  have hg : h2 ∉ q :: r :: h1 :: ownL v1 := by
    simp only [List.mem_cons, mem_ownL, not_or]
    exact ⟨s2.pg, fun x => t1 x.symm, fun x => k8 x.symm, t4⟩
  have ho : ∀ g, v2.ownBlock = some g → g ∉ q :: r :: h1 :: ownL v1 := by
    intro g hgv
    simp only [List.mem_cons, mem_ownL, not_or]
    exact ⟨fun x => s2.pv (x ▸ hgv), fun x => t5 (x ▸ hgv), fun x => t3 (x ▸ hgv), fun x => k5 g x hgv⟩
  have hsz := h.sz
  have hh2 := hs2.lt
  refine ⟨⟨hp', ⟨h1', c1', v1', h2, c2, v2, hd', k2.fr hf he hg ho, ?_, k4, ?_, ?_, k7, ?_⟩, h.q0, h.r0, h.s0, h.rs, Nat.le_trans hsz hf.size⟩, _, hf, ?_⟩
  · intro g hgv
    rcases hown with x | x
    · exact k3 g (by rw [← x]; exact hgv)
    · have := x g hgv; omega
  · intro g hgv hgv2
    rcases hown with x | x
    · exact k5 g (by rw [← x]; exact hgv) hgv2
    · have := x g hgv
      have := rown_lt k2.late hgv2
      omega
  · rcases hhg with x | x
    · rw [x]; exact k6
    · omega
  · rcases hhg with x | x
    · rw [x]; exact k8
    · omega
  · intro i hi
    simp only [List.mem_cons, mem_ownL] at hi
    rcases hi with rfl | rfl | rfl | hi
    · exact h.q0
    · exact h.r0
    · exact k6
    · exact k3 i hi
end
end Go.Proofs.Ythppnjmepeeejaa
