/-
  The two disks and the two reference disks side by side: a call on one side keeps the other.
-/
import Derived.Test.YthppnjmepeeejaaRTwo
namespace Go.Proofs.Ythppnjmepeeejaa
open Go.RowKit
theorem own_ne_own {w : World} {b1 b2 e1 e2 s1 s2 n1 n2 : Nat} {v1 v2 : Value} {l1 l2 : List Value} (h1 : w.ownsRow b1 e1 s1 v1 n1 l1) (h2 : w.ownsRow b2 e2 s2 v2 n2 l2) (he : e1 ≠ e2) {g : Nat} (hg : v1.ownBlock = some g) : v2.ownBlock ≠ some g := by
  intro hg2
  rcases h1.2 with ⟨hv, _⟩ | ⟨g1, cap1, cur1, hv1, _, hh1, _⟩
  · rw [hv] at hg; cases hg
  rcases h2.2 with ⟨hv, _⟩ | ⟨g2, cap2, cur2, hv2, _, hh2, _⟩
  · rw [hv] at hg2; cases hg2
  rw [hv1] at hg
  rw [hv2] at hg2
  simp only [Value.ownBlock, Option.some.injEq] at hg hg2
  subst hg
  subst hg2
  rw [hh1] at hh2
  simp only [Option.some.injEq, Obj.cells.injEq] at hh2
  exact he hh2.2.1
theorem RDiskAt.keep {w w' : World} {p d gh q r hg hc n : Nat} {v rv : Value} {P : Pw} {D RD : Dk} (h : RDiskAt w q r hg hc rv n RD) (hp : PowerAt w p P) (hd : DiskAt w p d gh v D) {Ls : List Nat} (hf : Fr Ls w w') (hL : ∀ i, i ∈ Ls → i = p ∨ i = d ∨ i = gh ∨ v.ownBlock = some i) : RDiskAt w' q r hg hc rv n RD := by
  obtain ⟨sp, hs⟩ := h.has
  refine h.fr hf (fun hm => ?_) (fun hm => ?_) (fun g hgv hm => ?_)
  · rcases hL r hm with x | x | x | x
    · exact h.top.ne hp (by decide) x
    · exact h.top.ne hd.top (by decide) x
    · exact h.top.ne hd.bytes.row (by decide) x
    · exact h.top.ne_own hd.late (by decide) x
  · rcases hL hg hm with x | x | x | x
    · exact hs.ne hp (by decide) x
    · exact hs.ne hd.top (by decide) x
    · exact hs.ne hd.bytes.row (by decide) x
    · exact hs.ne_own hd.late (by decide) x
  · rcases hL g hm with x | x | x | x
    · exact Row.ne_own hp h.late (by decide) (x ▸ hgv)
    · exact hd.top.ne_own h.late (by decide) (x ▸ hgv)
    · exact hd.bytes.row.ne_own h.late (by decide) (x ▸ hgv)
    · exact own_ne_own h.late hd.late (by decide) hgv x
theorem DiskAt.keep {w w' : World} {p d gh q r hg hc n : Nat} {v rv : Value} {P : Pw} {D RD : Dk} (h : DiskAt w p d gh v D) (hp : RPowAt w q P) (hd : RDiskAt w q r hg hc rv n RD) {Ls : List Nat} (hf : Fr Ls w w') (hL : ∀ i, i ∈ Ls → i = q ∨ i = r ∨ i = hg ∨ rv.ownBlock = some i) : DiskAt w' p d gh v D := by
  obtain ⟨sp, hs⟩ := hd.has
  refine h.fr hf (fun hm => ?_) (fun hm => ?_) (fun g hgv hm => ?_)
  · rcases hL d hm with x | x | x | x
    · exact h.top.ne hp (by decide) x
    · exact h.top.ne hd.top (by decide) x
    · exact h.top.ne hs (by decide) x
    · exact h.top.ne_own hd.late (by decide) x
  · rcases hL gh hm with x | x | x | x
    · exact h.bytes.row.ne hp (by decide) x
    · exact h.bytes.row.ne hd.top (by decide) x
    · exact h.bytes.row.ne hs (by decide) x
    · exact h.bytes.row.ne_own hd.late (by decide) x
  · rcases hL g hm with x | x | x | x
    · exact Row.ne_own hp h.late (by decide) (x ▸ hgv)
    · exact hd.top.ne_own h.late (by decide) (x ▸ hgv)
    · exact hs.ne_own h.late (by decide) (x ▸ hgv)
    · exact own_ne_own h.late hd.late (by decide) hgv x
section
variable {w0 : World} {p d g1 e g2 n1 n2 : Nat} {P : Pw} {D1 D2 : Dk} {w w' : World} {q r s m1 m2 : Nat} {RP : Pw} {R1 R2 : Dk}
/-- a call on a disk keeps the reference's -/
theorem RTwo.keep (h : RTwo w0 q r s m1 m2 RP R1 R2 w) {v : Value} (hp : PowerAt w p P) (hd : DiskAt w p d g1 v D1) {Ls : List Nat} (hf : Fr Ls w w') (hL : ∀ i, i ∈ Ls → i = p ∨ i = d ∨ i = g1 ∨ v.ownBlock = some i) : RTwo w0 q r s m1 m2 RP R1 R2 w' := by
  obtain ⟨h1, c1, v1, h2, c2, v2, k1, k2, k3⟩ := h.dk
  refine ⟨Row.fr h.pw hf (fun hm => ?_), ⟨h1, c1, v1, h2, c2, v2, k1.keep hp hd hf hL, k2.keep hp hd hf hL, k3⟩, h.q0, h.r0, h.s0, h.rs, Nat.le_trans h.sz hf.size⟩
  rcases hL q hm with x | x | x | x
  · exact Row.ne h.pw hp (by decide) x
  · exact Row.ne h.pw hd.top (by decide) x
  · exact Row.ne h.pw hd.bytes.row (by decide) x
  · exact Row.ne_own h.pw hd.late (by decide) x
/-- a call on a reference disk keeps the disks -/
theorem Two.keep (h : Two w0 p d g1 e g2 n1 n2 P D1 D2 w) {hg hc : Nat} {v : Value} (hp : RPowAt w q RP) (hd : RDiskAt w q r hg hc v m1 R1) {Ls : List Nat} (hf : Fr Ls w w') (hL : ∀ i, i ∈ Ls → i = q ∨ i = r ∨ i = hg ∨ v.ownBlock = some i) (hB : ∀ i, i ∈ Ls → w0.heap.size ≤ i) : Two w0 p d g1 e g2 n1 n2 P D1 D2 w' := by
  obtain ⟨v1, v2, h1, h2, h3, h4, h5⟩ := h.dk
  obtain ⟨sp, hs⟩ := hd.has
  refine ⟨Row.fr h.pw hf (fun hm => ?_), h.pok, ⟨v1, v2, h1.keep hp hd hf hL, h2.keep hp hd hf hL, h3, h4, h5⟩, h.ok1, h.ok2, h.bel.trans (hf.below h.bel.size hB), h.p0, h.d0, h.e0, h.a0, h.b0, h.de, h.gg⟩
  rcases hL p hm with x | x | x | x
  · exact Row.ne h.pw hp (by decide) x
  · exact Row.ne h.pw hd.top (by decide) x
  · exact Row.ne h.pw hs (by decide) x
  · exact Row.ne_own h.pw hd.late (by decide) x
end
end Go.Proofs.Ythppnjmepeeejaa
