/-
  A disk's calls in one contract each, refused or done; and two disks of one power, held as one bundle.
-/
import Derived.Test.YthppnjmepeeejaaKnown
namespace Go.Proofs.Ythppnjmepeeejaa
open Go.RowKit
/-- what one call on a disk leaves: the power, the disk, and that no other block has changed -/
def Left (p d gh : Nat) (v : Value) (P' : Pw) (D' : Dk) (w w' : World) : Prop :=
  ∃ v', PowerAt w' p P' ∧ DiskAt w' p d gh v' D' ∧ Fr (p :: d :: gh :: ownL v) w w' ∧ (v'.ownBlock = v.ownBlock ∨ ∀ g, v'.ownBlock = some g → w.heap.size ≤ g)
theorem Left.same {p d gh : Nat} {v : Value} {P : Pw} {D : Dk} {w w' : World} (hp : PowerAt w p P) (h : DiskAt w p d gh v D) (hb : Below w.heap.size w w') : Left p d gh v P D w w' := by
  have hf : Fr [] w w' := Fr.of_below hb
  exact ⟨v, hp.fr hf (by simp), h.fr hf (by simp) (by simp) (by simp), hf.mono (by simp), Or.inl rfl⟩
/-- what a Write answers, and what is behind it -/
def wcode (P : Pw) (D : Dk) (a : Int) (s : ByteArray) : Int := if rdy P D a = 0 then (if s.size = 64 then (if P.can then 0 else 10) else 1) else rdy P D a
def wpow (P : Pw) (D : Dk) (a : Int) (s : ByteArray) : Pw := if rdy P D a = 0 ∧ s.size = 64 then P.act else P
def wdk (P : Pw) (D : Dk) (a : Int) (s : ByteArray) : Dk := if wcode P D a s = 0 then { D with wait := D.wait ++ [(a.toNat, s)] } else D
/-- what a Flush answers, and what is behind it -/
def fcode (P : Pw) (D : Dk) : Int := if rdy P D 0 = 0 then (if P.can then 0 else 10) else rdy P D 0
def fpow (P : Pw) (D : Dk) : Pw := if rdy P D 0 = 0 then P.act else P
def fdk (P : Pw) (D : Dk) : Dk := if fcode P D = 0 then D.flushed else D
theorem rdy_bounds {P : Pw} {D : Dk} {n : Nat} {a : Int} (ok : D.ok n) (h : rdy P D a = 0) : P.gone = false ∧ D.dead = false ∧ 0 ≤ a ∧ a < n := by
  have hg : P.gone = false := by unfold rdy at h; cases hgg : P.gone <;> simp [hgg] at h ⊢
  have hd : D.dead = false := by unfold rdy at h; rw [hg] at h; cases hdd : D.dead <;> simp [hdd] at h ⊢
  rw [rdy_live hg hd ok.len] at h
  by_cases e : a < 0 ∨ (n : Int) ≤ a
  · rw [if_pos e] at h; omega
  · exact ⟨hg, hd, by omega, by omega⟩
section
variable {p d gh : Nat} {v : Value} {P : Pw} {D : Dk} {n : Nat} {w : World}
theorem write_all (hp : PowerAt w p P) (pok : P.ok) (h : DiskAt w p d gh v D) (ok : D.ok n) (a : Int) (s : ByteArray) (hfew : D.wait.length < 1099511627776) :
    Calls Try.prog 12 #[.pointer (some ⟨d, 0, none⟩), .int .i64 a, .string s] w fun e w' => ∃ ev, e = .returned ev ∧ ErrAt w.heap.size w' ev (wcode P D a s) ∧ Left p d gh v (wpow P D a s) (wdk P D a s) w w' := by
  by_cases hr : rdy P D a = 0
  · obtain ⟨hg, hd, ha0, ha1⟩ := rdy_bounds ok hr
    by_cases hs : s.size = 64
    · cases hc : P.can
      · have e1 : wcode P D a s = 10 := by unfold wcode; rw [if_pos hr, if_pos hs, hc]; rfl
        have e2 : wpow P D a s = P.act := by unfold wpow; rw [if_pos ⟨hr, hs⟩]
        have e3 : wdk P D a s = D := by unfold wdk; rw [e1]; rfl
        rw [e1, e2, e3]
        refine (write_bad3 p d gh v P D n a s w hp pok h ok hr hs hc).mono ?_
        rintro e w' ⟨b, rfl, hb1, hb2, hp', hd', hf⟩
        exact ⟨_, rfl, ErrAt.err (by decide) hb1 hb2, v, hp', hd', hf.mono (fun i hi _ => by simp at hi; simp [hi]), Or.inl rfl⟩
      · have e1 : wcode P D a s = 0 := by unfold wcode; rw [if_pos hr, if_pos hs, hc]; rfl
        have e2 : wpow P D a s = P.act := by unfold wpow; rw [if_pos ⟨hr, hs⟩]
        have e3 : wdk P D a s = { D with wait := D.wait ++ [(a.toNat, s)] } := by unfold wdk; rw [e1]; rfl
        rw [e1, e2, e3]
        obtain ⟨m, rfl⟩ : ∃ m : Nat, a = (m : Int) := ⟨a.toNat, by omega⟩
        refine (write_ok p d gh v P D n m s w hp pok h ok hr hs hc hfew).mono ?_
        rintro e w' ⟨v', rfl, hp', hd', hf, hown⟩
        exact ⟨_, rfl, ErrAt.ok0 _ _, v', hp', hd', hf.mono (fun i hi _ => by simp only [List.mem_cons] at hi ⊢; rcases hi with h | h | h <;> simp [h]), hown⟩
    · have e1 : wcode P D a s = 1 := by unfold wcode; rw [if_pos hr, if_neg hs]
      have e2 : wpow P D a s = P := by unfold wpow; rw [if_neg (fun h => hs h.2)]
      have e3 : wdk P D a s = D := by unfold wdk; rw [e1]; rfl
      rw [e1, e2, e3]
      refine (write_bad2 p d gh v P D n a s w hp h ok hr hs).mono ?_
      rintro e w' ⟨b, rfl, hb1, hb2, hb3⟩
      exact ⟨_, rfl, ErrAt.err (by decide) hb1 hb2, Left.same hp h hb3⟩
  · have e1 : wcode P D a s = rdy P D a := by unfold wcode; rw [if_neg hr]
    have e2 : wpow P D a s = P := by unfold wpow; rw [if_neg (fun h => hr h.1)]
    have e3 : wdk P D a s = D := by unfold wdk; rw [e1, if_neg hr]
    rw [e1, e2, e3]
    refine (write_bad1 p d gh v P D n a s w hp h ok hr).mono ?_
    rintro e w' ⟨b, rfl, hb1, hb2, hb3⟩
    exact ⟨_, rfl, ErrAt.err hr hb1 hb2, Left.same hp h hb3⟩
theorem flush_all (hp : PowerAt w p P) (pok : P.ok) (h : DiskAt w p d gh v D) (ok : D.ok n) :
    Calls Try.prog 15 #[.pointer (some ⟨d, 0, none⟩)] w fun e w' => ∃ ev, e = .returned ev ∧ ErrAt w.heap.size w' ev (fcode P D) ∧ Left p d gh v (fpow P D) (fdk P D) w w' := by
  by_cases hr : rdy P D 0 = 0
  · cases hc : P.can
    · have e1 : fcode P D = 10 := by unfold fcode; rw [if_pos hr, hc]; rfl
      have e2 : fpow P D = P.act := by unfold fpow; rw [if_pos hr]
      have e3 : fdk P D = D := by unfold fdk; rw [e1]; rfl
      rw [e1, e2, e3]
      refine (flush_bad3 p d gh v P D n w hp pok h ok hr hc).mono ?_
      rintro e w' ⟨b, rfl, hb1, hb2, hp', hd', hf⟩
      exact ⟨_, rfl, ErrAt.err (by decide) hb1 hb2, v, hp', hd', hf.mono (fun i hi _ => by simp at hi; simp [hi]), Or.inl rfl⟩
    · have e1 : fcode P D = 0 := by unfold fcode; rw [if_pos hr, hc]; rfl
      have e2 : fpow P D = P.act := by unfold fpow; rw [if_pos hr]
      have e3 : fdk P D = D.flushed := by unfold fdk; rw [e1]; rfl
      rw [e1, e2, e3]
      refine (flush_ok p d gh v P D n w hp pok h ok hr hc).mono ?_
      rintro e w' ⟨rfl, hp', hd', hf⟩
      exact ⟨_, rfl, ErrAt.ok0 _ _, _, hp', hd', hf.mono (fun i hi _ => by simp at hi; rcases hi with h | h | h <;> simp [h]), Or.inr (by simp [Value.ownBlock])⟩
  · have e1 : fcode P D = rdy P D 0 := by unfold fcode; rw [if_neg hr]
    have e2 : fpow P D = P := by unfold fpow; rw [if_neg hr]
    have e3 : fdk P D = D := by unfold fdk; rw [e1, if_neg hr]
    rw [e1, e2, e3]
    refine (flush_bad1 p d gh v P D n w hp h ok hr).mono ?_
    rintro e w' ⟨b, rfl, hb1, hb2, hb3⟩
    exact ⟨_, rfl, ErrAt.err hr hb1 hb2, Left.same hp h hb3⟩
/-- what a Read answers -/
def rtext (P : Pw) (D : Dk) (a : Int) : ByteArray := if rdy P D a = 0 then D.reads a.toNat else ⟨#[]⟩
theorem read_all (hp : PowerAt w p P) (h : DiskAt w p d gh v D) (ok : D.ok n) (a : Int) :
    Calls Try.prog 14 #[.pointer (some ⟨d, 0, none⟩), .int .i64 a] w fun e w' => ∃ ev, e = .returned (.tuple #[.string (rtext P D a), ev]) ∧ ErrAt w.heap.size w' ev (rdy P D a) ∧ Below w.heap.size w w' := by
  by_cases hr : rdy P D a = 0
  · obtain ⟨hg, hd, ha0, ha1⟩ := rdy_bounds ok hr
    obtain ⟨m, rfl⟩ : ∃ m : Nat, a = (m : Int) := ⟨a.toNat, by omega⟩
    refine (read_ok p d gh v P D n m w hp h ok hr (by omega)).mono ?_
    rintro e w' ⟨rfl, hb⟩
    refine ⟨_, ?_, by rw [hr]; exact ErrAt.ok0 _ _, hb⟩
    unfold rtext; rw [if_pos hr]; rfl
  · refine (read_bad p d gh v P D n a w hp h ok hr).mono ?_
    rintro e w' ⟨b, rfl, hb1, hb2, hb3⟩
    refine ⟨_, ?_, ErrAt.err hr hb1 hb2, hb3⟩
    unfold rtext; rw [if_neg hr]
end
theorem wpow_ok {P : Pw} (ok : P.ok) (D : Dk) (a : Int) (s : ByteArray) (h : P.acts < 4611686018427387904) : (wpow P D a s).ok := by
  unfold wpow; split
  · exact Pw.act_ok ok h
  · exact ok
theorem fpow_ok {P : Pw} (ok : P.ok) (D : Dk) (h : P.acts < 4611686018427387904) : (fpow P D).ok := by
  unfold fpow; split
  · exact Pw.act_ok ok h
  · exact ok
theorem wcode_zero {P : Pw} {D : Dk} {a : Int} {s : ByteArray} (h : wcode P D a s = 0) : rdy P D a = 0 ∧ s.size = 64 ∧ P.can = true := by
  unfold wcode at h
  split at h
  · rename_i hr
    split at h
    · rename_i hs
      split at h
      · rename_i hc; exact ⟨hr, hs, hc⟩
      · omega
    · omega
  · rename_i hr; exact absurd h hr
theorem wdk_ok {P : Pw} {D : Dk} {n : Nat} (ok : D.ok n) (a : Int) (s : ByteArray) (hfew : D.wait.length < 1099511627776) : (wdk P D a s).ok n := by
  unfold wdk; split
  · rename_i h
    obtain ⟨hr, hs, _⟩ := wcode_zero h
    obtain ⟨_, _, h0, h1⟩ := rdy_bounds ok hr
    exact Dk.wrote_ok ok _ s (by omega) hs hfew
  · exact ok
theorem fdk_ok {P : Pw} {D : Dk} {n : Nat} (ok : D.ok n) : (fdk P D).ok n := by
  unfold fdk; split
  · exact Dk.flushed_ok ok
  · exact ok
/-- two disks of one power -/
structure Two (w0 : World) (p d g1 e g2 : Nat) (n1 n2 : Nat) (P : Pw) (D1 D2 : Dk) (w : World) : Prop where
  pw : PowerAt w p P
  pok : P.ok
  dk : ∃ v1 v2, DiskAt w p d g1 v1 D1 ∧ DiskAt w p e g2 v2 D2 ∧ (∀ g, v1.ownBlock = some g → w0.heap.size ≤ g) ∧ (∀ g, v2.ownBlock = some g → w0.heap.size ≤ g) ∧ ∀ g, v1.ownBlock = some g → v2.ownBlock ≠ some g
  ok1 : D1.ok n1
  ok2 : D2.ok n2
  bel : Below w0.heap.size w0 w
  p0 : w0.heap.size ≤ p
  d0 : w0.heap.size ≤ d
  e0 : w0.heap.size ≤ e
  a0 : w0.heap.size ≤ g1
  b0 : w0.heap.size ≤ g2
  de : d ≠ e
  gg : g1 ≠ g2
section
variable {w0 : World} {p d g1 e g2 n1 n2 : Nat} {P : Pw} {D1 D2 : Dk} {w : World}
theorem Two.make {wa wb : World} (h1 : w0.heap.size ≤ p) (h2 : w0.heap.size ≤ d) (h3 : w0.heap.size ≤ g1) (hp : PowerAt wa p P) (pok : P.ok) (hd : DiskAt wa p d g1 (.slice none 0 0) (Dk.fresh n1)) (hb : Below w0.heap.size w0 wa)
    (h4 : wa.heap.size ≤ e) (h5 : wa.heap.size ≤ g2) (he : DiskAt wb p e g2 (.slice none 0 0) (Dk.fresh n2)) (hb2 : Below wa.heap.size wa wb) (m1 : 1 ≤ n1) (m2 : n1 ≤ 8192) (m3 : 1 ≤ n2) (m4 : n2 ≤ 8192) : Two w0 p d g1 e g2 n1 n2 P (Dk.fresh n1) (Dk.fresh n2) wb := by
  have hf : Fr [] wa wb := Fr.of_below hb2
  have s1 := hd.top.lt
  have s2 := hd.bytes.row.lt
  have hs := hb.size
  exact ⟨hp.fr hf (by simp), pok, ⟨_, _, hd.fr hf (by simp) (by simp) (by simp), he, by simp [Value.ownBlock], by simp [Value.ownBlock], by simp [Value.ownBlock]⟩, Dk.fresh_ok m1 m2, Dk.fresh_ok m3 m4, hb.trans (hb2.mono hs), h1, h2, by omega, h3, by omega, by omega, by omega⟩
theorem Two.swap (h : Two w0 p d g1 e g2 n1 n2 P D1 D2 w) : Two w0 p e g2 d g1 n2 n1 P D2 D1 w := by
  obtain ⟨v1, v2, h1, h2, h3, h4, h5⟩ := h.dk
  exact ⟨h.pw, h.pok, ⟨v2, v1, h2, h1, h4, h3, fun g hg hg' => h5 g hg' hg⟩, h.ok2, h.ok1, h.bel, h.p0, h.e0, h.d0, h.b0, h.a0, fun x => h.de x.symm, fun x => h.gg x.symm⟩
theorem Two.after (h : Two w0 p d g1 e g2 n1 n2 P D1 D2 w) {w' : World} (hb : Below w.heap.size w w') : Two w0 p d g1 e g2 n1 n2 P D1 D2 w' := by
  obtain ⟨v1, v2, h1, h2, h3, h4, h5⟩ := h.dk
  have hf : Fr [] w w' := Fr.of_below hb
  exact ⟨h.pw.fr hf (by simp), h.pok, ⟨v1, v2, h1.fr hf (by simp) (by simp) (by simp), h2.fr hf (by simp) (by simp) (by simp), h3, h4, h5⟩, h.ok1, h.ok2, h.bel.trans (hb.mono h.bel.size), h.p0, h.d0, h.e0, h.a0, h.b0, h.de, h.gg⟩
theorem own_lt {w : World} {v : Value} {n : Nat} {l : List Value} (h : w.ownsRow 0 77 2 v n l) {g : Nat} (hg : v.ownBlock = some g) : g < w.heap.size := by
  rcases h.2 with ⟨hv, _⟩ | ⟨g', cap, cur, hv, _, hh, _⟩
  · rw [hv] at hg; cases hg
  · rw [hv] at hg
    simp only [Value.ownBlock, Option.some.injEq] at hg
    subst hg
    exact (Array.getElem?_eq_some_iff.1 hh).1
theorem Two.step (h : Two w0 p d g1 e g2 n1 n2 P D1 D2 w) {P' : Pw} {D1' : Dk} {w' : World} (hl : ∀ v1, DiskAt w p d g1 v1 D1 → Left p d g1 v1 P' D1' w w') (pok : P'.ok) (ok : D1'.ok n1) : Two w0 p d g1 e g2 n1 n2 P' D1' D2 w' := by
  obtain ⟨v1, v2, h1, h2, h3, h4, h5⟩ := h.dk
  obtain ⟨v1', hp', hd', hf, hown⟩ := hl v1 h1
  have s1 := sep h.pw h1
  have s2 := sep h.pw h2
  have t1 := h1.top.ne h2.bytes.row (by decide)
  have t2 := h2.top.ne h1.bytes.row (by decide)
  have t3 := h1.bytes.row.ne_own h2.late (by decide)
  have t4 := h2.bytes.row.ne_own h1.late (by decide)
  have t5 := h1.top.ne_own h2.late (by decide)
  have t6 := h2.top.ne_own h1.late (by decide)
  have he : e ∉ p :: d :: g1 :: ownL v1 := by
    simp only [List.mem_cons, mem_ownL, not_or]
    exact ⟨s2.pd, fun x => h.de x.symm, t2, t6⟩
  have hg : g2 ∉ p :: d :: g1 :: ownL v1 := by
    simp only [List.mem_cons, mem_ownL, not_or]
    exact ⟨s2.pg, fun x => t1 x.symm, fun x => h.gg x.symm, t4⟩
  have ho : ∀ g, v2.ownBlock = some g → g ∉ p :: d :: g1 :: ownL v1 := by
    intro g hgv
    simp only [List.mem_cons, mem_ownL, not_or]
    exact ⟨fun x => s2.pv (x ▸ hgv), fun x => t5 (x ▸ hgv), fun x => t3 (x ▸ hgv), fun x => h5 g x hgv⟩
  have hB : Below w0.heap.size w w' := hf.below h.bel.size (fun i hi => by
    simp only [List.mem_cons, mem_ownL] at hi
    rcases hi with rfl | rfl | rfl | hi
    · exact h.p0
    · exact h.d0
    · exact h.a0
    · exact h3 i hi)
  have hsz := h.bel.size
  refine ⟨hp', pok, ⟨v1', v2, hd', h2.fr hf he hg ho, ?_, h4, ?_⟩, ok, h.ok2, h.bel.trans hB, h.p0, h.d0, h.e0, h.a0, h.b0, h.de, h.gg⟩
  · intro g hgv
    rcases hown with x | x
    · exact h3 g (by rw [← x]; exact hgv)
    · have := x g hgv; omega
  · intro g hgv hgv2
    rcases hown with x | x
    · exact h5 g (by rw [← x]; exact hgv) hgv2
    · have := x g hgv
      have := own_lt h2.late hgv2
      omega
theorem Two.power (h : Two w0 p d g1 e g2 n1 n2 P D1 D2 w) {P' : Pw} {w' : World} (hp : PowerAt w' p P') (pok : P'.ok) (hf : Fr [p] w w') : Two w0 p d g1 e g2 n1 n2 P' D1 D2 w' := by
  obtain ⟨v1, v2, h1, h2, h3, h4, h5⟩ := h.dk
  have hB : Below w0.heap.size w w' := hf.below h.bel.size (fun i hi => by
    simp only [List.mem_singleton] at hi
    rw [hi]; exact h.p0)
  exact ⟨hp, pok, ⟨v1, v2, DiskAt.power h.pw h1 hf, DiskAt.power h.pw h2 hf, h3, h4, h5⟩, h.ok1, h.ok2, h.bel.trans hB, h.p0, h.d0, h.e0, h.a0, h.b0, h.de, h.gg⟩
theorem Two.write (h : Two w0 p d g1 e g2 n1 n2 P D1 D2 w) (a : Int) (s : ByteArray) (hfew : D1.wait.length < 1099511627776) (hacts : P.acts < 4611686018427387904) :
    Calls Try.prog 12 #[.pointer (some ⟨d, 0, none⟩), .int .i64 a, .string s] w fun x w' => ∃ ev, x = .returned ev ∧ ErrAt w.heap.size w' ev (wcode P D1 a s) ∧ Two w0 p d g1 e g2 n1 n2 (wpow P D1 a s) (wdk P D1 a s) D2 w' := by
  obtain ⟨v1, v2, h1, h2, h3, h4, h5⟩ := h.dk
  refine (write_all h.pw h.pok h1 h.ok1 a s hfew).mono ?_
  rintro x w' ⟨ev, rfl, he, hl⟩
  refine ⟨ev, rfl, he, h.step (fun v hv => ?_) (wpow_ok h.pok D1 a s hacts) (wdk_ok h.ok1 a s hfew)⟩
  obtain rfl : v = v1 := by
    have a1 := hv.top.cell (j := 2) rfl
    have a2 := h1.top.cell (j := 2) rfl
    rw [a1] at a2; exact Option.some.inj a2
  exact hl
theorem Two.flush (h : Two w0 p d g1 e g2 n1 n2 P D1 D2 w) (hacts : P.acts < 4611686018427387904) :
    Calls Try.prog 15 #[.pointer (some ⟨d, 0, none⟩)] w fun x w' => ∃ ev, x = .returned ev ∧ ErrAt w.heap.size w' ev (fcode P D1) ∧ Two w0 p d g1 e g2 n1 n2 (fpow P D1) (fdk P D1) D2 w' := by
  obtain ⟨v1, v2, h1, h2, h3, h4, h5⟩ := h.dk
  refine (flush_all h.pw h.pok h1 h.ok1).mono ?_
  rintro x w' ⟨ev, rfl, he, hl⟩
  refine ⟨ev, rfl, he, h.step (fun v hv => ?_) (fpow_ok h.pok D1 hacts) (fdk_ok h.ok1)⟩
  obtain rfl : v = v1 := by
    have a1 := hv.top.cell (j := 2) rfl
    have a2 := h1.top.cell (j := 2) rfl
    rw [a1] at a2; exact Option.some.inj a2
  exact hl
theorem Two.read (h : Two w0 p d g1 e g2 n1 n2 P D1 D2 w) (a : Int) :
    Calls Try.prog 14 #[.pointer (some ⟨d, 0, none⟩), .int .i64 a] w fun x w' => ∃ ev, x = .returned (.tuple #[.string (rtext P D1 a), ev]) ∧ ErrAt w.heap.size w' ev (rdy P D1 a) ∧ Two w0 p d g1 e g2 n1 n2 P D1 D2 w' ∧ Below w.heap.size w w' := by
  obtain ⟨v1, v2, h1, h2, h3, h4, h5⟩ := h.dk
  refine (read_all h.pw h1 h.ok1 a).mono ?_
  rintro x w' ⟨ev, rfl, he, hb⟩
  exact ⟨ev, rfl, he, h.after hb, hb⟩
end
end Go.Proofs.Ythppnjmepeeejaa
