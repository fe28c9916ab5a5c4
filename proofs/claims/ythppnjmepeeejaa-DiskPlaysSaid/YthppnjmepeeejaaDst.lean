/-
  A power and one disk of it, made behind a world w0, held as one bundle; what each call does to it.
-/
import Derived.Test.YthppnjmepeeejaaDlaw
namespace Go.Proofs.Ythppnjmepeeejaa
open Go.RowKit
structure St (w0 : World) (p d gh : Nat) (P : Pw) (n : Nat) (D : Dk) (w : World) : Prop where
  pw : PowerAt w p P
  pok : P.ok
  dk : ∃ v, DiskAt w p d gh v D ∧ ∀ g, v.ownBlock = some g → w0.heap.size ≤ g
  ok : D.ok n
  bel : Below w0.heap.size w0 w
  p0 : w0.heap.size ≤ p
  d0 : w0.heap.size ≤ d
  g0 : w0.heap.size ≤ gh
theorem St.after {w0 : World} {p d gh : Nat} {P : Pw} {n : Nat} {D : Dk} {w w' : World} (h : St w0 p d gh P n D w) (hb : Below w.heap.size w w') : St w0 p d gh P n D w' := by
  obtain ⟨v, hv, hg⟩ := h.dk
  have hf : Fr [] w w' := Fr.of_below hb
  exact ⟨h.pw.fr hf (by simp), h.pok, ⟨v, hv.fr hf (by simp) (by simp) (by simp), hg⟩, h.ok, h.bel.trans (hb.mono h.bel.size), h.p0, h.d0, h.g0⟩
theorem rdy_zero {P : Pw} {D : Dk} {n : Nat} {a : Int} (ok : D.ok n) (hg : P.gone = false) (hd : D.dead = false) (h0 : 0 ≤ a) (h1 : a < n) : rdy P D a = 0 := by
  rw [rdy_live hg hd ok.len, if_neg (by omega)]
theorem Pw.act_ok {P : Pw} (ok : P.ok) (h : P.acts < 4611686018427387904) : P.act.ok := by
  unfold Pw.act
  obtain ⟨f0, f1, a0, a1⟩ := ok
  split
  · exact ⟨f0, f1, a0, a1⟩
  · refine ⟨?_, ?_, ?_, ?_⟩
    · show -1 ≤ if 0 < P.fuse then P.fuse - 1 else P.fuse
      split <;> omega
    · show (if 0 < P.fuse then P.fuse - 1 else P.fuse) ≤ _
      split <;> omega
    · show 0 ≤ P.acts + 1; omega
    · show P.acts + 1 ≤ _; omega
theorem Dk.wrote_ok {D : Dk} {n : Nat} (ok : D.ok n) (a : Nat) (s : ByteArray) (ha : a < n) (hs : s.size = 64) (hfew : D.wait.length < 1099511627776) : Dk.ok { D with wait := D.wait ++ [(a, s)] } n :=
  ⟨ok.len, ok.n1, ok.n2, by intro x hx; simp at hx; rcases hx with hx | rfl; exact ok.at_ x hx; exact ha, by intro x hx; simp at hx; rcases hx with hx | rfl; exact ok.size x hx; exact hs, by simp; omega, ok.life0, ok.life1⟩
theorem Dk.flushed_ok {D : Dk} {n : Nat} (ok : D.ok n) : D.flushed.ok n :=
  ⟨fold_lay1_length _ _ n ok.len (fun x hx => ⟨ok.at_ x hx, ok.size x hx⟩), ok.n1, ok.n2, by simp [Dk.flushed], by simp [Dk.flushed], by simp [Dk.flushed], ok.life0, ok.life1⟩
theorem Dk.lost_ok {D : Dk} {n : Nat} (ok : D.ok n) (keep : List Bool) (t : Int) : (D.lost keep t).ok n :=
  ⟨D.losing_length n ok keep _ _, ok.n1, ok.n2, by simp [Dk.lost], by simp [Dk.lost], by simp [Dk.lost], ok.life0, ok.life1⟩
section
variable {w0 : World} {p d gh : Nat} {P : Pw} {n : Nat} {D : Dk} {w : World}
theorem St.new {q : Nat} {w1 : World} (hp : PowerAt w p P) (pok : P.ok) (h0 : w0.heap.size ≤ p) (hb : Below w0.heap.size w0 w) (hd : DiskAt w1 p d gh (.slice none 0 0) (Dk.fresh n)) (n1 : 1 ≤ n) (n2 : n ≤ 8192) (h1 : w.heap.size ≤ d) (h2 : w.heap.size ≤ gh) (hb2 : Below w.heap.size w w1) (_ : q = 0) : St w0 p d gh P n (Dk.fresh n) w1 := by
  have hs := hb.size
  exact ⟨hp.fr (Fr.of_below (L := []) hb2) (by simp), pok, ⟨_, hd, by simp [Value.ownBlock]⟩, Dk.fresh_ok n1 n2, hb.trans (hb2.mono hs), h0, by omega, by omega⟩
theorem St.write (h : St w0 p d gh P n D w) (a : Nat) (s : ByteArray) (hg : P.gone = false) (hd : D.dead = false) (ha : a < n) (hs : s.size = 64) (hc : P.can = true) (hfew : D.wait.length < 1099511627776) (hacts : P.acts < 4611686018427387904) :
    Calls Try.prog 12 #[.pointer (some ⟨d, 0, none⟩), .int .i64 (a : Int), .string s] w fun e w' => e = .returned .nilIface ∧ St w0 p d gh P.act n { D with wait := D.wait ++ [(a, s)] } w' := by
  obtain ⟨v, hv, hg0⟩ := h.dk
  refine (write_ok p d gh v P D n a s w h.pw h.pok hv h.ok (rdy_zero h.ok hg hd (by omega) (by omega)) hs hc hfew).mono ?_
  rintro e w' ⟨v', rfl, hp', hd', hf, hown⟩
  have hB : Below w0.heap.size w w' := hf.below h.bel.size (fun i hi => by
    simp only [List.mem_cons, mem_ownL] at hi
    rcases hi with rfl | rfl | hi
    · exact h.p0
    · exact h.d0
    · exact hg0 i hi)
  refine ⟨rfl, hp', Pw.act_ok h.pok hacts, ⟨v', hd', ?_⟩, Dk.wrote_ok h.ok a s ha hs hfew, h.bel.trans hB, h.p0, h.d0, h.g0⟩
  intro g hgv
  rcases hown with e | e
  · exact hg0 g (by rw [← e]; exact hgv)
  · have := e g hgv; have := h.bel.size; omega
theorem St.read (h : St w0 p d gh P n D w) (a : Nat) (hg : P.gone = false) (hd : D.dead = false) (ha : a < n) :
    Calls Try.prog 14 #[.pointer (some ⟨d, 0, none⟩), .int .i64 (a : Int)] w fun e w' => e = .returned (.tuple #[.string (D.reads a), .nilIface]) ∧ St w0 p d gh P n D w' := by
  obtain ⟨v, hv, hg0⟩ := h.dk
  refine (read_ok p d gh v P D n a w h.pw hv h.ok (rdy_zero h.ok hg hd (by omega) (by omega)) ha).mono ?_
  rintro e w' ⟨rfl, hb⟩
  exact ⟨rfl, h.after hb⟩
theorem St.readBad (h : St w0 p d gh P n D w) (a : Int) (hr : rdy P D a ≠ 0) :
    Calls Try.prog 14 #[.pointer (some ⟨d, 0, none⟩), .int .i64 a] w fun e w' => ∃ ev, e = .returned (.tuple #[.string ⟨#[]⟩, ev]) ∧ ErrAt w.heap.size w' ev (rdy P D a) ∧ St w0 p d gh P n D w' := by
  obtain ⟨v, hv, hg0⟩ := h.dk
  refine (read_bad p d gh v P D n a w h.pw hv h.ok hr).mono ?_
  rintro e w' ⟨b, rfl, hb1, hb2, hb3⟩
  exact ⟨_, rfl, ErrAt.err hr hb1 hb2, h.after hb3⟩
theorem St.flush (h : St w0 p d gh P n D w) (hg : P.gone = false) (hd : D.dead = false) (hc : P.can = true) (hacts : P.acts < 4611686018427387904) :
    Calls Try.prog 15 #[.pointer (some ⟨d, 0, none⟩)] w fun e w' => e = .returned .nilIface ∧ St w0 p d gh P.act n D.flushed w' := by
  obtain ⟨v, hv, hg0⟩ := h.dk
  have n1 := h.ok.n1
  refine (flush_ok p d gh v P D n w h.pw h.pok hv h.ok (rdy_zero h.ok hg hd (by omega) (by omega)) hc).mono ?_
  rintro e w' ⟨rfl, hp', hd', hf⟩
  have hB : Below w0.heap.size w w' := hf.below h.bel.size (fun i hi => by
    simp only [List.mem_cons, List.not_mem_nil, or_false] at hi
    rcases hi with rfl | rfl | rfl
    · exact h.p0
    · exact h.d0
    · exact h.g0)
  exact ⟨rfl, hp', Pw.act_ok h.pok hacts, ⟨_, hd', by simp [Value.ownBlock]⟩, Dk.flushed_ok h.ok, h.bel.trans hB, h.p0, h.d0, h.g0⟩
theorem St.lose (h : St w0 p d gh P n D w) (ka : Option Addr) (kc : Nat) (keep : List Bool) (t : Int) (hk : BoolsAt w gh ka keep) :
    Calls Try.prog 13 #[.pointer (some ⟨d, 0, none⟩), .slice ka keep.length kc, .int .i64 t] w fun e w' => e = .returned (.tuple #[]) ∧ St w0 p d gh P n (D.lost keep t) w' := by
  obtain ⟨v, hv, hg0⟩ := h.dk
  refine (lose_any p d gh v P D n ka kc keep t w h.pw hv h.ok hk).mono ?_
  rintro e w' ⟨rfl, hd', hf⟩
  have s1 := sep h.pw hv
  have hB : Below w0.heap.size w w' := hf.below h.bel.size (fun i hi => by
    simp only [List.mem_cons, List.not_mem_nil, or_false] at hi
    rcases hi with rfl | rfl
    · exact h.d0
    · exact h.g0)
  have np : p ∉ [d, gh] := by
    simp only [List.mem_cons, List.not_mem_nil, or_false, not_or]
    exact ⟨fun e => s1.pd e.symm, fun e => s1.pg e.symm⟩
  exact ⟨rfl, h.pw.fr hf np, h.pok, ⟨_, hd', by simp [Value.ownBlock]⟩, Dk.lost_ok h.ok keep t, h.bel.trans hB, h.p0, h.d0, h.g0⟩
theorem St.rot (h : St w0 p d gh P n D w) (a b : Nat) (hd : D.dead = false) (ha : a < n) (hb : b < 512) :
    Calls Try.prog 19 #[.pointer (some ⟨d, 0, none⟩), .int .i64 (a : Int), .int .i64 (b : Int)] w fun e w' => e = .returned .nilIface ∧ St w0 p d gh P n (D.rotted a b) w' := by
  obtain ⟨v, hv, hg0⟩ := h.dk
  refine (rot_ok p d gh v D n a b w hv h.ok hd ha hb).mono ?_
  rintro e w' ⟨rfl, hd', hf⟩
  have s1 := sep h.pw hv
  have hB : Below w0.heap.size w w' := hf.below h.bel.size (fun i hi => by
    simp only [List.mem_cons, List.not_mem_nil, or_false] at hi
    rw [hi]; exact h.g0)
  have np : p ∉ [gh] := by
    simp only [List.mem_cons, List.not_mem_nil, or_false]
    exact fun e => s1.pg e.symm
  exact ⟨rfl, h.pw.fr hf np, h.pok, ⟨_, hd', hg0⟩, Dk.rotted_ok h.ok a b, h.bel.trans hB, h.p0, h.d0, h.g0⟩
theorem St.pending (h : St w0 p d gh P n D w) :
    Calls Try.prog 16 #[.pointer (some ⟨d, 0, none⟩)] w fun e w' => e = .returned (.int .i64 (D.wait.length : Int)) ∧ w = w' := by
  obtain ⟨v, hv, hg0⟩ := h.dk
  exact pending_any p d gh v D w hv
theorem St.image (h : St w0 p d gh P n D w) :
    Calls Try.prog 17 #[.pointer (some ⟨d, 0, none⟩)] w fun e w' => e = .returned (.string D.image) ∧ w = w' := by
  obtain ⟨v, hv, hg0⟩ := h.dk
  exact image_any p d gh v D w hv
theorem St.sectors (h : St w0 p d gh P n D w) :
    Calls Try.prog 23 #[.pointer (some ⟨d, 0, none⟩)] w fun e w' => e = .returned (.int .i64 n) ∧ w = w' := by
  obtain ⟨v, hv, hg0⟩ := h.dk
  exact sectors_any p d gh v D n w hv h.ok.len h.ok.n2
theorem St.dead (h : St w0 p d gh P n D w) :
    Calls Try.prog 24 #[.pointer (some ⟨d, 0, none⟩)] w fun e w' => e = .returned (.bool D.dead) ∧ w = w' := by
  obtain ⟨v, hv, hg0⟩ := h.dk
  exact dead_any p d gh v D w hv
theorem St.life (h : St w0 p d gh P n D w) :
    Calls Try.prog 25 #[.pointer (some ⟨d, 0, none⟩)] w fun e w' => e = .returned (.int .i64 D.life) ∧ w = w' := by
  obtain ⟨v, hv, hg0⟩ := h.dk
  exact life_any p d gh v D w hv
end
end Go.Proofs.Ythppnjmepeeejaa
