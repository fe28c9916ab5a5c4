/-
  The bundle of a power and one disk beside a local array of strings.
-/
import Derived.Test.YthppnjmepeeejaaDst
import Derived.Test.YthppnjmepeeejaaSec
namespace Go.Proofs.Ythppnjmepeeejaa
open Go.RowKit
/-- arrays of strings keep what they hold -/
def Keeps (w w' : World) : Prop := ∀ r L, Row w r 37 L → Row w' r 37 L
theorem Keeps.below {w w' : World} (hb : Below w.heap.size w w') : Keeps w w' := fun _ _ h => h.after hb
theorem Keeps.of {p d gh : Nat} {v : Value} {P : Pw} {D : Dk} {w w' : World} (hp : PowerAt w p P) (h : DiskAt w p d gh v D) {Ls : List Nat} (hf : Fr Ls w w') (hL : ∀ i, i ∈ Ls → i = p ∨ i = d ∨ i = gh ∨ v.ownBlock = some i) : Keeps w w' := by
  intro r L hr
  refine hr.fr hf (fun hm => ?_)
  rcases hL r hm with e | e | e | e
  · exact hr.ne hp (by decide) e
  · exact hr.ne h.top (by decide) e
  · exact hr.ne h.bytes.row (by decide) e
  · exact hr.ne_own h.late (by decide) e
/-- a power that never goes -/
def onP (c : Int) : Pw := ⟨false, -1, c⟩
theorem onP_act (c : Int) : (onP c).act = onP (c + 1) := rfl
section
variable {w0 : World} {p d gh n : Nat} {c : Int} {D : Dk} {w : World}
theorem St.set {P : Pw} (h : St w0 p d gh P n D w) {r : Nat} {L : List Value} (hr : Row w r 37 L) (hr0 : w0.heap.size ≤ r) (j : Nat) (u : Value) : St w0 p d gh P n D (w.setCell ⟨r, j, none⟩ u) := by
  obtain ⟨v, hv, hg⟩ := h.dk
  have hf : Fr [r] w (w.setCell ⟨r, j, none⟩ u) := (Fr.refl _ _).setCell (Or.inl (by simp)) _
  have hB : Below w0.heap.size w (w.setCell ⟨r, j, none⟩ u) := hf.below h.bel.size (fun i hi => by
    simp only [List.mem_singleton] at hi
    rw [hi]; exact hr0)
  refine ⟨h.pw.fr hf ?_, h.pok, ⟨v, hv.fr hf ?_ ?_ ?_, hg⟩, h.ok, h.bel.trans hB, h.p0, h.d0, h.g0⟩
  · simp only [List.mem_singleton]; exact fun e => hr.ne h.pw (by decide) e.symm
  · simp only [List.mem_singleton]; exact fun e => hr.ne hv.top (by decide) e.symm
  · simp only [List.mem_singleton]; exact fun e => hr.ne hv.bytes.row (by decide) e.symm
  · intro g hgv
    simp only [List.mem_singleton]; rintro rfl
    exact hr.ne_own hv.late (by decide) hgv
theorem St.writeK (h : St w0 p d gh (onP c) n D w) (ai : Int) (a : Nat) (hai : ai = (a : Int)) (s : ByteArray) (hd : D.dead = false) (ha : a < n) (hs : s.size = 64) (hfew : D.wait.length < 1099511627776) (hacts : c < 4611686018427387904) :
    Calls Try.prog 12 #[.pointer (some ⟨d, 0, none⟩), .int .i64 ai, .string s] w fun e w' => e = .returned .nilIface ∧ St w0 p d gh (onP (c + 1)) n { D with wait := D.wait ++ [(a, s)] } w' ∧ Keeps w w' := by
  subst hai
  obtain ⟨v, hv, hg0⟩ := h.dk
  refine (write_ok p d gh v (onP c) D n a s w h.pw h.pok hv h.ok (rdy_zero h.ok rfl hd (by omega) (by omega)) hs rfl hfew).mono ?_
  rintro e w' ⟨v', rfl, hp', hd', hf, hown⟩
  have hB : Below w0.heap.size w w' := hf.below h.bel.size (fun i hi => by
    simp only [List.mem_cons, mem_ownL] at hi
    rcases hi with rfl | rfl | hi
    · exact h.p0
    · exact h.d0
    · exact hg0 i hi)
  refine ⟨rfl, ⟨hp', Pw.act_ok h.pok hacts, ⟨v', hd', ?_⟩, Dk.wrote_ok h.ok a s ha hs hfew, h.bel.trans hB, h.p0, h.d0, h.g0⟩, Keeps.of h.pw hv hf (fun i hi => by
    simp only [List.mem_cons, mem_ownL] at hi
    rcases hi with hi | hi | hi
    · exact Or.inl hi
    · exact Or.inr (Or.inl hi)
    · exact Or.inr (Or.inr (Or.inr hi)))⟩
  intro g hgv
  rcases hown with e | e
  · exact hg0 g (by rw [← e]; exact hgv)
  · have := e g hgv; have := h.bel.size; omega
theorem St.readK (h : St w0 p d gh (onP c) n D w) (ai : Int) (a : Nat) (hai : ai = (a : Int)) (hd : D.dead = false) (ha : a < n) :
    Calls Try.prog 14 #[.pointer (some ⟨d, 0, none⟩), .int .i64 ai] w fun e w' => e = .returned (.tuple #[.string (D.reads a), .nilIface]) ∧ St w0 p d gh (onP c) n D w' ∧ Keeps w w' := by
  subst hai
  obtain ⟨v, hv, hg0⟩ := h.dk
  refine (read_ok p d gh v (onP c) D n a w h.pw hv h.ok (rdy_zero h.ok rfl hd (by omega) (by omega)) ha).mono ?_
  rintro e w' ⟨rfl, hb⟩
  exact ⟨rfl, h.after hb, Keeps.below hb⟩
theorem St.flushK (h : St w0 p d gh (onP c) n D w) (hd : D.dead = false) (hacts : c < 4611686018427387904) :
    Calls Try.prog 15 #[.pointer (some ⟨d, 0, none⟩)] w fun e w' => ∃ D', e = .returned .nilIface ∧ D' = D.flushed ∧ St w0 p d gh (onP (c + 1)) n D' w' ∧ Keeps w w' := by
  obtain ⟨v, hv, hg0⟩ := h.dk
  have n1 := h.ok.n1
  refine (flush_ok p d gh v (onP c) D n w h.pw h.pok hv h.ok (rdy_zero h.ok rfl hd (by omega) (by omega)) rfl).mono ?_
  rintro e w' ⟨rfl, hp', hd', hf⟩
  have hB : Below w0.heap.size w w' := hf.below h.bel.size (fun i hi => by
    simp only [List.mem_cons, List.not_mem_nil, or_false] at hi
    rcases hi with rfl | rfl | rfl
    · exact h.p0
    · exact h.d0
    · exact h.g0)
  exact ⟨_, rfl, rfl, ⟨hp', Pw.act_ok h.pok hacts, ⟨_, hd', by simp [Value.ownBlock]⟩, Dk.flushed_ok h.ok, h.bel.trans hB, h.p0, h.d0, h.g0⟩, Keeps.of h.pw hv hf (fun i hi => by
    simp only [List.mem_cons, List.not_mem_nil, or_false] at hi
    rcases hi with hi | hi | hi <;> simp [hi])⟩
theorem St.loseK (h : St w0 p d gh (onP c) n D w) (ka : Option Addr) (kl kc : Nat) (keep : List Bool) (hkl : kl = keep.length) (t : Int) (hk : BoolsAt w gh ka keep) :
    Calls Try.prog 13 #[.pointer (some ⟨d, 0, none⟩), .slice ka kl kc, .int .i64 t] w fun e w' => e = .returned (.tuple #[]) ∧ St w0 p d gh (onP c) n (D.lost keep t) w' ∧ Keeps w w' := by
  subst hkl
  obtain ⟨v, hv, hg0⟩ := h.dk
  refine (lose_any p d gh v (onP c) D n ka kc keep t w h.pw hv h.ok hk).mono ?_
  rintro e w' ⟨rfl, hd', hf⟩
  have s1 := sep h.pw hv
  have hB : Below w0.heap.size w w' := hf.below h.bel.size (fun i hi => by
    simp only [List.mem_cons, List.not_mem_nil, or_false] at hi
    rcases hi with rfl | rfl
    · exact h.d0
    · exact h.g0)
  have np : p ∉ [d, gh] := by
    simp only [List.mem_cons, List.not_mem_nil, or_false, not_or]
    exact ⟨fun e => s1.pd e.symm, fun e => s1.pg e.symm⟩
  exact ⟨rfl, ⟨h.pw.fr hf np, h.pok, ⟨_, hd', by simp [Value.ownBlock]⟩, Dk.lost_ok h.ok keep t, h.bel.trans hB, h.p0, h.d0, h.g0⟩, Keeps.of h.pw hv hf (fun i hi => by
    simp only [List.mem_cons, List.not_mem_nil, or_false] at hi
    rcases hi with hi | hi <;> simp [hi])⟩
end
end Go.Proofs.Ythppnjmepeeejaa
