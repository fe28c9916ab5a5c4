/-
  The walk of a disk's Replace.
-/
import Derived.Test.YthppnjmepeeejaaDiskRot
namespace Go.Proofs.Ythppnjmepeeejaa
open Go.RowKit
theorem Row0.setCells {g : Nat} {e : TypeId} (vs : List Value) : ∀ (a l : List Value) (w : World), Row0 w g e (a ++ l) → l.length = vs.length → Row0 (w.setCells g a.length vs) g e (a ++ vs) := by
  induction vs with
  | nil => intro a l w h hl; rw [List.length_nil, List.length_eq_zero_iff] at hl; subst hl; exact h
  | cons v vs ih =>
    intro a l w h hl
    match l, hl with
    | x :: l, hl =>
      have h1 := h.set a.length v
      have e1 : (a ++ x :: l).set a.length v = (a ++ [v]) ++ l := by simp
      rw [e1] at h1
      have h2 := ih (a ++ [v]) l _ h1 (by simpa using hl)
      rw [List.length_append, List.length_singleton, List.append_assoc, List.singleton_append] at h2
      exact h2
theorem Fr.setCells {L : List Nat} {g : Nat} (vs : List Value) : ∀ (o : Nat) {a w : World}, Fr L a w → g ∈ L → Fr L a (w.setCells g o vs) := by
  induction vs with
  | nil => intro o a w h _; exact h
  | cons v vs ih => intro o a w h hg; exact ih (o + 1) (h.setCell (p := ⟨g, o, none⟩) (Or.inl hg) v) hg
theorem zeroU8 (w : World) : (zeroValue 5).run Try.prog w = .ok (.int .u8 0) w := by kernel_rfl
theorem Dk.replaced_ok {D : Dk} {n : Nat} (ok : D.ok n) (hl : D.life < 4611686018427387904) : D.replaced.ok n := ⟨by simp [Dk.replaced, ok.len], ok.n1, ok.n2, by simp [Dk.replaced], by simp [Dk.replaced], by simp [Dk.replaced], by have := ok.life0; simp only [Dk.replaced]; omega, by simp only [Dk.replaced]; omega⟩
theorem Dk.killed_ok {D : Dk} {n : Nat} (ok : D.ok n) (hl : D.life < 4611686018427387904) : D.killed.ok n := ⟨ok.len, ok.n1, ok.n2, by simp [Dk.killed], by simp [Dk.killed], by simp [Dk.killed], by have := ok.life0; simp only [Dk.killed]; omega, by simp only [Dk.killed]; omega⟩
set_option maxHeartbeats 800000 in
theorem replace_any (p d gh : Nat) (v : Value) (D : Dk) (n : Nat) (w : World) (h : DiskAt w p d gh v D) (ok : D.ok n) :
    Calls Try.prog 49 #[.pointer (some ⟨d, 0, none⟩)] w fun e w' => e = .returned (.tuple #[]) ∧ DiskAt w' p d gh (.slice none 0 0) D.replaced ∧ Fr [d, gh] w w' := by
  have c1 := h.top.cell (j := 1) rfl
  have c2 := h.top.cell (j := 2) rfl
  have r2 := h.top.free (j := 2) (by simp)
  have c3 := h.top.cell (j := 3) rfl
  have r3 := h.top.free (j := 3) (by simp)
  have c4 := h.top.cell (j := 4) rfl
  have r4 := h.top.free (j := 4) (by simp)
  have l0 := ok.life0
  have l1 := ok.life1
  have dg := h.top.ne h.bytes.row (by decide)
  have hlen := ok.len
  have n1 := ok.n1
  have hcl : ∀ ty (W : World), Row0 W gh 5 (bcells D.has) → (Builtin.clear_ #[70] ty #[.slice (some ⟨gh, 0, none⟩) D.has.length D.has.length]).run Try.prog W = .ok (.tuple #[]) (W.setCells gh 0 (List.replicate D.has.length (.int .u8 0))) := fun ty W hW =>
    Lib.run_clear_slice W 70 5 ty (.int .u8 0) Try.underlying70 zeroU8 rfl rfl gh 0 D.has.length D.has.length (by omega)
      (fun j hj => by rw [Nat.zero_add, hW.row.cell (bcells_get _ j hj)]; rfl) (fun j hj => by rw [Nat.zero_add]; exact hW.row.free (by rw [bcells_length]; exact hj))
  obtain ⟨w2, hw2⟩ : ∃ w2, w2 = (w.setCell ⟨d, 3, none⟩ (.bool false)).setCell ⟨d, 2, none⟩ (.slice none 0 0) := ⟨_, rfl⟩
  have hF2 : Fr [d] w w2 := by rw [hw2]; exact ((Fr.refl _ _).setCell (Or.inl (by simp)) _).setCell (Or.inl (by simp)) _
  have htop : Row w2 d 75 [.pointer (some ⟨p, 0, none⟩), .slice (some ⟨gh, 0, none⟩) D.has.length D.has.length, .slice none 0 0, .bool false, .int .i64 D.life] := by rw [hw2]; exact (h.top.set 3 (.bool false)).set 2 (.slice none 0 0)
  have hb := h.bytes.fr hF2 (by simpa using fun e => dg e.symm)
  have hcl2 := fun ty => hcl ty w2 hb
  have hset := Row0.setCells (g := gh) (e := 5) (List.replicate D.has.length (Value.int .u8 0)) [] (bcells D.has) w2 hb (by simp [bcells_length])
  have hF3 : Fr [d, gh] w (w2.setCells gh 0 (List.replicate D.has.length (Value.int .u8 0))) := Fr.setCells _ 0 (hF2.mono (by simp)) (by simp)
  have htop3 : Row (w2.setCells gh 0 (List.replicate D.has.length (Value.int .u8 0))) d 75 [.pointer (some ⟨p, 0, none⟩), .slice (some ⟨gh, 0, none⟩) D.has.length D.has.length, .slice none 0 0, .bool false, .int .i64 D.life] := htop.fr (Fr.setCells _ 0 (Fr.refl [gh] w2) (by simp)) (by simpa using dg)
  have k1 := htop.cell (j := 1) rfl
  have k4 := htop3.cell (j := 4) rfl
  have k4f := htop3.free (j := 4) (by simp)
  have H := Lib.hid h; have OK := Lib.hid ok
  have HS := Lib.hid hset; have HF3 := Lib.hid hF3; have HT3 := Lib.hid htop3
  clear h ok hcl hset hF3 htop3 htop hb hF2 hlen n1
  rw [hw2] at hcl2 k1 k4 k4f HS HF3 HT3
  clear hw2 w2
  go_enter Try.func49, Try.ntmps49
  go_wp2_with (simp only [hcl2])
  go_end0
  have hx := HT3.out.set 4 (.int .i64 (D.life + 1))
  have hF4 := HF3.out.setCell (p := ⟨d, 4, none⟩) (Or.inl (by simp)) (.int .i64 (D.life + 1))
  refine ⟨rfl, ⟨?_, ?_, World.ownsRow_nil _ _ _ _⟩, hF4⟩
  · simpa [Dk.replaced] using hx
  · have := HS.out.fr ((Fr.refl [d] _).setCell (p := ⟨d, 4, none⟩) (Or.inl (by simp)) (.int .i64 (D.life + 1))) (by simpa using fun e => dg e.symm)
    simpa [Dk.replaced, bcells] using this
end Go.Proofs.Ythppnjmepeeejaa
