/-
  The rest of a disk's calls on the bundle of two disks.
-/
import Derived.Test.YthppnjmepeeejaaDall
namespace Go.Proofs.Ythppnjmepeeejaa
open Go.RowKit
section
variable {w0 : World} {p d g1 e g2 n1 n2 : Nat} {P : Pw} {D1 D2 : Dk} {w : World}
theorem disk_v {w : World} {p d gh : Nat} {v v' : Value} {D : Dk} (h : DiskAt w p d gh v D) (h' : DiskAt w p d gh v' D) : v = v' := by
  have a1 := h.top.cell (j := 2) rfl
  have a2 := h'.top.cell (j := 2) rfl
  rw [a1] at a2
  exact Option.some.inj a2
/-- what the law's step asks of a disk's state: small numbers -/
structure Dk.small (D : Dk) (b : Nat) : Prop where
  wait : D.wait.length ≤ b
  life : D.life ≤ b
theorem Two.lose (h : Two w0 p d g1 e g2 n1 n2 P D1 D2 w) (ka : Option Addr) (kc : Nat) (keep : List Bool) (t : Int) (hk : BoolsAt w g1 ka keep) :
    Calls Try.prog 13 #[.pointer (some ⟨d, 0, none⟩), .slice ka keep.length kc, .int .i64 t] w fun x w' => x = .returned (.tuple #[]) ∧ Two w0 p d g1 e g2 n1 n2 P (D1.lost keep t) D2 w' := by
  obtain ⟨v1, v2, h1, h2, h3, h4, h5⟩ := h.dk
  refine (lose_any p d g1 v1 P D1 n1 ka kc keep t w h.pw h1 h.ok1 hk).mono ?_
  rintro x w' ⟨rfl, hd', hf⟩
  have s1 := sep h.pw h1
  refine ⟨rfl, h.step (fun v hv => ?_) h.pok (Dk.lost_ok h.ok1 keep t)⟩
  obtain rfl := disk_v hv h1
  exact ⟨_, h.pw.fr hf (by simp only [List.mem_cons, List.not_mem_nil, or_false, not_or]; exact ⟨fun e => s1.pd e.symm, fun e => s1.pg e.symm⟩), hd', hf.mono (fun i hi _ => by simp at hi; rcases hi with h | h <;> simp [h]), Or.inr (by simp [Value.ownBlock])⟩
theorem Two.kill (h : Two w0 p d g1 e g2 n1 n2 P D1 D2 w) (hl : D1.life < 4611686018427387904) :
    Calls Try.prog 47 #[.pointer (some ⟨d, 0, none⟩)] w fun x w' => x = .returned (.tuple #[]) ∧ Two w0 p d g1 e g2 n1 n2 P D1.killed D2 w' := by
  obtain ⟨v1, v2, h1, h2, h3, h4, h5⟩ := h.dk
  refine (kill_any p d g1 v1 D1 n1 w h1 h.ok1).mono ?_
  rintro x w' ⟨rfl, hd', hf⟩
  have s1 := sep h.pw h1
  refine ⟨rfl, h.step (fun v hv => ?_) h.pok (Dk.killed_ok h.ok1 hl)⟩
  obtain rfl := disk_v hv h1
  exact ⟨_, h.pw.fr hf (by simp only [List.mem_singleton]; exact fun e => s1.pd e.symm), hd', hf.mono (fun i hi _ => by simp at hi; simp [hi]), Or.inr (by simp [Value.ownBlock])⟩
theorem Two.replace (h : Two w0 p d g1 e g2 n1 n2 P D1 D2 w) (hl : D1.life < 4611686018427387904) :
    Calls Try.prog 49 #[.pointer (some ⟨d, 0, none⟩)] w fun x w' => x = .returned (.tuple #[]) ∧ Two w0 p d g1 e g2 n1 n2 P D1.replaced D2 w' := by
  obtain ⟨v1, v2, h1, h2, h3, h4, h5⟩ := h.dk
  refine (replace_any p d g1 v1 D1 n1 w h1 h.ok1).mono ?_
  rintro x w' ⟨rfl, hd', hf⟩
  have s1 := sep h.pw h1
  refine ⟨rfl, h.step (fun v hv => ?_) h.pok (Dk.replaced_ok h.ok1 hl)⟩
  obtain rfl := disk_v hv h1
  exact ⟨_, h.pw.fr hf (by simp only [List.mem_cons, List.not_mem_nil, or_false, not_or]; exact ⟨fun e => s1.pd e.symm, fun e => s1.pg e.symm⟩), hd', hf.mono (fun i hi _ => by simp at hi; rcases hi with h | h <;> simp [h]), Or.inr (by simp [Value.ownBlock])⟩
/-- a disk behind a Rot of raw numbers -/
def rotDk (D : Dk) (n : Nat) (a b : Int) : Dk := if D.rotErr n a b = 0 then D.rotted a.toNat b.toNat else D
theorem rot_bounds {D : Dk} {n : Nat} {a b : Int} (h : D.rotErr n a b = 0) : D.dead = false ∧ 0 ≤ a ∧ a < n ∧ 0 ≤ b ∧ b < 512 := by
  unfold Dk.rotErr at h
  cases hd : D.dead
  · rw [hd] at h
    by_cases e : a < 0 ∨ (n : Int) ≤ a ∨ b < 0 ∨ 512 ≤ b
    · rw [if_pos e] at h; simp at h
    · exact ⟨rfl, by omega, by omega, by omega, by omega⟩
  · rw [hd] at h; simp at h
theorem rotDk_ok {D : Dk} {n : Nat} (ok : D.ok n) (a b : Int) : (rotDk D n a b).ok n := by
  unfold rotDk; split
  · exact Dk.rotted_ok ok _ _
  · exact ok
theorem Two.rot (h : Two w0 p d g1 e g2 n1 n2 P D1 D2 w) (a b : Int) :
    Calls Try.prog 19 #[.pointer (some ⟨d, 0, none⟩), .int .i64 a, .int .i64 b] w fun x w' => ∃ ev, x = .returned ev ∧ ErrAt w.heap.size w' ev (D1.rotErr n1 a b) ∧ Two w0 p d g1 e g2 n1 n2 P (rotDk D1 n1 a b) D2 w' := by
  obtain ⟨v1, v2, h1, h2, h3, h4, h5⟩ := h.dk
  have s1 := sep h.pw h1
  by_cases hr : D1.rotErr n1 a b = 0
  · obtain ⟨hd, q1, q2, q3, q4⟩ := rot_bounds hr
    obtain ⟨ma, rfl⟩ : ∃ m : Nat, a = (m : Int) := ⟨a.toNat, by omega⟩
    obtain ⟨mb, rfl⟩ : ∃ m : Nat, b = (m : Int) := ⟨b.toNat, by omega⟩
    have e1 : rotDk D1 n1 ma mb = D1.rotted ma mb := by unfold rotDk; rw [if_pos hr]; rfl
    rw [e1, hr]
    refine (rot_ok p d g1 v1 D1 n1 ma mb w h1 h.ok1 hd (by omega) (by omega)).mono ?_
    rintro x w' ⟨rfl, hd', hf⟩
    refine ⟨_, rfl, ErrAt.ok0 _ _, h.step (fun v hv => ?_) h.pok (Dk.rotted_ok h.ok1 ma mb)⟩
    obtain rfl := disk_v hv h1
    exact ⟨_, h.pw.fr hf (by simp only [List.mem_singleton]; exact fun e => s1.pg e.symm), hd', hf.mono (fun i hi _ => by simp at hi; simp [hi]), Or.inl rfl⟩
  · have e1 : rotDk D1 n1 a b = D1 := by unfold rotDk; rw [if_neg hr]
    rw [e1]
    refine (rot_bad p d g1 v1 D1 n1 a b w h1 h.ok1 hr).mono ?_
    rintro x w' ⟨f, rfl, hb1, hb2, hb3⟩
    exact ⟨_, rfl, ErrAt.err hr hb1 hb2, h.after hb3⟩
theorem Two.pending (h : Two w0 p d g1 e g2 n1 n2 P D1 D2 w) :
    Calls Try.prog 16 #[.pointer (some ⟨d, 0, none⟩)] w fun x w' => x = .returned (.int .i64 (D1.wait.length : Int)) ∧ w = w' := by
  obtain ⟨v1, v2, h1, _⟩ := h.dk
  exact pending_any p d g1 v1 D1 w h1
theorem Two.image (h : Two w0 p d g1 e g2 n1 n2 P D1 D2 w) :
    Calls Try.prog 17 #[.pointer (some ⟨d, 0, none⟩)] w fun x w' => x = .returned (.string D1.image) ∧ w = w' := by
  obtain ⟨v1, v2, h1, _⟩ := h.dk
  exact image_any p d g1 v1 D1 w h1
theorem Two.sectors (h : Two w0 p d g1 e g2 n1 n2 P D1 D2 w) :
    Calls Try.prog 23 #[.pointer (some ⟨d, 0, none⟩)] w fun x w' => x = .returned (.int .i64 n1) ∧ w = w' := by
  obtain ⟨v1, v2, h1, _⟩ := h.dk
  exact sectors_any p d g1 v1 D1 n1 w h1 h.ok1.len h.ok1.n2
theorem Two.dead (h : Two w0 p d g1 e g2 n1 n2 P D1 D2 w) :
    Calls Try.prog 24 #[.pointer (some ⟨d, 0, none⟩)] w fun x w' => x = .returned (.bool D1.dead) ∧ w = w' := by
  obtain ⟨v1, v2, h1, _⟩ := h.dk
  exact dead_any p d g1 v1 D1 w h1
theorem Two.life (h : Two w0 p d g1 e g2 n1 n2 P D1 D2 w) :
    Calls Try.prog 25 #[.pointer (some ⟨d, 0, none⟩)] w fun x w' => x = .returned (.int .i64 D1.life) ∧ w = w' := by
  obtain ⟨v1, v2, h1, _⟩ := h.dk
  exact life_any p d g1 v1 D1 w h1
theorem Two.cut (h : Two w0 p d g1 e g2 n1 n2 P D1 D2 w) :
    Calls Try.prog 51 #[.pointer (some ⟨p, 0, none⟩)] w fun x w' => x = .returned (.tuple #[]) ∧ Two w0 p d g1 e g2 n1 n2 { P with gone := true } D1 D2 w' := by
  refine (cut_any p P w h.pw).mono ?_
  rintro x w' ⟨rfl, hp, hf⟩
  exact ⟨rfl, h.power hp ⟨h.pok.f0, h.pok.f1, h.pok.a0, h.pok.a1⟩ hf⟩
theorem Two.on (h : Two w0 p d g1 e g2 n1 n2 P D1 D2 w) :
    Calls Try.prog 30 #[.pointer (some ⟨p, 0, none⟩)] w fun x w' => x = .returned (.tuple #[]) ∧ Two w0 p d g1 e g2 n1 n2 { P with gone := false, fuse := -1 } D1 D2 w' := by
  refine (on_any p P w h.pw).mono ?_
  rintro x w' ⟨rfl, hp, hf⟩
  exact ⟨rfl, h.power hp ⟨by show (-1 : Int) ≤ -1; omega, by show (-1 : Int) ≤ _; omega, h.pok.a0, h.pok.a1⟩ hf⟩
theorem Two.fuse (h : Two w0 p d g1 e g2 n1 n2 P D1 D2 w) (m : Int) (hm : m ≤ 9223372036854775807) :
    Calls Try.prog 26 #[.pointer (some ⟨p, 0, none⟩), .int .i64 m] w fun x w' => x = .returned (.tuple #[]) ∧ Two w0 p d g1 e g2 n1 n2 { P with fuse := max m (-1) } D1 D2 w' := by
  refine (fuse_any p P m w h.pw).mono ?_
  rintro x w' ⟨rfl, hp, hf⟩
  exact ⟨rfl, h.power hp ⟨by show -1 ≤ max m (-1); omega, by show max m (-1) ≤ _; omega, h.pok.a0, h.pok.a1⟩ hf⟩
end
end Go.Proofs.Ythppnjmepeeejaa
