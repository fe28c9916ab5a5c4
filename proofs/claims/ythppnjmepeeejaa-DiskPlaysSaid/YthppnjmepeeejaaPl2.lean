/-
  The disks' own calls on the bundle of both sides.
-/
import Derived.Test.YthppnjmepeeejaaPl
namespace Go.Proofs.Ythppnjmepeeejaa
open Go.RowKit
section
variable {X : List (Nat × TypeId × List Value)} {w0 : World} {p d g1 e g2 n1 n2 q r s : Nat} {P : Pw} {D1 D2 : Dk} {RP : Pw} {R1 R2 : Dk} {w w' : World}
theorem Pl.write (h : Pl X w0 p d g1 e g2 n1 n2 q r s P D1 D2 RP R1 R2 w) (a : Int) (t : ByteArray) (hfew : D1.wait.length < 1099511627776) (hacts : P.acts < 4611686018427387904) :
    Calls Try.prog 12 #[.pointer (some ⟨d, 0, none⟩), .int .i64 a, .string t] w fun x w' => ∃ ev, x = .returned ev ∧ ErrAt w.heap.size w' ev (wcode P D1 a t) ∧ Pl X w0 p d g1 e g2 n1 n2 q r s (wpow P D1 a t) (wdk P D1 a t) D2 RP R1 R2 w' := by
  obtain ⟨v1, v2, h1, _⟩ := h.two.dk
  refine (write_all h.two.pw h.two.pok h1 h.two.ok1 a t hfew).mono ?_
  rintro x w' ⟨ev, rfl, he, hl⟩
  refine ⟨ev, rfl, he, h.left (fun v hv => ?_) (wpow_ok h.two.pok D1 a t hacts) (wdk_ok h.two.ok1 a t hfew)⟩
  obtain rfl := disk_v hv h1
  exact hl
theorem Pl.flush (h : Pl X w0 p d g1 e g2 n1 n2 q r s P D1 D2 RP R1 R2 w) (hacts : P.acts < 4611686018427387904) :
    Calls Try.prog 15 #[.pointer (some ⟨d, 0, none⟩)] w fun x w' => ∃ ev, x = .returned ev ∧ ErrAt w.heap.size w' ev (fcode P D1) ∧ Pl X w0 p d g1 e g2 n1 n2 q r s (fpow P D1) (fdk P D1) D2 RP R1 R2 w' := by
  obtain ⟨v1, v2, h1, _⟩ := h.two.dk
  refine (flush_all h.two.pw h.two.pok h1 h.two.ok1).mono ?_
  rintro x w' ⟨ev, rfl, he, hl⟩
  refine ⟨ev, rfl, he, h.left (fun v hv => ?_) (fpow_ok h.two.pok D1 hacts) (fdk_ok h.two.ok1)⟩
  obtain rfl := disk_v hv h1
  exact hl
theorem Pl.read (h : Pl X w0 p d g1 e g2 n1 n2 q r s P D1 D2 RP R1 R2 w) (a : Int) :
    Calls Try.prog 14 #[.pointer (some ⟨d, 0, none⟩), .int .i64 a] w fun x w' => ∃ ev, x = .returned (.tuple #[.string (rtext P D1 a), ev]) ∧ ErrAt w.heap.size w' ev (rdy P D1 a) ∧ Pl X w0 p d g1 e g2 n1 n2 q r s P D1 D2 RP R1 R2 w' := by
  obtain ⟨v1, v2, h1, _⟩ := h.two.dk
  refine (read_all h.two.pw h1 h.two.ok1 a).mono ?_
  rintro x w' ⟨ev, rfl, he, hb⟩
  exact ⟨ev, rfl, he, h.after hb⟩
theorem Pl.lose (h : Pl X w0 p d g1 e g2 n1 n2 q r s P D1 D2 RP R1 R2 w) (ka : Option Addr) (kc : Nat) (keep : List Bool) (t : Int) (hk : ∀ hg, w0.heap.size ≤ hg → BoolsAt w hg ka keep) :
    Calls Try.prog 13 #[.pointer (some ⟨d, 0, none⟩), .slice ka keep.length kc, .int .i64 t] w fun x w' => x = .returned (.tuple #[]) ∧ Pl X w0 p d g1 e g2 n1 n2 q r s P (D1.lost keep t) D2 RP R1 R2 w' := by
  obtain ⟨v1, v2, h1, _⟩ := h.two.dk
  refine (lose_any p d g1 v1 P D1 n1 ka kc keep t w h.two.pw h1 h.two.ok1 (hk g1 h.two.a0)).mono ?_
  rintro x w' ⟨rfl, hd', hf⟩
  have s1 := sep h.two.pw h1
  refine ⟨rfl, h.left (fun v hv => ?_) h.two.pok (Dk.lost_ok h.two.ok1 keep t)⟩
  obtain rfl := disk_v hv h1
  exact ⟨_, h.two.pw.fr hf (by simp only [List.mem_cons, List.not_mem_nil, or_false, not_or]; exact ⟨fun e => s1.pd e.symm, fun e => s1.pg e.symm⟩), hd', hf.mono (fun i hi _ => by simp at hi; rcases hi with h | h <;> simp [h]), Or.inr (by simp [Value.ownBlock])⟩
theorem Pl.kill (h : Pl X w0 p d g1 e g2 n1 n2 q r s P D1 D2 RP R1 R2 w) (hl : D1.life < 4611686018427387904) :
    Calls Try.prog 47 #[.pointer (some ⟨d, 0, none⟩)] w fun x w' => x = .returned (.tuple #[]) ∧ Pl X w0 p d g1 e g2 n1 n2 q r s P D1.killed D2 RP R1 R2 w' := by
  obtain ⟨v1, v2, h1, _⟩ := h.two.dk
  refine (kill_any p d g1 v1 D1 n1 w h1 h.two.ok1).mono ?_
  rintro x w' ⟨rfl, hd', hf⟩
  have s1 := sep h.two.pw h1
  refine ⟨rfl, h.left (fun v hv => ?_) h.two.pok (Dk.killed_ok h.two.ok1 hl)⟩
  obtain rfl := disk_v hv h1
  exact ⟨_, h.two.pw.fr hf (by simp only [List.mem_singleton]; exact fun e => s1.pd e.symm), hd', hf.mono (fun i hi _ => by simp at hi; simp [hi]), Or.inr (by simp [Value.ownBlock])⟩
theorem Pl.replace (h : Pl X w0 p d g1 e g2 n1 n2 q r s P D1 D2 RP R1 R2 w) (hl : D1.life < 4611686018427387904) :
    Calls Try.prog 49 #[.pointer (some ⟨d, 0, none⟩)] w fun x w' => x = .returned (.tuple #[]) ∧ Pl X w0 p d g1 e g2 n1 n2 q r s P D1.replaced D2 RP R1 R2 w' := by
  obtain ⟨v1, v2, h1, _⟩ := h.two.dk
  refine (replace_any p d g1 v1 D1 n1 w h1 h.two.ok1).mono ?_
  rintro x w' ⟨rfl, hd', hf⟩
  have s1 := sep h.two.pw h1
  refine ⟨rfl, h.left (fun v hv => ?_) h.two.pok (Dk.replaced_ok h.two.ok1 hl)⟩
  obtain rfl := disk_v hv h1
  exact ⟨_, h.two.pw.fr hf (by simp only [List.mem_cons, List.not_mem_nil, or_false, not_or]; exact ⟨fun e => s1.pd e.symm, fun e => s1.pg e.symm⟩), hd', hf.mono (fun i hi _ => by simp at hi; rcases hi with h | h <;> simp [h]), Or.inr (by simp [Value.ownBlock])⟩
theorem Pl.rot (h : Pl X w0 p d g1 e g2 n1 n2 q r s P D1 D2 RP R1 R2 w) (a b : Int) :
    Calls Try.prog 19 #[.pointer (some ⟨d, 0, none⟩), .int .i64 a, .int .i64 b] w fun x w' => ∃ ev, x = .returned ev ∧ ErrAt w.heap.size w' ev (D1.rotErr n1 a b) ∧ Pl X w0 p d g1 e g2 n1 n2 q r s P (rotDk D1 n1 a b) D2 RP R1 R2 w' := by
  obtain ⟨v1, v2, h1, _⟩ := h.two.dk
  have s1 := sep h.two.pw h1
  by_cases hr : D1.rotErr n1 a b = 0
  · obtain ⟨hd, q1, q2, q3, q4⟩ := rot_bounds hr
    obtain ⟨ma, rfl⟩ : ∃ m : Nat, a = (m : Int) := ⟨a.toNat, by omega⟩
    obtain ⟨mb, rfl⟩ : ∃ m : Nat, b = (m : Int) := ⟨b.toNat, by omega⟩
    have e1 : rotDk D1 n1 ma mb = D1.rotted ma mb := by unfold rotDk; rw [if_pos hr]; rfl
    rw [e1, hr]
    refine (rot_ok p d g1 v1 D1 n1 ma mb w h1 h.two.ok1 hd (by omega) (by omega)).mono ?_
    rintro x w' ⟨rfl, hd', hf⟩
    refine ⟨_, rfl, ErrAt.ok0 _ _, h.left (fun v hv => ?_) h.two.pok (Dk.rotted_ok h.two.ok1 ma mb)⟩
    obtain rfl := disk_v hv h1
    exact ⟨_, h.two.pw.fr hf (by simp only [List.mem_singleton]; exact fun e => s1.pg e.symm), hd', hf.mono (fun i hi _ => by simp at hi; simp [hi]), Or.inl rfl⟩
  · have e1 : rotDk D1 n1 a b = D1 := by unfold rotDk; rw [if_neg hr]
    rw [e1]
    refine (rot_bad p d g1 v1 D1 n1 a b w h1 h.two.ok1 hr).mono ?_
    rintro x w' ⟨f, rfl, hb1, hb2, hb3⟩
    exact ⟨_, rfl, ErrAt.err hr hb1 hb2, h.after hb3⟩
theorem Pl.cut (h : Pl X w0 p d g1 e g2 n1 n2 q r s P D1 D2 RP R1 R2 w) :
    Calls Try.prog 51 #[.pointer (some ⟨p, 0, none⟩)] w fun x w' => x = .returned (.tuple #[]) ∧ Pl X w0 p d g1 e g2 n1 n2 q r s { P with gone := true } D1 D2 RP R1 R2 w' := by
  refine (cut_any p P w h.two.pw).mono ?_
  rintro x w' ⟨rfl, hp, hf⟩
  exact ⟨rfl, h.power hp ⟨h.two.pok.f0, h.two.pok.f1, h.two.pok.a0, h.two.pok.a1⟩ hf⟩
theorem Pl.on (h : Pl X w0 p d g1 e g2 n1 n2 q r s P D1 D2 RP R1 R2 w) :
    Calls Try.prog 30 #[.pointer (some ⟨p, 0, none⟩)] w fun x w' => x = .returned (.tuple #[]) ∧ Pl X w0 p d g1 e g2 n1 n2 q r s { P with gone := false, fuse := -1 } D1 D2 RP R1 R2 w' := by
  refine (on_any p P w h.two.pw).mono ?_
  rintro x w' ⟨rfl, hp, hf⟩
  exact ⟨rfl, h.power hp ⟨by show (-1 : Int) ≤ -1; omega, by show (-1 : Int) ≤ _; omega, h.two.pok.a0, h.two.pok.a1⟩ hf⟩
theorem Pl.fuse (h : Pl X w0 p d g1 e g2 n1 n2 q r s P D1 D2 RP R1 R2 w) (m : Int) (hm : m ≤ 9223372036854775807) :
    Calls Try.prog 26 #[.pointer (some ⟨p, 0, none⟩), .int .i64 m] w fun x w' => x = .returned (.tuple #[]) ∧ Pl X w0 p d g1 e g2 n1 n2 q r s { P with fuse := max m (-1) } D1 D2 RP R1 R2 w' := by
  refine (fuse_any p P m w h.two.pw).mono ?_
  rintro x w' ⟨rfl, hp, hf⟩
  exact ⟨rfl, h.power hp ⟨by show -1 ≤ max m (-1); omega, by show max m (-1) ≤ _; omega, h.two.pok.a0, h.two.pok.a1⟩ hf⟩
end
end Go.Proofs.Ythppnjmepeeejaa
