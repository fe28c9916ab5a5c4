/-
  Both sides in one world, and each side's calls on it.
-/
import Derived.Test.YthppnjmepeeejaaPlay
namespace Go.Proofs.Ythppnjmepeeejaa
open Go.RowKit
/-- a type of neither side -/
structure Foreign (e : TypeId) : Prop where
  a : e ≠ 80
  b : e ≠ 75
  c : e ≠ 5
  d : e ≠ 77
  ra : e ≠ 58
  rb : e ≠ 92
  rc : e ≠ 9
  rd : e ≠ 108
structure Pl (X : List (Nat × TypeId × List Value)) (w0 : World) (p d g1 e g2 n1 n2 q r s : Nat) (P : Pw) (D1 D2 : Dk) (RP : Pw) (R1 R2 : Dk) (w : World) : Prop where
  two : Two w0 p d g1 e g2 n1 n2 P D1 D2 w
  rtwo : RTwo w0 q r s n1 n2 RP R1 R2 w
  rok : RP.ok
  rk1 : R1.ok n1
  rk2 : R2.ok n2
  rows : ∀ x, x ∈ X → Row w x.1 x.2.1 x.2.2 ∧ Foreign x.2.1
section
variable {X : List (Nat × TypeId × List Value)} {w0 : World} {p d g1 e g2 n1 n2 q r s : Nat} {P : Pw} {D1 D2 : Dk} {RP : Pw} {R1 R2 : Dk} {w w' : World}
theorem Pl.swap (h : Pl X w0 p d g1 e g2 n1 n2 q r s P D1 D2 RP R1 R2 w) : Pl X w0 p e g2 d g1 n2 n1 q s r P D2 D1 RP R2 R1 w := ⟨h.two.swap, h.rtwo.swap, h.rok, h.rk2, h.rk1, h.rows⟩
theorem Pl.after (h : Pl X w0 p d g1 e g2 n1 n2 q r s P D1 D2 RP R1 R2 w) (hb : Below w.heap.size w w') : Pl X w0 p d g1 e g2 n1 n2 q r s P D1 D2 RP R1 R2 w' := ⟨h.two.after hb, h.rtwo.after hb, h.rok, h.rk1, h.rk2, fun x hx => ⟨(h.rows x hx).1.after hb, (h.rows x hx).2⟩⟩
theorem Pl.left (h : Pl X w0 p d g1 e g2 n1 n2 q r s P D1 D2 RP R1 R2 w) {P' : Pw} {D1' : Dk} (hl : ∀ v1, DiskAt w p d g1 v1 D1 → Left p d g1 v1 P' D1' w w') (pok : P'.ok) (ok : D1'.ok n1) : Pl X w0 p d g1 e g2 n1 n2 q r s P' D1' D2 RP R1 R2 w' := by
  obtain ⟨v1, v2, h1, _⟩ := h.two.dk
  obtain ⟨v', hp', hd', hf, _⟩ := hl v1 h1
  refine ⟨h.two.step hl pok ok, h.rtwo.keep h.two.pw h1 hf (fun i hi => ?_), h.rok, h.rk1, h.rk2, fun x hx => ⟨(h.rows x hx).1.fr hf (fun hm => ?_), (h.rows x hx).2⟩⟩
  · simp only [List.mem_cons, mem_ownL] at hi
    exact hi
  · obtain ⟨hr, ht⟩ := h.rows x hx
    simp only [List.mem_cons, mem_ownL] at hm
    rcases hm with e | e | e | e
    · exact hr.ne h.two.pw ht.a e
    · exact hr.ne h1.top ht.b e
    · exact hr.ne h1.bytes.row ht.c e
    · exact hr.ne_own h1.late ht.d e
theorem Pl.power (h : Pl X w0 p d g1 e g2 n1 n2 q r s P D1 D2 RP R1 R2 w) {P' : Pw} (hp : PowerAt w' p P') (pok : P'.ok) (hf : Fr [p] w w') : Pl X w0 p d g1 e g2 n1 n2 q r s P' D1 D2 RP R1 R2 w' := by
  obtain ⟨v1, v2, h1, _⟩ := h.two.dk
  refine ⟨h.two.power hp pok hf, h.rtwo.keep h.two.pw h1 hf (fun i hi => ?_), h.rok, h.rk1, h.rk2, fun x hx => ⟨(h.rows x hx).1.fr hf (fun hm => ?_), (h.rows x hx).2⟩⟩
  · simp only [List.mem_singleton] at hi
    exact Or.inl hi
  · simp only [List.mem_singleton] at hm
    exact (h.rows x hx).1.ne h.two.pw (h.rows x hx).2.a hm
theorem Pl.right (h : Pl X w0 p d g1 e g2 n1 n2 q r s P D1 D2 RP R1 R2 w) {P' : Pw} {R1' : Dk} (hl : ∀ hg hc v1, RDiskAt w q r hg hc v1 n1 R1 → RLeft q r hg v1 n1 P' R1' w w') (pok : P'.ok) (ok : R1'.ok n1) : Pl X w0 p d g1 e g2 n1 n2 q r s P D1 D2 P' R1' R2 w' := by
  obtain ⟨h1, c1, v1, h2, c2, v2, k1, k2, k3, k4, k5, k6, k7, k8⟩ := h.rtwo.dk
  obtain ⟨_, _, _, _, _, hf, _⟩ := hl h1 c1 v1 k1
  refine ⟨h.two.keep h.rtwo.pw k1 hf (fun i hi => ?_) (fun i hi => ?_), (h.rtwo.step hl).1, pok, ok, h.rk2, fun x hx => ⟨(h.rows x hx).1.fr hf (fun hm => ?_), (h.rows x hx).2⟩⟩
  · simp only [List.mem_cons, mem_ownL] at hi
    exact hi
  · simp only [List.mem_cons, mem_ownL] at hi
    rcases hi with rfl | rfl | rfl | hi
    · exact h.rtwo.q0
    · exact h.rtwo.r0
    · exact k6
    · exact k3 i hi
  · obtain ⟨hr, ht⟩ := h.rows x hx
    obtain ⟨sp, hs⟩ := k1.has
    simp only [List.mem_cons, mem_ownL] at hm
    rcases hm with e | e | e | e
    · exact hr.ne h.rtwo.pw ht.ra e
    · exact hr.ne k1.top ht.rb e
    · exact hr.ne hs ht.rc e
    · exact hr.ne_own k1.late ht.rd e
theorem rdisk_v {hg hc hg' hc' : Nat} {v v' : Value} (h : RDiskAt w q r hg hc v n1 R1) (h' : RDiskAt w q r hg' hc' v' n1 R1) : hg = hg' ∧ hc = hc' ∧ v = v' := by
  have a1 := h.top.cell (j := 3) rfl
  have a2 := h'.top.cell (j := 3) rfl
  have b1 := h.top.cell (j := 2) rfl
  have b2 := h'.top.cell (j := 2) rfl
  rw [a1] at a2
  rw [b1] at b2
  have := Option.some.inj b2
  simp only [Value.slice.injEq, Option.some.injEq, Addr.mk.injEq] at this
  exact ⟨this.1.1, this.2.2, Option.some.inj a2⟩
theorem Pl.rwrite (h : Pl X w0 p d g1 e g2 n1 n2 q r s P D1 D2 RP R1 R2 w) (a : Int) (t : ByteArray) (hfew : R1.wait.length < 1099511627776) (hacts : RP.acts < 4611686018427387904) :
    Calls Try.prog 43 #[.pointer (some ⟨r, 0, none⟩), .int .i64 a, .string t] w fun x w' => x = .returned (.int .i64 (wcode RP R1 a t)) ∧ Pl X w0 p d g1 e g2 n1 n2 q r s P D1 D2 (wpow RP R1 a t) (wdk RP R1 a t) R2 w' := by
  obtain ⟨h1, c1, v1, h2, c2, v2, k1, _⟩ := h.rtwo.dk
  refine (rwrite_all q r h1 c1 v1 RP R1 n1 a t w h.rtwo.pw h.rok k1 h.rk1 hfew).mono ?_
  rintro x w' ⟨rfl, hl⟩
  refine ⟨rfl, h.right (fun hg hc v hv => ?_) (wpow_ok h.rok R1 a t hacts) (wdk_ok h.rk1 a t hfew)⟩
  obtain ⟨rfl, rfl, rfl⟩ := rdisk_v hv k1
  exact hl
theorem Pl.rflush (h : Pl X w0 p d g1 e g2 n1 n2 q r s P D1 D2 RP R1 R2 w) (hacts : RP.acts < 4611686018427387904) :
    Calls Try.prog 44 #[.pointer (some ⟨r, 0, none⟩)] w fun x w' => x = .returned (.int .i64 (fcode RP R1)) ∧ Pl X w0 p d g1 e g2 n1 n2 q r s P D1 D2 (fpow RP R1) (fdk RP R1) R2 w' := by
  obtain ⟨h1, c1, v1, h2, c2, v2, k1, _⟩ := h.rtwo.dk
  refine (rflush_all q r h1 c1 v1 RP R1 n1 w h.rtwo.pw h.rok k1 h.rk1).mono ?_
  rintro x w' ⟨rfl, hl⟩
  refine ⟨rfl, h.right (fun hg hc v hv => ?_) (fpow_ok h.rok R1 hacts) (fdk_ok h.rk1)⟩
  obtain ⟨rfl, rfl, rfl⟩ := rdisk_v hv k1
  exact hl
theorem Pl.rkill (h : Pl X w0 p d g1 e g2 n1 n2 q r s P D1 D2 RP R1 R2 w) (hl : R1.life < 4611686018427387904) :
    Calls Try.prog 46 #[.pointer (some ⟨r, 0, none⟩)] w fun x w' => x = .returned (.tuple #[]) ∧ Pl X w0 p d g1 e g2 n1 n2 q r s P D1 D2 RP R1.killed R2 w' := by
  obtain ⟨h1, c1, v1, h2, c2, v2, k1, _⟩ := h.rtwo.dk
  refine (rkill_any q r h1 c1 v1 RP R1 n1 w h.rtwo.pw k1 h.rk1).mono ?_
  rintro x w' ⟨rfl, hl2⟩
  refine ⟨rfl, h.right (fun hg hc v hv => ?_) h.rok (Dk.killed_ok h.rk1 hl)⟩
  obtain ⟨rfl, rfl, rfl⟩ := rdisk_v hv k1
  exact hl2
theorem Pl.rreplace (h : Pl X w0 p d g1 e g2 n1 n2 q r s P D1 D2 RP R1 R2 w) (hl : R1.life < 4611686018427387904) :
    Calls Try.prog 48 #[.pointer (some ⟨r, 0, none⟩)] w fun x w' => x = .returned (.tuple #[]) ∧ Pl X w0 p d g1 e g2 n1 n2 q r s P D1 D2 RP R1.replaced R2 w' := by
  obtain ⟨h1, c1, v1, h2, c2, v2, k1, _⟩ := h.rtwo.dk
  refine (rreplace_any q r h1 c1 v1 RP R1 n1 w h.rtwo.pw k1 h.rk1).mono ?_
  rintro x w' ⟨rfl, hl2⟩
  refine ⟨rfl, h.right (fun hg hc v hv => ?_) h.rok (Dk.replaced_ok h.rk1 hl)⟩
  obtain ⟨rfl, rfl, rfl⟩ := rdisk_v hv k1
  exact hl2
theorem Pl.rread (h : Pl X w0 p d g1 e g2 n1 n2 q r s P D1 D2 RP R1 R2 w) (a : Int) :
    Calls Try.prog 42 #[.pointer (some ⟨r, 0, none⟩), .int .i64 a] w fun x w' => x = .returned (.tuple #[.string (rtext RP R1 a), .int .i64 (rdy RP R1 a)]) ∧ w = w' := by
  obtain ⟨h1, c1, v1, h2, c2, v2, k1, _⟩ := h.rtwo.dk
  exact rread_any q r h1 c1 v1 RP R1 n1 a w h.rtwo.pw k1 h.rk1
theorem Pl.rimage (h : Pl X w0 p d g1 e g2 n1 n2 q r s P D1 D2 RP R1 R2 w) :
    Calls Try.prog 33 #[.pointer (some ⟨r, 0, none⟩)] w fun x w' => x = .returned (.string R1.image) ∧ Pl X w0 p d g1 e g2 n1 n2 q r s P D1 D2 RP R1 R2 w' ∧ Below w.heap.size w w' := by
  obtain ⟨h1, c1, v1, h2, c2, v2, k1, _⟩ := h.rtwo.dk
  refine (rimage_any q r h1 c1 v1 R1 n1 w k1 h.rk1).mono ?_
  rintro x w' ⟨rfl, hb⟩
  exact ⟨rfl, h.after hb, hb⟩
theorem Pl.rrot (h : Pl X w0 p d g1 e g2 n1 n2 q r s P D1 D2 RP R1 R2 w) (a b : Int) :
    Calls Try.prog 50 #[.pointer (some ⟨r, 0, none⟩), .int .i64 a, .int .i64 b] w fun x w' => x = .returned (.int .i64 (R1.rotErr n1 a b)) ∧ Pl X w0 p d g1 e g2 n1 n2 q r s P D1 D2 RP (rotDk R1 n1 a b) R2 w' := by
  obtain ⟨h1, c1, v1, h2, c2, v2, k1, _⟩ := h.rtwo.dk
  by_cases hr : R1.rotErr n1 a b = 0
  · obtain ⟨hd, q1, q2, q3, q4⟩ := rot_bounds hr
    obtain ⟨ma, rfl⟩ : ∃ m : Nat, a = (m : Int) := ⟨a.toNat, by omega⟩
    obtain ⟨mb, rfl⟩ : ∃ m : Nat, b = (m : Int) := ⟨b.toNat, by omega⟩
    have e1 : rotDk R1 n1 ma mb = R1.rotted ma mb := by unfold rotDk; rw [if_pos hr]; rfl
    rw [e1, hr]
    refine (rrot_ok q r h1 c1 v1 RP R1 n1 ma mb w h.rtwo.pw k1 h.rk1 hd (by omega) (by omega)).mono ?_
    rintro x w' ⟨rfl, hl⟩
    refine ⟨rfl, h.right (fun hg hc v hv => ?_) h.rok (Dk.rotted_ok h.rk1 ma mb)⟩
    obtain ⟨rfl, rfl, rfl⟩ := rdisk_v hv k1
    exact hl
  · have e1 : rotDk R1 n1 a b = R1 := by unfold rotDk; rw [if_neg hr]
    rw [e1]
    refine (rrot_bad q r h1 c1 v1 RP R1 n1 a b w h.rtwo.pw k1 hr).mono ?_
    rintro x w' ⟨rfl, hl⟩
    refine ⟨rfl, h.right (fun hg hc v hv => ?_) h.rok h.rk1⟩
    obtain ⟨rfl, rfl, rfl⟩ := rdisk_v hv k1
    exact hl
theorem Pl.rlose (h : Pl X w0 p d g1 e g2 n1 n2 q r s P D1 D2 RP R1 R2 w) (ka : Option Addr) (kc : Nat) (keep : List Bool) (t : Int) (hk : ∀ hg, w0.heap.size ≤ hg → BoolsAt w hg ka keep) :
    Calls Try.prog 45 #[.pointer (some ⟨r, 0, none⟩), .slice ka keep.length kc, .int .i64 t] w fun x w' => x = .returned (.tuple #[]) ∧ Pl X w0 p d g1 e g2 n1 n2 q r s P D1 D2 RP (R1.lost keep t) R2 w' := by
  obtain ⟨h1, c1, v1, h2, c2, v2, k1, k2, k3, k4, k5, k6, _⟩ := h.rtwo.dk
  refine (rlose_any q r h1 c1 v1 RP R1 n1 ka kc keep t w h.rtwo.pw k1 h.rk1 (hk h1 k6)).mono ?_
  rintro x w' ⟨rfl, hl⟩
  refine ⟨rfl, h.right (fun hg hc v hv => ?_) h.rok (Dk.lost_ok h.rk1 keep t)⟩
  obtain ⟨rfl, rfl, rfl⟩ := rdisk_v hv k1
  exact hl
end
end Go.Proofs.Ythppnjmepeeejaa
