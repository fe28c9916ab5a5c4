/-
  The walks of a disk's other calls: New, Pending, Image, On, Cut, Kill, Rot, and Flush when it is refused.
-/
import Derived.Test.YthppnjmepeeejaaDiskFlush
namespace Go.Proofs.Ythppnjmepeeejaa
open Go.RowKit
/-- an error value: none, or a new fault with that number -/
def ErrAt (B : Nat) (w : World) (v : Value) (c : Int) : Prop := (c = 0 ∧ v = .nilIface) ∨ (c ≠ 0 ∧ ∃ b, v = .iface 81 (.pointer (some ⟨b, 0, none⟩)) ∧ B ≤ b ∧ FaultAt w b c)
theorem ErrAt.ok0 (B : Nat) (w : World) : ErrAt B w .nilIface 0 := Or.inl ⟨rfl, rfl⟩
theorem ErrAt.err {B : Nat} {w : World} {b : Nat} {c : Int} (hc : c ≠ 0) (hB : B ≤ b) (h : FaultAt w b c) : ErrAt B w (.iface 81 (.pointer (some ⟨b, 0, none⟩))) c := Or.inr ⟨hc, b, rfl, hB, h⟩
/-- a fresh disk of n sectors -/
def Dk.fresh (n : Nat) : Dk := ⟨List.replicate (64 * n) 0, [], false, 0⟩
theorem Dk.fresh_ok {n : Nat} (h1 : 1 ≤ n) (h2 : n ≤ 8192) : (Dk.fresh n).ok n := ⟨by simp [Dk.fresh], h1, h2, by simp [Dk.fresh], by simp [Dk.fresh], by simp [Dk.fresh], by simp [Dk.fresh], by simp [Dk.fresh]⟩
set_option maxRecDepth 100000 in
set_option maxHeartbeats 800000 in
theorem new_ok (p n : Nat) (w : World) (h1 : 1 ≤ n) (h2 : n ≤ 8192) :
    Calls Try.prog 20 #[.pointer (some ⟨p, 0, none⟩), .int .i64 (n : Int)] w fun e w' => ∃ d gh, e = .returned (.tuple #[.pointer (some ⟨d, 0, none⟩), .nilIface]) ∧ w.heap.size ≤ d ∧ w.heap.size ≤ gh ∧ DiskAt w' p d gh (.slice none 0 0) (Dk.fresh n) ∧ Below w.heap.size w w' := by
  obtain ⟨i0, hi, hz0, hz1, hz2⟩ := info_parts u8parts
  have hmk := fun W => run_make_bytes (P := Try.prog) 70 5 i0 Try.underlying70 hi hz0 hz1 hz2 (64 * n) (by omega) W
  rw [show ((64 * n : Nat) : Int) = (n : Int) * 64 from by omega] at hmk
  clear hi hz0 hz1 hz2
  go_enter Try.func20, Try.ntmps20
  go_wp2

  go_ret2
  refine ⟨_, w.heap.size, rfl, ?_, Nat.le_refl _, ⟨?_, ?_, World.ownsRow_nil _ _ _ _⟩, ?_⟩
  · simp
  · have := Row.new (w.alloc (.cells (bcells (List.replicate (64 * n) 0)).toArray 5)) 75 [.pointer (some ⟨p, 0, none⟩), .slice (some ⟨w.heap.size, 0, none⟩) (64 * n) (64 * n), .slice none 0 0, .bool false, .int .i64 0]
    simpa [Dk.fresh] using this
  · have h1 := Row0.new w 5 (bcells (List.replicate (64 * n) 0))
    exact h1.fr ((Fr.refl [] _).alloc _) (by simp)
  · exact ((Below.refl _ _).alloc (Nat.le_refl _) _).alloc (by simp) _
set_option maxRecDepth 100000 in
set_option maxHeartbeats 400000 in
theorem new_bad (p : Nat) (n : Int) (w : World) (h : n < 1 ∨ 8192 < n) :
    Calls Try.prog 20 #[.pointer (some ⟨p, 0, none⟩), .int .i64 n] w fun e w' => ∃ b, e = .returned (.tuple #[.pointer none, .iface 81 (.pointer (some ⟨b, 0, none⟩))]) ∧ w.heap.size ≤ b ∧ FaultAt w' b 1 ∧ Below w.heap.size w w' := by
  by_cases hneg : n < 1
  · clear h
    go_enter Try.func20, Try.ntmps20
    go_wp2_with (go_at_call 35; refine (fault_any _ _).mono ?_; rintro e w' ⟨b, rfl, hb1, hb2, hb3⟩)
    go_ret2
    exact ⟨b, rfl, hb1, hb2, hb3⟩
  · have hbig : 8192 < n := by omega
    clear h
    go_enter Try.func20, Try.ntmps20
    go_wp2_with (go_at_call 35; refine (fault_any _ _).mono ?_; rintro e w' ⟨b, rfl, hb1, hb2, hb3⟩)
    go_ret2
    exact ⟨b, rfl, hb1, hb2, hb3⟩
set_option maxHeartbeats 400000 in
theorem pending_any (p d gh : Nat) (v : Value) (D : Dk) (w : World) (h : DiskAt w p d gh v D) :
    Calls Try.prog 16 #[.pointer (some ⟨d, 0, none⟩)] w fun e w' => e = .returned (.int .i64 (D.wait.length : Int)) ∧ w = w' := by
  have c0 := h.top.cell (j := 2) rfl
  rcases h.late.2 with ⟨h1, h2⟩ | ⟨g, cap, cur, hv, _⟩
  · subst h1
    rw [h2]
    go_enter Try.func16, Try.ntmps16
    go_wp2
    go_ret
    exact ⟨rfl, rfl⟩
  · subst hv
    clear h
    go_enter Try.func16, Try.ntmps16
    go_wp2
    go_ret
    exact ⟨rfl, rfl⟩
def Dk.image (D : Dk) : ByteArray := if D.dead then ⟨#[]⟩ else ⟨D.has.toArray⟩
set_option maxHeartbeats 400000 in
theorem image_any (p d gh : Nat) (v : Value) (D : Dk) (w : World) (h : DiskAt w p d gh v D) :
    Calls Try.prog 17 #[.pointer (some ⟨d, 0, none⟩)] w fun e w' => e = .returned (.string D.image) ∧ w = w' := by
  have c1 := h.top.cell (j := 1) rfl
  have c3 := h.top.cell (j := 3) rfl
  have hconv := run_string_of_row (P := Try.prog) w 70 9 5 Try.underlying70 Try.underlying5 Try.underlying9 h.bytes.row 0 D.has.length D.has.length D.has rfl (by rw [List.drop_zero]; exact List.take_of_length_le (by simp [bcells_length]))
  clear h
  obtain ⟨has, wait, dead, life⟩ := D
  simp only at c1 c3 hconv
  cases dead
  · go_enter Try.func17, Try.ntmps17
    go_wp2
    go_ret
    exact ⟨rfl, rfl⟩
  · go_enter Try.func17, Try.ntmps17
    go_wp2
    go_ret
    exact ⟨rfl, rfl⟩
set_option maxHeartbeats 400000 in
theorem cut_any (p : Nat) (P : Pw) (w : World) (h : PowerAt w p P) :
    Calls Try.prog 51 #[.pointer (some ⟨p, 0, none⟩)] w fun e w' => e = .returned (.tuple #[]) ∧ PowerAt w' p { P with gone := true } ∧ Fr [p] w w' := by
  have c0 := h.cell (j := 0) rfl
  have r0 := h.free (j := 0) (by simp)
  have H := Lib.hid h; clear h
  go_enter Try.func51, Try.ntmps51
  go_wp2
  go_end0
  exact ⟨rfl, H.out.set 0 (.bool true), (Fr.refl _ _).setCell (Or.inl (by simp)) _⟩
set_option maxHeartbeats 400000 in
theorem on_any (p : Nat) (P : Pw) (w : World) (h : PowerAt w p P) :
    Calls Try.prog 30 #[.pointer (some ⟨p, 0, none⟩)] w fun e w' => e = .returned (.tuple #[]) ∧ PowerAt w' p { P with gone := false, fuse := -1 } ∧ Fr [p] w w' := by
  have c0 := h.cell (j := 0) rfl
  have r0 := h.free (j := 0) (by simp)
  have c1 := h.cell (j := 1) rfl
  have r1 := h.free (j := 1) (by simp)
  have H := Lib.hid h; clear h
  go_enter Try.func30, Try.ntmps30
  go_wp2
  go_end0
  exact ⟨rfl, (H.out.set 0 (.bool false)).set 1 (.int .i64 (-1)), ((Fr.refl _ _).setCell (Or.inl (by simp)) _).setCell (Or.inl (by simp)) _⟩
def Dk.killed (D : Dk) : Dk := { D with dead := true, wait := [], life := D.life + 1 }
def Dk.replaced (D : Dk) : Dk := ⟨List.replicate D.has.length 0, [], false, D.life + 1⟩
set_option maxHeartbeats 400000 in
theorem kill_any (p d gh : Nat) (v : Value) (D : Dk) (n : Nat) (w : World) (h : DiskAt w p d gh v D) (ok : D.ok n) :
    Calls Try.prog 47 #[.pointer (some ⟨d, 0, none⟩)] w fun e w' => e = .returned (.tuple #[]) ∧ DiskAt w' p d gh (.slice none 0 0) D.killed ∧ Fr [d] w w' := by
  have c2 := h.top.cell (j := 2) rfl
  have r2 := h.top.free (j := 2) (by simp)
  have c3 := h.top.cell (j := 3) rfl
  have r3 := h.top.free (j := 3) (by simp)
  have c4 := h.top.cell (j := 4) rfl
  have r4 := h.top.free (j := 4) (by simp)
  have l0 := ok.life0
  have l1 := ok.life1
  have dg := h.top.ne h.bytes.row (by decide)
  have H := Lib.hid h; clear h ok
  go_enter Try.func47, Try.ntmps47
  go_wp2
  go_end0
  have hF : Fr [d] w (((w.setCell ⟨d, 3, none⟩ (.bool true)).setCell ⟨d, 2, none⟩ (.slice none 0 0)).setCell ⟨d, 4, none⟩ (.int .i64 (D.life + 1))) := (((Fr.refl _ _).setCell (Or.inl (by simp)) _).setCell (Or.inl (by simp)) _).setCell (Or.inl (by simp)) _
  exact ⟨rfl, ⟨((H.out.top.set 3 (.bool true)).set 2 (.slice none 0 0)).set 4 (.int .i64 (D.life + 1)), H.out.bytes.fr hF (by simpa using fun e => dg e.symm), World.ownsRow_nil _ _ _ _⟩, hF⟩
set_option maxHeartbeats 400000 in
theorem flush_bad1 (p d gh : Nat) (v : Value) (P : Pw) (D : Dk) (n : Nat) (w : World) (hp : PowerAt w p P) (h : DiskAt w p d gh v D) (ok : D.ok n) (hr : rdy P D 0 ≠ 0) :
    Calls Try.prog 15 #[.pointer (some ⟨d, 0, none⟩)] w fun e w' => ∃ b, e = .returned (.iface 81 (.pointer (some ⟨b, 0, none⟩))) ∧ w.heap.size ≤ b ∧ FaultAt w' b (rdy P D 0) ∧ Below w.heap.size w w' := by
  have H := Lib.hid h
  have HP := Lib.hid hp
  have OK := Lib.hid ok
  have HR := Lib.hid hr
  clear h hp ok hr
  go_enter Try.func15, Try.ntmps15
  go_wp2_with (go_at_call 34; refine (ready_bad p d gh _ P D n _ _ HP.out H.out OK.out.len OK.out.n2 HR.out).mono ?_; rintro e w' ⟨b, rfl, hb1, hb2, hb3⟩)
  go_ret
  exact ⟨b, rfl, hb1, hb2, hb3⟩
set_option maxHeartbeats 400000 in
theorem flush_bad3 (p d gh : Nat) (v : Value) (P : Pw) (D : Dk) (n : Nat) (w : World) (hp : PowerAt w p P) (pok : P.ok) (h : DiskAt w p d gh v D) (ok : D.ok n) (hr : rdy P D 0 = 0) (hc : P.can = false) :
    Calls Try.prog 15 #[.pointer (some ⟨d, 0, none⟩)] w fun e w' => ∃ b, e = .returned (.iface 81 (.pointer (some ⟨b, 0, none⟩))) ∧ w.heap.size ≤ b ∧ FaultAt w' b 10 ∧ PowerAt w' p P.act ∧ DiskAt w' p d gh v D ∧ Fr [p] w w' := by
  have H := Lib.hid h
  have HP := Lib.hid hp
  have OK := Lib.hid ok
  have HR := Lib.hid hr
  have c0 := h.top.cell (j := 0) rfl
  clear h hp ok hr
  go_enter Try.func15, Try.ntmps15
  go_wp2_with (first | (go_at_call 34; refine (ready_ok p d gh _ P D n _ _ HP.out H.out OK.out.len OK.out.n2 HR.out).mono ?_; rintro e w' ⟨rfl, rfl⟩) | (go_at_call 36; refine (act_any p P _ HP.out pok).mono ?_; rw [hc]; rintro e w1 ⟨rfl, hp1, hf1⟩) | (go_at_call 35; refine (fault_any _ _).mono ?_; rintro e w' ⟨b, rfl, hb1, hb2, hb3⟩))
  go_ret
  have hf : Fr [p] w _ := hf1.trans (Fr.of_below (L := []) hb3) (by simp)
  exact ⟨b, rfl, Nat.le_trans hf1.size hb1, hb2, PowerAt.fr hp1 (Fr.of_below (L := []) hb3) (by simp), DiskAt.power HP.out H.out hf, hf⟩
end Go.Proofs.Ythppnjmepeeejaa
