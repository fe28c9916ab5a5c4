/-
  Disks in memory: what a power and a disk hold, and the walks of their small calls.
-/
import Derived.Test.YthppnjmepeeejaaProg
import Derived.Test.YthppnjmepeeejaaFrame
import Derived.WalkKit
import Derived.WalkSpells
import Derived.WalkLawsBesides
namespace Go.Proofs.Ythppnjmepeeejaa
open Go.RowKit
theorem ret_int {k : IntKind} {a b : Int} (h : a = b) : Ending.returned (.int k a) = .returned (.int k b) := by rw [h]
/-- a power: is it gone, its fuse, its acts -/
structure Pw where
  gone : Bool
  fuse : Int
  acts : Int
/-- a disk: what lasts, what is pending, is it dead, its life -/
structure Dk where
  has : List UInt8
  wait : List (Nat × ByteArray)
  dead : Bool
  life : Int
def PowerAt (w : World) (p : Nat) (P : Pw) : Prop := Row w p 80 [.bool P.gone, .int .i64 P.fuse, .int .i64 P.acts]
/-- pending writes as cells -/
def wcells : List (Nat × ByteArray) → List Value
  | [] => []
  | x :: l => .int .i64 (x.1 : Int) :: .string x.2 :: wcells l
structure DiskAt (w : World) (p d gh : Nat) (v : Value) (D : Dk) : Prop where
  top : Row w d 75 [.pointer (some ⟨p, 0, none⟩), .slice (some ⟨gh, 0, none⟩) D.has.length D.has.length, v, .bool D.dead, .int .i64 D.life]
  bytes : Row0 w gh 5 (bcells D.has)
  late : w.ownsRow 0 77 2 v D.wait.length (wcells D.wait)
/-- an error: none, or a fault with a number -/
def FaultAt (w : World) (b : Nat) (c : Int) : Prop := Row w b 84 [.int .i64 c, .int .i64 0, .nilIface]
theorem PowerAt.fr {w w' : World} {p : Nat} {P : Pw} (h : PowerAt w p P) {L : List Nat} (hf : Fr L w w') (hp : p ∉ L) : PowerAt w' p P := Row.fr h hf hp
theorem DiskAt.fr {w w' : World} {p d gh : Nat} {v : Value} {D : Dk} (h : DiskAt w p d gh v D) {L : List Nat} (hf : Fr L w w') (h1 : d ∉ L) (h2 : gh ∉ L) (h3 : ∀ g, v.ownBlock = some g → g ∉ L) : DiskAt w' p d gh v D :=
  ⟨h.top.fr hf h1, h.bytes.fr hf h2, ownsRow_fr h.late hf h3⟩

set_option maxHeartbeats 400000 in
theorem fault_any (c : Int) (w : World) :
    Calls Try.prog 35 #[.int .i64 c] w fun e w' => ∃ b, e = .returned (.iface 81 (.pointer (some ⟨b, 0, none⟩))) ∧ w.heap.size ≤ b ∧ FaultAt w' b c ∧ Below w.heap.size w w' := by
  go_enter Try.func35, Try.ntmps35
  go_wp2
  go_ret
  exact ⟨w.heap.size, rfl, Nat.le_refl _, Row.new w _ [.int .i64 c, .int .i64 0, .nilIface], (Below.refl _ _).alloc (Nat.le_refl _) _⟩
set_option maxHeartbeats 400000 in
theorem newPower_any (w : World) :
    Calls Try.prog 21 #[] w fun e w' => ∃ p, e = .returned (.pointer (some ⟨p, 0, none⟩)) ∧ w.heap.size ≤ p ∧ PowerAt w' p ⟨false, -1, 0⟩ ∧ Below w.heap.size w w' := by
  go_enter Try.func21, Try.ntmps21
  go_wp2
  go_ret
  exact ⟨w.heap.size, rfl, Nat.le_refl _, Row.new w _ [.bool false, .int .i64 (-1), .int .i64 0], (Below.refl _ _).alloc (Nat.le_refl _) _⟩
/-- can an act be done; what the power is behind the trial -/
def Pw.can (P : Pw) : Bool := P.fuse != 0
def Pw.act (P : Pw) : Pw := if P.fuse = 0 then { P with gone := true } else { P with fuse := if 0 < P.fuse then P.fuse - 1 else P.fuse, acts := P.acts + 1 }
structure Pw.ok (P : Pw) : Prop where
  f0 : -1 ≤ P.fuse
  f1 : P.fuse ≤ 9223372036854775807
  a0 : 0 ≤ P.acts
  a1 : P.acts ≤ 4611686018427387904
set_option maxHeartbeats 400000 in
theorem act_any (p : Nat) (P : Pw) (w : World) (h : PowerAt w p P) (ok : P.ok) :
    Calls Try.prog 36 #[.pointer (some ⟨p, 0, none⟩)] w fun e w' => e = .returned (.bool P.can) ∧ PowerAt w' p P.act ∧ Fr [p] w w' := by
  obtain ⟨g, f, a⟩ := P
  obtain ⟨f0, f1, a0, a1⟩ := ok
  simp only at f0 f1 a0 a1
  have c0 := h.cell (j := 0) rfl
  have c1 := h.cell (j := 1) rfl
  have c2 := h.cell (j := 2) rfl
  have r0 := h.free (j := 0) (by simp)
  have r1 := h.free (j := 1) (by simp)
  have r2 := h.free (j := 2) (by simp)
  have H := Lib.hid h; clear h
  by_cases z : f = 0
  · subst z
    go_enter Try.func36, Try.ntmps36
    go_wp2
    go_ret
    exact ⟨rfl, H.out.set 0 (.bool true), (Fr.refl _ _).setCell (Or.inl (by simp)) _⟩
  · have zb : (f == 0) = false := by simpa using z
    have Z := Lib.hid z; clear z
    by_cases hp : 0 < f
    · go_enter Try.func36, Try.ntmps36
      go_wp2
      go_ret
      refine ⟨by simp [Pw.can, Z.out], ?_, ((Fr.refl _ _).setCell (Or.inl (by simp)) _).setCell (Or.inl (by simp)) _⟩
      have := (H.out.set 1 (.int .i64 (f - 1))).set 2 (.int .i64 (a + 1))
      simpa [PowerAt, Pw.act, Z.out, hp] using this
    · go_enter Try.func36, Try.ntmps36
      go_wp2
      go_ret
      refine ⟨by simp [Pw.can, Z.out], ?_, (Fr.refl _ _).setCell (Or.inl (by simp)) _⟩
      have e : (if 0 < f then f - 1 else f) = f := if_neg (by omega)
      have := H.out.set 2 (.int .i64 (a + 1))
      simpa [PowerAt, Pw.act, Z.out, e] using this
set_option maxHeartbeats 400000 in
theorem gone_any (p : Nat) (P : Pw) (w : World) (h : PowerAt w p P) :
    Calls Try.prog 27 #[.pointer (some ⟨p, 0, none⟩)] w fun e w' => e = .returned (.bool P.gone) ∧ w = w' := by
  have c0 := h.cell (j := 0) rfl
  go_enter Try.func27, Try.ntmps27
  go_wp2
  go_ret
  exact ⟨rfl, rfl⟩
set_option maxHeartbeats 400000 in
theorem acts_any (p : Nat) (P : Pw) (w : World) (h : PowerAt w p P) :
    Calls Try.prog 29 #[.pointer (some ⟨p, 0, none⟩)] w fun e w' => e = .returned (.int .i64 P.acts) ∧ w = w' := by
  have c0 := h.cell (j := 2) rfl
  go_enter Try.func29, Try.ntmps29
  go_wp2
  go_ret
  exact ⟨rfl, rfl⟩
set_option maxHeartbeats 400000 in
theorem fuse_any (p : Nat) (P : Pw) (n : Int) (w : World) (h : PowerAt w p P) :
    Calls Try.prog 26 #[.pointer (some ⟨p, 0, none⟩), .int .i64 n] w fun e w' => e = .returned (.tuple #[]) ∧ PowerAt w' p { P with fuse := max n (-1) } ∧ Fr [p] w w' := by
  have c0 := h.cell (j := 1) rfl
  have r0 := h.free (j := 1) (by simp)
  have H := Lib.hid h; clear h
  by_cases hn : n < -1
  · go_enter Try.func26, Try.ntmps26
    go_wp2
    go_end0
    refine ⟨rfl, ?_, (Fr.refl _ _).setCell (Or.inl (by simp)) _⟩
    have := H.out.set 1 (.int .i64 (-1))
    rw [show max n (-1) = -1 from by omega]
    exact this
  · go_enter Try.func26, Try.ntmps26
    go_wp2
    go_end0
    refine ⟨rfl, ?_, (Fr.refl _ _).setCell (Or.inl (by simp)) _⟩
    have := H.out.set 1 (.int .i64 n)
    rw [show max n (-1) = n from by omega]
    exact this
set_option maxHeartbeats 400000 in
theorem dead_any (p d gh : Nat) (v : Value) (D : Dk) (w : World) (h : DiskAt w p d gh v D) :
    Calls Try.prog 24 #[.pointer (some ⟨d, 0, none⟩)] w fun e w' => e = .returned (.bool D.dead) ∧ w = w' := by
  have c0 := h.top.cell (j := 3) rfl
  go_enter Try.func24, Try.ntmps24
  go_wp2
  go_ret
  exact ⟨rfl, rfl⟩
set_option maxHeartbeats 400000 in
theorem life_any (p d gh : Nat) (v : Value) (D : Dk) (w : World) (h : DiskAt w p d gh v D) :
    Calls Try.prog 25 #[.pointer (some ⟨d, 0, none⟩)] w fun e w' => e = .returned (.int .i64 D.life) ∧ w = w' := by
  have c0 := h.top.cell (j := 4) rfl
  go_enter Try.func25, Try.ntmps25
  go_wp2
  go_ret
  exact ⟨rfl, rfl⟩
set_option maxHeartbeats 400000 in
theorem sectors_any (p d gh : Nat) (v : Value) (D : Dk) (n : Nat) (w : World) (h : DiskAt w p d gh v D) (hn : D.has.length = 64 * n) (hn2 : n ≤ 8192) :
    Calls Try.prog 23 #[.pointer (some ⟨d, 0, none⟩)] w fun e w' => e = .returned (.int .i64 n) ∧ w = w' := by
  have c0 := h.top.cell (j := 1) rfl
  rw [hn] at c0
  clear h hn
  go_enter Try.func23, Try.ntmps23
  go_wp2
  go_ret
  exact ⟨ret_int (by omega), rfl⟩
/-- what a disk answers first, before it does anything at a sector: 0: nothing -/
def rdy (P : Pw) (D : Dk) (at_ : Int) : Int := if P.gone then 10 else if D.dead then 11 else if at_ < 0 ∨ (D.has.length / 64 : Nat) ≤ at_ then 1 else 0
theorem rdy_live {P : Pw} {D : Dk} {a : Int} {n : Nat} (hg : P.gone = false) (hd : D.dead = false) (hn : D.has.length = 64 * n) : rdy P D a = if a < 0 ∨ (n : Int) ≤ a then 1 else 0 := by
  unfold rdy; rw [hg, hd, hn, Nat.mul_div_cancel_left _ (by omega)]; simp
set_option maxHeartbeats 400000 in
theorem ready_ok (p d gh : Nat) (v : Value) (P : Pw) (D : Dk) (n : Nat) (a : Int) (w : World) (hp : PowerAt w p P) (h : DiskAt w p d gh v D) (hn : D.has.length = 64 * n) (hn2 : n ≤ 8192) (hr : rdy P D a = 0) :
    Calls Try.prog 34 #[.pointer (some ⟨d, 0, none⟩), .int .i64 a] w fun e w' => e = .returned .nilIface ∧ w = w' := by
  have c0 := h.top.cell (j := 0) rfl
  have c3 := h.top.cell (j := 3) rfl
  have d0 := hp.cell (j := 0) rfl
  have hg : P.gone = false := by unfold rdy at hr; cases hgg : P.gone <;> simp [hgg] at hr ⊢
  have hd : D.dead = false := by unfold rdy at hr; rw [hg] at hr; cases hdd : D.dead <;> simp [hdd] at hr ⊢
  have hb : 0 ≤ a ∧ a < n := by
    rw [rdy_live hg hd hn] at hr
    by_cases e : a < 0 ∨ (n : Int) ≤ a
    · rw [if_pos e] at hr; omega
    · omega
  obtain ⟨b0, b1⟩ := hb
  rw [hg] at d0
  rw [hd] at c3
  have H := Lib.hid h
  have HN := Lib.hid hn
  clear h hn hr hg hd hp
  go_enter Try.func34, Try.ntmps34
  go_wp2_with (go_at_call 23; refine (sectors_any p d gh v D n _ H.out HN.out hn2).mono ?_; rintro e w' ⟨rfl, rfl⟩)
  go_ret
  exact ⟨rfl, rfl⟩
theorem rdy_cases (P : Pw) (D : Dk) (a : Int) : rdy P D a = 0 ∨ rdy P D a = 10 ∨ rdy P D a = 11 ∨ rdy P D a = 1 := by
  unfold rdy; split
  · simp
  · split
    · simp
    · split <;> simp
set_option maxHeartbeats 800000 in
theorem ready_bad (p d gh : Nat) (v : Value) (P : Pw) (D : Dk) (n : Nat) (a : Int) (w : World) (hp : PowerAt w p P) (h : DiskAt w p d gh v D) (hn : D.has.length = 64 * n) (hn2 : n ≤ 8192) (hr : rdy P D a ≠ 0) :
    Calls Try.prog 34 #[.pointer (some ⟨d, 0, none⟩), .int .i64 a] w fun e w' => ∃ b, e = .returned (.iface 81 (.pointer (some ⟨b, 0, none⟩))) ∧ w.heap.size ≤ b ∧ FaultAt w' b (rdy P D a) ∧ Below w.heap.size w w' := by
  have c0 := h.top.cell (j := 0) rfl
  have c3 := h.top.cell (j := 3) rfl
  have d0 := hp.cell (j := 0) rfl
  have H := Lib.hid h
  have HN := Lib.hid hn
  cases hg : P.gone
  · rw [hg] at d0
    cases hd : D.dead
    · rw [hd] at c3
      have hb : a < 0 ∨ (n : Int) ≤ a := by
        by_cases e : a < 0 ∨ (n : Int) ≤ a
        · exact e
        · exfalso; apply hr
          rw [rdy_live hg hd hn, if_neg e]
      have hr1 : rdy P D a = 1 := by rw [rdy_live hg hd hn, if_pos hb]
      rw [hr1]
      clear h hn hr hg hd hp hr1
      by_cases hneg : a < 0
      · go_enter Try.func34, Try.ntmps34
        go_wp2_with (go_at_call 35; refine (fault_any _ _).mono ?_; rintro e w' ⟨b, rfl, hb1, hb2, hb3⟩)
        go_ret
        exact ⟨b, rfl, hb1, hb2, hb3⟩
      · have hge : (n : Int) ≤ a := by omega
        clear hb
        go_enter Try.func34, Try.ntmps34
        go_wp2_with (first | (go_at_call 23; refine (sectors_any p d gh v D n _ H.out HN.out hn2).mono ?_; rintro e w' ⟨rfl, rfl⟩) | (go_at_call 35; refine (fault_any _ _).mono ?_; rintro e w' ⟨b, rfl, hb1, hb2, hb3⟩))
        go_ret
        exact ⟨b, rfl, hb1, hb2, hb3⟩
    · rw [hd] at c3
      have hr1 : rdy P D a = 11 := by unfold rdy; simp [hg, hd]
      rw [hr1]
      clear h hn hr hg hd hp hr1
      go_enter Try.func34, Try.ntmps34
      go_wp2_with (go_at_call 35; refine (fault_any _ _).mono ?_; rintro e w' ⟨b, rfl, hb1, hb2, hb3⟩)
      go_ret
      exact ⟨b, rfl, hb1, hb2, hb3⟩
  · rw [hg] at d0
    have hr1 : rdy P D a = 10 := by unfold rdy; simp [hg]
    rw [hr1]
    clear h hn hr hg hp hr1
    go_enter Try.func34, Try.ntmps34
    go_wp2_with (go_at_call 35; refine (fault_any _ _).mono ?_; rintro e w' ⟨b, rfl, hb1, hb2, hb3⟩)
    go_ret
    exact ⟨b, rfl, hb1, hb2, hb3⟩
set_option maxHeartbeats 400000 in
/-- what lasts of one sector -/
theorem sector_any (p d gh : Nat) (v : Value) (D : Dk) (n : Nat) (a : Nat) (w : World) (h : DiskAt w p d gh v D) (hn : D.has.length = 64 * n) (hn2 : n ≤ 8192) (ha : a < n) :
    Calls Try.prog 38 #[.pointer (some ⟨d, 0, none⟩), .int .i64 a] w fun e w' => e = .returned (.slice (some ⟨gh, a * 64, none⟩) 64 (64 * n - a * 64)) ∧ w = w' := by
  have c0 := h.top.cell (j := 1) rfl
  rw [hn] at c0
  clear h hn
  go_enter Try.func38, Try.ntmps38
  go_wp2
  go_ret
  refine ⟨?_, rfl⟩
  show Ending.returned (.slice (some ⟨gh, a * 64, none⟩) ((a + 1) * 64 - a * 64) (64 * n - a * 64)) = _
  rw [show (a + 1) * 64 - a * 64 = 64 from by omega]
end Go.Proofs.Ythppnjmepeeejaa
