/-
  The law DiskPlays: two disks of one power do, call by call, what the document's do.
-/
import Derived.Test.YthppnjmepeeejaaSim
import Derived.Test.YthppnjmepeeejaaKnown
import Derived.Test.YthppnjmepeeejaaDArgs
import Derived.Deep.DeepCutAuto
import Derived.Deep.RegionHeld3

import Derived.Deep.RegionWith
namespace Go.Proofs.Ythppnjmepeeejaa
open Go.RowKit
/-- the law's script, in the arguments' memory -/
def ScriptAt (w : World) (a : Option Addr) (l : List Stp) : Prop :=
  ∀ i (h : i < l.length), l[i].ok w ∧ ∃ bb o, a = some ⟨bb, o, none⟩ ∧ bb < w.heap.size ∧ ∀ j v, l[i].cells[j]? = some v → w.cell? ⟨bb, o + i * 6 + j, none⟩ = some v
/-- what has been made so far -/
structure Pre (w0 : World) (p q b nb : Nat) (N L : List Value) (DS : List (Nat × Nat × Nat)) (RS : List (Nat × Nat × Nat × Nat)) (w : World) : Prop where
  pw : PowerAt w p kP0
  rpw : RPowAt w q kP0
  top : Row w b 63 L
  nums : Row w nb 3 N
  dk : ∀ x, x ∈ DS → DiskAt w p x.1 x.2.1 (.slice none 0 0) (Dk.fresh x.2.2)
  rdk : ∀ x, x ∈ RS → RDiskAt w q x.1 x.2.1 x.2.2.1 (.slice none 0 0) x.2.2.2 (Dk.fresh x.2.2.2)
  bel : Below w0.heap.size w0 w
  b0 : w0.heap.size ≤ b
section
variable {w0 : World} {p q b nb : Nat} {N L : List Value} {DS : List (Nat × Nat × Nat)} {RS : List (Nat × Nat × Nat × Nat)} {w w' : World}
theorem Pre.after (h : Pre w0 p q b nb N L DS RS w) (hb : Below w.heap.size w w') : Pre w0 p q b nb N L DS RS w' :=
  have hf : Fr [] w w' := Fr.of_below hb
  ⟨h.pw.fr hf (by simp), Row.fr h.rpw hf (by simp), h.top.fr hf (by simp), h.nums.fr hf (by simp), fun x hx => (h.dk x hx).fr hf (by simp) (by simp) (by simp), fun x hx => (h.rdk x hx).fr hf (by simp) (by simp) (by simp), h.bel.trans (hb.mono h.bel.size), h.b0⟩
theorem Pre.disk (h : Pre w0 p q b nb N L DS RS w) (hb : Below w.heap.size w w') {d g n : Nat} (hd : DiskAt w' p d g (.slice none 0 0) (Dk.fresh n)) : Pre w0 p q b nb N L ((d, g, n) :: DS) RS w' :=
  have k := h.after hb
  ⟨k.pw, k.rpw, k.top, k.nums, fun x hx => by
    rcases List.mem_cons.1 hx with rfl | hx
    · exact hd
    · exact k.dk x hx, k.rdk, k.bel, k.b0⟩
theorem Pre.rdisk (h : Pre w0 p q b nb N L DS RS w) (hb : Below w.heap.size w w') {r g c n : Nat} (hd : RDiskAt w' q r g c (.slice none 0 0) n (Dk.fresh n)) : Pre w0 p q b nb N L DS ((r, g, c, n) :: RS) w' :=
  have k := h.after hb
  ⟨k.pw, k.rpw, k.top, k.nums, k.dk, fun x hx => by
    rcases List.mem_cons.1 hx with rfl | hx
    · exact hd
    · exact k.rdk x hx, k.bel, k.b0⟩
theorem Pre.store (h : Pre w0 p q b nb N L DS RS w) (j : Nat) (v : Value) : Pre w0 p q b nb N (L.set j v) DS RS (w.setCell ⟨b, j, none⟩ v) := by
  have hf : Fr [b] w (w.setCell ⟨b, j, none⟩ v) := (Fr.refl _ _).setCell (Or.inl (by simp)) _
  refine ⟨h.pw.fr hf ?_, Row.fr h.rpw hf ?_, h.top.set j v, h.nums.fr hf ?_, fun x hx => (h.dk x hx).fr hf ?_ ?_ (by simp [Value.ownBlock]), fun x hx => (h.rdk x hx).fr hf ?_ ?_ (by simp [Value.ownBlock]), h.bel.setCell h.b0 _, h.b0⟩
  · simp only [List.mem_singleton]; exact Row.ne h.pw h.top (by decide)
  · simp only [List.mem_singleton]; exact Row.ne h.rpw h.top (by decide)
  · simp only [List.mem_singleton]; exact Row.ne h.nums h.top (by decide)
  · simp only [List.mem_singleton]; exact Row.ne (h.dk x hx).top h.top (by decide)
  · simp only [List.mem_singleton]; exact Row.ne (h.dk x hx).bytes.row h.top (by decide)
  · simp only [List.mem_singleton]; exact Row.ne (h.rdk x hx).top h.top (by decide)
  · obtain ⟨sp, hs⟩ := (h.rdk x hx).has
    simp only [List.mem_singleton]; exact Row.ne hs h.top (by decide)
end
theorem sim_start {w0 : World} {p q b nb d g1 n1 e g2 n2 r h1 c1 s h2 c2 : Nat} {N : List Value} {w : World} (h : Pre w0 p q b nb N (worldL p d e q r s) [(e, g2, n2), (d, g1, n1)] [(s, h2, c2, n2), (r, h1, c1, n1)] w)
    (p0 : w0.heap.size ≤ p) (q0 : w0.heap.size ≤ q) (d0 : w0.heap.size ≤ d) (e0 : w0.heap.size ≤ e) (a0 : w0.heap.size ≤ g1) (b0 : w0.heap.size ≤ g2) (r0 : w0.heap.size ≤ r) (s0 : w0.heap.size ≤ s) (k0 : w0.heap.size ≤ h1) (l0 : w0.heap.size ≤ h2)
    (de : d ≠ e) (gg : g1 ≠ g2) (rs : r ≠ s) (hh : h1 ≠ h2) (m1 : 1 ≤ n1) (m2 : n1 ≤ 8192) (m3 : 1 ≤ n2) (m4 : n2 ≤ 8192) : Sim w0 p d g1 e g2 n1 n2 q r s b 0 w := by
  refine ⟨kP0, Dk.fresh n1, Dk.fresh n2, ⟨⟨h.pw, kP0_ok, ⟨.slice none 0 0, .slice none 0 0, h.dk (d, g1, n1) (by simp), h.dk (e, g2, n2) (by simp), by simp [Value.ownBlock], by simp [Value.ownBlock], by simp [Value.ownBlock]⟩, Dk.fresh_ok m1 m2, Dk.fresh_ok m3 m4, h.bel, p0, d0, e0, a0, b0, de, gg⟩,
    ⟨h.rpw, ⟨h1, c1, .slice none 0 0, h2, c2, .slice none 0 0, h.rdk (r, h1, c1, n1) (by simp), h.rdk (s, h2, c2, n2) (by simp), by simp [Value.ownBlock], by simp [Value.ownBlock], by simp [Value.ownBlock], k0, l0, hh⟩, q0, r0, s0, rs, h.bel.size⟩, kP0_ok, Dk.fresh_ok m1 m2, Dk.fresh_ok m3 m4, fun x hx => ?_⟩, by decide, by simp [Dk.fresh], by simp [Dk.fresh], by simp [Dk.fresh], by simp [Dk.fresh]⟩
  simp only [List.mem_singleton] at hx
  subst hx
  exact ⟨h.top, foreignWorld⟩
theorem Sim.after {w0 : World} {p d g1 e g2 n1 n2 q r s b B : Nat} {w w' : World} (h : Sim w0 p d g1 e g2 n1 n2 q r s b B w) (hb : Below w.heap.size w w') : Sim w0 p d g1 e g2 n1 n2 q r s b B w' := by
  obtain ⟨P, D1, D2, h, hx⟩ := h
  exact ⟨P, D1, D2, h.after hb, hx⟩
theorem Sim.bel {w0 : World} {p d g1 e g2 n1 n2 q r s b B : Nat} {w : World} (h : Sim w0 p d g1 e g2 n1 n2 q r s b B w) : Below w0.heap.size w0 w := by
  obtain ⟨P, D1, D2, h, hx⟩ := h
  exact h.two.bel
theorem pre_start (w0 w : World) (p n1 n2 : Nat) (hp : PowerAt w p kP0) (hb : Below w0.heap.size w0 w) :
    Pre w0 p w.heap.size (w.heap.size + 1) (w.heap.size + 1 + 1) [.int .i64 n1, .int .i64 n2] [.pointer (some ⟨p, 0, none⟩), .pointer none, .pointer none, .pointer (some ⟨w.heap.size, 0, none⟩), .pointer none, .pointer none] [] []
      (((w.alloc (.cells #[.bool false, .int .i64 (-1), .int .i64 0] 58)).alloc (.cells #[.pointer (some ⟨p, 0, none⟩), .pointer none, .pointer none, .pointer (some ⟨w.heap.size, 0, none⟩), .pointer none, .pointer none] 63)).alloc (.cells #[.int .i64 n1, .int .i64 n2] 3)) := by
  have hz := hb.size
  have k1 := Row.new w 58 [.bool false, .int .i64 (-1), .int .i64 0]
  have k2 := Row.new (w.alloc (.cells #[.bool false, .int .i64 (-1), .int .i64 0] 58)) 63 [.pointer (some ⟨p, 0, none⟩), .pointer none, .pointer none, .pointer (some ⟨w.heap.size, 0, none⟩), .pointer none, .pointer none]
  have k3 := Row.new ((w.alloc (.cells #[.bool false, .int .i64 (-1), .int .i64 0] 58)).alloc (.cells #[.pointer (some ⟨p, 0, none⟩), .pointer none, .pointer none, .pointer (some ⟨w.heap.size, 0, none⟩), .pointer none, .pointer none] 63)) 3 [.int .i64 n1, .int .i64 n2]
  have hs : ∀ (W : World) (o : Obj), (W.alloc o).heap.size = W.heap.size + 1 := fun W o => by simp
  simp only [hs] at k2 k3
  exact ⟨((Row.alloc hp _).alloc _).alloc _, (k1.alloc _).alloc _, k2.alloc _, k3, by simp, by simp, ((hb.alloc hz _).alloc (by simp; omega) _).alloc (by simp; omega) _, by omega⟩
set_option maxRecDepth 100000 in
set_option maxHeartbeats 3200000 in
theorem plays_walk (one two : Int) (a : Option Addr) (cap : Nat) (l : List Stp) (hl : l.length ≤ maxLen) (a0 : -9223372036854775808 ≤ one) (a1 : one ≤ 9223372036854775807) (b0 : -9223372036854775808 ≤ two) (b1 : two ≤ 9223372036854775807) (w : World) (hsc : ScriptAt w a l) :
    Calls Try.prog 8 #[.int .i64 one, .int .i64 two, .slice a l.length cap] w fun e w' => e = .returned (.bool true) ∧ Below w.heap.size w w' := by
  obtain ⟨A, ha, hla⟩ : ∃ a : Nat, pickOf one 40 = (a : Int) ∧ a < 40 := by
    have := pickOf_lt one 40 (by omega)
    exact ⟨(pickOf one 40).toNat, by omega, by omega⟩
  obtain ⟨T, ht, hlt⟩ : ∃ b : Nat, pickOf two 40 = (b : Int) ∧ b < 40 := by
    have := pickOf_lt two 40 (by omega)
    exact ⟨(pickOf two 40).toNat, by omega, by omega⟩
  obtain ⟨n1, hn1⟩ : ∃ n1, n1 = A + 1 := ⟨_, rfl⟩
  obtain ⟨n2, hn2⟩ : ∃ n2, n2 = T + 1 := ⟨_, rfl⟩
  have HA := Lib.hid ha
  have HT := Lib.hid ht
  have HN1 := Lib.hid hn1
  have HN2 := Lib.hid hn2
  have HSC := Lib.hid hsc
  unfold maxLen at hl
  have g1 : (1 : Int) ≤ n1 := by omega
  have g2 : (n1 : Int) ≤ 40 := by omega
  have g3 : (1 : Int) ≤ n2 := by omega
  have g4 : (n2 : Int) ≤ 40 := by omega
  clear ha ht hn1 hn2 hsc
  go_enter Try.func8, Try.ntmps8
  go_wp2_with (first
    | (go_at_call 9; refine (known_any _).mono ?_; rintro e w1 ⟨rfl, hb1⟩)
    | (go_at_call 21; refine (newPower_any _).mono ?_; rintro e w2 ⟨p, rfl, hp1, hp2, hp3⟩)
    | (go_at_call 18; have hx := HA.out; clear HA; refine (pick_any one 40 _ a0 a1 (by omega) (by omega)).mono ?_; rintro e w3 ⟨he, rfl⟩; rw [hx] at he; subst he; clear hx)
    | (go_at_call 18; have hx := HT.out; clear HT; refine (pick_any two 40 _ b0 b1 (by omega) (by omega)).mono ?_; rintro e w3 ⟨he, rfl⟩; rw [hx] at he; subst he; clear hx))
  have hz2 : w.heap.size ≤ w2.heap.size := by have := hb1.size; have := hp3.size; omega
  have hzp : p < w2.heap.size := Row.lt hp2
  have hpw : w.heap.size ≤ p := by have := hb1.size; omega
  rw [show (1 : Int) + (A : Int) = (n1 : Int) from by rw [HN1.out]; omega, show (1 : Int) + (T : Int) = (n2 : Int) from by rw [HN2.out]; omega]
  have S0 := Lib.hid (pre_start w w2 p n1 n2 hp2 (hb1.trans (hp3.mono hb1.size)))
  have HY := Lib.hid (show (((w2.alloc (.cells #[.bool false, .int .i64 (-1), .int .i64 0] 58)).alloc (.cells #[.pointer (some ⟨p, 0, none⟩), .pointer none, .pointer none, .pointer (some ⟨w2.heap.size, 0, none⟩), .pointer none, .pointer none] 63)).alloc (.cells #[.int .i64 n1, .int .i64 n2] 3)).heap.size = w2.heap.size + 1 + 1 + 1 by simp)
  clear hp1 hp2 hp3 hb1 HN1 HN2
  generalize (((w2.alloc (.cells #[.bool false, .int .i64 (-1), .int .i64 0] 58)).alloc (.cells #[.pointer (some ⟨p, 0, none⟩), .pointer none, .pointer none, .pointer (some ⟨w2.heap.size, 0, none⟩), .pointer none, .pointer none] 63)).alloc (.cells #[.int .i64 n1, .int .i64 n2] 3)) = w3 at *
  generalize w2.heap.size = q at *
  refine wp_loop_rounds 3 ?_
  rw [rounds_succ]
  have na0 : World.cell? w3 ⟨q + 1 + 1, 0, none⟩ = some (.int .i64 n1) := S0.out.nums.cell (j := 0) rfl
  go_upto_region 12 with (go_at_call 20; have h9 := S0.out; clear S0; refine (new_ok p n1 _ (by omega) (by omega)).mono ?_; rintro x w0a ⟨d, k1, rfl, d1, d2, d3, d4⟩; have bc : World.cell? w0a ⟨q + 1, 1, none⟩ = some (.pointer none) := (h9.disk d4 d3).top.cell (j := 1) rfl; have bf : World.frozen? w0a ⟨q + 1, 1, none⟩ = false := (h9.disk d4 d3).top.free (j := 1) (by simp); have S1 := Lib.hid (h9.disk d4 d3); have d_l := d3.top.lt; have k1_l := d3.bytes.row.lt; have z0a := d4.size; have d_g := d1; have k1_g := d2; clear d1 d2 d3 d4 h9)
  have S2 := Lib.hid (S1.out.store 1 (.pointer (some ⟨d, 0, none⟩)))
  clear S1 bc bf na0
  have HZ0 := Lib.hid (show (World.setCell w0a ⟨q + 1, 1, none⟩ (.pointer (some ⟨d, 0, none⟩))).heap.size = w0a.heap.size by simp)
  generalize World.setCell w0a ⟨q + 1, 1, none⟩ (.pointer (some ⟨d, 0, none⟩)) = w0b at *
  have n0 : World.cell? w0b ⟨q + 1 + 1, 0, none⟩ = some (.int .i64 n1) := S2.out.nums.cell (j := 0) rfl
  have c3 : World.cell? w0b ⟨q + 1, 3, none⟩ = some (.pointer (some ⟨q, 0, none⟩)) := S2.out.top.cell (j := 3) rfl
  go_region_held3 (fun w' => w'.cell? ⟨q + 1 + 1, 0, none⟩ = some (.int .i64 n1) ∧ w'.cell? ⟨q + 1, 3, none⟩ = some (.pointer (some ⟨q, 0, none⟩))) (first | exact ⟨by assumption, by assumption⟩ | exact ⟨n0, c3⟩)
    (first
    | (go_at_call 31; have h9 := S2.out.after (Below.refl _ _).drew; clear S2; refine (rnew_any q n1 _ (by omega) (by omega)).mono ?_; rintro x w0c ⟨r, h1, c1, rfl, d1, d2, d3, d4⟩; have bn : World.cell? w0c ⟨q + 1 + 1, 0, none⟩ = some (.int .i64 n1) := (h9.rdisk d4 d3).nums.cell (j := 0) rfl; have bq : World.cell? w0c ⟨q + 1, 3, none⟩ = some (.pointer (some ⟨q, 0, none⟩)) := (h9.rdisk d4 d3).top.cell (j := 3) rfl; have bc : World.cell? w0c ⟨q + 1, 4, none⟩ = some (.pointer none) := (h9.rdisk d4 d3).top.cell (j := 4) rfl; have bf : World.frozen? w0c ⟨q + 1, 4, none⟩ = false := (h9.rdisk d4 d3).top.free (j := 4) (by simp); have h8 := (h9.rdisk d4 d3).store 4 (.pointer (some ⟨r, 0, none⟩)); have bn2 : World.cell? (World.setCell w0c ⟨q + 1, 4, none⟩ (.pointer (some ⟨r, 0, none⟩))) ⟨q + 1 + 1, 0, none⟩ = some (.int .i64 n1) := h8.nums.cell (j := 0) rfl; have bq2 : World.cell? (World.setCell w0c ⟨q + 1, 4, none⟩ (.pointer (some ⟨r, 0, none⟩))) ⟨q + 1, 3, none⟩ = some (.pointer (some ⟨q, 0, none⟩)) := h8.top.cell (j := 3) rfl; have S3 := Lib.hid h8; clear h8; have r_l := d3.top.lt; have h1_l : h1 < w0c.heap.size := (by obtain ⟨sp, hs⟩ := d3.has; exact hs.lt); have z0c : w0b.heap.size ≤ w0c.heap.size := d4.size; have r_g : w0b.heap.size ≤ r := d1; have h1_g : w0b.heap.size ≤ h1 := d2; clear d1 d2 d3 d4 h9))
  go_wp2
  clear n0 c3 bn bq bc bf bn2 bq2
  have HY0 := Lib.hid (show (World.setCell w0c ⟨q + 1, 4, none⟩ (.pointer (some ⟨r, 0, none⟩))).heap.size = w0c.heap.size by simp)
  generalize World.setCell w0c ⟨q + 1, 4, none⟩ (.pointer (some ⟨r, 0, none⟩)) = w0d at *
  rw [rounds_succ]
  have na1 : World.cell? w0d ⟨q + 1 + 1, 1, none⟩ = some (.int .i64 n2) := S3.out.nums.cell (j := 1) rfl
  go_upto_region 12 with (go_at_call 20; have h9 := S3.out; clear S3; refine (new_ok p n2 _ (by omega) (by omega)).mono ?_; rintro x w1a ⟨e, k2, rfl, d1, d2, d3, d4⟩; have bc : World.cell? w1a ⟨q + 1, 2, none⟩ = some (.pointer none) := (h9.disk d4 d3).top.cell (j := 2) rfl; have bf : World.frozen? w1a ⟨q + 1, 2, none⟩ = false := (h9.disk d4 d3).top.free (j := 2) (by simp); have S4 := Lib.hid (h9.disk d4 d3); have e_l := d3.top.lt; have k2_l := d3.bytes.row.lt; have z1a := d4.size; have e_g := d1; have k2_g := d2; clear d1 d2 d3 d4 h9)
  have S5 := Lib.hid (S4.out.store 2 (.pointer (some ⟨e, 0, none⟩)))
  clear S4 bc bf na1
  have HZ1 := Lib.hid (show (World.setCell w1a ⟨q + 1, 2, none⟩ (.pointer (some ⟨e, 0, none⟩))).heap.size = w1a.heap.size by simp)
  generalize World.setCell w1a ⟨q + 1, 2, none⟩ (.pointer (some ⟨e, 0, none⟩)) = w1b at *
  have n0 : World.cell? w1b ⟨q + 1 + 1, 1, none⟩ = some (.int .i64 n2) := S5.out.nums.cell (j := 1) rfl
  have c3 : World.cell? w1b ⟨q + 1, 3, none⟩ = some (.pointer (some ⟨q, 0, none⟩)) := S5.out.top.cell (j := 3) rfl
  go_region_held3 (fun w' => w'.cell? ⟨q + 1 + 1, 1, none⟩ = some (.int .i64 n2) ∧ w'.cell? ⟨q + 1, 3, none⟩ = some (.pointer (some ⟨q, 0, none⟩))) (first | exact ⟨by assumption, by assumption⟩ | exact ⟨n0, c3⟩)
    (first
    | (go_at_call 31; have h9 := S5.out.after (Below.refl _ _).drew; clear S5; refine (rnew_any q n2 _ (by omega) (by omega)).mono ?_; rintro x w1c ⟨s, h2, c2, rfl, d1, d2, d3, d4⟩; have bn : World.cell? w1c ⟨q + 1 + 1, 1, none⟩ = some (.int .i64 n2) := (h9.rdisk d4 d3).nums.cell (j := 1) rfl; have bq : World.cell? w1c ⟨q + 1, 3, none⟩ = some (.pointer (some ⟨q, 0, none⟩)) := (h9.rdisk d4 d3).top.cell (j := 3) rfl; have bc : World.cell? w1c ⟨q + 1, 5, none⟩ = some (.pointer none) := (h9.rdisk d4 d3).top.cell (j := 5) rfl; have bf : World.frozen? w1c ⟨q + 1, 5, none⟩ = false := (h9.rdisk d4 d3).top.free (j := 5) (by simp); have h8 := (h9.rdisk d4 d3).store 5 (.pointer (some ⟨s, 0, none⟩)); have bn2 : World.cell? (World.setCell w1c ⟨q + 1, 5, none⟩ (.pointer (some ⟨s, 0, none⟩))) ⟨q + 1 + 1, 1, none⟩ = some (.int .i64 n2) := h8.nums.cell (j := 1) rfl; have bq2 : World.cell? (World.setCell w1c ⟨q + 1, 5, none⟩ (.pointer (some ⟨s, 0, none⟩))) ⟨q + 1, 3, none⟩ = some (.pointer (some ⟨q, 0, none⟩)) := h8.top.cell (j := 3) rfl; have S6 := Lib.hid h8; clear h8; have s_l := d3.top.lt; have h2_l : h2 < w1c.heap.size := (by obtain ⟨sp, hs⟩ := d3.has; exact hs.lt); have z1c : w1b.heap.size ≤ w1c.heap.size := d4.size; have s_g : w1b.heap.size ≤ s := d1; have h2_g : w1b.heap.size ≤ h2 := d2; clear d1 d2 d3 d4 h9))
  go_wp2
  clear n0 c3 bn bq bc bf bn2 bq2
  have HY1 := Lib.hid (show (World.setCell w1c ⟨q + 1, 5, none⟩ (.pointer (some ⟨s, 0, none⟩))).heap.size = w1c.heap.size by simp)
  generalize World.setCell w1c ⟨q + 1, 5, none⟩ (.pointer (some ⟨s, 0, none⟩)) = w1d at *
  rw [rounds_succ]
  have HQ := Lib.hid (sim_start (N := _) S6.out (by omega) (by have := HZ0.out; omega) (by have := HY.out; omega) (by have := HY.out; have := HZ0.out; have := HY0.out; omega) (by have := HY.out; omega) (by have := HY.out; have := HZ0.out; have := HY0.out; omega) (by have := HY.out; have := HZ0.out; omega) (by have := HY.out; have := HZ0.out; have := HY0.out; have := HZ1.out; omega) (by have := HY.out; have := HZ0.out; omega) (by have := HY.out; have := HZ0.out; have := HY0.out; have := HZ1.out; omega)
    (by have := HZ0.out; have := HY0.out; omega) (by have := HZ0.out; have := HY0.out; omega) (by have := HY0.out; have := HZ1.out; omega) (by have := HY0.out; have := HZ1.out; omega) (by omega) (by omega) (by omega) (by omega))
  go_wp2
  clear S6
  go_loopw [14] (fun i wr => ∃ k : Nat, k ≤ l.length ∧ k ≤ 200 ∧ i = .int .i64 k ∧ Sim w p d k1 e k2 n1 n2 q r s (q + 1) k wr) (fun i _ => 200 - (intOf i).toNat)
  case atStart => exact ⟨0, by omega, by omega, rfl, HQ.out⟩
  case round =>
    clear HQ
    obtain ⟨k, hk1, hk2, rfl, hsim⟩ := hrel
    have HS := Lib.hid hsim
    clear hsim
    by_cases hlt : k < l.length ∧ k < 200
    · obtain ⟨hlt1, hlt2⟩ := hlt
      obtain ⟨hok, bb, o, rfl, hbb, hcell⟩ := HSC.out k hlt1
      obtain ⟨st, hst⟩ : ∃ st, st = l[k] := ⟨_, rfl⟩
      rw [← hst] at hok hcell
      have hcc : ∀ j v, st.cells[j]? = some v → World.cell? wr ⟨bb, o + k * 6 + j, none⟩ = some v := fun j v hj => (HS.out.bel.cell (p := ⟨bb, o + k * 6 + j, none⟩) hbb).trans (hcell j v hj)
      have e0 : World.cell? wr ⟨bb, o + k * 6, none⟩ = some (.int .i64 st.kind) := hcc 0 _ rfl
      have e1 : World.cell? wr ⟨bb, o + k * 6 + 1, none⟩ = some (.int .i64 st.on) := hcc 1 _ rfl
      have e2 : World.cell? wr ⟨bb, o + k * 6 + 2, none⟩ = some (.int .i64 st.at_) := hcc 2 _ rfl
      have e3 : World.cell? wr ⟨bb, o + k * 6 + 3, none⟩ = some (.int .i64 st.num) := hcc 3 _ rfl
      have e4 : World.cell? wr ⟨bb, o + k * 6 + 4, none⟩ = some (.string st.txt) := hcc 4 _ rfl
      have e5 : World.cell? wr ⟨bb, o + k * 6 + 5, none⟩ = some (.slice st.ka st.keep.length st.kc) := hcc 5 _ rfl
      have HSTEP := Lib.hid (show Calls Try.prog 32 #[.pointer (some ⟨q + 1, 0, none⟩), .agg #[.int .i64 st.kind, .int .i64 st.on, .int .i64 st.at_, .int .i64 st.num, .string st.txt, .slice st.ka st.keep.length st.kc]] wr _ from step_any HS.out (by omega) st hok)
      clear hcc hcell hst hok HS
      go_wp2_with (go_at_call 32; have h9 := HSTEP.out; clear HSTEP; refine h9.mono ?_; rintro x w5 ⟨rfl, hx⟩; have HS2 := Lib.hid hx; clear hx h9)
      go_roundw
      case measure => simp [intOf]; omega
      case rel => exact ⟨k + 1, by omega, by omega, by go_num, HS2.out⟩
    · have hlt3 : ¬ k < l.length ∨ (k < l.length ∧ ¬ k < 200) := by omega
      clear hlt
      obtain ⟨P, D1, D2, hpl, _⟩ := HS.out
      have c4 : World.cell? wr ⟨q + 1, 4, none⟩ = some (.pointer (some ⟨r, 0, none⟩)) := hpl.fst.cell (j := 4) rfl
      have HP := Lib.hid hpl
      clear hpl HS
      rcases hlt3 with hx1 | ⟨hx1, hx2⟩
      all_goals
        go_wp2_with (first
          | (go_at_call 33; have h9 := HP.out; clear HP; refine (h9.rimage).mono ?_; rintro x w5 ⟨rfl, hx, _⟩; have c5 : World.cell? w5 ⟨q + 1, 5, none⟩ = some (.pointer (some ⟨s, 0, none⟩)) := hx.fst.cell (j := 5) rfl; have HP2 := Lib.hid hx; clear hx h9)
          | (go_at_call 33; have h9 := HP2.out; clear HP2; refine (h9.swap.rimage).mono ?_; rintro x w6 ⟨rfl, hx, _⟩; have c1 : World.cell? w6 ⟨q + 1, 1, none⟩ = some (.pointer (some ⟨d, 0, none⟩)) := hx.fst.cell (j := 1) rfl; have c2 : World.cell? w6 ⟨q + 1, 2, none⟩ = some (.pointer (some ⟨e, 0, none⟩)) := hx.fst.cell (j := 2) rfl; have HP3 := Lib.hid hx.swap; clear hx h9)
          | (go_at_call 17; have h9 := HP3.out; clear HP3; refine (h9.two.image).mono ?_; rintro x w7 ⟨rfl, rfl⟩; have HP4 := Lib.hid h9; clear h9)
          | (go_at_call 17; have h9 := HP4.out; clear HP4; refine (h9.two.swap.image).mono ?_; rintro x w8 ⟨rfl, rfl⟩; have HP5 := Lib.hid h9; clear h9))
        go_ret
        exact ⟨rfl, HP5.out.two.bel⟩
end Go.Proofs.Ythppnjmepeeejaa
