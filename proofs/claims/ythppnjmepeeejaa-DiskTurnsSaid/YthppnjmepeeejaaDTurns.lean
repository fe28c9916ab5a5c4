/-
  The walk of the law DiskTurns.
-/
import Derived.Test.YthppnjmepeeejaaKnown
import Derived.Deep.QuietTactic
import Derived.BigQuiet
namespace Go.Proofs.Ythppnjmepeeejaa
open Go.RowKit
theorem turned_turned (u : UInt8) (k : Nat) : turned (turned u k) k = u := by
  unfold turned
  rw [UInt8.xor_assoc, UInt8.xor_self, UInt8.xor_zero]
theorem bits_xor_u8 (u v : UInt8) : bits .xor .u8 (u.toNat : Int) (v.toNat : Int) = ((u ^^^ v).toNat : Int) := by
  rw [u8_xor_nat _ _ u.toNat_lt v.toNat_lt, UInt8.toNat_xor]
theorem xor_turned (u : UInt8) (b : Nat) : bits .xor .u8 (u.toNat : Int) ((turned u (b % 8)).toNat : Int) = IntKind.u8.wrap (2 ^ ((b : Int) % 8).toNat) := by
  have h : b % 8 < 8 := Nat.mod_lt _ (by omega)
  rw [bits_xor_u8, show ((b : Int) % 8).toNat = b % 8 from by omega]
  unfold turned
  rw [← UInt8.xor_assoc, UInt8.xor_self, UInt8.zero_xor]
  generalize b % 8 = k at h
  match k, h with
  | 0, _ | 1, _ | 2, _ | 3, _ | 4, _ | 5, _ | 6, _ | 7, _ => decide
/-- what an image and the image with a bit turned say of each other -/
structure Turns (I0 I1 : ByteArray) (a b : Nat) : Prop where
  z0 : I0.size = 512
  z1 : I1.size = 512
  hit : ∀ i (h0 : i < I0.size) (h1 : i < I1.size), i = 64 * a + b / 8 → bits .xor .u8 (I0[i].toNat : Int) (I1[i].toNat : Int) = IntKind.u8.wrap (2 ^ ((b : Int) % 8).toNat)
  miss : ∀ i (h0 : i < I0.size) (h1 : i < I1.size), i ≠ 64 * a + b / 8 → bits .xor .u8 (I0[i].toNat : Int) (I1[i].toNat : Int) = 0
theorem get_mk (l : List UInt8) (i : Nat) (h : i < (⟨l.toArray⟩ : ByteArray).size) : (⟨l.toArray⟩ : ByteArray)[i] = l[i]'(by simpa [ByteArray.size] using h) := rfl
theorem turns_of (D : Dk) (a b : Nat) (hd : D.dead = false) (hl : D.has.length = 512) (ha : a < 8) (hb : b < 512) : Turns D.image (D.rotted a b).image a b ∧ ((D.rotted a b).rotted a b).image = D.image := by
  have hj : a * 64 + b / 8 < D.has.length := by omega
  have e0 : D.image = ⟨D.has.toArray⟩ := by unfold Dk.image; rw [hd]; rfl
  have e1 : (D.rotted a b).image = ⟨(D.has.set (a * 64 + b / 8) (turned D.has[a * 64 + b / 8] (b % 8))).toArray⟩ := by
    unfold Dk.image Dk.rotted
    simp only [hd, List.getD_eq_getElem?_getD, List.getElem?_eq_getElem hj, Option.getD_some]
    rfl
  have e2 : ((D.rotted a b).rotted a b).image = ⟨D.has.toArray⟩ := by
    unfold Dk.image Dk.rotted
    simp only [hd, List.getD_eq_getElem?_getD, List.getElem?_eq_getElem hj, Option.getD_some, List.set_set, List.getElem?_set_self hj, turned_turned, List.set_getElem_self]
    rfl
  refine ⟨?_, by rw [e2, e0]⟩
  rw [e0, e1]
  refine ⟨by simpa [ByteArray.size] using hl, by simpa [ByteArray.size] using hl, ?_, ?_⟩
  · intro i h0 h1 hi
    rw [get_mk, get_mk]
    have : i = a * 64 + b / 8 := by omega
    subst this
    rw [List.getElem_set_self]
    exact xor_turned _ b
  · intro i h0 h1 hi
    rw [get_mk, get_mk, List.getElem_set_ne (by omega), bits_xor_u8, UInt8.xor_self]
    rfl
theorem St.flushE {w0 : World} {p d gh : Nat} {P : Pw} {n : Nat} {D : Dk} {w : World} (h : St w0 p d gh P n D w) (hg : P.gone = false) (hd : D.dead = false) (hc : P.can = true) (hacts : P.acts < 4611686018427387904) :
    Calls Try.prog 15 #[.pointer (some ⟨d, 0, none⟩)] w fun e w' => ∃ D' : Dk, e = .returned .nilIface ∧ D'.dead = false ∧ St w0 p d gh P.act n D' w' := by
  refine (h.flush hg hd hc hacts).mono ?_
  rintro e w' ⟨rfl, hx⟩
  exact ⟨D.flushed, rfl, hd, hx⟩
set_option maxRecDepth 100000 in
set_option maxHeartbeats 1600000 in
theorem turns_walk (text : ByteArray) (at_ bit : Int) (hs : text.size ≤ maxLen) (a0 : -9223372036854775808 ≤ at_) (a1 : at_ ≤ 9223372036854775807) (b0 : -9223372036854775808 ≤ bit) (b1 : bit ≤ 9223372036854775807) (w : World) :
    Calls Try.prog 5 #[.string text, .int .i64 at_, .int .i64 bit] w fun e w' => e = .returned (.bool true) ∧ Below w.heap.size w w' := by
  obtain ⟨a, ha, hla⟩ : ∃ a : Nat, pickOf at_ 8 = (a : Int) ∧ a < 8 := by
    have := pickOf_lt at_ 8 (by omega)
    exact ⟨(pickOf at_ 8).toNat, by omega, by omega⟩
  obtain ⟨b, hb, hlb⟩ : ∃ b : Nat, pickOf bit 512 = (b : Int) ∧ b < 512 := by
    have := pickOf_lt bit 512 (by omega)
    exact ⟨(pickOf bit 512).toNat, by omega, by omega⟩
  have HA := Lib.hid ha
  have HB := Lib.hid hb
  clear ha hb
  go_enter Try.func5, Try.ntmps5
  go_wp2_with (first
    | (go_at_call 9; refine (known_any _).mono ?_; rintro e w1 ⟨rfl, hb1⟩)
    | (go_at_call 10; refine (rack_any _).mono ?_; rintro e w2 ⟨p, d, gh, rfl, hp1, hp2, hp3, hp4, hp5, hp6⟩; have S0 := Lib.hid (show St w1 p d gh kP0 8 (Dk.fresh 8) w2 from ⟨hp4, kP0_ok, ⟨_, hp5, by simp [Value.ownBlock]⟩, Dk.fresh_ok (by omega) (by omega), hp6, hp1, hp2, hp3⟩); clear hp1 hp2 hp3 hp4 hp5 hp6)
    | (go_at_call 18; have hx := HA.out; clear HA; refine (pick_any at_ 8 _ a0 a1 (by omega) (by omega)).mono ?_; rintro e w3 ⟨he, rfl⟩; rw [hx] at he; subst he; clear hx)
    | (go_at_call 18; have hx := HB.out; clear HB; refine (pick_any bit 512 _ b0 b1 (by omega) (by omega)).mono ?_; rintro e w3 ⟨he, rfl⟩; rw [hx] at he; subst he; clear hx)
    | (go_at_call 11; refine (lsector_any _ _ hs).mono ?_; rintro e w4 ⟨rfl, hb⟩; have S1 := Lib.hid (S0.out.after hb); clear hb S0)
    | (go_at_call 12; refine (S1.out.write a _ rfl rfl hla (secOf_size _) rfl (by decide) (by decide)).mono ?_; rintro e w5 ⟨rfl, hx⟩; have S2 := Lib.hid hx; clear hx S1)
    | (go_at_call 15; refine (S2.out.flushE rfl rfl rfl (by decide)).mono ?_; rintro e w6 ⟨D, rfl, hdd, hx⟩; have ht := turns_of D a b hdd (hx.ok.len) hla hlb; obtain ⟨I0, hI0⟩ : ∃ x, D.image = x := ⟨_, rfl⟩; obtain ⟨I1, hI1⟩ : ∃ x, (D.rotted a b).image = x := ⟨_, rfl⟩; rw [hI0, hI1] at ht; have z0 := ht.1.z0; have z1 := ht.1.z1; have HT := Lib.hid ht; have E0 := Lib.hid hI0; have E1 := Lib.hid hI1; clear ht hI0 hI1; have HDD := Lib.hid hdd; have S3 := Lib.hid hx; clear hx S2 hdd)
    | (go_at_call 17; have h9 := S3.out; have T3 := S3; clear S3; refine h9.image.mono ?_; rintro e w7 ⟨he, rfl⟩; rw [E0.out] at he; subst he; clear h9)
    | (go_at_call 19; have h9 := T3.out; clear T3; refine (h9.rot a b HDD.out hla hlb).mono ?_; rintro e w8 ⟨rfl, hx⟩; have S4 := Lib.hid hx; clear hx h9)
    | (go_at_call 17; have h9 := S4.out; have T4 := S4; clear S4; refine h9.image.mono ?_; rintro e w9 ⟨he, rfl⟩; rw [E1.out] at he; subst he; clear h9)
    | (go_at_call 19; have h9 := T4.out; clear T4; refine (h9.rot a b HDD.out hla hlb).mono ?_; rintro e w10 ⟨rfl, hx⟩; have S5 := Lib.hid hx; clear hx h9)
    | (go_at_call 17; have h9 := S5.out; refine h9.image.mono ?_; rintro e w11 ⟨he, rfl⟩; rw [HT.out.2] at he; subst he; clear h9))
  have hbx := S5.out.bel
  have HBX := Lib.hid (hb1.trans (hbx.mono hb1.size))
  clear hbx hb1
  go_loopw [16] (fun i wr => ∃ k : Nat, k ≤ 512 ∧ i = .int .i64 k ∧ Below w.heap.size w wr) (fun i _ => 512 - (intOf i).toNat)
  case atStart => exact ⟨0, by omega, rfl, HBX.out⟩
  case round =>
    obtain ⟨k, hk, rfl, hbr⟩ := hrel
    have HBR := Lib.hid hbr
    clear hbr
    by_cases hlt : k < 512
    · have g0 : (k : Int) < (I0.size : Int) := by omega
      have g1 : (k : Int) < (I1.size : Int) := by omega
      have q0 : k < I0.size := by omega
      have q1 : k < I1.size := by omega
      have hdn : ∀ nq, Below w.heap.size w (wr.drewN nq) := fun nq => ⟨HBR.out.os, HBR.out.tape, HBR.out.output, HBR.out.size, HBR.out.block⟩
      have HDN := Lib.hid hdn
      clear hdn
      by_cases hit : k = 64 * a + b / 8
      · have hx := HT.out.1.hit k q0 q1 hit
        have hbk : ((k : Int) == 64 * (a : Int) + (b : Int) / 8) = true := by rw [beq_iff_eq]; omega
        have HIT := Lib.hid hit
        clear hit
        go_wp2_with fail
        go_quiet (fail)
        go_wp2
        all_goals have hit := HIT.out
        all_goals first
          | (exfalso; omega)
          | exact ⟨⟨k + 1, by omega, ret_num (by omega), HDN.out _⟩, by simp [intOf]; omega⟩
      · have hx := HT.out.1.miss k q0 q1 hit
        have hbk : ((k : Int) == 64 * (a : Int) + (b : Int) / 8) = false := by rw [beq_eq_false_iff_ne]; omega
        have HIT := Lib.hid hit
        clear hit
        go_wp2_with fail
        go_quiet (fail)
        go_wp2
        all_goals have hit := HIT.out
        all_goals first
          | exact ⟨⟨k + 1, by omega, ret_num (by omega), HDN.out _⟩, by simp [intOf]; omega⟩
          | (exfalso; omega)
    · go_wp2
      go_ret
      exact ⟨rfl, HBR.out⟩
end Go.Proofs.Ythppnjmepeeejaa
