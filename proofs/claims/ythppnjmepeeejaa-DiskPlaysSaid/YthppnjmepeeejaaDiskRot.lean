/-
  The walks of a disk's Rot and Replace.
-/
import Derived.Test.YthppnjmepeeejaaDiskMore
import Derived.Lib.SliceRun
import Derived.Laws.BitsAllLaws
namespace Go.Proofs.Ythppnjmepeeejaa
open Go.RowKit
/-- what a Rot answers -/
def Dk.rotErr (D : Dk) (n : Nat) (a b : Int) : Int := if D.dead then 11 else if a < 0 ∨ (n : Int) ≤ a ∨ b < 0 ∨ 512 ≤ b then 1 else 0
/-- a byte with one bit turned -/
def turned (u : UInt8) (k : Nat) : UInt8 := u ^^^ UInt8.ofNat (2 ^ k)
theorem turned_bits (u : UInt8) (b : Nat) : bits .xor .u8 (u.toNat : Int) (IntKind.u8.wrap (2 ^ ((b : Int) % 8).toNat)) = ((turned u (b % 8)).toNat : Int) := by
  rw [show ((b : Int) % 8).toNat = b % 8 from by omega]
  have h : b % 8 < 8 := Nat.mod_lt _ (by omega)
  generalize b % 8 = k at h
  have hw : IntKind.u8.wrap (2 ^ k) = ((2 ^ k : Nat) : Int) ∧ 2 ^ k < 256 := by
    rw [IntKind.wrap_u8]
    match k, h with
    | 0, _ | 1, _ | 2, _ | 3, _ | 4, _ | 5, _ | 6, _ | 7, _ => decide
  rw [hw.1, u8_xor_nat _ _ u.toNat_lt hw.2]
  unfold turned
  rw [UInt8.toNat_xor, UInt8.toNat_ofNat', Nat.mod_eq_of_lt hw.2]
def Dk.rotted (D : Dk) (a b : Nat) : Dk := { D with has := D.has.set (a * 64 + b / 8) (turned (D.has.getD (a * 64 + b / 8) 0) (b % 8)) }
theorem Dk.rotted_ok {D : Dk} {n : Nat} (ok : D.ok n) (a b : Nat) : (D.rotted a b).ok n := ⟨by simp [Dk.rotted, ok.len], ok.n1, ok.n2, ok.at_, ok.size, ok.few, ok.life0, ok.life1⟩
set_option maxRecDepth 100000 in
set_option maxHeartbeats 800000 in
theorem rot_ok (p d gh : Nat) (v : Value) (D : Dk) (n a b : Nat) (w : World) (h : DiskAt w p d gh v D) (ok : D.ok n) (hd : D.dead = false) (ha : a < n) (hb : b < 512) :
    Calls Try.prog 19 #[.pointer (some ⟨d, 0, none⟩), .int .i64 (a : Int), .int .i64 (b : Int)] w fun e w' => e = .returned .nilIface ∧ DiskAt w' p d gh v (D.rotted a b) ∧ Fr [gh] w w' := by
  have c3 := h.top.cell (j := 3) rfl
  rw [hd] at c3
  have H := Lib.hid h
  have OK := Lib.hid ok
  have n2 := ok.n2
  have hlt : a * 64 + b / 8 < D.has.length := by rw [ok.len]; omega
  have cb : w.cell? ⟨gh, a * 64 + b / 8, none⟩ = some (.int .u8 (D.has[a * 64 + b / 8].toNat : Int)) := h.bytes.row.cell (bcells_get _ _ hlt)
  have fb : w.frozen? ⟨gh, a * 64 + b / 8, none⟩ = false := h.bytes.row.free (by rw [bcells_length]; exact hlt)
  have HLT := Lib.hid hlt
  have hdd : DiskAt w.drew p d gh v D := h.fr (L := []) ((Fr.refl [] w).drew) (by simp) (by simp) (by simp)
  have HD := Lib.hid hdd
  clear h ok hd hdd
  go_enter Try.func19, Try.ntmps19
  go_wp2_with (first | (go_at_call 23; refine (sectors_any p d gh v D n _ H.out OK.out.len n2).mono ?_; rintro e w' ⟨rfl, rfl⟩) | (go_at_call 38; refine (sector_any p d gh v D n a _ H.out OK.out.len n2 ha).mono ?_; rintro e w' ⟨rfl, rfl⟩))
  go_still_tail 12, (by kernel_rfl)
  repeat still_step
  still_call (still_of (sector_any p d gh v D n a _ HD.out OK.out.len n2 ha))
  repeat still_step
  rw [IntWalk.i64_in ((b : Int) / 8) (by omega)]
  refine wpStill_step (fun K hK => ?_)
  go_simp
  rw [if_pos (by omega), show ((b : Int) / 8).toNat = b / 8 from by omega]
  refine ⟨rfl, hK _ ?_⟩
  clear hK K
  repeat still_step
  rw [Int.tmod_eq_emod_of_nonneg (by omega : (0 : Int) ≤ b), show ((b : Int) % 8) = ((b % 8 : Nat) : Int) from by omega]
  repeat still_step
  refine wpStill_step (fun K hK => ?_)
  go_simp
  rw [if_pos (by omega), show ((b : Int) / 8).toNat = b / 8 from by omega]
  refine ⟨rfl, hK _ ?_⟩
  clear hK K
  refine wpStill_nil ?_
  rw [turned_bits]
  change wpList _ _ _ _ _ w.drew
  go_wp2
  go_ret
  have s1 := H.out
  have hF : Fr [gh] w (w.drew.setCell ⟨gh, a * 64 + b / 8, none⟩ (.int .u8 ((turned D.has[a * 64 + b / 8] (b % 8)).toNat : Int))) := ((Fr.refl _ w).drew).setCell (Or.inl (by simp)) _
  have dg := H.out.top.ne H.out.bytes.row (by decide)
  have gv := H.out.bytes.row.ne_own H.out.late (by decide)
  have ht := H.out.top.fr hF (by simpa using dg)
  have hl := ownsRow_fr H.out.late hF (fun g hg => by
    simp only [List.mem_singleton]; rintro rfl; exact gv hg)
  have hgd : D.has.getD (a * 64 + b / 8) 0 = D.has[a * 64 + b / 8] := by rw [List.getD_eq_getElem?_getD, List.getElem?_eq_getElem HLT.out, Option.getD_some]; rfl
  refine ⟨rfl, ⟨?_, ?_, hl⟩, hF⟩
  · unfold Dk.rotted; simp only [List.length_set]; exact ht
  · unfold Dk.rotted; simp only [hgd]
    rw [← bcells_set]
    exact HD.out.bytes.set _ _
set_option maxRecDepth 100000 in
set_option maxHeartbeats 1600000 in
theorem rot_bad (p d gh : Nat) (v : Value) (D : Dk) (n : Nat) (a b : Int) (w : World) (h : DiskAt w p d gh v D) (ok : D.ok n) (hc : D.rotErr n a b ≠ 0) :
    Calls Try.prog 19 #[.pointer (some ⟨d, 0, none⟩), .int .i64 a, .int .i64 b] w fun e w' => ∃ f, e = .returned (.iface 81 (.pointer (some ⟨f, 0, none⟩))) ∧ w.heap.size ≤ f ∧ FaultAt w' f (D.rotErr n a b) ∧ Below w.heap.size w w' := by
  have c3 := h.top.cell (j := 3) rfl
  have H := Lib.hid h
  have OK := Lib.hid ok
  have n2 := ok.n2
  cases hd : D.dead
  · rw [hd] at c3
    have hcase : a < 0 ∨ (n : Int) ≤ a ∨ b < 0 ∨ 512 ≤ b := by
      by_cases e : a < 0 ∨ (n : Int) ≤ a ∨ b < 0 ∨ 512 ≤ b
      · exact e
      · exfalso; apply hc; unfold Dk.rotErr; simp [hd, e]
    have hr1 : D.rotErr n a b = 1 := by unfold Dk.rotErr; rw [hd, if_pos hcase]; rfl
    rw [hr1]
    clear h ok hc hd hr1
    by_cases h1 : a < 0
    · clear hcase
      go_enter Try.func19, Try.ntmps19
      go_wp2_with (go_at_call 35; refine (fault_any _ _).mono ?_; rintro e w' ⟨f, rfl, hb1, hb2, hb3⟩)
      go_ret
      exact ⟨f, rfl, hb1, hb2, hb3⟩
    by_cases h2 : (n : Int) ≤ a
    · clear hcase
      go_enter Try.func19, Try.ntmps19
      go_wp2_with (first | (go_at_call 23; refine (sectors_any p d gh v D n _ H.out OK.out.len n2).mono ?_; rintro e w' ⟨rfl, rfl⟩) | (go_at_call 35; refine (fault_any _ _).mono ?_; rintro e w' ⟨f, rfl, hb1, hb2, hb3⟩))
      go_ret
      exact ⟨f, rfl, hb1, hb2, hb3⟩
    by_cases h3 : b < 0
    · clear hcase
      go_enter Try.func19, Try.ntmps19
      go_wp2_with (first | (go_at_call 23; refine (sectors_any p d gh v D n _ H.out OK.out.len n2).mono ?_; rintro e w' ⟨rfl, rfl⟩) | (go_at_call 35; refine (fault_any _ _).mono ?_; rintro e w' ⟨f, rfl, hb1, hb2, hb3⟩))
      go_ret
      exact ⟨f, rfl, hb1, hb2, hb3⟩
    · have h4 : 512 ≤ b := by omega
      clear hcase
      go_enter Try.func19, Try.ntmps19
      go_wp2_with (first | (go_at_call 23; refine (sectors_any p d gh v D n _ H.out OK.out.len n2).mono ?_; rintro e w' ⟨rfl, rfl⟩) | (go_at_call 35; refine (fault_any _ _).mono ?_; rintro e w' ⟨f, rfl, hb1, hb2, hb3⟩))
      go_ret
      exact ⟨f, rfl, hb1, hb2, hb3⟩
  · rw [hd] at c3
    have hr1 : D.rotErr n a b = 11 := by unfold Dk.rotErr; simp [hd]
    rw [hr1]
    clear h ok hc hd hr1
    go_enter Try.func19, Try.ntmps19
    go_wp2_with (go_at_call 35; refine (fault_any _ _).mono ?_; rintro e w' ⟨f, rfl, hb1, hb2, hb3⟩)
    go_ret
    exact ⟨f, rfl, hb1, hb2, hb3⟩
end Go.Proofs.Ythppnjmepeeejaa
