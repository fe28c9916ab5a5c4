/-
  The walk of the disk laws' known: the chapter's first example is so.
-/
import Derived.Test.YthppnjmepeeejaaDst
import Derived.Deep.RegionHeld3
namespace Go.Proofs.Ythppnjmepeeejaa
open Go.RowKit
def txA : ByteArray := ⟨#[97]⟩
def txB : ByteArray := ⟨#[98]⟩
def kD1 : Dk := { Dk.fresh 2 with wait := [] ++ [(0, secOf txA)] }
def kD2 : Dk := { kD1 with wait := kD1.wait ++ [(1, secOf txB)] }
def kD3 : Dk := kD2.lost [false, true] 3
def kP0 : Pw := ⟨false, -1, 0⟩
def kP1 : Pw := ⟨false, -1, 1⟩
def kP2 : Pw := ⟨false, -1, 2⟩
theorem kP0_ok : kP0.ok := ⟨by decide, by decide, by decide, by decide⟩
theorem St.gh_lt {w0 : World} {p d gh : Nat} {P : Pw} {n : Nat} {D : Dk} {w : World} (h : St w0 p d gh P n D w) : gh < w.heap.size := by
  obtain ⟨v, hv, _⟩ := h.dk
  exact hv.bytes.row.lt
theorem bools_new (w : World) (gh : Nat) (keep : List Bool) (T : TypeId) (h : gh < w.heap.size) : BoolsAt (w.alloc (.cells (keep.map Value.bool).toArray T)) gh (some ⟨w.heap.size, 0, none⟩) keep := by
  intro i hi
  refine ⟨w.heap.size, 0, rfl, by omega, ?_⟩
  rw [Nat.zero_add]
  exact (Row.new w T (keep.map Value.bool)).cell (by rw [List.getElem?_map, List.getElem?_eq_getElem hi]; rfl)
theorem kR1 : kD2.reads 1 = secOf txB := by kernel_rfl
def kT : ByteArray := ⟨(([97, 97, 97] : List UInt8) ++ List.replicate 61 0).toArray⟩
def kI : ByteArray := ⟨(([97, 97, 97] : List UInt8) ++ List.replicate 61 0 ++ List.replicate 64 98).toArray⟩
theorem kR2 : kD3.reads 0 = kT := by kernel_rfl
theorem kR3 : kD3.image = kI := by kernel_rfl
theorem kS : secOf ⟨#[]⟩ = ⟨(List.replicate 64 0).toArray⟩ := by kernel_rfl
theorem kB : secOf ⟨#[98]⟩ = ⟨(List.replicate 64 98).toArray⟩ := by kernel_rfl
set_option maxRecDepth 100000 in
set_option maxHeartbeats 1600000 in
theorem known_any (w : World) :
    Calls Try.prog 9 #[] w fun e w' => e = .returned (.bool true) ∧ Below w.heap.size w w' := by
  go_enter Try.func9, Try.ntmps9
  go_wp2_with (first
    | (go_at_call 21; refine (newPower_any _).mono ?_; rintro e w1 ⟨p, rfl, hp1, hp2, hp3⟩)
    | (go_at_call 20; refine (new_ok _ 2 _ (by omega) (by omega)).mono ?_; rintro e w2 ⟨d, gh, rfl, hd1, hd2, hd3, hd4⟩; have S0 := Lib.hid (St.new (w0 := w) (n := 2) hp2 kP0_ok hp1 hp3 hd3 (by omega) (by omega) hd1 hd2 hd4 rfl); clear hp1 hp2 hp3 hd1 hd2 hd3 hd4))
  go_wp2_with (first
    | (go_at_call 11; refine (lsector_any _ _ (by decide)).mono ?_; rintro e w3 ⟨rfl, hb⟩; have S1 := Lib.hid (S0.out.after hb); clear hb S0)
    | (go_at_call 12; refine (S1.out.write 0 _ rfl rfl (by omega) (secOf_size _) rfl (by decide) (by decide)).mono ?_; rintro e w4 ⟨rfl, hx⟩; have S2 := Lib.hid (show St _ p d gh kP1 2 kD1 _ from hx); clear hx S1)
    | (go_at_call 11; refine (lsector_any _ _ (by decide)).mono ?_; rintro e w3 ⟨rfl, hb⟩; have S3 := Lib.hid (S2.out.after hb); clear hb S2)
    | (go_at_call 12; refine (S3.out.write 1 _ rfl rfl (by omega) (secOf_size _) rfl (by decide) (by decide)).mono ?_; rintro e w4 ⟨rfl, hx⟩; have S4 := Lib.hid (show St _ p d gh kP2 2 kD2 _ from hx); clear hx S3)
    | (go_at_call 14; refine (S4.out.read 1 rfl rfl (by omega)).mono ?_; rintro e w5 ⟨he, hx⟩; rw [kR1] at he; subst he; have S5 := Lib.hid hx; clear hx S4)
    | (go_at_call 16; refine S5.out.pending.mono ?_; rintro e w6 ⟨he, rfl⟩; rw [show ((kD2.wait.length : Nat) : Int) = 2 from rfl] at he; subst he)
    | (go_at_call 13; refine ((S5.out.after ((Below.refl _ _).alloc (Nat.le_refl _) _)).lose (some ⟨_, 0, none⟩) 2 [false, true] 3 (bools_new _ gh [false, true] _ S5.out.gh_lt)).mono ?_; rintro e w6 ⟨rfl, hx⟩; have S6 := Lib.hid (show St _ p d gh kP2 2 kD3 _ from hx); clear hx S5)
    | (go_at_call 14; refine (S6.out.read 0 rfl rfl (by omega)).mono ?_; rintro e w7 ⟨he, hx⟩; rw [kR2] at he; subst he; have S7 := Lib.hid hx; clear hx S6))
  obtain ⟨SB, hSB⟩ : ∃ x, secOf ⟨#[98]⟩ = x := ⟨_, rfl⟩
  obtain ⟨SZ, hSZ⟩ : ∃ x, secOf ⟨#[]⟩ = x := ⟨_, rfl⟩
  obtain ⟨T, hT⟩ : ∃ x, kT = x := ⟨_, rfl⟩
  obtain ⟨I, hI⟩ : ∃ x, kI = x := ⟨_, rfl⟩
  have hSBs : secOf txB = SB := hSB
  have hz : SZ.size = 64 := by rw [← hSZ]; exact secOf_size _
  have hz2 : I.size = 128 := by rw [← hI]; rfl
  have hcat : (⟨#[97, 97, 97]⟩ : ByteArray) ++ SZ.extract 3 64 = T := by rw [← hSZ, ← hT, kS]; kernel_rfl
  have hext : I.extract 64 128 = SB := by rw [← hI, ← hSB, kB]; kernel_rfl
  rw [hSBs, hSB, hT]
  have HSB := Lib.hid hSB
  have HSZ := Lib.hid hSZ
  have HI := Lib.hid (kR3.trans hI)
  clear hSB hSZ hT hI hSBs
  have hS7 := S7.out
  clear S7
  go_region_held3 (fun w' => St w p d gh kP2 2 kD3 w') (first | assumption | exact St.after hS7 ((Below.refl _ _).drew))
    (first
    | (go_at_call 11; refine (lsector_any _ _ (by decide)).mono ?_; rintro e w8 ⟨he, hb⟩; have hS8 : St w p d gh kP2 2 kD3 w8 := St.after (by assumption) hb; (first | rw [HSB.out] at he | rw [HSZ.out] at he); subst he; clear hb)
    | (go_at_call 29; refine (acts_any p kP2 _ (St.pw (by assumption))).mono ?_; rintro e w10 ⟨rfl, rfl⟩)
    | (go_at_call 17; refine (St.image (by assumption)).mono ?_; rintro e w11 ⟨he, rfl⟩; rw [HI.out] at he; subst he))
  all_goals go_wp2
  all_goals go_ret
  all_goals exact ⟨rfl, St.bel (by assumption)⟩
end Go.Proofs.Ythppnjmepeeejaa
