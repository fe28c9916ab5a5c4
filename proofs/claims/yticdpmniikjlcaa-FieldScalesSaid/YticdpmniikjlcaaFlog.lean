/-
  The walks of the field's powers and Log.
-/
import Derived.Test.YticdpmniikjlcaaFw
import Derived.Test.YticdpmniikjlcaaLaws
import Derived.Laws.CopyOwn
namespace Go.Proofs.Yticdpmniikjlcaa
open Go.RowKit
noncomputable def powArr : Nat → Array Value
  | 0 => Try.zeroCells102
  | k + 1 => (powArr k).setIfInBounds k (.int .u8 (nv (ex k)))
theorem zc102 : Try.zeroCells102.size = 510 := by kernel_rfl
theorem powArr_size (k : Nat) : (powArr k).size = 510 := by
  induction k with
  | zero => exact zc102
  | succ k ih => simp [powArr, ih]
theorem ex_zero : ex 0 = 1#8 := rfl
theorem powArr_zero : powArr 0 = Try.zeroCells102 := rfl
theorem ex_succ (k : Nat) : xt (ex k) = ex (k + 1) := by
  rw [ex, ex, Nat.add_comm k 1, xts_add]; rfl
attribute [irreducible] powArr
attribute [local irreducible] ex xts
theorem info102 : (Try.prog.info? 102).map (·.size) = some 510 := by kernel_rfl
theorem one102 : Try.zeroCells102.all (·.oneCell') = true := by kernel_rfl
theorem powArr_one (k : Nat) : (powArr k).all (·.oneCell') = true := by
  induction k with
  | zero => rw [powArr_zero]; exact one102
  | succ k ih =>
    rw [Array.all_eq_true] at ih ⊢
    intro i hi
    have hi' : i < (powArr k).size := by have := powArr_size k; have := powArr_size (k + 1); omega
    unfold powArr
    rw [Array.getElem_setIfInBounds]
    split
    · rfl
    · exact ih i hi'
set_option maxRecDepth 100000 in
set_option maxHeartbeats 400000 in
theorem powers_any (w : World) :
    Calls Try.prog 75 #[] w fun e w' => e = .returned (.agg (powArr 510)) ∧ Below w.heap.size w w' := by
  have hinfo : (Try.prog.info? 102).map (·.size) = some (powArr 510).size := by rw [powArr_size]; exact info102
  have hone := powArr_one 510
  have HI := Lib.hid hinfo
  have HO := Lib.hid hone
  clear hinfo hone
  go_enter Try.func75, Try.ntmps75
  go_wp2
  go_loopw [1, 3] (fun x i wr => ∃ k : Nat, k ≤ 510 ∧ x = .int .u8 (nv (ex k)) ∧ i = .int .i64 k ∧ wr.heap[w.heap.size]? = some (.cells (powArr k) 102 (0, 0)) ∧ Below w.heap.size w wr) (fun _ i _ => 510 - (intOf i).toNat)
  case atStart => exact ⟨0, by omega, by rw [ex_zero, nv_one], rfl, by rw [powArr_zero]; exact heap_alloc_new _ _, (Below.refl _ _).alloc (Nat.le_refl _) _⟩
  case round =>
    obtain ⟨k, hk, rfl, rfl, hb, hnx⟩ := hrel
    have HB := Lib.hid hb
    have hfro := frozen_of_row wr w.heap.size k (powArr k) 102 hb
    have ha := nv_lo (ex k)
    have ha' := nv_hi (ex k)
    clear hb
    by_cases hlt : k < 510
    · have hcell : ∃ v, wr.cell? ⟨w.heap.size, k, none⟩ = some v := by
        rw [cell_of_row wr _ k _ _ _ HB.out]
        have := powArr_size k
        exact ⟨(powArr k)[k]'(by omega), by simp⟩
      obtain ⟨v, hcell⟩ := hcell
      go_wp2_with (go_at_call 76; refine (twice_any _ (by omega) (by omega) _).mono ?_; rintro e w' ⟨rfl, rfl⟩)
      go_roundw
      case measure => simp [intOf]; omega
      case rel => exact ⟨k + 1, by omega, by rw [bv_nv, ex_succ], by go_num, by unfold powArr; exact heap_setCell_same wr _ _ _ _ _ HB.out, hnx.setCell (Nat.le_refl _) _⟩
    · obtain rfl : k = 510 := by omega
      go_wp2_with (first | (refine wpList_load_row rfl 102 _ rfl w.heap.size rfl 102 (powArr 510) (0, 0) _ HB.out Try.underlying102 rfl HI.out ?_) | (refine wpList_store_row rfl 102 _ _ rfl w.heap.size (powArr 510) rfl rfl 102 (powArr 510) HB.out HI.out rfl HO.out ?_))
      refine bodyPost_ret (v := .agg (powArr 510)) (results_cell_row rfl _ _ w.heap.size 102 (powArr 510) (0, 0) _ rfl (setRow_heap wr _ _ _ _ _ HB.out) Try.underlying102 rfl HI.out) rfl ⟨rfl, ?_⟩
      exact below_setRow hnx (Nat.le_refl _) _
theorem powArr_get (k j : Nat) (h : j < k) (hk : k ≤ 510) : (powArr k)[j]? = some (.int .u8 (nv (ex j))) := by
  induction k with
  | zero => omega
  | succ k ih =>
    have hs := powArr_size k
    unfold powArr
    rw [Array.getElem?_setIfInBounds]
    by_cases e : k = j
    · subst e; simp [hs]; omega
    · rw [if_neg e]; exact ih (by omega) (by omega)
theorem info5s : (Try.prog.info? 5).isSome = true := by kernel_rfl
theorem info5 : ∃ i0, Try.prog.info? 5 = some i0 := Option.isSome_iff_exists.1 info5s
theorem cells5 : Try.prog.cellsOf 5 = 1 := by kernel_rfl
theorem plain5 : Try.prog.plainKey 5 = true := by kernel_rfl
/-- the log, 0 of 0 -/
def lgi (a : BitVec 8) : Nat := if a = 0#8 then 0 else lg a
theorem lgi_lt (a : BitVec 8) : lgi a < 255 := by
  unfold lgi; split
  · omega
  · exact lg_lt a ‹_›
set_option maxRecDepth 100000 in
set_option maxHeartbeats 400000 in
theorem log_any (a : Int) (h0 : 0 ≤ a) (h1 : a < 256) (w : World) :
    Calls Try.prog 24 #[.int .u8 a] w fun e w' => e = .returned (.tuple #[.int .i64 (lgi (bv a) : Nat), .bool (bv a != 0#8)]) ∧ Below w.heap.size w w' := by
  obtain ⟨A, rfl⟩ : ∃ A, a = nv A := ⟨bv a, (nv_bv h0 h1).symm⟩
  rw [bv_nv]
  obtain ⟨i0, hi0⟩ := info5
  have HI := Lib.hid hi0; clear hi0
  go_enter Try.func24, Try.ntmps24
  go_wp2_with (go_at_call 75; refine (powers_any _).mono ?_; rintro e w' ⟨rfl, hb⟩)
  have HB := Lib.hid hb; clear hb
  go_loop [7] (fun i => ∃ k : Nat, k ≤ 510 ∧ i = .int .i64 k ∧ ∀ j, j < k → ex j ≠ A) (fun i => 510 - (intOf i).toNat)
  case atStart => exact ⟨0, by omega, rfl, fun j hj => by omega⟩
  case round =>
    obtain ⟨k, hk, rfl, hall⟩ := hrel
    have HL := Lib.hid hall; clear hall
    by_cases hlt : k < 510
    · have hidx : ∀ W : World, (Instr.index 102 (.agg (powArr 510)) (.int .i64 k)).run Try.prog W = .ok (.int .u8 (nv (ex k))) W := fun W =>
        run_index_agg W _ _ 510 _ _ _ _ i0 Try.underlying102 plain5 HI.out cells5 (by omega) (by omega) (by rw [Int.toNat_natCast]; exact powArr_get 510 k hlt (by omega))
      by_cases he : ex k = A
      · have ht : (nv (ex k) == nv A) = true := by rw [he]; simp
        have HE := Lib.hid he; clear he
        go_wp2
        go_ret2
        have hz : A ≠ 0#8 := by rw [← HE.out]; exact ex_ne k
        have hk2 : lgi A = k := by
          unfold lgi; rw [if_neg hz]
          by_cases h255 : k < 255
          · rw [← HE.out, lg_ex]; omega
          · exact absurd (ex_lg A hz) (HL.out _ (by have := lg_lt A hz; omega))
        exact ⟨by rw [hk2]; simp [hz], HB.out⟩
      · have ht : (nv (ex k) == nv A) = false := by rw [nv_beq]; simpa using he
        have HE := Lib.hid he; clear he
        go_wp2
        go_round
        case measure => simp [intOf]; omega
        case rel => exact ⟨k + 1, by omega, by go_num, fun j hj => by
          by_cases e : j = k
          · rw [e]; exact HE.out
          · exact HL.out j (by omega)⟩
    · go_wp2
      go_ret2
      have hz : A = 0#8 := by
        by_cases hz : A = 0#8
        · exact hz
        · exact absurd (ex_lg A hz) (HL.out _ (by have := lg_lt A hz; omega))
      exact ⟨by rw [hz]; simp [lgi], HB.out⟩
end Go.Proofs.Yticdpmniikjlcaa
