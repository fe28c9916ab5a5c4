/-
  The walk of strings.Clone: the same bytes in new memory.
-/
import Derived.Test.YthppnjmepeeejaaProg
import Derived.Test.YthppnjmepeeejaaFrame
import Derived.Lib.Strings
import Derived.Lib.BufferWrite
import Derived.Lib.UnsafeStr
import Derived.OwnWalk
namespace Go.Proofs.Ythppnjmepeeejaa
open Go.RowKit
theorem u8parts : (Try.prog.info? 5).map (fun i => (i.zero, i.size, i.bytes)) = some (some (.int .u8 0), 1, 1) := by kernel_rfl
theorem u8size : (Try.prog.info? 5).map (·.size) = some 1 := by kernel_rfl
theorem u8cells : Try.prog.cellsOf 5 = 1 := by kernel_rfl
theorem byteCells_bcells (l : List UInt8) : Lib.byteCells l = bcells l := by
  unfold bcells Lib.byteCells
  simp
set_option maxHeartbeats 1000000 in
set_option maxRecDepth 100000 in
theorem sclone_any (s : ByteArray) (w : World) (hs : s.size ≤ 140737488355328) :
    Calls Try.prog 52 #[.string s] w fun e w' => e = .returned (.string s) ∧ Below w.heap.size w w' := by
  by_cases h0 : s.size = 0
  · have hse : s = ⟨#[]⟩ := ByteArray.ext (Array.eq_empty_of_size_eq_zero h0)
    subst hse
    clear h0
    go_enter Try.func52, Try.ntmps52
    go_wp2
    go_ret
    exact ⟨rfl, Below.refl _ _⟩
  · obtain ⟨i0, hi, hz0, hz1, hz2⟩ := info_parts u8parts
    have hlen : s.data.toList.length = s.size := by simp
    have hpos : 0 < s.size := by omega
    have hb : ((s.size : Int) == 0) = false := by rw [beq_eq_false_iff_ne]; omega
    have hmk := run_make_bytes (P := Try.prog) 70 5 i0 Try.underlying70 hi hz0 hz1 hz2 s.size hs
    have hrow := heap_alloc_new w (.cells (bcells (List.replicate s.size 0)).toArray 5)
    have hcp := Lib.run_copy_row_string (P := Try.prog) (w.alloc (.cells (bcells (List.replicate s.size 0)).toArray 5)) 70 9 3 5 w.heap.size 0 s.size s.size s _ 5 Try.underlying70 u8size hrow (Nat.le_refl _) (by simp [bcells_length])
    have hY : ((bcells (List.replicate s.size 0)).toArray.toList.take 0 ++ Lib.byteCells s.data.toList ++ (bcells (List.replicate s.size 0)).toArray.toList.drop (0 + s.size)).toArray = (bcells s.data.toList).toArray := by
      rw [List.take_zero, List.nil_append, List.drop_of_length_le (by simp [bcells_length]), List.append_nil, byteCells_bcells]
    rw [hY] at hcp
    have hg2 := setRow_heap _ w.heap.size _ (bcells s.data.toList).toArray 5 (0, 0) hrow
    have hUS := Lib.run_unsafeString_row (P := Try.prog) ((w.alloc (.cells (bcells (List.replicate s.size 0)).toArray 5)).setRow w.heap.size (bcells s.data.toList).toArray) 109 3 9 5 Try.underlying109 u8cells w.heap.size (bcells s.data.toList).toArray.size (by unfold World.shape?; rw [hg2]) s.data.toList (by intro e; rw [e] at hlen; exact h0 hlen.symm) (by simp [bcells_length]) (by omega)
      (fun j x hx => by
        have e1 : (⟨w.heap.size, 0, none⟩ : Addr).add j = ⟨w.heap.size, j, none⟩ := by unfold Addr.add; split <;> simp_all
        rw [e1, cell_of_row _ _ j _ _ _ hg2]
        simp [bcells, hx])
    rw [hlen] at hUS
    have HL := Lib.hid hlen
    clear hY hg2 hrow hlen h0
    go_enter Try.func52, Try.ntmps52
    go_wp2
    go_ret
    refine ⟨rfl, Lib.below_freeze ?_ (p := ⟨w.heap.size, 0, none⟩) (Nat.le_refl _) _⟩
    exact below_setRow ((Below.refl _ w).alloc (Nat.le_refl _) _) (Nat.le_refl _) _
set_option maxHeartbeats 400000 in
theorem clone_any (s : ByteArray) (w : World) (hs : s.size ≤ 140737488355328) :
    Calls Try.prog 37 #[.string s] w fun e w' => e = .returned (.string s) ∧ Below w.heap.size w w' := by
  go_enter Try.func37, Try.ntmps37
  go_wp2_with (go_at_call 52; refine (sclone_any _ _ hs).mono ?_; rintro e w' ⟨rfl, hb⟩)
  go_ret
  exact ⟨rfl, by assumption⟩
end Go.Proofs.Ythppnjmepeeejaa
