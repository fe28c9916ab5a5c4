/-
  The walks of the disk laws' own small helpers: pick, sector, is, rack.
-/
import Derived.Test.YthppnjmepeeejaaDiskLose
import Derived.Test.YthppnjmepeeejaaIs
namespace Go.Proofs.Ythppnjmepeeejaa
open Go.RowKit
/-- which of n things a raw number speaks of -/
def pickOf (c : Int) (n : Int) : Int := if c < 0 then (-(c + 1)) % n else c % n
theorem pickOf_lt (c n : Int) (h : 0 < n) : 0 ≤ pickOf c n ∧ pickOf c n < n := by
  unfold pickOf; split <;> exact ⟨Int.emod_nonneg _ (by omega), Int.emod_lt_of_pos _ h⟩
set_option maxHeartbeats 400000 in
theorem pick_any (c n : Int) (w : World) (h0 : -9223372036854775808 ≤ c) (h1 : c ≤ 9223372036854775807) (hn : 0 < n) (hn1 : n ≤ 1000) :
    Calls Try.prog 18 #[.int .i64 c, .int .i64 n] w fun e w' => e = .returned (.int .i64 (pickOf c n)) ∧ w = w' := by
  by_cases hc : c < 0
  · go_enter Try.func18, Try.ntmps18
    go_wp2
    go_ret
    refine ⟨ret_int ?_, rfl⟩
    unfold pickOf
    rw [if_pos (by omega), ← Int.neg_tmod, Int.tmod_eq_emod_of_nonneg (by omega)]
  · go_enter Try.func18, Try.ntmps18
    go_wp2
    go_ret
    refine ⟨ret_int ?_, rfl⟩
    unfold pickOf
    rw [if_neg (by omega)]
/-- the first k of the 64 bytes out of a text, then zeros -/
def secL (s : ByteArray) (k : Nat) : List UInt8 := (List.range 64).map fun i => if i < k then s.data.toList.getD (i % s.size) 0 else 0
/-- the 64 bytes out of a text -/
def secOf (s : ByteArray) : ByteArray := ⟨(if s.size = 0 then List.replicate 64 0 else secL s 64).toArray⟩
theorem secL_length (s : ByteArray) (k : Nat) : (secL s k).length = 64 := by simp [secL]
theorem secOf_size (s : ByteArray) : (secOf s).size = 64 := by
  unfold secOf
  split
  · decide
  · show (secL s 64).toArray.size = 64
    rw [List.size_toArray, secL_length]
theorem secL_zero (s : ByteArray) : secL s 0 = List.replicate 64 0 := by
  unfold secL
  simp only [Nat.not_lt_zero, if_false]
  decide
theorem secL_get (s : ByteArray) (k i : Nat) (h : i < 64) : (secL s k)[i]'(by rw [secL_length]; exact h) = if i < k then s.data.toList.getD (i % s.size) 0 else 0 := by
  simp [secL]
theorem secL_succ (s : ByteArray) (k : Nat) (_h : k < 64) : (secL s k).set k (s.data.toList.getD (k % s.size) 0) = secL s (k + 1) := by
  apply List.ext_getElem
  · simp [secL_length]
  · intro i h1 h2
    have hi : i < 64 := by rw [secL_length] at h2; exact h2
    rw [List.getElem_set, secL_get s (k + 1) i hi]
    by_cases e : k = i
    · subst e; simp
    · rw [if_neg e, secL_get s k i hi]
      by_cases e2 : i < k
      · rw [if_pos e2, if_pos (by omega)]
      · rw [if_neg e2, if_neg (by omega)]
set_option maxHeartbeats 800000 in
set_option maxRecDepth 100000 in
theorem lsector_any (s : ByteArray) (w : World) (hs : s.size ≤ maxLen) :
    Calls Try.prog 11 #[.string s] w fun e w' => e = .returned (.string (secOf s)) ∧ Below w.heap.size w w' := by
  obtain ⟨i0, hi, hz0, hz1, hz2⟩ := info_parts u8parts
  have hmk := fun W => run_make_bytes (P := Try.prog) 70 5 i0 Try.underlying70 hi hz0 hz1 hz2 64 (by omega) W
  simp only [Int.cast_ofNat_Int] at hmk
  obtain ⟨Z, hZ⟩ : ∃ Z : List UInt8, Z = List.replicate 64 0 := ⟨_, rfl⟩
  have hZl : Z.length = 64 := by rw [hZ]; simp
  have hS0 : (⟨Z.toArray⟩ : ByteArray) = secOf ⟨#[]⟩ := by rw [hZ]; rfl
  have hS1 : secL s 0 = Z := by rw [hZ]; exact secL_zero s
  rw [← hZ] at hmk
  have HS0 := Lib.hid hS0
  have HS1 := Lib.hid hS1
  clear hZ hS0 hS1
  have hrow0 := Row0.new w 5 (bcells Z)
  have hbel0 : Below w.heap.size w (w.alloc (.cells (bcells Z).toArray 5)) := (Below.refl _ w).alloc (Nat.le_refl _) _
  by_cases h0 : s.size = 0
  · have hse : s = ⟨#[]⟩ := ByteArray.ext (Array.eq_empty_of_size_eq_zero h0)
    subst hse
    clear h0
    have hconv := run_string_of_row (P := Try.prog) _ 70 9 5 Try.underlying70 Try.underlying5 Try.underlying9 hrow0.row 0 64 64 Z hZl (by rw [List.drop_zero]; exact List.take_of_length_le (by rw [bcells_length, hZl]; exact Nat.le_refl _))
    have HB := Lib.hid hbel0
    clear hrow0 hbel0
    go_enter Try.func11, Try.ntmps11
    go_wp2
    refine wp_loop_rounds 1 ?_
    rw [rounds_succ]
    go_wp2
    go_ret
    exact ⟨congrArg (fun x => Ending.returned (.string x)) HS0.out, HB.out⟩
  · have hne : s.toList.isEmpty = false := by
      rw [Bool.eq_false_iff]
      intro h
      rw [Lib.toList_data, List.isEmpty_iff] at h
      apply h0
      have h3 : s.data.toList.length = 0 := by rw [h]; rfl
      simpa using h3
    have hpos : 0 < s.size := by omega
    have HR := Lib.hid hrow0
    have HB := Lib.hid hbel0
    clear hrow0 hbel0
    go_enter Try.func11, Try.ntmps11
    go_wp2
    go_loopw [4] (fun i wr => ∃ k : Nat, k ≤ 64 ∧ i = .int .i64 k ∧ Row0 wr w.heap.size 5 (bcells (secL s k)) ∧ Below w.heap.size w wr) (fun i _ => 64 - (intOf i).toNat)
    case atStart => exact ⟨0, by omega, rfl, by rw [HS1.out]; exact HR.out, HB.out⟩
    case round =>
      obtain ⟨k, hk, rfl, hr, hb⟩ := hrel
      by_cases hlt : k < 64
      · have hm : k % s.size < s.size := Nat.mod_lt _ hpos
        have fr := hr.row.free (j := k) (by rw [bcells_length, secL_length]; exact hlt)
        have hc := hr.row.cell (bcells_get (secL s k) k (by rw [secL_length]; exact hlt))
        have HR2 := Lib.hid hr
        have HB2 := Lib.hid hb
        clear hr hb
        go_wp2
        go_roundw
        case measure => simp [intOf]; omega
        case rel =>
          have hx : s[k % s.size] = s.data.toList.getD (k % s.size) 0 := by
            rw [List.getD_eq_getElem?_getD, List.getElem?_eq_getElem (by simpa using hm), Option.getD_some]
            exact (getElem_data s _ hm _).symm
          refine ⟨k + 1, by omega, by go_num, ?_, HB2.out.setCell (Nat.le_refl _) _⟩
          rw [hx, ← secL_succ s k hlt, ← bcells_set]
          exact HR2.out.set _ _
      · obtain rfl : k = 64 := by omega
        have hconv := run_string_of_row (P := Try.prog) wr 70 9 5 Try.underlying70 Try.underlying5 Try.underlying9 hr.row 0 64 64 (secL s 64) (secL_length s 64) (by rw [List.drop_zero]; exact List.take_of_length_le (by rw [bcells_length, secL_length]; exact Nat.le_refl _))
        have HB2 := Lib.hid hb
        clear hr hb
        go_wp2
        go_ret
        refine ⟨congrArg (fun x => Ending.returned (.string x)) ?_, HB2.out⟩
        show (⟨(secL s 64).toArray⟩ : ByteArray) = _
        unfold secOf; rw [if_neg h0]
theorem assertFault (b : Nat) (xT : TypeId) (w : World) : (Instr.typeAssert (.iface 81 (.pointer (some ⟨b, 0, none⟩))) xT 81 true).run Try.prog w = .ok (.tuple #[.pointer (some ⟨b, 0, none⟩), .bool true]) w := by kernel_rfl
set_option maxHeartbeats 800000 in
set_option maxRecDepth 100000 in
theorem is_ok (B : Nat) (v : Value) (c : Int) (w : World) (h : ErrAt B w v c) :
    Calls Try.prog 22 #[v, .int .i64 c] w fun e w' => e = .returned (.bool true) ∧ w = w' := by
  rcases h with ⟨rfl, rfl⟩ | ⟨hc, b, rfl, hB, hf⟩
  · go_enter Try.func22, Try.ntmps22
    go_wp2
    go_ret
    exact ⟨rfl, rfl⟩
  · have c0 := hf.cell (j := 0) rfl
    have c1 := hf.cell (j := 1) rfl
    have c2 := hf.cell (j := 2) rfl
    have hcb : (c == 0) = false := by simpa using hc
    have HC := Lib.hid c0
    have hA := assertFault
    clear hf hc hB
    go_enter Try.func22, Try.ntmps22
    go_wp2_with (go_at_call 28; refine (errorsIs b c _ HC.out).mono ?_; rintro e w' ⟨rfl, rfl⟩)
    go_ret
    exact ⟨rfl, rfl⟩
set_option maxHeartbeats 800000 in
theorem rack_any (w : World) :
    Calls Try.prog 10 #[] w fun e w' => ∃ p d gh, e = .returned (.tuple #[.pointer (some ⟨p, 0, none⟩), .pointer (some ⟨d, 0, none⟩)]) ∧ w.heap.size ≤ p ∧ w.heap.size ≤ d ∧ w.heap.size ≤ gh ∧ PowerAt w' p ⟨false, -1, 0⟩ ∧ DiskAt w' p d gh (.slice none 0 0) (Dk.fresh 8) ∧ Below w.heap.size w w' := by
  go_enter Try.func10, Try.ntmps10
  go_wp2_with (first | (go_at_call 21; refine (newPower_any _).mono ?_; rintro e w1 ⟨p, rfl, hp1, hp2, hp3⟩) | (go_at_call 20; refine (new_ok _ 8 _ (by omega) (by omega)).mono ?_; rintro e w2 ⟨d, gh, rfl, hd1, hd2, hd3, hd4⟩))
  go_ret2
  have hs := hp3.size
  exact ⟨p, d, gh, rfl, hp1, by omega, by omega, PowerAt.fr hp2 (Fr.of_below (L := []) hd4) (by simp), hd3, hp3.trans (hd4.mono hs)⟩
end Go.Proofs.Ythppnjmepeeejaa
