/-
  The walks of the matrix laws' own small helpers: pick, is, of, filled.
-/
import Derived.Test.YtbnfnijjldimkaaMapply
import Derived.Test.YtbnfnijjldimkaaRm4
import Derived.Test.YtbnfnijjldimkaaIs
namespace Go.Proofs.Ytbnfnijjldimkaa
open Go.RowKit
set_option linter.unusedVariables false
set_option linter.unusedSimpArgs false
/-- which of n things a raw number speaks of -/
def pickOf (c : Int) (n : Int) : Int := if c < 0 then (-(c + 1)) % n else c % n
theorem pickOf_lt (c n : Int) (h : 0 < n) : 0 ≤ pickOf c n ∧ pickOf c n < n := by
  unfold pickOf; split <;> exact ⟨Int.emod_nonneg _ (by omega), Int.emod_lt_of_pos _ h⟩
set_option maxHeartbeats 400000 in
theorem pick_any (c n : Int) (w : World) (h0 : -9223372036854775808 ≤ c) (h1 : c ≤ 9223372036854775807) (hn : 0 < n) (hn1 : n ≤ 1000) :
    Calls Try.prog 15 #[.int .i64 c, .int .i64 n] w fun e w' => e = .returned (.int .i64 (pickOf c n)) ∧ w = w' := by
  by_cases hc : c < 0
  · go_enter Try.func15, Try.ntmps15
    go_wp2
    go_ret
    refine ⟨ret_int ?_, rfl⟩
    unfold pickOf
    rw [if_pos (by omega), ← Int.neg_tmod, Int.tmod_eq_emod_of_nonneg (by omega)]
  · go_enter Try.func15, Try.ntmps15
    go_wp2
    go_ret
    refine ⟨ret_int ?_, rfl⟩
    unfold pickOf
    rw [if_neg (by omega)]
theorem assertFault (b : Nat) (xT : TypeId) (w : World) : (Instr.typeAssert (.iface 68 (.pointer (some ⟨b, 0, none⟩))) xT 68 true).run Try.prog w = .ok (.tuple #[.pointer (some ⟨b, 0, none⟩), .bool true]) w := by kernel_rfl
set_option maxHeartbeats 800000 in
set_option maxRecDepth 100000 in
theorem is_ok (B : Nat) (v : Value) (c : Int) (w : World) (h : ErrAt B w v c) :
    Calls Try.prog 14 #[v, .int .i64 c] w fun e w' => e = .returned (.bool true) ∧ w = w' := by
  rcases h with ⟨rfl, rfl⟩ | ⟨hc, b, rfl, hB, hf⟩
  · go_enter Try.func14, Try.ntmps14
    go_wp2
    go_ret
    exact ⟨rfl, rfl⟩
  · have c0 := hf.cell (j := 0) rfl
    have c1 := hf.cell (j := 1) rfl
    have c2 := hf.cell (j := 2) rfl
    have hcb : (c == 0) = false := by simpa using hc
    have HC := Lib.hid c0
    have hA := assertFault
    clear hf hc hB
    go_enter Try.func14, Try.ntmps14
    go_wp2_with (go_at_call 40; refine (errorsIs b c _ HC.out).mono ?_; rintro e w' ⟨rfl, rfl⟩)
    go_ret
    exact ⟨rfl, rfl⟩

theorem MatRd.rd {w : World} {g o r c : Nat} {M : Nat → Nat → BitVec 8} (h : MatRd w g o r c M) (hc : 1 ≤ c) : Rd w (some ⟨g, o, none⟩) (mat r c M).cells := fun j hj => by
  have hj2 : j < r * c := by rw [tb_cells, tab_length] at hj; exact hj
  refine ⟨g, o, rfl, ?_⟩
  rw [h.flat hc j hj2]
  simp only [tb_cells]
  rw [tab_get _ _ _ hj2]
theorem MatRd.of_row {w : World} {g r c : Nat} {M : Nat → Nat → BitVec 8} {sp : List Value} (h : Row w g 5 (ncells (mat r c M).cells ++ sp)) : MatRd w g 0 r c M := fun i j hi hj => by
  refine h.cell ?_
  rw [Nat.zero_add]
  have h1 := idx_lt hi hj
  rw [List.getElem?_append_left (by rw [ncells_length, tb_cells, tab_length]; exact h1), ncells_get _ _ (by rw [tb_cells, tab_length]; exact h1)]
  simp only [tb_cells]
  rw [tab_get _ _ _ h1, tb_at _ _ _ hj]
theorem MatRd.of_row0 {w : World} {g r c : Nat} {M : Nat → Nat → BitVec 8} (h : Row0 w g 5 (ncells (mat r c M).cells)) : MatRd w g 0 r c M := MatRd.of_row (sp := []) (by rw [List.append_nil]; exact h.row)
theorem same_mat (r c g g' cap cap' : Nat) (M M' : Nat → Nat → BitVec 8) (w : World) (hr : r ≤ 255) (hc : 1 ≤ c) (hc2 : c ≤ 255) (h : MatRd w g 0 r c M) (h' : MatRd w g' 0 r c M') (e : ∀ i j, i < r → j < c → M i j = M' i j) :
    Calls Try.prog 21 #[.agg #[.int .i64 r, .int .i64 c, .slice (some ⟨g, 0, none⟩) (r * c) cap], .agg #[.int .i64 r, .int .i64 c, .slice (some ⟨g', 0, none⟩) (r * c) cap']] w fun e w' => e = .returned (.bool true) ∧ Below w.heap.size w w' := by
  have hq : r * c ≤ 255 * 255 := Nat.mul_le_mul hr hc2
  have hl : (mat r c M).cells.length = r * c := by rw [tb_cells, tab_length]
  have h2 := h'.rd hc
  rw [← mat_congr e] at h2
  have := same_true (r : Int) (c : Int) (mat r c M).cells (some ⟨g, 0, none⟩) (some ⟨g', 0, none⟩) cap cap' w (by rw [hl]; unfold maxLen; omega) (h.rd hc) h2
  rw [hl] at this
  exact this
set_option maxRecDepth 100000 in
set_option maxHeartbeats 1600000 in
theorem of_any (r c : Int) (a : Option Addr) (n cap : Nat) (w : World) :
    Calls Try.prog 35 #[.int .i64 r, .int .i64 c, .slice a n cap] w fun e w' => e = .returned (.agg #[.int .i64 r, .int .i64 c, .slice a n cap]) ∧ Below w.heap.size w w' := by
  go_enter Try.func35, Try.ntmps35
  go_wp2
  exact bodyPost_ret (v := .agg #[.int .i64 r, .int .i64 c, .slice a n cap]) (by simp [results, Try.results35, go_sem]) rfl ⟨rfl, (Below.refl _ _).alloc (Nat.le_refl _) _⟩
/-- the cell of a matrix out of raw bytes -/
def filF (L : List (BitVec 8)) (j : Nat) : BitVec 8 := if L.length = 0 then 0#8 else L.getD (j % L.length) 0#8 ^^^ BitVec.ofNat 8 (j / L.length)
def filM (L : List (BitVec 8)) (c i j : Nat) : BitVec 8 := filF L (i * c + j)
def filU (L : List (BitVec 8)) (k j : Nat) : BitVec 8 := if j < k then filF L j else 0#8
theorem filU_zero (L : List (BitVec 8)) : (fun _ => 0#8) = filU L 0 := by
  funext j; unfold filU; rw [if_neg (by omega)]
theorem filU_succ (L : List (BitVec 8)) (k : Nat) : (fun j => if j = k then filF L k else filU L k j) = filU L (k + 1) := by
  funext j
  unfold filU
  by_cases e : j = k
  · rw [if_pos e, if_pos (by omega), e]
  · rw [if_neg e]
    by_cases h : j < k
    · rw [if_pos h, if_pos (by omega)]
    · rw [if_neg h, if_neg (by omega)]
theorem filU_full (L : List (BitVec 8)) (r c k : Nat) (h : L.length = 0 ∨ k = r * c) : tab (r * c) (filU L k) = (mat r c (filM L c)).cells := by
  rw [tb_cells]
  refine tab_congr fun j hj => ?_
  unfold filU tb filM
  rw [Nat.mul_comm (j / c), Nat.div_add_mod]
  rcases h with h | h
  · split
    · rfl
    · unfold filF; rw [if_pos h]
  · rw [if_pos (by omega)]
theorem fil_val (L : List (BitVec 8)) (j : Nat) (h : 0 < L.length) (hj : j / L.length < 256) : bits .xor .u8 (nv (L.getD (j % L.length) 0#8)) ((j / L.length : Nat) : Int) = nv (filF L j) := by
  rw [← nv_of hj, u8_xor_nv]
  unfold filF
  rw [if_neg (by omega)]
structure FilS (w0 : World) (b0 g bx N : Nat) (LX : List Value) (f : Nat → BitVec 8) (w : World) : Prop where
  res : Row w b0 24 [.int .i64 0, .int .i64 0, .slice none 0 0]
  box : Row w bx 24 LX
  row : Row0 w g 5 (ncells (tab N f))
  bel : Below w0.heap.size w0 w
theorem FilS.lay {w0 w w' : World} {b0 g bx N : Nat} {LX : List Value} {f f' : Nat → BitVec 8} (h : FilS w0 b0 g bx N LX f w) (hr : Row0 w' g 5 (ncells (tab N f'))) (hf : Fr [g] w w') (hg : w0.heap.size ≤ g) : FilS w0 b0 g bx N LX f' w' := by
  have h2 : b0 ∉ [g] := by simp only [List.mem_singleton]; exact h.res.ne h.row.row (by decide)
  have h3 : bx ∉ [g] := by simp only [List.mem_singleton]; exact h.box.ne h.row.row (by decide)
  exact ⟨h.res.fr hf h2, h.box.fr hf h3, hr, h.bel.trans (hf.below h.bel.size (fun i hi => by simp only [List.mem_singleton] at hi; omega))⟩
theorem FilS.after {w0 w w' : World} {b0 g bx N : Nat} {LX : List Value} {f : Nat → BitVec 8} (h : FilS w0 b0 g bx N LX f w) (hb : Below w.heap.size w w') : FilS w0 b0 g bx N LX f w' := ⟨h.res.after hb, h.box.after hb, h.row.fr (Fr.of_below (L := []) hb) (by simp), h.bel.trans (hb.mono h.bel.size)⟩
set_option maxRecDepth 100000 in
set_option maxHeartbeats 1600000 in
theorem filled_any (r c n cap : Nat) (a : Option Addr) (L : List (BitVec 8)) (w : World) (hN : r * c ≤ 255) (hr : r ≤ 255) (hc : c ≤ 255) (hn : n = L.length) (hn2 : n ≤ maxLen) (hL : Rd w a L) :
    Calls Try.prog 16 #[.int .i64 r, .int .i64 c, .slice a n cap] w fun e w' => ∃ g, e = .returned (mval r c g) ∧ w.heap.size ≤ g ∧ Row0 w' g 5 (ncells (mat r c (filM L c)).cells) ∧ Below w.heap.size w w' := by
  unfold maxLen at hn2
  obtain ⟨i0, hi, hz0, hz1, hz2⟩ := info_parts u8parts
  obtain ⟨q, hq⟩ : ∃ q : Nat, q = r * c := ⟨_, rfl⟩
  have e1 : (r : Int) * (c : Int) = (q : Int) := by rw [hq]; simp
  unfold mval
  rw [← hq] at hN ⊢
  have hmk := fun W => run_make_bytes (P := Try.prog) 22 5 i0 Try.underlying22 hi hz0 hz1 hz2 q (by omega) W
  rw [← ncells_zero, ← tab_zero] at hmk
  obtain ⟨Z, hZ⟩ : ∃ Z, Z = ncells (tab q fun _ => 0#8) := ⟨_, rfl⟩
  rw [← hZ] at hmk
  have S0 : Hid (FilS w w.heap.size (w.heap.size + 1) (w.heap.size + 1 + 1) q [.int .i64 r, .int .i64 c, .slice (some ⟨w.heap.size + 1, 0, none⟩) q q] (filU L 0) (((w.alloc (.cells #[.int .i64 0, .int .i64 0, .slice none 0 0] 24)).alloc (.cells Z.toArray 5)).alloc (.cells #[.int .i64 r, .int .i64 c, .slice (some ⟨w.heap.size + 1, 0, none⟩) q q] 24))) := by
    have h1 := Row.new w 24 [.int .i64 0, .int .i64 0, .slice none 0 0]
    have h2 := Row0.new (w.alloc (.cells #[.int .i64 0, .int .i64 0, .slice none 0 0] 24)) 5 Z
    rw [show (w.alloc (.cells #[.int .i64 0, .int .i64 0, .slice none 0 0] 24)).heap.size = w.heap.size + 1 from by simp] at h2
    have h3 := Row.new ((w.alloc (.cells #[.int .i64 0, .int .i64 0, .slice none 0 0] 24)).alloc (.cells Z.toArray 5)) 24 [.int .i64 r, .int .i64 c, .slice (some ⟨w.heap.size + 1, 0, none⟩) q q]
    rw [show ((w.alloc (.cells #[.int .i64 0, .int .i64 0, .slice none 0 0] 24)).alloc (.cells Z.toArray 5)).heap.size = w.heap.size + 1 + 1 from by simp] at h3
    refine Lib.hid ⟨(h1.alloc _).alloc _, h3, ?_, (((Below.refl _ _).alloc (Nat.le_refl _) _).alloc (by simp) _).alloc (by simp; omega) _⟩
    rw [← filU_zero, ← hZ]
    exact h2.fr ((Fr.refl [] _).alloc _) (by simp)
  have HN := Lib.hid hn
  have HL := Lib.hid hL
  have HQ := Lib.hid hq
  clear hi hz0 hz1 hz2 hq hZ hn hL
  go_enter Try.func16, Try.ntmps16
  go_wp2
  go_loopw [8] (fun ii wr => ∃ k : Nat, k ≤ q ∧ ii = .int .i64 k ∧ FilS w w.heap.size (w.heap.size + 1) (w.heap.size + 1 + 1) q [.int .i64 r, .int .i64 c, .slice (some ⟨w.heap.size + 1, 0, none⟩) q q] (filU L k) wr) (fun ii _ => q - (intOf ii).toNat)
  case atStart => exact ⟨0, by omega, rfl, S0.out⟩
  case round =>
    clear S0
    obtain ⟨k, hk, rfl, hs⟩ := hrel
    obtain ⟨x0, x1, x2⟩ := box3 hs.box
    by_cases hlt : k < q
    · by_cases hn0 : 0 < n
      · obtain ⟨g0, o0, rfl, gl, hcell⟩ := HL.out.open (by rw [← HN.out]; exact hn0)
        have hm : k % n < n := Nat.mod_lt _ hn0
        obtain ⟨m, hmm⟩ : ∃ m, m = k % n := ⟨_, rfl⟩
        obtain ⟨d, hd⟩ : ∃ d, d = k / n := ⟨_, rfl⟩
        rw [← hmm] at hm
        have hd2 : d < 256 := by rw [hd]; exact Nat.lt_of_le_of_lt (Nat.div_le_self _ _) (by omega)
        have cr : World.cell? wr ⟨g0, o0 + m, none⟩ = some (.int .u8 (nv (L.getD m 0#8))) := by
          have h := (hs.bel.cell (p := ⟨g0, o0 + m, none⟩) gl).trans (hcell m (by rw [← HN.out]; exact hm))
          rw [h, List.getD_eq_getElem?_getD, List.getElem?_eq_getElem (by rw [← HN.out]; exact hm), Option.getD_some]
        have hval : bits .xor .u8 (nv (L.getD m 0#8)) (d : Int) = nv (filF L k) := by
          rw [hmm, hd, HN.out]
          exact fil_val L k (by rw [← HN.out]; exact hn0) (by rw [← HN.out, ← hd]; exact hd2)
        obtain ⟨x, hx⟩ : ∃ x, x = L.getD m 0#8 := ⟨_, rfl⟩
        rw [← hx] at cr hval
        clear hx
        have em : Int.tmod (k : Int) (n : Int) = (m : Int) := by rw [hmm]; exact (Int.ofNat_tmod k n).symm
        have ed : Int.tdiv (k : Int) (n : Int) = (d : Int) := by rw [hd]; exact (Int.ofNat_tdiv k n).symm
        have fk := tab0_free (i := k) hs.row hlt
        have ck := tab0_cell (i := k) hs.row hlt
        have hst := hs.lay (f' := filU L (k + 1)) (by rw [← filU_succ]; exact tab0_store hs.row (i := k) (filF L k)) ((Fr.refl _ _).setCell (Or.inl (by simp)) _) (by omega)
        have S1 := Lib.hid hst
        clear hs hst hmm hd hcell
        go_wp2_with fail
        have w5 : 0 ≤ (m : Int) ∧ (m : Int) < (n : Int) := by omega
        have w6 : 0 ≤ (k : Int) ∧ (k : Int) < (q : Int) := by omega
        have w7 : ((m : Int)).toNat = m := by omega
        have w8 : ((k : Int)).toNat = k := by omega
        have w9 : ¬ n = 0 := by omega
        have w1 := IntWalk.i64_in (m : Int) (by omega)
        have w2 := IntWalk.i64_in (d : Int) (by omega)
        have w3 := IntWalk.u8_in (d : Int) (by omega)
        go_still_tail 17, (by kernel_rfl)
        clear w1 w2 w3 w5 w6 w7 w8 w9
        change wpList _ _ _ _ _ wr.drew
        go_wp2
        go_roundw
        case measure => simp [intOf]; omega
        case rel => exact ⟨k + 1, by omega, by go_num, S1.out.after (Below.refl _ _).drew⟩
      · have hqe : L.length = 0 ∨ k = r * c := Or.inl (by rw [← HN.out]; omega)
        obtain ⟨t0, t1, t2⟩ := box3 hs.res
        obtain ⟨f0, f1, f2⟩ := box3f hs.res
        have HE := Lib.hid hqe
        have S4 := Lib.hid hs
        clear hs hqe
        go_wp2
        have hy := set3_row (a := .int .i64 r) (b := .int .i64 c) (c := .slice (some ⟨w.heap.size + 1, 0, none⟩) q q) S4.out.res
        obtain ⟨y0, y1, y2⟩ := box3 hy
        exact bodyPost_ret (v := .agg #[.int .i64 r, .int .i64 c, .slice (some ⟨w.heap.size + 1, 0, none⟩) q q]) (by simp [results, Try.results16, go_sem, y0, y1, y2]) rfl ⟨w.heap.size + 1, rfl, by omega, by
          have h9 := S4.out.row
          rw [HQ.out, filU_full L r c k HE.out] at h9
          exact h9.fr ((((Fr.refl [w.heap.size] wr).setCell (Or.inl (by simp)) _).setCell (Or.inl (by simp)) _).setCell (Or.inl (by simp)) _) (by simp), set3_below S4.out.bel (Nat.le_refl _)⟩
    · have hqe : L.length = 0 ∨ k = r * c := Or.inr (by rw [← HQ.out]; omega)
      obtain ⟨t0, t1, t2⟩ := box3 hs.res
      obtain ⟨f0, f1, f2⟩ := box3f hs.res
      have HE := Lib.hid hqe
      have S4 := Lib.hid hs
      clear hs hqe
      go_wp2
      have hy := set3_row (a := .int .i64 r) (b := .int .i64 c) (c := .slice (some ⟨w.heap.size + 1, 0, none⟩) q q) S4.out.res
      obtain ⟨y0, y1, y2⟩ := box3 hy
      exact bodyPost_ret (v := .agg #[.int .i64 r, .int .i64 c, .slice (some ⟨w.heap.size + 1, 0, none⟩) q q]) (by simp [results, Try.results16, go_sem, y0, y1, y2]) rfl ⟨w.heap.size + 1, rfl, by omega, by
        have h9 := S4.out.row
        rw [HQ.out, filU_full L r c k HE.out] at h9
        exact h9.fr ((((Fr.refl [w.heap.size] wr).setCell (Or.inl (by simp)) _).setCell (Or.inl (by simp)) _).setCell (Or.inl (by simp)) _) (by simp), set3_below S4.out.bel (Nat.le_refl _)⟩
end Go.Proofs.Ytbnfnijjldimkaa
