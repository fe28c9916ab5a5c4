/-
  The reference disk: what it holds, and the walks of its calls.
-/
import Derived.Test.YthppnjmepeeejaaDall
import Derived.Test.YthppnjmepeeejaaSec
import Derived.Deep.AppendLies
import Derived.OwnWalk
namespace Go.Proofs.Ythppnjmepeeejaa
open Go.RowKit
def RPowAt (w : World) (q : Nat) (P : Pw) : Prop := Row w q 58 [.bool P.gone, .int .i64 P.fuse, .int .i64 P.acts]
/-- what the sectors of a disk last as, as cells -/
def hasL (n : Nat) (D : Dk) : List Value := (List.range n).map fun j => .string (D.lasts j)
structure RDiskAt (w : World) (q r hg hc : Nat) (v : Value) (n : Nat) (D : Dk) : Prop where
  top : Row w r 92 [.pointer (some ⟨q, 0, none⟩), .int .i64 n, .slice (some ⟨hg, 0, none⟩) n hc, v, .bool D.dead, .int .i64 D.life]
  has : ∃ sp, Row w hg 9 (hasL n D ++ sp)
  late : w.ownsRow 0 108 2 v D.wait.length (wcells D.wait)
set_option maxHeartbeats 800000 in
set_option maxRecDepth 100000 in
theorem blank_any (w : World) : Calls Try.prog 53 #[] w fun e w' => e = .returned (.string (secOf ⟨#[]⟩)) ∧ Below w.heap.size w w' := by
  obtain ⟨i0, hi, hz0, hz1, hz2⟩ := info_parts u8parts
  have hmk := fun W => run_make_bytes (P := Try.prog) 70 5 i0 Try.underlying70 hi hz0 hz1 hz2 64 (by omega) W
  simp only [Int.cast_ofNat_Int] at hmk
  obtain ⟨Z, hZ⟩ : ∃ Z : List UInt8, Z = List.replicate 64 0 := ⟨_, rfl⟩
  have hZl : Z.length = 64 := by rw [hZ]; simp
  have hS0 : (⟨Z.toArray⟩ : ByteArray) = secOf ⟨#[]⟩ := by rw [hZ]; rfl
  rw [← hZ] at hmk
  have HS0 := Lib.hid hS0
  clear hZ hS0
  have hrow0 := Row0.new w 5 (bcells Z)
  have hbel0 : Below w.heap.size w (w.alloc (.cells (bcells Z).toArray 5)) := (Below.refl _ w).alloc (Nat.le_refl _) _
  have hconv := run_string_of_row (P := Try.prog) _ 70 9 5 Try.underlying70 Try.underlying5 Try.underlying9 hrow0.row 0 64 64 Z hZl (by rw [List.drop_zero]; exact List.take_of_length_le (by rw [bcells_length, hZl]; exact Nat.le_refl _))
  have HB := Lib.hid hbel0
  clear hrow0 hbel0
  go_enter Try.func53, Try.ntmps53
  go_wp2
  go_ret
  exact ⟨congrArg (fun x => Ending.returned (.string x)) HS0.out, HB.out⟩
theorem own_ge {w : World} {base : Nat} {e : TypeId} {size : Nat} {v : Value} {n : Nat} {xs : List Value} (h : w.ownsRow base e size v n xs) {g : Nat} (hg : v.ownBlock = some g) : base ≤ g := by
  rcases h.2 with ⟨hv, _⟩ | ⟨g', cap, cur, hv, hb, _⟩
  · rw [hv] at hg; cases hg
  · rw [hv] at hg
    simp only [Value.ownBlock, Option.some.injEq] at hg
    subst hg
    exact hb
/-- what an appended slice of one-cell elements is: a row and its spare room -/
theorem own_row {w : World} {base : Nat} {e : TypeId} {v : Value} {n : Nat} {xs : List Value} (h : w.ownsRow base e 1 v n xs) (hn : 0 < n) : ∃ g cap sp, v = .slice (some ⟨g, 0, none⟩) n cap ∧ base ≤ g ∧ Row w g e (xs ++ sp) := by
  rcases h.2 with ⟨_, h0⟩ | ⟨g, cap, cur, hv, hb, hh, hc1, hc2, hc3, hc4⟩
  · omega
  · refine ⟨g, cap, cur.toList.drop (n * 1), hv, hb, Row.mk ?_⟩
    rw [← hc4, List.take_append_drop]
    simpa using hh
theorem strparts : (Try.prog.info? 9).map (fun i => (i.zero, i.size, i.bytes)) = some (some (.string ⟨#[]⟩), 1, 16) := by kernel_rfl
set_option maxHeartbeats 800000 in
set_option maxRecDepth 100000 in
theorem blanks_any (n : Nat) (w : World) (hn : n ≤ 8192) : Calls Try.prog 41 #[.int .i64 (n : Int)] w fun e w' => ∃ v, e = .returned v ∧ w'.ownsRow w.heap.size 9 1 v n (List.replicate n (.string (secOf ⟨#[]⟩))) ∧ Below w.heap.size w w' := by
  obtain ⟨i0, hi, hz0, hz1, hz2⟩ := info_parts strparts
  obtain ⟨SZ, hSZ⟩ : ∃ x, secOf ⟨#[]⟩ = x := ⟨_, rfl⟩
  have HSZ := Lib.hid hSZ
  rw [hSZ]
  clear hSZ
  go_enter Try.func41, Try.ntmps41
  go_wp2
  go_loopw [3, 4] (fun l i wr => ∃ k : Nat, k ≤ n ∧ i = .int .i64 k ∧ wr.ownsRow w.heap.size 9 1 l k (List.replicate k (.string SZ)) ∧ Below w.heap.size w wr) (fun _ i _ => n - (intOf i).toNat)
  case atStart => exact ⟨0, by omega, rfl, World.ownsRow_nil _ _ _ _, Below.refl _ _⟩
  case round =>
    obtain ⟨k, hk, rfl, hown, hb⟩ := hrel
    have HO := Lib.hid hown
    have HB := Lib.hid hb
    clear hown hb
    by_cases hlt : k < n
    · go_wp2_with (first
        | (go_at_call 53; refine (blank_any _).mono ?_; rintro e w1 ⟨he, hb1⟩; rw [HSZ.out] at he; subst he; have HB1 := Lib.hid (HB.out.trans (hb1.mono HB.out.size)); have HO1 := Lib.hid (ownsRow_fr HO.out (Fr.of_below (L := []) hb1) (by simp)); clear hb1)
        | (at_builtin; refine wpList_append_own _ rfl (.tmp 10) (.tmp 12) 22 rfl w.heap.size 9 i0 _ 1 16 Try.underlying22 hi hz0 hz1 hz2 rfl (by omega) _ k (List.replicate k (.string SZ)) rfl (HO1.out.alloc _) ⟨w1.heap.size, 0, none⟩ 1 1 [.string SZ] rfl rfl (World.news_of_block (cs := #[.string SZ]) (t := 9) (fr := (0, 0)) (heap_alloc_new w1 _)) (by simp [Value.oneCell']) (by unfold maxLen; omega) (by omega) (Nat.le_trans HB1.out.size (by simp)) ?_; intro v' w2 hown2 hgr2 hnil2; clear hnil2; have HO2 := Lib.hid hown2; have HG2 := Lib.hid hgr2; clear hown2 hgr2))
      go_roundw
      case measure => simp [intOf]; omega
      case rel =>
        refine ⟨k + 1, by omega, by go_num, ?_, ?_⟩
        · rw [List.replicate_succ']
          exact HO2.out
        · have hf : Fr [] w w1 := Fr.of_below HB1.out
          have h2 : Fr [] w w2 := (hf.alloc _).grown HG2.out (fun g hg => Or.inr (own_ge HO1.out hg))
          exact h2.nil_below
    · obtain rfl : k = n := by omega
      go_wp2
      go_ret
      exact ⟨_, rfl, HO.out, HB.out⟩
theorem zeros_lasts (n : Nat) (D : Dk) (h : D.has = List.replicate (64 * n) 0) (j : Nat) (hj : j < n) : D.lasts j = secOf ⟨#[]⟩ := by
  unfold Dk.lasts
  rw [h, List.drop_replicate, List.take_replicate, show min 64 (64 * n - j * 64) = 64 from by omega]
  exact kS.symm
theorem hasL_zeros (n : Nat) (D : Dk) (h : D.has = List.replicate (64 * n) 0) : hasL n D = List.replicate n (.string (secOf ⟨#[]⟩)) := by
  unfold hasL
  apply List.ext_getElem
  · simp
  · intro i h1 h2
    simp only [List.length_map, List.length_range] at h1
    simp [zeros_lasts n D h i h1]
set_option maxHeartbeats 800000 in
theorem rnew_any (q n : Nat) (w : World) (n1 : 1 ≤ n) (n2 : n ≤ 8192) : Calls Try.prog 31 #[.pointer (some ⟨q, 0, none⟩), .int .i64 (n : Int)] w fun e w' => ∃ r hg hc, e = .returned (.pointer (some ⟨r, 0, none⟩)) ∧ w.heap.size ≤ r ∧ w.heap.size ≤ hg ∧ RDiskAt w' q r hg hc (.slice none 0 0) n (Dk.fresh n) ∧ Below w.heap.size w w' := by
  go_enter Try.func31, Try.ntmps31
  go_wp2_with (go_at_call 41; refine (blanks_any n _ n2).mono ?_; rintro e w1 ⟨v, rfl, hown, hb⟩; obtain ⟨hg, hc, sp, rfl, hge, hrow⟩ := own_row hown n1; have HR := Lib.hid hrow; have HB := Lib.hid hb; clear hown hrow hb)
  go_ret
  have hs := HB.out.size
  have hsp := HR.out.fr (L := []) ((Fr.refl [] w1).alloc (.cells #[.pointer (some ⟨q, 0, none⟩), .int .i64 (n : Int), .slice (some ⟨hg, 0, none⟩) n hc, .slice none 0 0, .bool false, .int .i64 0] 92)) (by simp)
  refine ⟨_, hg, hc, rfl, hs, hge, ⟨Row.new w1 _ [_, _, _, _, _, _], ⟨sp, ?_⟩, World.ownsRow_nil _ _ _ _⟩, HB.out.alloc hs _⟩
  rw [hasL_zeros n (Dk.fresh n) rfl]
  exact hsp
set_option maxHeartbeats 800000 in
theorem rbad_any (q r hg hc : Nat) (v : Value) (P : Pw) (D : Dk) (n : Nat) (a : Int) (w : World) (hp : RPowAt w q P) (h : RDiskAt w q r hg hc v n D) (hn : D.has.length = 64 * n) :
    Calls Try.prog 54 #[.pointer (some ⟨r, 0, none⟩), .int .i64 a] w fun e w' => e = .returned (.int .i64 (rdy P D a)) ∧ w = w' := by
  have c0 := h.top.cell (j := 0) rfl
  have c1 := h.top.cell (j := 1) rfl
  have c4 := h.top.cell (j := 4) rfl
  have d0 := hp.cell (j := 0) rfl
  clear h hp
  have hr : rdy P D a = if P.gone then 10 else if D.dead then 11 else if a < 0 ∨ (n : Int) ≤ a then 1 else 0 := by
    unfold rdy; rw [hn, Nat.mul_div_cancel_left _ (by omega)]
  rw [hr]
  clear hr hn
  cases hgo : P.gone
  · rw [hgo] at d0
    cases hd : D.dead
    · rw [hd] at c4
      by_cases h1 : a < 0
      · go_enter Try.func54, Try.ntmps54
        go_wp2
        go_ret
        exact ⟨ret_int (by first | (simp; done) | (simp; omega)), rfl⟩
      · by_cases h2 : (n : Int) ≤ a
        · go_enter Try.func54, Try.ntmps54
          go_wp2
          go_ret
          exact ⟨ret_int (by first | (simp; done) | (simp; omega)), rfl⟩
        · go_enter Try.func54, Try.ntmps54
          go_wp2
          go_ret
          exact ⟨ret_int (by first | (simp; done) | (simp; omega)), rfl⟩
    · rw [hd] at c4
      go_enter Try.func54, Try.ntmps54
      go_wp2
      go_ret
      exact ⟨ret_int (by simp), rfl⟩
  · rw [hgo] at d0
    go_enter Try.func54, Try.ntmps54
    go_wp2
    go_ret
    exact ⟨ret_int (by simp), rfl⟩
set_option maxHeartbeats 400000 in
theorem ract_any (p : Nat) (P : Pw) (w : World) (h : RPowAt w p P) (ok : P.ok) :
    Calls Try.prog 55 #[.pointer (some ⟨p, 0, none⟩)] w fun e w' => e = .returned (.bool P.can) ∧ RPowAt w' p P.act ∧ Fr [p] w w' := by
  obtain ⟨g, f, a⟩ := P
  obtain ⟨f0, f1, a0, a1⟩ := ok
  simp only at f0 f1 a0 a1
  have c0 := h.cell (j := 0) rfl
  have c1 := h.cell (j := 1) rfl
  have c2 := h.cell (j := 2) rfl
  have r0 := h.free (j := 0) (by simp)
  have r1 := h.free (j := 1) (by simp)
  have r2 := h.free (j := 2) (by simp)
  have H := Lib.hid h; clear h
  by_cases z : f = 0
  · subst z
    go_enter Try.func55, Try.ntmps55
    go_wp2
    go_ret
    exact ⟨rfl, H.out.set 0 (.bool true), (Fr.refl _ _).setCell (Or.inl (by simp)) _⟩
  · have zb : (f == 0) = false := by simpa using z
    have Z := Lib.hid z; clear z
    by_cases hp : 0 < f
    · go_enter Try.func55, Try.ntmps55
      go_wp2
      go_ret
      refine ⟨by simp [Pw.can, Z.out], ?_, ((Fr.refl _ _).setCell (Or.inl (by simp)) _).setCell (Or.inl (by simp)) _⟩
      have := (H.out.set 1 (.int .i64 (f - 1))).set 2 (.int .i64 (a + 1))
      simpa [RPowAt, Pw.act, Z.out, hp] using this
    · go_enter Try.func55, Try.ntmps55
      go_wp2
      go_ret
      refine ⟨by simp [Pw.can, Z.out], ?_, (Fr.refl _ _).setCell (Or.inl (by simp)) _⟩
      have e : (if 0 < f then f - 1 else f) = f := if_neg (by omega)
      have := H.out.set 2 (.int .i64 (a + 1))
      simpa [RPowAt, Pw.act, Z.out, e] using this
theorem hasL_get (n : Nat) (D : Dk) (sp : List Value) (j : Nat) (h : j < n) : (hasL n D ++ sp)[j]? = some (.string (D.lasts j)) := by
  rw [List.getElem?_append_left (by simp [hasL]; exact h)]
  simp [hasL, h]
theorem readsOf_take (l : List (Nat × ByteArray)) (a k : Nat) (s : ByteArray) (h : k < l.length) : readsOf (l.take (k + 1)) a s = if l[k].1 = a then l[k].2 else readsOf (l.take k) a s := by
  rw [List.take_succ_eq_append_getElem h]
  exact readsOf_snoc _ a _ s _
set_option maxHeartbeats 800000 in
theorem rread_any (q r hg hc : Nat) (v : Value) (P : Pw) (D : Dk) (n : Nat) (a : Int) (w : World) (hp : RPowAt w q P) (h : RDiskAt w q r hg hc v n D) (ok : D.ok n) :
    Calls Try.prog 42 #[.pointer (some ⟨r, 0, none⟩), .int .i64 a] w fun e w' => e = .returned (.tuple #[.string (rtext P D a), .int .i64 (rdy P D a)]) ∧ w = w' := by
  have H := Lib.hid h
  have HP := Lib.hid hp
  have OK := Lib.hid ok
  by_cases hr : rdy P D a = 0
  · obtain ⟨hgo, hd, ha0, ha1⟩ := rdy_bounds ok hr
    obtain ⟨m, rfl⟩ : ∃ m : Nat, a = (m : Int) := ⟨a.toNat, by omega⟩
    have hm : m < n := by omega
    have e1 : rtext P D m = readsOf D.wait m (D.lasts m) := by unfold rtext; rw [if_pos hr]; rfl
    have c2 := h.top.cell (j := 2) rfl
    have c3 := h.top.cell (j := 3) rfl
    obtain ⟨sp, hsp⟩ := h.has
    have c5 := hsp.cell (hasL_get n D sp m hm)
    have hv : D.wait.length = 0 ∧ v = .slice none 0 0 ∨ ∃ g cap, v = .slice (some ⟨g, 0, none⟩) D.wait.length cap := by
      rcases h.late.2 with ⟨h1, h2⟩ | ⟨g, cap, cur, hv, _⟩
      · exact Or.inl ⟨h2, h1⟩
      · exact Or.inr ⟨g, cap, hv⟩
    have hfew := ok.few
    obtain ⟨S0, hS0⟩ : ∃ x, D.lasts m = x := ⟨_, rfl⟩
    rw [hS0] at c5 e1
    rw [e1, hr]
    have HR := Lib.hid hr
    clear h hp ok hr hgo hd ha0 ha1 e1 hS0 hsp
    rcases hv with ⟨h0, rfl⟩ | ⟨g, cap, rfl⟩
    · have hw : D.wait = [] := List.length_eq_zero_iff.1 h0
      have hw1 := Lib.hid hw
      clear hw h0
      go_enter Try.func42, Try.ntmps42
      go_wp2_with (go_at_call 54; refine (rbad_any q r hg hc _ P D n _ _ HP.out H.out OK.out.len).mono ?_; rintro e w' ⟨he, rfl⟩; rw [HR.out] at he; subst he)
      refine wp_loop_rounds 1 ?_
      rw [rounds_succ]
      go_wp2
      go_ret2
      exact ⟨by rw [hw1.out]; rfl, rfl⟩
    · go_enter Try.func42, Try.ntmps42
      go_wp2_with (go_at_call 54; refine (rbad_any q r hg hc _ P D n _ _ HP.out H.out OK.out.len).mono ?_; rintro e w' ⟨he, rfl⟩; rw [HR.out] at he; subst he)
      go_loop [7, 8] (fun sv i => ∃ k : Nat, k ≤ D.wait.length ∧ i = .int .i64 k ∧ sv = .string (readsOf (D.wait.take k) m S0)) (fun _ i => D.wait.length - (intOf i).toNat)
      case atStart => exact ⟨0, by omega, rfl, rfl⟩
      case round =>
        obtain ⟨k, hk, rfl, rfl⟩ := hrel
        by_cases hlt : k < D.wait.length
        · have c6 : w.cell? ⟨g, k * 2, none⟩ = some (.int .i64 (D.wait[k].1 : Int)) := own_cell H.out.late rfl (by rw [Nat.mul_comm]; exact (wcells_get _ _ hlt).1)
          have c7 : w.cell? ⟨g, k * 2 + 1, none⟩ = some (.string D.wait[k].2) := own_cell H.out.late rfl (by rw [Nat.mul_comm]; exact (wcells_get _ _ hlt).2)
          have hnx := readsOf_take D.wait m k S0 hlt
          obtain ⟨at_, hat⟩ : ∃ x, D.wait[k].1 = x := ⟨_, rfl⟩
          obtain ⟨str, hstr⟩ : ∃ x, D.wait[k].2 = x := ⟨_, rfl⟩
          rw [hat] at c6 hnx
          rw [hstr] at c7 hnx
          by_cases he : at_ = m
          · have ht : ((at_ : Int) == (m : Int)) = true := by simp [he]
            rw [if_pos he] at hnx
            have HN := Lib.hid hnx
            clear hnx he hat hstr
            go_wp2
            go_round
            case measure => simp [intOf]; omega
            case rel => exact ⟨k + 1, by omega, by go_num, congrArg Value.string HN.out.symm⟩
          · have ht : ((at_ : Int) == (m : Int)) = false := by simp; omega
            rw [if_neg he] at hnx
            have HN := Lib.hid hnx
            clear hnx he hat hstr
            go_wp2
            go_round
            case measure => simp [intOf]; omega
            case rel => exact ⟨k + 1, by omega, by go_num, congrArg Value.string HN.out.symm⟩
        · have hkl : k = D.wait.length := by omega
          have hfin : readsOf (D.wait.take k) m S0 = readsOf D.wait m S0 := by rw [hkl, List.take_length]
          rw [hfin]
          clear hfin hkl
          go_wp2
          go_ret2
          exact ⟨rfl, rfl⟩
  · have e1 : rtext P D a = ⟨#[]⟩ := by unfold rtext; rw [if_neg hr]
    rw [e1]
    obtain ⟨c, hcc⟩ : ∃ c, rdy P D a = c := ⟨_, rfl⟩
    rw [hcc] at hr ⊢
    have hcb : (c != 0) = true := by simpa using hr
    have HC := Lib.hid hcc
    clear h hp ok hr e1 hcc
    go_enter Try.func42, Try.ntmps42
    go_wp2_with (go_at_call 54; refine (rbad_any q r hg hc _ P D n _ _ HP.out H.out OK.out.len).mono ?_; rintro e w' ⟨he, rfl⟩; rw [HC.out] at he; subst he)
    go_ret2
    exact ⟨rfl, rfl⟩
end Go.Proofs.Ythppnjmepeeejaa
