/-
  The walks of the document's Pick.
-/
import Derived.Test.YtbnfnijjldimkabRm4
import Derived.Test.YtbnfnijjldimkabMapp2
import Derived.RegionTactic
import Derived.Deep.RegionLaw
namespace Go.Proofs.Ytbnfnijjldimkab
open Go.RowKit
set_option linter.unusedVariables false
set_option linter.unusedSimpArgs false
theorem tab_add (n m : Nat) (f : Nat → BitVec 8) : tab (n + m) f = tab n f ++ tab m (fun j => f (n + j)) := by
  unfold tab
  rw [List.range_add, List.map_append, List.map_map]
  rfl
theorem tab_row (k c : Nat) (P : Nat → Nat → BitVec 8) : ncells (tab (k * c) (tb c P)) ++ ncells (tab c (P k)) = ncells (tab ((k + 1) * c) (tb c P)) := by
  rw [← ncells_append, Nat.add_mul, Nat.one_mul, tab_add]
  congr 2
  exact tab_congr fun j hj => (tb_at P k j hj).symm
/-- what the document's Pick holds -/
structure PkS (w0 : World) (b0 b1 bx n : Nat) (LA LX xs : List Value) (v : Value) (w : World) : Prop where
  b2 : B2 w0 b0 b1 LA w
  box : Row w bx 71 LX
  own : w.ownsRow w0.heap.size 5 1 v n xs
theorem PkS.after {w0 w w' : World} {b0 b1 bx n : Nat} {LA LX xs : List Value} {v : Value} (h : PkS w0 b0 b1 bx n LA LX xs v w) (hb : Below w.heap.size w w') : PkS w0 b0 b1 bx n LA LX xs v w' :=
  ⟨h.b2.after hb, h.box.after hb, ownsRow_fr h.own (Fr.of_below (L := []) hb) (by simp)⟩
theorem pk_grow {w0 wr w2 : World} {b0 b1 bx n i0 : Nat} {LA xs xs0 : List Value} {x y z : Value} (v0 v1 : Value) (h0 : wr.ownsRow w0.heap.size 5 1 v0 i0 xs0) (h : B2 w0 b0 b1 LA wr) (hbx : Row wr bx 71 [x, y, z]) (n0 : b0 ≠ bx) (n1 : b1 ≠ bx) (n3 : w0.heap.size ≤ bx) (hgr : wr.grownBy w2 v0.ownBlock) (hown : w2.ownsRow w0.heap.size 5 1 v1 n xs) : Row w2 bx 71 [x, y, z] ∧ PkS w0 b0 b1 bx n LA [x, y, v1] xs v1 (w2.setCell ⟨bx, 2, none⟩ v1) := by
  have k0 := app_keeps h0 h.one hgr (by decide)
  have k2 := app_keeps h0 h.res hgr (by decide)
  have k3 := app_keeps h0 hbx hgr (by decide)
  have k4 := app_below h0 h.bel hgr
  refine ⟨k3, ⟨k0.other (by exact n0) v1, k2.other (by exact n1) v1, k4.setCell n3 v1, h.le⟩, k3.set 2 v1, ?_⟩
  exact ownsRow_fr hown ((Fr.refl [bx] w2).setCell (p := ⟨bx, 2, none⟩) (Or.inl (by simp)) v1) (fun g hg hm9 => by
    simp only [List.mem_singleton] at hm9
    exact k3.ne_own hown (by decide) (by rw [hg, hm9]))
set_option maxRecDepth 100000 in
set_option maxHeartbeats 1600000 in
theorem rpick_bad (r c : Int) (n cap ln lcap : Nat) (a la : Option Addr) (w : World) (hl : n ≤ maxLen) (hl2 : ln ≤ maxLen) (h : rightB r c n = false ∨ ln < 1 ∨ 255 < ln) :
    Calls Try.prog 35 #[.agg #[.int .i64 r, .int .i64 c, .slice a n cap], .slice la ln lcap] w fun e w' => e = .returned (.tuple #[nilMat, .int .i64 1]) ∧ Below w.heap.size w w' := by
  have S0 := Lib.hid (b2_start w (.int .i64 r) (.int .i64 c) (.slice a n cap))
  have hx : rightB r c n = false ∨ (rightB r c n = true ∧ (ln : Int) < 1) ∨ (rightB r c n = true ∧ ¬ (ln : Int) < 1 ∧ 255 < (ln : Int)) := by
    cases hb : rightB r c n
    · exact Or.inl rfl
    · rw [hb] at h
      rcases h with h | h | h
      · cases h
      · exact Or.inr (Or.inl ⟨rfl, by omega⟩)
      · exact Or.inr (Or.inr ⟨rfl, by omega, by omega⟩)
  unfold maxLen at hl2
  clear h
  rcases hx with hx | ⟨hx, hx2⟩ | ⟨hx, hx2, hx3⟩
  all_goals
    have HX := Lib.hid hx
    clear hx
    go_enter Try.func35, Try.ntmps35
    go_wp2_with (go_at_call 57; have h9 := S0.out; clear S0; refine (rright_gen r c n a cap _ hl).mono ?_; rintro e w1 ⟨rfl, hb⟩; rw [HX.out]; have hm := h9.after hb; obtain ⟨z0, z1, z2⟩ := box3 hm.res; obtain ⟨f0, f1, f2⟩ := box3f hm.res; have S1 := Lib.hid hm; clear h9 hb hm)
    have hy := set3_row (a := .int .i64 0) (b := .int .i64 0) (c := .slice none 0 0) S1.out.res
    obtain ⟨y0, y1, y2⟩ := box3 hy
    exact bodyPost_ret (v := .tuple #[.agg #[.int .i64 0, .int .i64 0, .slice none 0 0], .int .i64 1]) (by simp [results, Try.results35, go_sem, y0, y1, y2]) rfl ⟨rfl, set3_below S1.out.bel (by omega)⟩
/-- what the document's Pick answers of a matrix and not too many rows -/
def RPickAns (w : World) (r c : Nat) (A : Nat → Nat → BitVec 8) (L : List Int) (e : Ending) (w' : World) : Prop :=
  (((∃ i, i < L.length ∧ ¬ (0 ≤ L.getD i 0 ∧ L.getD i 0 < r)) ∧ e = .returned (.tuple #[nilMat, .int .i64 1])) ∨ ((∀ i, i < L.length → 0 ≤ L.getD i 0 ∧ L.getD i 0 < r) ∧ ∃ g cap sp, e = .returned (.tuple #[.agg #[.int .i64 L.length, .int .i64 c, .slice (some ⟨g, 0, none⟩) (L.length * c) cap], .int .i64 0]) ∧ Row w' g 5 (ncells (mat L.length c (fun i j => A (L.getD i 0).toNat j)).cells ++ sp))) ∧ Below w.heap.size w w'
set_option maxRecDepth 100000 in
set_option maxHeartbeats 3200000 in
theorem rpick_ok (r c ga oa n cap lg lo lcap : Nat) (A : Nat → Nat → BitVec 8) (L : List Int) (w : World) (r1 : 1 ≤ r) (r2 : r ≤ 255) (c1 : 1 ≤ c) (c2 : c ≤ 255) (hn : n = r * c) (hcap : n ≤ cap) (l1 : 1 ≤ L.length) (l2 : L.length ≤ 255)
    (ha : MatRd w ga oa r c A) (hL : ∀ j, j < L.length → w.cell? ⟨lg, lo + j, none⟩ = some (.int .i64 (L.getD j 0))) :
    Calls Try.prog 35 #[.agg #[.int .i64 r, .int .i64 c, .slice (some ⟨ga, oa, none⟩) n cap], .slice (some ⟨lg, lo, none⟩) L.length lcap] w fun e w' => RPickAns w r c A L e w' := by
  have hm := rightB_ok r1 r2 c1 c2 hn
  have q1 : n ≤ 255 * 255 := by rw [hn]; exact Nat.mul_le_mul r2 c2
  obtain ⟨K, hK⟩ : ∃ K, K = L.length := ⟨_, rfl⟩
  have hLlt : lg < w.heap.size := rd_cell_lt (hL 0 (by omega))
  have gal : ga < w.heap.size := rd_cell_lt (ha 0 0 (by omega) (by omega))
  unfold RPickAns
  rw [← hK] at l1 l2 hL ⊢
  have i1 : (1 : Int) ≤ K := by omega
  have i2 : (K : Int) ≤ 255 := by omega
  have i3 : ¬ (K : Int) < 1 := by omega
  have S0 := Lib.hid (b2_start w (.int .i64 r) (.int .i64 c) (.slice (some ⟨ga, oa, none⟩) n cap))
  obtain ⟨i9, hi0, hz0, hz1, hz2⟩ := info_parts u8parts
  obtain ⟨P, hP⟩ : ∃ P : Nat → Nat → BitVec 8, P = fun i j => A (L.getD i 0).toNat j := ⟨_, rfl⟩
  have hsrc : ∀ y, y < r → ∀ w', Below w.heap.size w w' → ∀ j u, (ncells (tab c (A y)))[j]? = some u → w'.cell? ((⟨ga, oa + y * c, none⟩ : Addr).add j) = some u := fun y hy w' hb j u hj => by
    have hl : j < c := by
      have := (List.getElem?_eq_some_iff.1 hj).1
      rwa [ncells_length, tab_length] at this
    rw [ncells_get _ _ (by rw [tab_length]; exact hl), tab_get _ _ _ hl] at hj
    have e1 : (⟨ga, oa + y * c, none⟩ : Addr).add j = ⟨ga, oa + y * c + j, none⟩ := by unfold Addr.add; split <;> simp_all
    rw [e1, (hb.cell (p := ⟨ga, oa + y * c + j, none⟩) gal).trans (ha y j hy hl), hj]
  have HX := Lib.hid hm
  have HN := Lib.hid hn
  have HK := Lib.hid hK
  have HL := Lib.hid hL
  have HP := Lib.hid hP
  have HSRC := Lib.hid hsrc
  rw [← hP]
  clear hm hn hK ha hL hP hsrc
  go_enter Try.func35, Try.ntmps35
  go_wp2_with (go_at_call 57; have h9 := S0.out; clear S0; refine (rright_gen r c n _ cap _ (by unfold maxLen; omega)).mono ?_; rintro e w1 ⟨rfl, hb⟩; rw [HX.out]; have hm := h9.after hb; obtain ⟨x0, x1, x2⟩ := box3 hm.one; have S1 := Lib.hid hm; clear h9 hb hm)
  have S3 : Hid (PkS w w.heap.size (w.heap.size + 1) w1.heap.size (0 * c) [.int .i64 r, .int .i64 c, .slice (some ⟨ga, oa, none⟩) n cap] [.int .i64 K, .int .i64 c, .slice none 0 0] (ncells (tab (0 * c) (tb c P))) (.slice none 0 0) (w1.alloc (.cells #[.int .i64 K, .int .i64 c, .slice none 0 0] 71))) := by
    have hbl : Below w1.heap.size w1 (w1.alloc (.cells #[.int .i64 K, .int .i64 c, .slice none 0 0] 71)) := (Below.refl _ _).alloc (Nat.le_refl _) _
    refine Lib.hid ⟨S1.out.after hbl, Row.new _ _ _, ?_⟩
    rw [Nat.zero_mul]
    exact World.ownsRow_nil _ _ _ _
  have n0 : w.heap.size ≠ w1.heap.size := by have := S1.out.one.lt; omega
  have n1 : w.heap.size + 1 ≠ w1.heap.size := by have := S1.out.res.lt; omega
  have n3 : w.heap.size ≤ w1.heap.size := S1.out.bel.size
  have N0 := Lib.hid n0
  have N1 := Lib.hid n1
  have N3 := Lib.hid n3
  clear S1 n0 n1 n3
  go_loopw [8] (fun i wr => ∃ k : Nat, k ≤ K ∧ i = .int .i64 k ∧ (∀ i, i < k → 0 ≤ L.getD i 0 ∧ L.getD i 0 < r) ∧ ∃ v, PkS w w.heap.size (w.heap.size + 1) w1.heap.size (k * c) [.int .i64 r, .int .i64 c, .slice (some ⟨ga, oa, none⟩) n cap] [.int .i64 K, .int .i64 c, v] (ncells (tab (k * c) (tb c P))) v wr) (fun i _ => K - (intOf i).toNat)
  case atStart => exact ⟨0, by omega, rfl, fun i h => by omega, _, S3.out⟩
  case round =>
    clear S3
    obtain ⟨k, hk, rfl, hall, v, hs⟩ := hrel
    have HALL := Lib.hid hall
    clear hall
    by_cases hlt : k < K
    · have cl : World.cell? wr ⟨lg, lo + k, none⟩ = some (.int .i64 (L.getD k 0)) := (hs.b2.bel.cell (p := ⟨lg, lo + k, none⟩) hLlt).trans (HL.out k hlt)
      obtain ⟨x, hx⟩ : ∃ x, x = L.getD k 0 := ⟨_, rfl⟩
      rw [← hx] at cl
      obtain ⟨u0, u1, u2⟩ := box3 hs.b2.one
      by_cases hgood : 0 ≤ x ∧ x < r
      · obtain ⟨y, rfl⟩ : ∃ y : Nat, x = (y : Int) := ⟨x.toNat, by omega⟩
        have hy : y < r := by omega
        obtain ⟨x0, x1, x2⟩ := box3 hs.box
        obtain ⟨M0, hM0⟩ : ∃ q, q = k * c := ⟨_, rfl⟩
        have hM1 : M0 ≤ 255 * 255 := by rw [hM0]; exact Nat.mul_le_mul (by omega) c2
        obtain ⟨q, hq⟩ : ∃ q, q = y * c := ⟨_, rfl⟩
        have bq := mul_row hy HN.out hq
        have eq1 : (y : Int) * (c : Int) = (q : Int) := by rw [hq]; simp
        have eq2 : ((y : Int) + 1) * (c : Int) = (q : Int) + (c : Int) := by rw [Int.add_mul, eq1]; simp
        have hz := hs.b2.bel.size
        rw [← hM0] at hs
        have HXX := Lib.hid hx
        have HM0 := Lib.hid hM0
        have HQ := Lib.hid hq
        have S4 := Lib.hid hs
        have g1 : ¬ ((y : Int) < 0) := by omega
        have g2 : ¬ ((r : Int) ≤ (y : Int)) := by omega
        clear hs hx hgood hM0 hq
        go_wp2_with fail
        go_quiet (fail)
        obtain ⟨wq, hwq⟩ : ∃ wq, wq = wr.drewN nq := ⟨_, rfl⟩
        rw [← hwq]
        have S5 : Hid (PkS w w.heap.size (w.heap.size + 1) w1.heap.size M0 [.int .i64 r, .int .i64 c, .slice (some ⟨ga, oa, none⟩) n cap] [.int .i64 K, .int .i64 c, v] (ncells (tab M0 (tb c P))) v wq) := by
          rw [hwq]
          exact Lib.hid (S4.out.after ⟨rfl, rfl, rfl, Nat.le_refl _, fun _ _ => rfl⟩)
        clear S4 hwq cl u0 u1 u2 x0 x1 x2
        have cl : World.cell? wq ⟨lg, lo + k, none⟩ = some (.int .i64 (y : Int)) := (S5.out.b2.bel.cell (p := ⟨lg, lo + k, none⟩) hLlt).trans (by rw [HL.out k hlt, ← HXX.out])
        obtain ⟨u0, u1, u2⟩ := box3 S5.out.b2.one
        obtain ⟨x0, x1, x2⟩ := box3 S5.out.box
        have hzq := S5.out.b2.bel.size
        go_wp2_with fail
        have e1 := IntWalk.i64_in (q : Int) (by omega)
        have e2 := IntWalk.i64_in ((y : Int) + 1) (by omega)
        have e3 := IntWalk.i64_in ((q : Int) + (c : Int)) (by omega)
        have e4 : 0 ≤ (q : Int) ∧ (q : Int) ≤ (q : Int) + (c : Int) ∧ (q : Int) + (c : Int) ≤ (cap : Int) := by omega
        have e5 : ((q : Int) + (c : Int)).toNat = q + c := by omega
        have e6 : ((q : Int)).toNat = q := by omega
        have e7 : ¬ cap = q := by omega
        have e8 : 0 ≤ (q : Int) + (c : Int) := by omega
        have e9 : q + c - q = c := by omega
        have e10 : (0 : Int) ≤ (k : Int) ∧ (k : Int) < (K : Int) := by omega
        have S5d : Hid (PkS w w.heap.size (w.heap.size + 1) w1.heap.size M0 [.int .i64 r, .int .i64 c, .slice (some ⟨ga, oa, none⟩) n cap] [.int .i64 K, .int .i64 c, v] (ncells (tab M0 (tb c P))) v wq.drew) := Lib.hid (S5.out.after (w' := wq.drew) ((Below.refl _ _).drew))
        go_still_tail 20, (by kernel_rfl)
        clear e1 e2 e3 e4 e5 e6 e7 e8 e9 e10 S5
        change wpList _ _ _ _ _ wq.drew
        obtain ⟨w2, hw2⟩ : ∃ w2, w2 = wq.drew := ⟨_, rfl⟩
        rw [← hw2] at S5d ⊢
        have hzd := S5d.out.b2.bel.size
        clear hw2 cl u0 u1 u2 x0 x1 x2 hzq
        go_wp2_with (at_builtin; go_loud (skip; refine wpList_append_lies _ rfl (.tmp 51) (.tmp 69) 56 rfl w.heap.size 5 i9 _ 1 1 Try.underlying56 hi0 hz0 hz1 hz2 rfl (by omega) v M0 (ncells (tab M0 (tb c P))) rfl S5d.out.own ⟨ga, oa + q, none⟩ c (cap - q) (ncells (tab c (A y))) rfl (by rw [ncells_length, tab_length, Nat.mul_one]) (by rw [HQ.out]; exact HSRC.out y hy _ S5d.out.b2.bel) (ncells_one _) (by omega) (by unfold maxLen; omega) (by omega) hzd _ rfl ?_; intro gg cap3 w3 hown3 hgr3 hat3 hlt3; have hG := pk_grow v _ S5d.out.own S5d.out.b2 S5d.out.box N0.out N1.out N3.out hgr3 hown3; obtain ⟨b0, b1, b2⟩ := box3 hG.1; obtain ⟨p0, p1, p2⟩ := box3f hG.1; have S6 := Lib.hid hG.2; clear hG hown3 hgr3 hat3 hlt3))
        go_roundw
        case measure => simp [intOf]; omega
        case rel =>
          refine ⟨k + 1, by omega, by go_num, fun i hi => ?_, .slice (some ⟨gg, 0, none⟩) (M0 + c) cap3, ?_⟩
          · by_cases e : i = k
            · rw [e, ← HXX.out]; omega
            · exact HALL.out i (by omega)
          · have h9 := S6.out
            have e1 : P k = A y := by rw [HP.out]; funext j; simp only [← HXX.out, Int.toNat_natCast]
            have e2 : M0 + c = (k + 1) * c := by rw [HM0.out, Nat.add_mul, Nat.one_mul]
            have e3 : ncells (tab M0 (tb c P)) ++ ncells (tab c (A y)) = ncells (tab ((k + 1) * c) (tb c P)) := by rw [← e1, HM0.out, tab_row]
            rw [e3, e2] at h9
            rw [e2]
            exact h9
      · have hbad : x < 0 ∨ (¬ x < 0 ∧ (r : Int) ≤ x) := by omega
        have HXX := Lib.hid hx
        have HG := Lib.hid hgood
        obtain ⟨z0, z1, z2⟩ := box3 hs.b2.res
        obtain ⟨f0, f1, f2⟩ := box3f hs.b2.res
        have S4 := Lib.hid (fun nq => (hs.after (w' := wr.drewN nq) ⟨rfl, rfl, rfl, Nat.le_refl _, fun _ _ => rfl⟩).b2)
        have e10 : (0 : Int) ≤ (k : Int) ∧ (k : Int) < (K : Int) := by omega
        clear hs hx hgood
        rcases hbad with h5 | ⟨h5, h6⟩
        all_goals
          go_wp2_with fail
          go_quiet (fail)
          go_wp2
          have hy := set3_row (a := .int .i64 0) (b := .int .i64 0) (c := .slice none 0 0) (S4.out nq).res
          obtain ⟨y0, y1, y2⟩ := box3 hy
          exact bodyPost_ret (v := .tuple #[.agg #[.int .i64 0, .int .i64 0, .slice none 0 0], .int .i64 1]) (by simp [results, Try.results35, go_sem, y0, y1, y2]) rfl ⟨Or.inl ⟨⟨k, hlt, by rw [← HXX.out]; exact HG.out⟩, rfl⟩, set3_below (S4.out nq).bel (by omega)⟩
    · obtain rfl : K = k := by omega
      obtain ⟨x0, x1, x2⟩ := box3 hs.box
      obtain ⟨t0, t1, t2⟩ := box3 hs.b2.res
      obtain ⟨f0, f1, f2⟩ := box3f hs.b2.res
      have q0 : 0 < K * c := Nat.mul_pos (by omega) (by omega)
      obtain ⟨g, cap9, sp, rfl, hg, hcap9, _, hrow⟩ := own_row1 hs.own q0
      have S4 := Lib.hid (And.intro hs.b2 hrow)
      clear hs hrow
      go_wp2
      have hy := set3_row (a := .int .i64 K) (b := .int .i64 c) (c := .slice (some ⟨g, 0, none⟩) (K * c) cap9) S4.out.1.res
      obtain ⟨y0, y1, y2⟩ := box3 hy
      exact bodyPost_ret (v := .tuple #[.agg #[.int .i64 K, .int .i64 c, .slice (some ⟨g, 0, none⟩) (K * c) cap9], .int .i64 0]) (by simp [results, Try.results35, go_sem, y0, y1, y2]) rfl ⟨Or.inr ⟨HALL.out, g, cap9, sp, rfl, by
        have h9 := S4.out.2
        exact set3_other h9 (fun e => S4.out.1.res.ne h9 (by decide) e.symm)⟩, set3_below S4.out.1.bel (by omega)⟩
end Go.Proofs.Ytbnfnijjldimkab
