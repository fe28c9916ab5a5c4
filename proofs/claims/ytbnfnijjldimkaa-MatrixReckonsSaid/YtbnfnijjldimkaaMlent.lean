/-
  The walks of the matrix laws' wide, lent and kept.
-/
import Derived.Test.YtbnfnijjldimkaaMlaw
import Derived.Test.YtbnfnijjldimkaaMapp
namespace Go.Proofs.Ytbnfnijjldimkaa
open Go.RowKit
set_option linter.unusedVariables false
set_option linter.unusedSimpArgs false
/-- is a matrix too large to be reckoned with? -/
def wideB (r c : Int) (n : Nat) : Bool := decide (40 < r) || (decide (40 < c) || decide (1600 < n))
theorem wideB_no {r c : Int} {n : Nat} (h : wideB r c n = false) : r ≤ 40 ∧ c ≤ 40 ∧ n ≤ 1600 := by
  unfold wideB at h
  simp only [Bool.or_eq_false_iff, decide_eq_false_iff_not] at h
  omega
set_option maxHeartbeats 800000 in
theorem wide_any (r c : Int) (n cap : Nat) (a : Option Addr) (w : World) (hl : n ≤ maxLen) :
    Calls Try.prog 10 #[.agg #[.int .i64 r, .int .i64 c, .slice a n cap]] w fun e w' => e = .returned (.bool (wideB r c n)) ∧ Below w.heap.size w w' := by
  unfold maxLen at hl
  have go : ∀ b, wideB r c n = b → Ending.returned (.bool b) = .returned (.bool (wideB r c n)) := fun b h => by rw [h]
  by_cases h1 : 40 < r
  · have H := Lib.hid (go true (by unfold wideB; rw [decide_eq_true h1]; rfl))
    clear go
    go_enter Try.func10, Try.ntmps10
    go_wp2
    go_ret
    exact ⟨H.out, (Below.refl _ _).alloc (Nat.le_refl _) _⟩
  · by_cases h2 : 40 < c
    · have H := Lib.hid (go true (by unfold wideB; rw [decide_eq_false h1, decide_eq_true h2]; rfl))
      clear go
      go_enter Try.func10, Try.ntmps10
      go_wp2
      go_ret
      exact ⟨H.out, (Below.refl _ _).alloc (Nat.le_refl _) _⟩
    · by_cases h3 : 1600 < n
      · have h4 : (1600 : Int) < (n : Int) := by omega
        have H := Lib.hid (go true (by unfold wideB; rw [decide_eq_false h1, decide_eq_false h2, decide_eq_true h3]; rfl))
        clear go
        go_enter Try.func10, Try.ntmps10
        go_wp2
        go_ret
        exact ⟨H.out, (Below.refl _ _).alloc (Nat.le_refl _) _⟩
      · have h4 : ¬ (1600 : Int) < (n : Int) := by omega
        have H := Lib.hid (go false (by unfold wideB; rw [decide_eq_false h1, decide_eq_false h2, decide_eq_false h3]; rfl))
        clear go
        go_enter Try.func10, Try.ntmps10
        go_wp2
        go_ret
        exact ⟨H.out, (Below.refl _ _).alloc (Nat.le_refl _) _⟩
theorem Rd.news {w : World} {ad : Addr} {L : List (BitVec 8)} (h : Rd w (some ad) L) : ∀ j u, (ncells L)[j]? = some u → w.cell? (ad.add j) = some u := by
  intro j u hj
  have hl : j < L.length := by
    have := (List.getElem?_eq_some_iff.1 hj).1
    rwa [ncells_length] at this
  obtain ⟨g, o, ha, hc⟩ := h j hl
  obtain rfl := Option.some.inj ha
  rw [ncells_get _ _ hl] at hj
  have e1 : (⟨g, o, none⟩ : Addr).add j = ⟨g, o + j, none⟩ := by unfold Addr.add; split <;> simp_all
  rw [e1, ← hj]; exact hc
theorem own_row2 {w : World} {base g cap n : Nat} {e : TypeId} {xs : List Value} (h : w.ownsRow base e 1 (.slice (some ⟨g, 0, none⟩) n cap) n xs) (hn : 0 < n) : ∃ sp, base ≤ g ∧ n ≤ cap ∧ cap ≤ maxLen ∧ Row w g e (xs ++ sp) := by
  obtain ⟨g', cap', sp, he, h1, h2, h3, h4⟩ := own_row1 h hn
  simp only [Value.slice.injEq, Option.some.injEq, Addr.mk.injEq] at he
  obtain ⟨⟨rfl, _, _⟩, _, rfl⟩ := he
  exact ⟨sp, h1, h2, h3, h4⟩
/-- a matrix that has been lent -/
def LentAns (w : World) (r c : Int) (n : Nat) (L : List (BitVec 8)) (e : Ending) (w' : World) : Prop :=
  ∃ g cap sp, e = .returned (.agg #[.int .i64 r, .int .i64 c, .slice (some ⟨g, 0, none⟩) n cap]) ∧ w.heap.size ≤ g ∧ n + 1 ≤ cap ∧ cap ≤ maxLen ∧ Row w' g 5 ((ncells L ++ [.int .u8 77]) ++ sp) ∧ Below w.heap.size w w'
/-- behind the second append -/
theorem lent_grown {w0 wr w2 : World} {b0 b1 n : Nat} {xs ys : List Value} {x y z v0 v1 : Value} (h0 : wr.ownsRow w0.heap.size 5 1 v0 n xs) (h : B2 w0 b0 b1 [x, y, z] wr) (hle : w0.heap.size ≤ b0) (hne : b0 ≠ b1) (hgr : wr.grownBy w2 v0.ownBlock) (hown : w2.ownsRow w0.heap.size 5 1 v1 (n + 1) ys) (v : Value) : Row w2 b0 24 [x, y, z] ∧ Row w2 b1 24 [.int .i64 0, .int .i64 0, .slice none 0 0] ∧ B2 w0 b0 b1 [x, y, v] (w2.setCell ⟨b0, 2, none⟩ v) ∧ (w2.setCell ⟨b0, 2, none⟩ v).ownsRow w0.heap.size 5 1 v1 (n + 1) ys := by
  have k0 := app_keeps h0 h.one hgr (by decide)
  have k1 := app_keeps h0 h.res hgr (by decide)
  have k4 := app_below h0 h.bel hgr
  refine ⟨k0, k1, ⟨k0.set 2 v, k1.other (by exact fun e => hne e.symm) v, k4.setCell hle v, h.le⟩, ?_⟩
  exact ownsRow_fr hown ((Fr.refl [b0] w2).setCell (p := ⟨b0, 2, none⟩) (Or.inl (by simp)) v) (fun g hg hm9 => by
    simp only [List.mem_singleton] at hm9
    exact k0.ne_own hown (by decide) (by rw [hg, hm9]))
set_option maxRecDepth 100000 in
set_option maxHeartbeats 1600000 in
theorem lent_any (r c : Int) (a : Option Addr) (n cap : Nat) (L : List (BitVec 8)) (w : World) (hn : n = L.length) (h2 : n ≤ 1600) (hL : Rd w a L) (hnone : a = none → n = 0 ∧ cap = 0) :
    Calls Try.prog 12 #[.agg #[.int .i64 r, .int .i64 c, .slice a n cap]] w fun e w' => LentAns w r c n L e w' := by
  obtain ⟨i9, hi0, hz0, hz1, hz2⟩ := info_parts u8parts
  obtain ⟨na, hna⟩ : ∃ na, na = ncells L := ⟨_, rfl⟩
  have l1 : na.length = n * 1 := by rw [hna, ncells_length, Nat.mul_one, hn]
  have s1 : ∀ w', Below w.heap.size w w' → ∀ p, a = some p → ∀ j u, na[j]? = some u → w'.cell? (p.add j) = some u := fun w' hb' p hp => by subst hp; rw [hna]; exact (hL.after hb').news
  have o1 : ∀ u ∈ na, u.oneCell' = true := by rw [hna]; exact ncells_one _
  have S0 := Lib.hid (b2_start w (.int .i64 r) (.int .i64 c) (.slice a n cap))
  unfold LentAns
  rw [← hna]
  have HL1 := Lib.hid l1
  have HS1 := Lib.hid s1
  have HO1 := Lib.hid o1
  have HNN := Lib.hid hnone
  obtain ⟨x0, x1, x2⟩ := box3 S0.out.one
  clear hna l1 s1 o1 hn hL hnone
  go_enter Try.func12, Try.ntmps12
  go_wp2_with (first
    | (at_builtin; have h9 := S0.out; clear S0; go_loud (skip; refine wpList_append_copy _ rfl _ (.tmp 5) 22 rfl 5 i9 _ 1 1 Try.underlying22 hi0 hz0 hz1 hz2 rfl (by omega) rfl a n cap na rfl HNN.out HL1.out (HS1.out _ h9.bel) HO1.out (by unfold maxLen; omega) (by omega) ?_; intro a1 cap1 w1 hown hb; have hz := h9.bel.size; have hm := h9.after hb; have S1 := Lib.hid (And.intro hm (own_base hown hz)); clear h9 hown hb hm hz))
    | (at_builtin; have h9 := S1.out; clear S1; go_loud (skip; have hal := (Below.refl w1.heap.size w1).alloc (Nat.le_refl _) (.cells #[.int .u8 77] 5); have hm := h9.1.after hal; have hown0 := h9.2.alloc (.cells #[.int .u8 77] 5); refine wpList_append_lies _ rfl (.tmp 7) (.tmp 8) 22 rfl w.heap.size 5 i9 _ 1 1 Try.underlying22 hi0 hz0 hz1 hz2 rfl (by omega) _ n na rfl hown0 ⟨w1.heap.size, 0, none⟩ 1 1 [.int .u8 77] rfl rfl (World.news_of_block (cs := #[.int .u8 77]) (t := 5) (fr := (0, 0)) (heap_alloc_new w1 _)) (by simp [Value.oneCell']) (by omega) (by unfold maxLen; omega) (by omega) hm.bel.size _ rfl ?_; intro g2 cap2 w3 hown hgr hat hlt; obtain ⟨sp, gg1, gg2, gg3, gg4⟩ := own_row2 hown (by omega); clear gg4 hat hlt; obtain ⟨k0, k1, k2, k3⟩ := lent_grown hown0 hm (Nat.le_refl _) (by omega) hgr hown (.slice (some ⟨g2, 0, none⟩) n cap2); obtain ⟨b0, b1, b2⟩ := box3f k0; obtain ⟨b3, b4, b5⟩ := box3 k0; obtain ⟨d0, d1, d2⟩ := box3 k2.one; obtain ⟨e3, e4, e5⟩ := box3 k2.res; obtain ⟨f3, f4, f5⟩ := box3f k2.res; have S2 := Lib.hid (And.intro k2 k3); clear h9 hal hm hown0 hown hgr k0 k1 k2 k3)))
  obtain ⟨sp, kk1, kk2, kk3, hrow⟩ := own_row2 S2.out.2 (by omega)
  have hy := set3_row (a := .int .i64 r) (b := .int .i64 c) (c := .slice (some ⟨g2, 0, none⟩) n cap2) S2.out.1.res
  obtain ⟨y0, y1, y2⟩ := box3 hy
  exact bodyPost_ret (v := .agg #[.int .i64 r, .int .i64 c, .slice (some ⟨g2, 0, none⟩) n cap2]) (by simp [results, Try.results12, go_sem, y0, y1, y2]) rfl ⟨g2, cap2, sp, rfl, kk1, kk2, kk3, set3_other hrow (fun e => S2.out.1.res.ne hrow (by decide) e.symm), set3_below S2.out.1.bel (by omega)⟩
end Go.Proofs.Ytbnfnijjldimkaa
