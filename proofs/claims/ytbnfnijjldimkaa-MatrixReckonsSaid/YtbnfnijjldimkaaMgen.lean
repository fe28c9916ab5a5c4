/-
  Products, inverses, ranks, rows, one under another: what they must be of any matrices, the program's and the document's.
-/
import Derived.Test.YtbnfnijjldimkaaRpick
import Derived.Test.YtbnfnijjldimkaaMappG
import Derived.Test.YtbnfnijjldimkaaMLinv
namespace Go.Proofs.Ytbnfnijjldimkaa
open Go.RowKit
set_option linter.unusedVariables false
set_option linter.unusedSimpArgs false
/-- a code and a matrix -/
structure MSp where
  code : Int
  rows : Int
  cols : Int
  cells : List (BitVec 8)
/-- the matrix of a list -/
def fm (L : List (BitVec 8)) (c i j : Nat) : BitVec 8 := L.getD (i * c + j) 0#8
def noSp (k : Int) : MSp := ⟨k, 0, 0, []⟩
def GenAns (w : World) (S : MSp) (e : Ending) (w' : World) : Prop :=
  ∃ a' cap' ev, e = .returned (.tuple #[.agg #[.int .i64 S.rows, .int .i64 S.cols, .slice a' S.cells.length cap'], ev]) ∧ ErrAt w.heap.size w' ev S.code ∧ Rd w' a' S.cells ∧ (S.cells.length = 0 ∨ ∃ g sp, a' = some ⟨g, 0, none⟩ ∧ w.heap.size ≤ g ∧ Row w' g 5 (ncells S.cells ++ sp)) ∧ Below w.heap.size w w'
def RGenAns (w : World) (S : MSp) (e : Ending) (w' : World) : Prop :=
  ∃ a' cap', e = .returned (.tuple #[.agg #[.int .i64 S.rows, .int .i64 S.cols, .slice a' S.cells.length cap'], .int .i64 S.code]) ∧ Rd w' a' S.cells ∧ Below w.heap.size w w'
theorem gen_no {w w' : World} {S : MSp} {k : Int} {ev : Value} (hS : S = noSp k) (he : ErrAt w.heap.size w' ev k) (hb : Below w.heap.size w w') : GenAns w S (.returned (.tuple #[nilMat, ev])) w' := by
  subst hS
  exact ⟨none, 0, ev, rfl, he, Rd.nil _ _, Or.inl rfl, hb⟩
theorem rgen_no {w w' : World} {S : MSp} {k : Int} (hS : S = noSp k) (hb : Below w.heap.size w w') : RGenAns w S (.returned (.tuple #[nilMat, .int .i64 k])) w' := by
  subst hS
  exact ⟨none, 0, rfl, Rd.nil _ _, hb⟩
theorem gen_mat {w w' : World} {S : MSp} {r c n g cap : Nat} {M : Nat → Nat → BitVec 8} {sp : List Value} (hS : S = ⟨0, r, c, (mat r c M).cells⟩) (hn : n = r * c) (hg : w.heap.size ≤ g) (hr : Row w' g 5 (ncells (mat r c M).cells ++ sp)) (hb : Below w.heap.size w w') : GenAns w S (.returned (.tuple #[.agg #[.int .i64 r, .int .i64 c, .slice (some ⟨g, 0, none⟩) n cap], .nilIface])) w' := by
  subst hS
  have hl : (mat r c M).cells.length = n := by rw [tb_cells, tab_length, hn]
  refine ⟨some ⟨g, 0, none⟩, cap, .nilIface, by simp only [hl], ErrAt.ok0 _ _, Rd.of_row hr (by rw [List.drop_zero, ← ncells_length (mat r c M).cells]; exact List.take_left), Or.inr ⟨g, sp, rfl, hg, hr⟩, hb⟩
theorem rgen_mat {w w' : World} {S : MSp} {r c n g cap : Nat} {M : Nat → Nat → BitVec 8} {sp : List Value} (hS : S = ⟨0, r, c, (mat r c M).cells⟩) (hn : n = r * c) (hr : Row w' g 5 (ncells (mat r c M).cells ++ sp)) (hb : Below w.heap.size w w') : RGenAns w S (.returned (.tuple #[.agg #[.int .i64 r, .int .i64 c, .slice (some ⟨g, 0, none⟩) n cap], .int .i64 0])) w' := by
  subst hS
  have hl : (mat r c M).cells.length = n := by rw [tb_cells, tab_length, hn]
  refine ⟨some ⟨g, 0, none⟩, cap, by simp only [hl], Rd.of_row hr (by rw [List.drop_zero, ← ncells_length (mat r c M).cells]; exact List.take_left), hb⟩
/-- products -/
def mulSp (ar ac br bc : Int) (LA LB : List (BitVec 8)) : MSp :=
  if rightB ar ac LA.length = false ∨ rightB br bc LB.length = false then noSp 1 else if ac ≠ br then noSp 19 else ⟨0, ar, bc, (mat ar.toNat bc.toNat (mmul ac.toNat (fm LA ac.toNat) (fm LB bc.toNat))).cells⟩
/-- a matrix argument -/
structure MArg (w : World) (n cap : Nat) (a : Option Addr) (L : List (BitVec 8)) : Prop where
  len : n = L.length
  le : n ≤ cap
  max : cap ≤ 9223372036854775807
  rd : Rd w a L
theorem mul_gen (ar ac br bc : Int) (an bn acap bcap : Nat) (aa ba : Option Addr) (LA LB : List (BitVec 8)) (w : World) (hA : MArg w an acap aa LA) (hB : MArg w bn bcap ba LB) :
    Calls Try.prog 20 #[.agg #[.int .i64 ar, .int .i64 ac, .slice aa an acap], .agg #[.int .i64 br, .int .i64 bc, .slice ba bn bcap]] w fun e w' => GenAns w (mulSp ar ac br bc LA LB) e w' := by
  have ha2 : an ≤ maxLen := by have := hA.le; have := hA.max; unfold maxLen; omega
  have hb2 : bn ≤ maxLen := by have := hB.le; have := hB.max; unfold maxLen; omega
  by_cases h : rightB ar ac an = false ∨ rightB br bc bn = false
  · refine (mul_bad1 ar ac br bc an bn acap bcap aa ba w ha2 hb2 h).mono ?_
    rintro e w' ⟨ev, rfl, he, hb⟩
    exact gen_no (by unfold mulSp; rw [← hA.len, ← hB.len, if_pos h]) he hb
  · have h1 : rightB ar ac an = true := by cases hx : rightB ar ac an; exact absurd (Or.inl hx) h; rfl
    have h2 : rightB br bc bn = true := by cases hx : rightB br bc bn; exact absurd (Or.inr hx) h; rfl
    by_cases hne : ac = br
    · subst hne
      obtain ⟨r, n, rfl, rfl, r1, r2, n1, n2, han⟩ := rightB_out h1
      obtain ⟨n', c, hn', rfl, _, _, c1, c2, hbn⟩ := rightB_out h2
      obtain rfl : n = n' := by omega
      obtain ⟨ga, oa, rfl, hma⟩ := rd_mat hA.rd (by rw [← hA.len, han]) r1 n1
      obtain ⟨gb, ob, rfl, hmb⟩ := rd_mat hB.rd (by rw [← hB.len, hbn]) n1 c1
      refine (mul_ok r n c ga oa an acap gb ob bn bcap _ _ w r1 r2 n1 n2 c1 c2 han hbn hA.le hB.le hA.max hB.max hma hmb).mono ?_
      rintro e w' ⟨g, rfl, hg, hrow, hb⟩
      exact gen_mat (sp := []) (by unfold mulSp; rw [← hA.len, ← hB.len, if_neg h, if_neg (by simp)]; simp only [Int.toNat_natCast]; rfl) rfl hg (by rw [List.append_nil]; exact hrow) hb
    · refine (mul_bad2 ar ac br bc an bn acap bcap aa ba w ha2 hb2 h1 h2 hne).mono ?_
      rintro e w' ⟨ev, rfl, he, hb⟩
      exact gen_no (by unfold mulSp; rw [← hA.len, ← hB.len, if_neg h, if_pos hne]) he hb
theorem rmul_gen (ar ac br bc : Int) (an bn acap bcap : Nat) (aa ba : Option Addr) (LA LB : List (BitVec 8)) (w : World) (hA : MArg w an acap aa LA) (hB : MArg w bn bcap ba LB) :
    Calls Try.prog 29 #[.agg #[.int .i64 ar, .int .i64 ac, .slice aa an acap], .agg #[.int .i64 br, .int .i64 bc, .slice ba bn bcap]] w fun e w' => RGenAns w (mulSp ar ac br bc LA LB) e w' := by
  have ha2 : an ≤ maxLen := by have := hA.le; have := hA.max; unfold maxLen; omega
  have hb2 : bn ≤ maxLen := by have := hB.le; have := hB.max; unfold maxLen; omega
  by_cases h : rightB ar ac an = false ∨ rightB br bc bn = false
  · refine (rmul_bad1 ar ac br bc an bn acap bcap aa ba w ha2 hb2 h).mono ?_
    rintro e w' ⟨rfl, hb⟩
    exact rgen_no (by unfold mulSp; rw [← hA.len, ← hB.len, if_pos h]) hb
  · have h1 : rightB ar ac an = true := by cases hx : rightB ar ac an; exact absurd (Or.inl hx) h; rfl
    have h2 : rightB br bc bn = true := by cases hx : rightB br bc bn; exact absurd (Or.inr hx) h; rfl
    by_cases hne : ac = br
    · subst hne
      obtain ⟨r, n, rfl, rfl, r1, r2, n1, n2, han⟩ := rightB_out h1
      obtain ⟨n', c, hn', rfl, _, _, c1, c2, hbn⟩ := rightB_out h2
      obtain rfl : n = n' := by omega
      obtain ⟨ga, oa, rfl, hma⟩ := rd_mat hA.rd (by rw [← hA.len, han]) r1 n1
      obtain ⟨gb, ob, rfl, hmb⟩ := rd_mat hB.rd (by rw [← hB.len, hbn]) n1 c1
      refine (rmul_ok r n c ga oa an acap gb ob bn bcap _ _ w r1 r2 n1 n2 c1 c2 han hbn hma hmb).mono ?_
      rintro e w' ⟨g, rfl, hg, hrow, hb⟩
      exact rgen_mat (sp := []) (by unfold mulSp; rw [← hA.len, ← hB.len, if_neg h, if_neg (by simp)]; simp only [Int.toNat_natCast]; rfl) rfl (by rw [List.append_nil]; exact hrow) hb
    · refine (rmul_bad2 ar ac br bc an bn acap bcap aa ba w ha2 hb2 h1 h2 hne).mono ?_
      rintro e w' ⟨rfl, hb⟩
      exact rgen_no (by unfold mulSp; rw [← hA.len, ← hB.len, if_neg h, if_pos hne]) hb
/-- one under another -/
def undSp (ar ac br bc : Int) (LA LB : List (BitVec 8)) : MSp :=
  if rightB ar ac LA.length = false ∨ rightB br bc LB.length = false ∨ 255 < ar + br then noSp 1 else if ac ≠ bc then noSp 19 else ⟨0, ((ar.toNat + br.toNat : Nat) : Int), ac, (mat (ar.toNat + br.toNat) ac.toNat (undM ar.toNat (fm LA ac.toNat) (fm LB bc.toNat))).cells⟩
theorem under_gen (ar ac br bc : Int) (an bn acap bcap : Nat) (aa ba : Option Addr) (LA LB : List (BitVec 8)) (w : World) (hA : MArg w an acap aa LA) (hB : MArg w bn bcap ba LB) :
    Calls Try.prog 26 #[.agg #[.int .i64 ar, .int .i64 ac, .slice aa an acap], .agg #[.int .i64 br, .int .i64 bc, .slice ba bn bcap]] w fun e w' => GenAns w (undSp ar ac br bc LA LB) e w' := by
  have ha2 : an ≤ maxLen := by have := hA.le; have := hA.max; unfold maxLen; omega
  have hb2 : bn ≤ maxLen := by have := hB.le; have := hB.max; unfold maxLen; omega
  by_cases h : rightB ar ac an = false ∨ rightB br bc bn = false ∨ 255 < ar + br
  · refine (under_bad1 ar ac br bc an bn acap bcap aa ba w ha2 hb2 h).mono ?_
    rintro e w' ⟨ev, rfl, he, hb⟩
    exact gen_no (by unfold undSp; rw [← hA.len, ← hB.len, if_pos h]) he hb
  · have h1 : rightB ar ac an = true := by cases hx : rightB ar ac an; exact absurd (Or.inl hx) h; rfl
    have h2 : rightB br bc bn = true := by cases hx : rightB br bc bn; exact absurd (Or.inr (Or.inl hx)) h; rfl
    have h3 : ¬ 255 < ar + br := fun hx => h (Or.inr (Or.inr hx))
    obtain ⟨r, n, rfl, rfl, r1, r2, n1, n2, han⟩ := rightB_out h1
    obtain ⟨s, c, rfl, rfl, s1, s2, c1, c2, hbn⟩ := rightB_out h2
    by_cases hne : n = c
    · subst hne
      obtain ⟨ga, oa, rfl, hma⟩ := rd_mat hA.rd (by rw [← hA.len, han]) r1 n1
      obtain ⟨gb, ob, rfl, hmb⟩ := rd_mat hB.rd (by rw [← hB.len, hbn]) s1 n1
      refine (under_ok r s n ga oa gb ob an bn acap bcap _ _ w r1 n1 n2 s1 (by omega) han hbn hma hmb).mono ?_
      rintro e w' ⟨g, rfl, hg, hrow, hb⟩
      exact gen_mat (sp := []) (by unfold undSp; rw [← hA.len, ← hB.len, if_neg h, if_neg (by simp)]; simp only [Int.toNat_natCast]; rfl) rfl hg (by rw [List.append_nil]; exact hrow.row) hb
    · refine (under_bad2 r n s c an bn acap bcap aa ba w r1 n1 n2 s1 c1 c2 (by omega) han hbn hne).mono ?_
      rintro e w' ⟨ev, rfl, he, hb⟩
      exact gen_no (by unfold undSp; rw [← hA.len, ← hB.len, if_neg h, if_pos (by omega)]) he hb
theorem runder_gen (ar ac br bc : Int) (an bn acap bcap : Nat) (aa ba : Option Addr) (LA LB : List (BitVec 8)) (w : World) (hA : MArg w an acap aa LA) (hB : MArg w bn bcap ba LB) :
    Calls Try.prog 33 #[.agg #[.int .i64 ar, .int .i64 ac, .slice aa an acap], .agg #[.int .i64 br, .int .i64 bc, .slice ba bn bcap]] w fun e w' => RGenAns w (undSp ar ac br bc LA LB) e w' := by
  have ha2 : an ≤ maxLen := by have := hA.le; have := hA.max; unfold maxLen; omega
  have hb2 : bn ≤ maxLen := by have := hB.le; have := hB.max; unfold maxLen; omega
  by_cases h : rightB ar ac an = false ∨ rightB br bc bn = false ∨ 255 < ar + br
  · refine (runder_bad1 ar ac br bc an bn acap bcap aa ba w ha2 hb2 h).mono ?_
    rintro e w' ⟨rfl, hb⟩
    exact rgen_no (by unfold undSp; rw [← hA.len, ← hB.len, if_pos h]) hb
  · have h1 : rightB ar ac an = true := by cases hx : rightB ar ac an; exact absurd (Or.inl hx) h; rfl
    have h2 : rightB br bc bn = true := by cases hx : rightB br bc bn; exact absurd (Or.inr (Or.inl hx)) h; rfl
    have h3 : ¬ 255 < ar + br := fun hx => h (Or.inr (Or.inr hx))
    obtain ⟨r, n, rfl, rfl, r1, r2, n1, n2, han⟩ := rightB_out h1
    obtain ⟨s, c, rfl, rfl, s1, s2, c1, c2, hbn⟩ := rightB_out h2
    by_cases hne : n = c
    · subst hne
      obtain ⟨ga, oa, rfl, hma⟩ := rd_mat hA.rd (by rw [← hA.len, han]) r1 n1
      obtain ⟨gb, ob, rfl, hmb⟩ := rd_mat hB.rd (by rw [← hB.len, hbn]) s1 n1
      refine (runder_ok r s n ga oa gb ob an bn acap bcap _ _ w r1 n1 n2 s1 (by omega) han hbn hma hmb).mono ?_
      rintro e w' ⟨g, cap, sp, rfl, hg, _, hrow, hb⟩
      exact rgen_mat (sp := sp) (by unfold undSp; rw [← hA.len, ← hB.len, if_neg h, if_neg (by simp)]; simp only [Int.toNat_natCast]; rfl) rfl hrow hb
    · refine (runder_bad2 r n s c an bn acap bcap aa ba w r1 n1 n2 s1 c1 c2 (by omega) han hbn hne).mono ?_
      rintro e w' ⟨rfl, hb⟩
      exact rgen_no (by unfold undSp; rw [← hA.len, ← hB.len, if_neg h, if_pos (by omega)]) hb
/-- some rows -/
def pickSp (r c : Int) (L : List (BitVec 8)) (R : List Int) : MSp :=
  if rightB r c L.length = false ∨ R.length < 1 ∨ 255 < R.length then noSp 1 else if ∀ i, i < R.length → 0 ≤ R.getD i 0 ∧ R.getD i 0 < r then ⟨0, (R.length : Int), c, (mat R.length c.toNat (fun i j => fm L c.toNat (R.getD i 0).toNat j)).cells⟩ else noSp 1
theorem pick_gen (r c : Int) (n cap ln lcap : Nat) (a la : Option Addr) (L : List (BitVec 8)) (R : List Int) (w : World) (hA : MArg w n cap a L) (hln : ln = R.length) (hl : ln ≤ maxLen) (hR : RdI w la R) :
    Calls Try.prog 28 #[.agg #[.int .i64 r, .int .i64 c, .slice a n cap], .slice la ln lcap] w fun e w' => GenAns w (pickSp r c L R) e w' := by
  have ha2 : n ≤ maxLen := by have := hA.le; have := hA.max; unfold maxLen; omega
  by_cases h : rightB r c n = false ∨ ln < 1 ∨ 255 < ln
  · refine (pick_bad r c n cap ln lcap a la w ha2 hl h).mono ?_
    rintro e w' ⟨ev, rfl, he, hb⟩
    exact gen_no (by unfold pickSp; rw [← hA.len, ← hln, if_pos h]) he hb
  · have h1 : rightB r c n = true := by cases hx : rightB r c n; exact absurd (Or.inl hx) h; rfl
    have h2 : 1 ≤ ln ∧ ln ≤ 255 := by
      constructor
      · exact Nat.le_of_not_lt fun hx => h (Or.inr (Or.inl hx))
      · exact Nat.le_of_not_lt fun hx => h (Or.inr (Or.inr hx))
    obtain ⟨r', c', rfl, rfl, r1, r2, c1, c2, hn⟩ := rightB_out h1
    obtain ⟨ga, oa, rfl, hma⟩ := rd_mat hA.rd (by rw [← hA.len, hn]) r1 c1
    obtain ⟨lg, lo, rfl, _, hcell⟩ := hR.open (by omega)
    subst hln
    refine (pick_ok r' c' ga oa n cap lg lo lcap _ R w r1 r2 c1 c2 hn hA.le hA.max h2.1 h2.2 hma hcell).mono ?_
    rintro e w' ⟨⟨⟨i, hi, hbad⟩, ev, rfl, he⟩ | ⟨hall, g, rfl, hg, hrow⟩, hb⟩
    · exact gen_no (by unfold pickSp; rw [← hA.len, if_neg h, if_neg (fun hx => hbad (hx i hi))]) he hb
    · exact gen_mat (sp := []) (by unfold pickSp; rw [← hA.len, if_neg h, if_pos hall]; simp only [Int.toNat_natCast]; rfl) rfl hg (by rw [List.append_nil]; exact hrow.row) hb
theorem rpick_gen (r c : Int) (n cap ln lcap : Nat) (a la : Option Addr) (L : List (BitVec 8)) (R : List Int) (w : World) (hA : MArg w n cap a L) (hln : ln = R.length) (hl : ln ≤ maxLen) (hR : RdI w la R) :
    Calls Try.prog 32 #[.agg #[.int .i64 r, .int .i64 c, .slice a n cap], .slice la ln lcap] w fun e w' => RGenAns w (pickSp r c L R) e w' := by
  have ha2 : n ≤ maxLen := by have := hA.le; have := hA.max; unfold maxLen; omega
  by_cases h : rightB r c n = false ∨ ln < 1 ∨ 255 < ln
  · refine (rpick_bad r c n cap ln lcap a la w ha2 hl h).mono ?_
    rintro e w' ⟨rfl, hb⟩
    exact rgen_no (by unfold pickSp; rw [← hA.len, ← hln, if_pos h]) hb
  · have h1 : rightB r c n = true := by cases hx : rightB r c n; exact absurd (Or.inl hx) h; rfl
    have h2 : 1 ≤ ln ∧ ln ≤ 255 := by
      constructor
      · exact Nat.le_of_not_lt fun hx => h (Or.inr (Or.inl hx))
      · exact Nat.le_of_not_lt fun hx => h (Or.inr (Or.inr hx))
    obtain ⟨r', c', rfl, rfl, r1, r2, c1, c2, hn⟩ := rightB_out h1
    obtain ⟨ga, oa, rfl, hma⟩ := rd_mat hA.rd (by rw [← hA.len, hn]) r1 c1
    obtain ⟨lg, lo, rfl, _, hcell⟩ := hR.open (by omega)
    subst hln
    refine (rpick_ok r' c' ga oa n cap lg lo lcap _ R w r1 r2 c1 c2 hn hA.le hA.max h2.1 h2.2 hma hcell).mono ?_
    rintro e w' ⟨⟨⟨i, hi, hbad⟩, rfl⟩ | ⟨hall, g, cap9, sp, rfl, hrow⟩, hb⟩
    · exact rgen_no (by unfold pickSp; rw [← hA.len, if_neg h, if_neg (fun hx => hbad (hx i hi))]) hb
    · exact rgen_mat (sp := sp) (by unfold pickSp; rw [← hA.len, if_neg h, if_pos hall]; simp only [Int.toNat_natCast]; rfl) rfl hrow hb
/-- inverses -/
def InvSp (r c : Int) (L : List (BitVec 8)) (S : MSp) : Prop :=
  (rightB r c L.length = false ∧ S = noSp 1) ∨ (rightB r c L.length = true ∧ r ≠ c ∧ S = noSp 19) ∨ (rightB r c L.length = true ∧ ∃ n : Nat, r = n ∧ c = n ∧ ¬ Inj n (fm L n) ∧ S = noSp 18) ∨ (rightB r c L.length = true ∧ ∃ n : Nat, r = n ∧ c = n ∧ Inj n (fm L n) ∧ ∃ B, RInv n (fm L n) B ∧ S = ⟨0, n, n, (mat n n B).cells⟩)
theorem inv_one {r c : Int} {L : List (BitVec 8)} {S S' : MSp} (h : InvSp r c L S) (h' : InvSp r c L S') : S = S' := by
  rcases h with ⟨h1, rfl⟩ | ⟨h1, hne, rfl⟩ | ⟨h1, n, rfl, hc, hI, rfl⟩ | ⟨h1, n, rfl, hc, hI, B, hB, rfl⟩
  · rcases h' with ⟨h2, rfl⟩ | ⟨h2, _⟩ | ⟨h2, _⟩ | ⟨h2, _⟩
    · rfl
    all_goals (rw [h1] at h2; cases h2)
  · rcases h' with ⟨h2, _⟩ | ⟨h2, _, rfl⟩ | ⟨h2, m, hr, hc, _⟩ | ⟨h2, m, hr, hc, _⟩
    · rw [h1] at h2; cases h2
    · rfl
    · exact absurd (hr.trans hc.symm) hne
    · exact absurd (hr.trans hc.symm) hne
  · rcases h' with ⟨h2, _⟩ | ⟨h2, hne, _⟩ | ⟨h2, m, hr, hc', _, rfl⟩ | ⟨h2, m, hr, hc', hI', _⟩
    · rw [h1] at h2; cases h2
    · exact absurd hc.symm hne
    · rfl
    · obtain rfl : n = m := by omega
      exact absurd hI' hI
  · rcases h' with ⟨h2, _⟩ | ⟨h2, hne, _⟩ | ⟨h2, m, hr, hc', hI', _⟩ | ⟨h2, m, hr, hc', hI', B', hB', rfl⟩
    · rw [h1] at h2; cases h2
    · exact absurd hc.symm hne
    · obtain rfl : n = m := by omega
      exact absurd hI hI'
    · obtain rfl : n = m := by omega
      have e := unique_of_inj hI (fun i l hi hl => (hB i l hi hl).trans (hB' i l hi hl).symm)
      rw [mat_congr e]
theorem invert_gen (r c : Int) (n cap : Nat) (a : Option Addr) (L : List (BitVec 8)) (w : World) (hA : MArg w n cap a L) :
    Calls Try.prog 18 #[.agg #[.int .i64 r, .int .i64 c, .slice a n cap]] w fun e w' => ∃ S, InvSp r c L S ∧ GenAns w S e w' := by
  have ha2 : n ≤ maxLen := by have := hA.le; have := hA.max; unfold maxLen; omega
  cases h : rightB r c n
  · refine (invert_bad1 r c n cap a w ha2 h).mono ?_
    rintro e w' ⟨ev, rfl, he, hb⟩
    exact ⟨_, Or.inl ⟨by rw [← hA.len]; exact h, rfl⟩, gen_no rfl he hb⟩
  · by_cases hne : r = c
    · subst hne
      obtain ⟨m, m', rfl, hm', m1, m2, _, _, hn⟩ := rightB_out h
      obtain rfl : m = m' := by omega
      obtain ⟨ga, oa, rfl, hma⟩ := rd_mat hA.rd (by rw [← hA.len, hn]) m1 m1
      refine (invert_ok m ga oa n cap _ w m1 m2 hn hA.le hA.max hma).mono ?_
      rintro e w' ⟨⟨hI, ev, rfl, he⟩ | ⟨hI, g, B, hB, rfl, hg, hrow⟩, hb⟩
      · exact ⟨_, Or.inr (Or.inr (Or.inl ⟨by rw [← hA.len]; exact h, m, rfl, rfl, hI, rfl⟩)), gen_no rfl he hb⟩
      · exact ⟨_, Or.inr (Or.inr (Or.inr ⟨by rw [← hA.len]; exact h, m, rfl, rfl, hI, B, hB, rfl⟩)), gen_mat (sp := []) rfl rfl hg (by rw [List.append_nil]; exact hrow.row) hb⟩
    · refine (invert_bad2 r c n cap a w ha2 h hne).mono ?_
      rintro e w' ⟨ev, rfl, he, hb⟩
      exact ⟨_, Or.inr (Or.inl ⟨by rw [← hA.len]; exact h, hne, rfl⟩), gen_no rfl he hb⟩
theorem rinvert_gen (r c : Int) (n cap : Nat) (a : Option Addr) (L : List (BitVec 8)) (w : World) (hA : MArg w n cap a L) :
    Calls Try.prog 30 #[.agg #[.int .i64 r, .int .i64 c, .slice a n cap]] w fun e w' => ∃ S, InvSp r c L S ∧ RGenAns w S e w' := by
  have ha2 : n ≤ maxLen := by have := hA.le; have := hA.max; unfold maxLen; omega
  cases h : rightB r c n
  · refine (rinvert_bad1 r c n cap a w ha2 h).mono ?_
    rintro e w' ⟨rfl, hb⟩
    exact ⟨_, Or.inl ⟨by rw [← hA.len]; exact h, rfl⟩, rgen_no rfl hb⟩
  · by_cases hne : r = c
    · subst hne
      obtain ⟨m, m', rfl, hm', m1, m2, _, _, hn⟩ := rightB_out h
      obtain rfl : m = m' := by omega
      obtain ⟨ga, oa, rfl, hma⟩ := rd_mat hA.rd (by rw [← hA.len, hn]) m1 m1
      refine (rinvert_ok m ga oa n cap _ w m1 m2 hn hma).mono ?_
      rintro e w' hx
      obtain ⟨hx, hb⟩ := hx
      rcases hx with ⟨hI, rfl⟩ | ⟨hI, g, B, hB, rfl, _, hrow⟩
      · exact ⟨_, Or.inr (Or.inr (Or.inl ⟨by rw [← hA.len]; exact h, m, rfl, rfl, hI, rfl⟩)), rgen_no rfl hb⟩
      · exact ⟨_, Or.inr (Or.inr (Or.inr ⟨by rw [← hA.len]; exact h, m, rfl, rfl, hI, B, hB, rfl⟩)), rgen_mat (sp := []) rfl rfl (by rw [List.append_nil]; exact hrow.row) hb⟩
    · refine (rinvert_bad2 r c n cap a w ha2 h hne).mono ?_
      rintro e w' ⟨rfl, hb⟩
      exact ⟨_, Or.inr (Or.inl ⟨by rw [← hA.len]; exact h, hne, rfl⟩), rgen_no rfl hb⟩
/-- ranks -/
def RankIs (r c : Nat) (A : Nat → Nat → BitVec 8) (k : Nat) : Prop := ∃ M' j p, Good r M' j k p ∧ j ≤ c ∧ (j = c ∨ k = r) ∧ ∀ x, Ker r c M' x ↔ Ker r c A x
theorem rank_one {r c k k' : Nat} {A : Nat → Nat → BitVec 8} (h : RankIs r c A k) (h' : RankIs r c A k') : k = k' := by
  obtain ⟨M, j, p, g, hj, he, hk⟩ := h
  obtain ⟨M', j', p', g', hj', he', hk'⟩ := h'
  have h1 := good_le g g' hj hj' he' (fun x hx => (hk x).2 ((hk' x).1 hx))
  have h2 := good_le g' g hj' hj he (fun x hx => (hk' x).2 ((hk x).1 hx))
  omega
def RankSp (r c : Int) (L : List (BitVec 8)) (k code : Int) : Prop :=
  (rightB r c L.length = false ∧ k = 0 ∧ code = 1) ∨ (rightB r c L.length = true ∧ code = 0 ∧ ∃ r' c' kk : Nat, r = r' ∧ c = c' ∧ k = kk ∧ kk ≤ 255 ∧ RankIs r' c' (fm L c') kk)
theorem ranksp_one {r c : Int} {L : List (BitVec 8)} {k k' d d' : Int} (h : RankSp r c L k d) (h' : RankSp r c L k' d') : k = k' ∧ d = d' := by
  rcases h with ⟨h1, rfl, rfl⟩ | ⟨h1, rfl, a, b, m, rfl, rfl, rfl, _, hr⟩
  · rcases h' with ⟨_, rfl, rfl⟩ | ⟨h2, _⟩
    · exact ⟨rfl, rfl⟩
    · rw [h1] at h2; cases h2
  · rcases h' with ⟨h2, _⟩ | ⟨_, rfl, a', b', m', ha, hb, rfl, _, hr'⟩
    · rw [h1] at h2; cases h2
    · obtain rfl : a = a' := by omega
      obtain rfl : b = b' := by omega
      rw [rank_one hr hr']
      exact ⟨rfl, rfl⟩
theorem rank_gen (r c : Int) (n cap : Nat) (a : Option Addr) (L : List (BitVec 8)) (w : World) (hA : MArg w n cap a L) :
    Calls Try.prog 17 #[.agg #[.int .i64 r, .int .i64 c, .slice a n cap]] w fun e w' => ∃ k d ev, RankSp r c L k d ∧ e = .returned (.tuple #[.int .i64 k, ev]) ∧ ErrAt w.heap.size w' ev d ∧ Below w.heap.size w w' := by
  have ha2 : n ≤ maxLen := by have := hA.le; have := hA.max; unfold maxLen; omega
  cases h : rightB r c n
  · refine (rank_bad r c n cap a w ha2 h).mono ?_
    rintro e w' ⟨ev, rfl, he, hb⟩
    exact ⟨0, 1, ev, Or.inl ⟨by rw [← hA.len]; exact h, rfl, rfl⟩, rfl, he, hb⟩
  · obtain ⟨r', c', rfl, rfl, r1, r2, c1, c2, hn⟩ := rightB_out h
    obtain ⟨ga, oa, rfl, hma⟩ := rd_mat hA.rd (by rw [← hA.len, hn]) r1 c1
    refine (rank_ok r' c' ga oa n cap _ w r1 r2 c1 c2 hn hA.le hma).mono ?_
    rintro e w' ⟨k, M', j, p, rfl, g, hj, hend, hk, hb⟩
    exact ⟨k, 0, .nilIface, Or.inr ⟨by rw [← hA.len]; exact h, rfl, r', c', k, rfl, rfl, rfl, Nat.le_trans g.le r2, M', j, p, g, hj, hend, hk⟩, rfl, ErrAt.ok0 _ _, hb⟩
theorem rrank_gen (r c : Int) (n cap : Nat) (a : Option Addr) (L : List (BitVec 8)) (w : World) (hA : MArg w n cap a L) :
    Calls Try.prog 31 #[.agg #[.int .i64 r, .int .i64 c, .slice a n cap]] w fun e w' => ∃ k d, RankSp r c L k d ∧ e = .returned (.tuple #[.int .i64 k, .int .i64 d]) ∧ Below w.heap.size w w' := by
  have ha2 : n ≤ maxLen := by have := hA.le; have := hA.max; unfold maxLen; omega
  cases h : rightB r c n
  · refine (rrank_bad r c n cap a w ha2 h).mono ?_
    rintro e w' ⟨rfl, hb⟩
    exact ⟨0, 1, Or.inl ⟨by rw [← hA.len]; exact h, rfl, rfl⟩, rfl, hb⟩
  · obtain ⟨r', c', rfl, rfl, r1, r2, c1, c2, hn⟩ := rightB_out h
    obtain ⟨ga, oa, rfl, hma⟩ := rd_mat hA.rd (by rw [← hA.len, hn]) r1 c1
    refine (rrank_ok r' c' ga oa n cap _ w r1 r2 c1 c2 hn hma).mono ?_
    rintro e w' ⟨k, M', j, p, rfl, g, hj, hend, hk, hb⟩
    exact ⟨k, 0, Or.inr ⟨by rw [← hA.len]; exact h, rfl, r', c', k, rfl, rfl, rfl, Nat.le_trans g.le r2, M', j, p, g, hj, hend, hk⟩, rfl, hb⟩
end Go.Proofs.Ytbnfnijjldimkaa
