/-
  Apply, the program's and the document's: any matrix, any texts.
-/
import Derived.Test.YtbnfnijjldimkabRapply
import Derived.Test.YtbnfnijjldimkabMapp
namespace Go.Proofs.Ytbnfnijjldimkab
open Go.RowKit
set_option linter.unusedVariables false
set_option linter.unusedSimpArgs false
/-- strings that lie behind a slice -/
def StrsRd (w : World) (a : Option Addr) (ss : List ByteArray) : Prop := ∀ j (h : j < ss.length), ∃ g o, a = some ⟨g, o, none⟩ ∧ w.cell? ⟨g, o + j, none⟩ = some (.string ss[j])
theorem StrsRd.after {w w' : World} {a : Option Addr} {ss : List ByteArray} (h : StrsRd w a ss) (hb : Below w.heap.size w w') : StrsRd w' a ss := fun j hj => by
  obtain ⟨g, o, ha, hc⟩ := h j hj
  exact ⟨g, o, ha, (hb.cell (p := ⟨g, o + j, none⟩) (rd_cell_lt hc)).trans hc⟩
theorem StrsRd.open {w : World} {a : Option Addr} {ss : List ByteArray} (h : StrsRd w a ss) (hn : 0 < ss.length) : ∃ g o, a = some ⟨g, o, none⟩ ∧ g < w.heap.size ∧ ∀ j, j < ss.length → w.cell? ⟨g, o + j, none⟩ = some (.string (ss.getD j ⟨#[]⟩)) := by
  obtain ⟨g, o, ha, hc⟩ := h 0 hn
  refine ⟨g, o, ha, rd_cell_lt hc, fun j hj => ?_⟩
  obtain ⟨g', o', ha', hc'⟩ := h j hj
  rw [ha] at ha'
  simp only [Option.some.injEq, Addr.mk.injEq] at ha'
  rw [ha'.1, ha'.2.1, hc', List.getD_eq_getElem?_getD, List.getElem?_eq_getElem hj, Option.getD_some]
/-- strings as cells -/
def scells (ss : List ByteArray) : List Value := ss.map .string
theorem scells_get (ss : List ByteArray) (j : Nat) (h : j < ss.length) : (scells ss)[j]? = some (.string ss[j]) := by simp [scells, h]
theorem scells_length (ss : List ByteArray) : (scells ss).length = ss.length := by simp [scells]
theorem scells_one (ss : List ByteArray) : ∀ u ∈ scells ss, u.oneCell' = true := by
  intro u hu
  simp only [scells, List.mem_map] at hu
  obtain ⟨x, _, rfl⟩ := hu
  rfl
theorem StrsRd.own {w : World} {base n c : Nat} {e : TypeId} {a : Option Addr} {ss : List ByteArray} (h : w.ownsRow base e 1 (.slice a n c) n (scells ss)) : StrsRd w a ss := fun j hj => by
  obtain ⟨g, ha, _, hc⟩ := own_at h (scells_get ss j hj)
  exact ⟨g, 0, ha, by rw [Nat.zero_add]; exact hc⟩
theorem StrsRd.news {w : World} {p : Addr} {ss : List ByteArray} (h : StrsRd w (some p) ss) : ∀ j u, (scells ss)[j]? = some u → w.cell? (p.add j) = some u := by
  intro j u hj
  have hl : j < ss.length := by
    have := (List.getElem?_eq_some_iff.1 hj).1
    rwa [scells_length] at this
  obtain ⟨g, o, ha, hc⟩ := h j hl
  obtain rfl := Option.some.inj ha
  rw [scells_get _ _ hl] at hj
  have e1 : (⟨g, o, none⟩ : Addr).add j = ⟨g, o + j, none⟩ := by unfold Addr.add; split <;> simp_all
  rw [e1, ← hj]; exact hc
/-- the code that Apply answers -/
def appCode (r c : Int) (n : Nat) (ss : List ByteArray) : Int :=
  if rightB r c n = false then 1 else if (ss.length : Int) ≠ c then 19 else if ∀ i, i < ss.length → (ss.getD i ⟨#[]⟩).size = (ss.getD 0 ⟨#[]⟩).size then 0 else 19
/-- the texts that it answers -/
def appTexts (r c : Int) (L : List (BitVec 8)) (ss : List ByteArray) : List ByteArray :=
  if appCode r c L.length ss = 0 then (List.range r.toNat).map fun i => rowStr (fun j => L.getD (i * c.toNat + j) 0#8) ss (ss.getD 0 ⟨#[]⟩).size c.toNat else []
theorem rd_mat {w : World} {a : Option Addr} {L : List (BitVec 8)} {r c : Nat} (h : Rd w a L) (hl : L.length = r * c) (hr : 1 ≤ r) (hc : 1 ≤ c) : ∃ g o, a = some ⟨g, o, none⟩ ∧ MatRd w g o r c (fun i j => L.getD (i * c + j) 0#8) := by
  obtain ⟨g, o, ha, _, hcell⟩ := h.open (by rw [hl]; exact Nat.mul_pos (by omega) (by omega))
  refine ⟨g, o, ha, fun i j hi hj => ?_⟩
  have h1 : i * c + j < L.length := by rw [hl]; exact idx_lt hi hj
  have := hcell _ h1
  show w.cell? ⟨g, o + i * c + j, none⟩ = some (.int .u8 (nv (L.getD (i * c + j) 0#8)))
  rw [Nat.add_assoc, this, List.getD_eq_getElem?_getD, List.getElem?_eq_getElem h1, Option.getD_some]
theorem appCells_texts {r c : Nat} {L : List (BitVec 8)} {ss : List ByteArray} (hc : appCode r c L.length ss = 0) : appCells (fun i j => L.getD (i * c + j) 0#8) ss (ss.getD 0 ⟨#[]⟩).size c r = scells (appTexts r c L ss) := by
  unfold appCells appTexts scells
  rw [if_pos hc, List.map_map]
  simp only [Int.toNat_natCast]
  rfl
theorem appTexts_length {r c : Nat} {L : List (BitVec 8)} {ss : List ByteArray} (hc : appCode r c L.length ss = 0) : (appTexts r c L ss).length = r := by
  unfold appTexts
  rw [if_pos hc]
  simp
theorem appTexts_nil {r c : Int} {L : List (BitVec 8)} {ss : List ByteArray} (hc : appCode r c L.length ss ≠ 0) : appTexts r c L ss = [] := by
  unfold appTexts
  rw [if_neg hc]
theorem apply_gen (r c : Int) (n cap ln lcap : Nat) (a la : Option Addr) (L : List (BitVec 8)) (ss : List ByteArray) (w : World) (hn : n = L.length) (hcap : n ≤ cap) (hcap2 : cap ≤ maxLen) (hL : Rd w a L) (hln : ln = ss.length) (hln2 : ln ≤ maxLen) (hss : StrsRd w la ss) (hsz : ∀ i, i < ss.length → (ss.getD i ⟨#[]⟩).size ≤ 100000) :
    Calls Try.prog 34 #[.agg #[.int .i64 r, .int .i64 c, .slice a n cap], .slice la ln lcap] w fun e w' => ∃ a' cap' ev, e = .returned (.tuple #[.slice a' (appTexts r c L ss).length cap', ev]) ∧ ErrAt w.heap.size w' ev (appCode r c L.length ss) ∧ StrsRd w' a' (appTexts r c L ss) ∧ Below w.heap.size w w' := by
  have hn2 : n ≤ maxLen := Nat.le_trans hcap hcap2
  have nil : ∀ (w' : World) (k : Int), appCode r c L.length ss = k → k ≠ 0 → ∀ ev, ErrAt w.heap.size w' ev k → Below w.heap.size w w' → ∃ a' cap' ev', (Ending.returned (.tuple #[.slice none 0 0, ev]) = .returned (.tuple #[.slice a' (appTexts r c L ss).length cap', ev'])) ∧ ErrAt w.heap.size w' ev' (appCode r c L.length ss) ∧ StrsRd w' a' (appTexts r c L ss) ∧ Below w.heap.size w w' := by
    intro w' k hk h0 ev he hb
    have hx := appTexts_nil (r := r) (c := c) (L := L) (ss := ss) (by rw [hk]; exact h0)
    exact ⟨none, 0, ev, by rw [hx]; rfl, by rw [hk]; exact he, by rw [hx]; exact fun j hj => by simp at hj, hb⟩
  cases hr : rightB r c n
  · refine (apply_bad1 r c n cap ln lcap a la w hn2 hr).mono ?_
    rintro e w' ⟨ev, rfl, he, hb⟩
    exact nil w' 1 (by unfold appCode; rw [← hn, if_pos hr]) (by decide) ev he hb
  · by_cases hc : (ln : Int) = c
    · obtain ⟨r', c', rfl, rfl, m1, m2, m3, m4, m5⟩ := rightB_out hr
      obtain ⟨g, o, rfl, hm⟩ := rd_mat hL (by rw [← hn, m5]) m1 m3
      obtain ⟨lg, lo, rfl, _, hcell⟩ := hss.open (by omega)
      have hlc : ln = c' := by omega
      subst hlc
      refine (apply_ok r' ln g o n cap lg lo lcap _ ss w m1 m2 m3 m4 m5 hcap (by unfold maxLen at hcap2; omega) hln.symm hsz hm hcell).mono ?_
      rintro e w' ⟨h | h, hb⟩
      · obtain ⟨⟨i, hi, hne⟩, ev, rfl, he⟩ := h
        refine nil w' 19 ?_ (by decide) ev he hb
        unfold appCode
        rw [← hn, hr, if_neg (by decide), if_neg (by rw [hln]; simp), if_neg (fun h => hne (h i hi))]
      · obtain ⟨hall, v, rfl, hown⟩ := h
        have hcode : appCode r' ln L.length ss = 0 := by
          unfold appCode
          rw [← hn, hr, if_neg (by decide), if_neg (by rw [hln]; simp), if_pos hall]
        rw [appCells_texts hcode] at hown
        rcases hown.2 with ⟨_, h0⟩ | ⟨g2, cap2, cur, rfl, _⟩
        · omega
        · exact ⟨_, _, _, by rw [appTexts_length hcode], by rw [hcode]; exact ErrAt.ok0 _ _, StrsRd.own hown, hb⟩
    · refine (apply_bad2 r c n cap ln lcap a la w hn2 hln2 hr hc).mono ?_
      rintro e w' ⟨ev, rfl, he, hb⟩
      exact nil w' 19 (by unfold appCode; rw [← hn, hr, if_neg (by decide), if_pos (by rw [← hln]; exact hc)]) (by decide) ev he hb
theorem rapply_gen (r c : Int) (n cap ln lcap : Nat) (a la : Option Addr) (L : List (BitVec 8)) (ss : List ByteArray) (w : World) (hn : n = L.length) (hcap : n ≤ cap) (hcap2 : cap ≤ maxLen) (hL : Rd w a L) (hln : ln = ss.length) (hln2 : ln ≤ maxLen) (hss : StrsRd w la ss) (hsz : ∀ i, i < ss.length → (ss.getD i ⟨#[]⟩).size ≤ 100000) :
    Calls Try.prog 38 #[.agg #[.int .i64 r, .int .i64 c, .slice a n cap], .slice la ln lcap] w fun e w' => ∃ a' cap', e = .returned (.tuple #[.slice a' (appTexts r c L ss).length cap', .int .i64 (appCode r c L.length ss)]) ∧ StrsRd w' a' (appTexts r c L ss) ∧ Below w.heap.size w w' := by
  have hn2 : n ≤ maxLen := Nat.le_trans hcap hcap2
  have nil : ∀ (w' : World) (k : Int), appCode r c L.length ss = k → k ≠ 0 → Below w.heap.size w w' → ∃ a' cap', (Ending.returned (.tuple #[.slice none 0 0, .int .i64 k]) = .returned (.tuple #[.slice a' (appTexts r c L ss).length cap', .int .i64 (appCode r c L.length ss)])) ∧ StrsRd w' a' (appTexts r c L ss) ∧ Below w.heap.size w w' := by
    intro w' k hk h0 hb
    have hx := appTexts_nil (r := r) (c := c) (L := L) (ss := ss) (by rw [hk]; exact h0)
    exact ⟨none, 0, by rw [hx, hk]; rfl, by rw [hx]; exact fun j hj => by simp at hj, hb⟩
  cases hr : rightB r c n
  · refine (rapply_bad1 r c n cap ln lcap a la w hn2 hr).mono ?_
    rintro e w' ⟨rfl, hb⟩
    exact nil w' 1 (by unfold appCode; rw [← hn, if_pos hr]) (by decide) hb
  · by_cases hc : (ln : Int) = c
    · obtain ⟨r', c', rfl, rfl, m1, m2, m3, m4, m5⟩ := rightB_out hr
      obtain ⟨g, o, rfl, hm⟩ := rd_mat hL (by rw [← hn, m5]) m1 m3
      obtain ⟨lg, lo, rfl, _, hcell⟩ := hss.open (by omega)
      have hlc : ln = c' := by omega
      subst hlc
      refine (rapply_ok r' ln g o n cap lg lo lcap _ ss w m1 m2 m3 m4 m5 hln.symm hsz hm hcell).mono ?_
      rintro e w' ⟨h | h, hb⟩
      · obtain ⟨⟨i, hi, hne⟩, rfl⟩ := h
        refine nil w' 19 ?_ (by decide) hb
        unfold appCode
        rw [← hn, hr, if_neg (by decide), if_neg (by rw [hln]; simp), if_neg (fun h => hne (h i hi))]
      · obtain ⟨hall, v, rfl, hown⟩ := h
        have hcode : appCode r' ln L.length ss = 0 := by
          unfold appCode
          rw [← hn, hr, if_neg (by decide), if_neg (by rw [hln]; simp), if_pos hall]
        rw [appCells_texts hcode] at hown
        rcases hown.2 with ⟨_, h0⟩ | ⟨g2, cap2, cur, rfl, _⟩
        · omega
        · exact ⟨_, _, by rw [appTexts_length hcode, hcode], StrsRd.own hown, hb⟩
    · refine (rapply_bad2 r c n cap ln lcap a la w hn2 hln2 hr hc).mono ?_
      rintro e w' ⟨rfl, hb⟩
      exact nil w' 19 (by unfold appCode; rw [← hn, hr, if_neg (by decide), if_pos (by rw [← hln]; exact hc)]) (by decide) hb
end Go.Proofs.Ytbnfnijjldimkab
