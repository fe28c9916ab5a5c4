/-
  The walks of erasure.Check and of the document's.
-/
import Derived.Test.YtbnfnijjldimkabErest
import Derived.Deep.QuietTactic
import Derived.BigQuiet
import Derived.Laws.StructEq
namespace Go.Proofs.Ytbnfnijjldimkab
open Go.RowKit
set_option linter.unusedVariables false
set_option linter.unusedSimpArgs false
/-- what Check answers: the code, and whether they belong together -/
def checkCode (k m : Int) (ss : List ByteArray) : Int :=
  if mayB k m 0 = false then 1 else if (ss.length : Int) ≠ k + m then 19 else if ∀ i, i < ss.length → (ss.getD i ⟨#[]⟩).size = (ss.getD 0 ⟨#[]⟩).size then 0 else 19
def checkOk (k m : Int) (ss : List ByteArray) : Bool :=
  if checkCode k m ss = 0 then decide (rowStrs (gen k.toNat) (ss.take k.toNat) (ss.getD 0 ⟨#[]⟩).size k.toNat ss.length = ss) else false
theorem toList_ne {t u : ByteArray} (h : t ≠ u) : (t.toList == u.toList) = false := by
  rw [ByteArray.toList_eq, ByteArray.toList_eq, beq_eq_false_iff_ne]
  intro e
  apply h
  have e2 := Array.toList_inj.1 e
  cases t; cases u
  simp_all
theorem getD_ext {a b : List ByteArray} (hl : a.length = b.length) (h : ∀ i, i < a.length → a.getD i ⟨#[]⟩ = b.getD i ⟨#[]⟩) : a = b := by
  apply List.ext_getElem hl
  intro i h1 h2
  have := h i h1
  rw [List.getD_eq_getElem?_getD, List.getD_eq_getElem?_getD, List.getElem?_eq_getElem h1, List.getElem?_eq_getElem h2, Option.getD_some, Option.getD_some] at this
  exact this
set_option maxRecDepth 100000 in
set_option maxHeartbeats 800000 in
theorem check_gen (k m : Int) (sa : Option Addr) (sn sc : Nat) (ss : List ByteArray) (w : World) (hss : StrsRd w sa ss) (hn : sn = ss.length) (hn2 : sn ≤ sc) (hn3 : sc ≤ 9223372036854775807) (hsz : ∀ i, i < ss.length → (ss.getD i ⟨#[]⟩).size ≤ 100000) :
    Calls Try.prog 21 #[.int .i64 k, .int .i64 m, .slice sa sn sc] w fun e w' => ∃ ev, e = .returned (.tuple #[.bool (checkOk k m ss), ev]) ∧ ErrAt w.heap.size w' ev (checkCode k m ss) ∧ Below w.heap.size w w' := by
  obtain ⟨cd, hcd⟩ : ∃ cd, cd = checkCode k m ss := ⟨_, rfl⟩
  obtain ⟨ok, hok⟩ : ∃ ok, ok = checkOk k m ss := ⟨_, rfl⟩
  have hok0 : cd ≠ 0 → ok = false := fun h0 => by rw [hok]; unfold checkOk; rw [if_neg (by rw [← hcd]; exact h0)]
  have hok1 : cd = 0 → ok = decide (rowStrs (gen k.toNat) (ss.take k.toNat) (ss.getD 0 ⟨#[]⟩).size k.toNat ss.length = ss) := fun h0 => by rw [hok]; unfold checkOk; rw [if_pos (by rw [← hcd]; exact h0)]
  rw [← hcd, ← hok]
  have HOK0 := Lib.hid hok0
  have HOK1 := Lib.hid hok1
  clear hok0 hok1 hok
  cases h : mayB k m 0
  · have ec : cd = 1 := by rw [hcd]; unfold checkCode; rw [if_pos h]
    have H := Lib.hid h
    have HE := Lib.hid ec
    clear h hcd ec
    go_enter Try.func21, Try.ntmps21
    go_wp2_with (first
      | (go_at_call 24; refine (may_any k m 0 _).mono ?_; rintro e w1 ⟨rfl, rfl⟩; rw [H.out])
      | (go_at_call 25; refine (efault_any 1 (by decide) _).mono ?_; rintro e w2 ⟨ev, rfl, he, hb⟩; have S2 := Lib.hid (And.intro he hb); clear he hb))
    go_ret2
    exact ⟨_, by rw [HOK0.out (by rw [HE.out]; decide)]; rfl, by rw [HE.out]; exact S2.out.1, S2.out.2⟩
  · by_cases hne : (ss.length : Int) = k + m
    · obtain ⟨a, b, c, rfl, rfl, hc0, a1, a2⟩ := mayB_out h
      clear hc0
      have hK : ss.length = a + b := by omega
      obtain ⟨g, o, rfl, gl, hcell⟩ := hss.open (by omega)
      have hcd2 : cd = if ∀ i, i < ss.length → (ss.getD i ⟨#[]⟩).size = (ss.getD 0 ⟨#[]⟩).size then 0 else 19 := by
        rw [hcd]; unfold checkCode; rw [if_neg (by rw [h]; simp), if_neg (by simpa using hne)]
      obtain ⟨t0, ht0⟩ : ∃ t, t = ss.getD 0 ⟨#[]⟩ := ⟨_, rfl⟩
      rw [← ht0] at hcd2
      obtain ⟨K, hKK⟩ : ∃ K, K = sn := ⟨_, rfl⟩
      rw [← hKK] at hn hn2 ⊢
      have kb : K = a + b := by omega
      have hb : ((K : Int) != (a : Int) + (b : Int)) = false := by simp; omega
      have c0 : World.cell? w ⟨g, o, none⟩ = some (.string t0) := by have := hcell 0 (by omega); rw [Nat.add_zero] at this; rw [this, ht0]
      have t0s : t0.size ≤ 100000 := by rw [ht0]; exact hsz 0 (by omega)
      have ea : (a : Int) ≤ (sc : Int) := by omega
      have ea0 : 0 ≤ (a : Int) := by omega
      have eb1 : a ≤ K := by omega
      have eb2 : K ≤ 255 := by omega
      have eb3 : 1 ≤ K := by omega
      have H := Lib.hid h
      have HCD := Lib.hid hcd2
      have HN := Lib.hid hn
      have HKB := Lib.hid kb
      have HC := Lib.hid hcell
      have HSZ := Lib.hid hsz
      have HS := Lib.hid hss
      have HT0 := Lib.hid ht0
      clear h hcd hcd2 hn hKK kb hcell hsz hss hne hK ht0
      go_enter Try.func21, Try.ntmps21
      go_wp2_with (go_at_call 24; refine (may_any a b 0 _).mono ?_; rintro e w1 ⟨rfl, rfl⟩; rw [H.out])
      go_loop [27] (fun i => ∃ j : Nat, j ≤ K ∧ i = .int .i64 j ∧ ∀ i, i < j → (ss.getD i ⟨#[]⟩).size = t0.size) (fun i => K - (intOf i).toNat)
      case atStart => exact ⟨0, by omega, rfl, fun i h => by omega⟩
      case round =>
        obtain ⟨j, hj, rfl, hall⟩ := hrel
        have HALL := Lib.hid hall
        clear hall
        by_cases hlt : j < K
        · have hjl : j < ss.length := by rw [← HN.out]; exact hlt
          obtain ⟨t, ht⟩ : ∃ t, t = ss.getD j ⟨#[]⟩ := ⟨_, rfl⟩
          have cl := HC.out j hjl
          have hts := HSZ.out j hjl
          rw [← ht] at cl hts
          have HT := Lib.hid ht
          clear ht
          by_cases hs : t.size = t0.size
          · have hnb : ((t.size : Int) != (t0.size : Int)) = false := by simp [hs]
            have HS9 := Lib.hid hs
            clear hs
            go_wp2
            go_round
            case measure => simp [intOf]; omega
            case rel =>
              refine ⟨j + 1, by omega, by go_num, fun i hi => ?_⟩
              by_cases e : i = j
              · rw [e, ← HT.out]; exact HS9.out
              · exact HALL.out i (by omega)
          · have hnb : ((t.size : Int) != (t0.size : Int)) = true := by simp; omega
            have HS9 := Lib.hid hs
            clear hs
            go_wp2_with (go_at_call 25; refine (efault_any 19 (by decide) _).mono ?_; rintro e w2 ⟨ev, rfl, he, hb⟩; have S2 := Lib.hid (And.intro he hb); clear he hb)
            go_ret2
            have ec : cd = 19 := by rw [HCD.out, if_neg (fun h => HS9.out (by rw [HT.out]; exact h j hjl))]
            exact ⟨_, by rw [HOK0.out (by rw [ec]; decide)]; rfl, by rw [ec]; exact S2.out.1, S2.out.2⟩
        · obtain rfl : K = j := by omega
          clear hlt hj
          obtain ⟨xs, hxs⟩ : ∃ xs, xs = ss.take a := ⟨_, rfl⟩
          have hxl : xs.length = a := by rw [hxs, List.length_take, ← HN.out]; omega
          have hxz : ∀ i, i < xs.length → (xs.getD i ⟨#[]⟩).size = t0.size := fun i hi => by
            rw [hxs, List.getD_eq_getElem?_getD, List.getElem?_take, if_pos (by omega), ← List.getD_eq_getElem?_getD]
            exact HALL.out i (by omega)
          have hxr : ∀ x : World, StrsRd x (some ⟨g, o, none⟩) ss → StrsRd x (some ⟨g, o, none⟩) xs := fun x hx => by rw [hxs]; exact StrsRd.take hx a
          have HXL := Lib.hid hxl
          have HXZ := Lib.hid hxz
          have HXR := Lib.hid hxr
          have HXS := Lib.hid hxs
          have e3 : ((a : Int)).toNat = a := by omega
          clear hxl hxz hxr hxs c0
          go_wp2_with (go_at_call 29; refine (all_ok a b sc t0.size _ xs _ a1 a2 HXL.out HXZ.out t0s (HXR.out _ HS.out)).mono ?_; rw [← HKB.out]; rintro e w8 ⟨g8, cap8, rfl, hs, hb⟩; have S4 := Lib.hid (And.intro hs.1 (And.intro (HS.out.after hb) hb)); clear hs hb)
          obtain ⟨T, hT⟩ : ∃ T, T = rowStrs (gen a) xs t0.size a K := ⟨_, rfl⟩
          have hTl : T.length = K := by rw [hT, rowStrs_length]
          rw [← hT] at S4
          have HTT := Lib.hid hT
          have HTL := Lib.hid hTl
          clear hT hTl
          have hfin : cd = 0 := by rw [HCD.out, if_pos (fun i hi => HALL.out i (by rw [HN.out]; exact hi))]
          have hokk : ok = decide (T = ss) := by
            rw [HOK1.out hfin, HTT.out, HXS.out, HT0.out, ← HN.out]
            simp only [Int.toNat_natCast]
          have HFIN := Lib.hid hfin
          have HOKK := Lib.hid hokk
          clear hfin hokk
          go_loopw [54] (fun q wr => ∃ j : Nat, j ≤ K ∧ q = .int .i64 j ∧ (∀ i, i < j → T.getD i ⟨#[]⟩ = ss.getD i ⟨#[]⟩) ∧ StrsRd wr (some ⟨g8, 0, none⟩) T ∧ StrsRd wr (some ⟨g, o, none⟩) ss ∧ Below w.heap.size w wr) (fun q _ => K - (intOf q).toNat)
          case atStart => exact ⟨0, by omega, rfl, fun i h => by omega, S4.out.1, S4.out.2.1, S4.out.2.2⟩
          case round =>
            clear S4
            obtain ⟨j, hj, rfl, heq, h1, h2, hbel⟩ := hrel
            have HEQ := Lib.hid heq
            clear heq
            by_cases hlt : j < K
            · have d3 := strs_cells h1 j (by rw [HTL.out]; exact hlt)
              have d4 := strs_cells h2 j (by rw [← HN.out]; exact hlt)
              rw [Nat.zero_add] at d3
              obtain ⟨t, ht⟩ : ∃ t, t = T.getD j ⟨#[]⟩ := ⟨_, rfl⟩
              obtain ⟨u, hu⟩ : ∃ t, t = ss.getD j ⟨#[]⟩ := ⟨_, rfl⟩
              rw [← ht] at d3
              rw [← hu] at d4
              have HT := Lib.hid ht
              have HU := Lib.hid hu
              have S8 := Lib.hid (And.intro h1 (And.intro h2 hbel))
              clear h1 h2 hbel ht hu
              by_cases htu : t = u
              · subst htu
                go_wp2_with fail
                go_quiet (fail)
                go_wp2
                go_roundw
                case measure => simp [intOf]; omega
                case rel =>
                  refine ⟨j + 1, by omega, by go_num, fun i hi => ?_, S8.out.1, S8.out.2.1, S8.out.2.2.trans ⟨rfl, rfl, rfl, Nat.le_refl _, fun _ _ => rfl⟩⟩
                  by_cases e : i = j
                  · rw [e, ← HT.out]; exact HU.out
                  · exact HEQ.out i (by omega)
              · have hnb := toList_ne htu
                have HTU := Lib.hid htu
                clear htu
                go_wp2_with fail
                go_quiet (fail)
                go_wp2
                go_ret2
                exact ⟨_, by rw [HOKK.out, decide_eq_false (fun e => HTU.out (by rw [HT.out, HU.out, e]))]; rfl, by rw [HFIN.out]; exact ErrAt.ok0 _ _, S8.out.2.2.trans ⟨rfl, rfl, rfl, Nat.le_refl _, fun _ _ => rfl⟩⟩
            · obtain rfl : K = j := by omega
              have S8 := Lib.hid hbel
              clear h1 h2 hbel
              go_wp2
              go_ret2
              exact ⟨_, by rw [HOKK.out, decide_eq_true (getD_ext (by rw [HTL.out]; exact HN.out) (fun i hi => HEQ.out i (by rw [HTL.out] at hi; exact hi)))]; rfl, by rw [HFIN.out]; exact ErrAt.ok0 _ _, S8.out⟩
    · have ec : cd = 19 := by rw [hcd]; unfold checkCode; rw [if_neg (by rw [h]; simp), if_pos hne]
      obtain ⟨a, b, c, rfl, rfl, hc0, a1, a2⟩ := mayB_out h
      clear hc0
      have hnb : ((sn : Int) != (a : Int) + (b : Int)) = true := by rw [← hn] at hne; simpa using hne
      have H := Lib.hid h
      have HE := Lib.hid ec
      clear h hcd ec hne hn
      go_enter Try.func21, Try.ntmps21
      go_wp2_with (first
        | (go_at_call 24; refine (may_any a b 0 _).mono ?_; rintro e w1 ⟨rfl, rfl⟩; rw [H.out])
        | (go_at_call 25; refine (efault_any 19 (by decide) _).mono ?_; rintro e w2 ⟨ev, rfl, he, hb⟩; have S2 := Lib.hid (And.intro he hb); clear he hb))
      go_ret2
      exact ⟨_, by rw [HOK0.out (by rw [HE.out]; decide)]; rfl, by rw [HE.out]; exact S2.out.1, S2.out.2⟩
end Go.Proofs.Ytbnfnijjldimkab
namespace Go.Proofs.Ytbnfnijjldimkab
open Go.RowKit
set_option linter.unusedVariables false
set_option linter.unusedSimpArgs false
set_option maxRecDepth 100000 in
set_option maxHeartbeats 800000 in
theorem rcheck_gen (k m : Int) (sa : Option Addr) (sn sc : Nat) (ss : List ByteArray) (w : World) (hss : StrsRd w sa ss) (hn : sn = ss.length) (hn2 : sn ≤ sc) (hn3 : sc ≤ 9223372036854775807) (hsz : ∀ i, i < ss.length → (ss.getD i ⟨#[]⟩).size ≤ 100000) :
    Calls Try.prog 22 #[.int .i64 k, .int .i64 m, .slice sa sn sc] w fun e w' => e = .returned (.tuple #[.bool (checkOk k m ss), .int .i64 (checkCode k m ss)]) ∧ Below w.heap.size w w' := by
  obtain ⟨cd, hcd⟩ : ∃ cd, cd = checkCode k m ss := ⟨_, rfl⟩
  obtain ⟨ok, hok⟩ : ∃ ok, ok = checkOk k m ss := ⟨_, rfl⟩
  have hok0 : cd ≠ 0 → ok = false := fun h0 => by rw [hok]; unfold checkOk; rw [if_neg (by rw [← hcd]; exact h0)]
  have hok1 : cd = 0 → ok = decide (rowStrs (gen k.toNat) (ss.take k.toNat) (ss.getD 0 ⟨#[]⟩).size k.toNat ss.length = ss) := fun h0 => by rw [hok]; unfold checkOk; rw [if_pos (by rw [← hcd]; exact h0)]
  rw [← hcd, ← hok]
  have HOK0 := Lib.hid hok0
  have HOK1 := Lib.hid hok1
  clear hok0 hok1 hok
  cases h : mayB k m 0
  · have ec : cd = 1 := by rw [hcd]; unfold checkCode; rw [if_pos h]
    have H := Lib.hid h
    have HE := Lib.hid ec
    clear h hcd ec
    go_enter Try.func22, Try.ntmps22
    go_wp2_with (go_at_call 26; refine (wrong_any k m 0 _).mono ?_; rintro e w1 ⟨rfl, rfl⟩; rw [H.out])
    go_ret2
    exact ⟨by rw [HOK0.out (by rw [HE.out]; decide), HE.out]; rfl, Below.refl _ _⟩
  · by_cases hne : (ss.length : Int) = k + m
    · obtain ⟨a, b, c, rfl, rfl, hc0, a1, a2⟩ := mayB_out h
      clear hc0
      have hK : ss.length = a + b := by omega
      obtain ⟨g, o, rfl, gl, hcell⟩ := hss.open (by omega)
      have hcd2 : cd = if ∀ i, i < ss.length → (ss.getD i ⟨#[]⟩).size = (ss.getD 0 ⟨#[]⟩).size then 0 else 19 := by
        rw [hcd]; unfold checkCode; rw [if_neg (by rw [h]; simp), if_neg (by simpa using hne)]
      obtain ⟨t0, ht0⟩ : ∃ t, t = ss.getD 0 ⟨#[]⟩ := ⟨_, rfl⟩
      rw [← ht0] at hcd2
      obtain ⟨K, hKK⟩ : ∃ K, K = sn := ⟨_, rfl⟩
      rw [← hKK] at hn hn2 ⊢
      have kb : K = a + b := by omega
      have hb : ((K : Int) != (a : Int) + (b : Int)) = false := by simp; omega
      have c0 : World.cell? w ⟨g, o, none⟩ = some (.string t0) := by have := hcell 0 (by omega); rw [Nat.add_zero] at this; rw [this, ht0]
      have t0s : t0.size ≤ 100000 := by rw [ht0]; exact hsz 0 (by omega)
      have ea : (a : Int) ≤ (sc : Int) := by omega
      have ea0 : 0 ≤ (a : Int) := by omega
      have eb1 : a ≤ K := by omega
      have eb2 : K ≤ 255 := by omega
      have eb3 : 1 ≤ K := by omega
      have H := Lib.hid h
      have HCD := Lib.hid hcd2
      have HN := Lib.hid hn
      have HKB := Lib.hid kb
      have HC := Lib.hid hcell
      have HSZ := Lib.hid hsz
      have HS := Lib.hid hss
      have HT0 := Lib.hid ht0
      clear h hcd hcd2 hn hKK kb hcell hsz hss hne hK ht0
      go_enter Try.func22, Try.ntmps22
      go_wp2_with (go_at_call 26; refine (wrong_any a b 0 _).mono ?_; rintro e w1 ⟨rfl, rfl⟩; rw [H.out])
      go_loopw [9] (fun i wr => ∃ j : Nat, j ≤ K ∧ i = .int .i64 j ∧ (∀ i, i < j → (ss.getD i ⟨#[]⟩).size = t0.size) ∧ Below w.heap.size w wr) (fun i _ => K - (intOf i).toNat)
      case atStart => exact ⟨0, by omega, rfl, fun i h => by omega, Below.refl _ _⟩
      case round =>
        obtain ⟨j, hj, rfl, hall, hbel⟩ := hrel
        have HALL := Lib.hid hall
        clear hall
        by_cases hlt : j < K
        · have hjl : j < ss.length := by rw [← HN.out]; exact hlt
          obtain ⟨t, ht⟩ : ∃ t, t = ss.getD j ⟨#[]⟩ := ⟨_, rfl⟩
          have cl := (hbel.cell (p := ⟨g, o + j, none⟩) gl).trans (HC.out j hjl)
          have c9 := (hbel.cell (p := ⟨g, o, none⟩) gl).trans c0
          have hts := HSZ.out j hjl
          rw [← ht] at cl hts
          have HT := Lib.hid ht
          have HBL := Lib.hid hbel
          clear ht hbel c0
          by_cases hs : t.size = t0.size
          · have hnb : ((t.size : Int) != (t0.size : Int)) = false := by simp [hs]
            have HS9 := Lib.hid hs
            clear hs
            go_wp2_with fail
            go_quiet (fail)
            go_wp2
            go_roundw
            case measure => simp [intOf]; omega
            case rel =>
              refine ⟨j + 1, by omega, by go_num, fun i hi => ?_, HBL.out.trans ⟨rfl, rfl, rfl, Nat.le_refl _, fun _ _ => rfl⟩⟩
              by_cases e : i = j
              · rw [e, ← HT.out]; exact HS9.out
              · exact HALL.out i (by omega)
          · have hnb : ((t.size : Int) != (t0.size : Int)) = true := by simp; omega
            have HS9 := Lib.hid hs
            clear hs
            go_wp2_with fail
            go_quiet (fail)
            go_wp2
            go_ret2
            have ec : cd = 19 := by rw [HCD.out, if_neg (fun h => HS9.out (by rw [HT.out]; exact h j hjl))]
            exact ⟨by rw [HOK0.out (by rw [ec]; decide), ec]; rfl, HBL.out.trans ⟨rfl, rfl, rfl, Nat.le_refl _, fun _ _ => rfl⟩⟩
        · obtain rfl : K = j := by omega
          clear hlt hj
          obtain ⟨xs, hxs⟩ : ∃ xs, xs = ss.take a := ⟨_, rfl⟩
          have hxl : xs.length = a := by rw [hxs, List.length_take, ← HN.out]; omega
          have hxz : ∀ i, i < xs.length → (xs.getD i ⟨#[]⟩).size = t0.size := fun i hi => by
            rw [hxs, List.getD_eq_getElem?_getD, List.getElem?_take, if_pos (by omega), ← List.getD_eq_getElem?_getD]
            exact HALL.out i (by omega)
          have hxr : ∀ x : World, StrsRd x (some ⟨g, o, none⟩) ss → StrsRd x (some ⟨g, o, none⟩) xs := fun x hx => by rw [hxs]; exact StrsRd.take hx a
          have HXL := Lib.hid hxl
          have HXZ := Lib.hid hxz
          have HXR := Lib.hid hxr
          have HXS := Lib.hid hxs
          have e3 : ((a : Int)).toNat = a := by omega
          clear hxl hxz hxr hxs c0
          have HBL := Lib.hid hbel
          clear hbel
          go_wp2_with (go_at_call 30; refine (rall_ok a b sc t0.size _ xs _ a1 a2 HXL.out HXZ.out t0s (HXR.out _ (HS.out.after HBL.out))).mono ?_; rw [← HKB.out]; rintro e w8 ⟨g8, cap8, rfl, hs, hb⟩; have hb9 := HBL.out.trans (hb.mono HBL.out.size); have S4 := Lib.hid (And.intro hs (And.intro (HS.out.after hb9) hb9)); clear hs hb hb9)
          obtain ⟨T, hT⟩ : ∃ T, T = rowStrs (gen a) xs t0.size a K := ⟨_, rfl⟩
          have hTl : T.length = K := by rw [hT, rowStrs_length]
          rw [← hT] at S4
          have HTT := Lib.hid hT
          have HTL := Lib.hid hTl
          clear hT hTl
          have hfin : cd = 0 := by rw [HCD.out, if_pos (fun i hi => HALL.out i (by rw [HN.out]; exact hi))]
          have hokk : ok = decide (T = ss) := by
            rw [HOK1.out hfin, HTT.out, HXS.out, HT0.out, ← HN.out]
            simp only [Int.toNat_natCast]
          have HFIN := Lib.hid hfin
          have HOKK := Lib.hid hokk
          clear hfin hokk
          go_loopw [11] (fun q wr => ∃ j : Nat, j ≤ K ∧ q = .int .i64 j ∧ (∀ i, i < j → T.getD i ⟨#[]⟩ = ss.getD i ⟨#[]⟩) ∧ StrsRd wr (some ⟨g8, 0, none⟩) T ∧ StrsRd wr (some ⟨g, o, none⟩) ss ∧ Below w.heap.size w wr) (fun q _ => K - (intOf q).toNat)
          case atStart => exact ⟨0, by omega, rfl, fun i h => by omega, S4.out.1, S4.out.2.1, S4.out.2.2⟩
          case round =>
            clear S4
            obtain ⟨j, hj, rfl, heq, h1, h2, hbel⟩ := hrel
            have HEQ := Lib.hid heq
            clear heq
            by_cases hlt : j < K
            · have d3 := strs_cells h1 j (by rw [HTL.out]; exact hlt)
              have d4 := strs_cells h2 j (by rw [← HN.out]; exact hlt)
              rw [Nat.zero_add] at d3
              obtain ⟨t, ht⟩ : ∃ t, t = T.getD j ⟨#[]⟩ := ⟨_, rfl⟩
              obtain ⟨u, hu⟩ : ∃ t, t = ss.getD j ⟨#[]⟩ := ⟨_, rfl⟩
              rw [← ht] at d3
              rw [← hu] at d4
              have HT := Lib.hid ht
              have HU := Lib.hid hu
              have S8 := Lib.hid (And.intro h1 (And.intro h2 hbel))
              clear h1 h2 hbel ht hu
              by_cases htu : t = u
              · subst htu
                go_wp2_with fail
                go_quiet (fail)
                go_wp2
                go_roundw
                case measure => simp [intOf]; omega
                case rel =>
                  refine ⟨j + 1, by omega, by go_num, fun i hi => ?_, S8.out.1, S8.out.2.1, S8.out.2.2.trans ⟨rfl, rfl, rfl, Nat.le_refl _, fun _ _ => rfl⟩⟩
                  by_cases e : i = j
                  · rw [e, ← HT.out]; exact HU.out
                  · exact HEQ.out i (by omega)
              · have hnb := toList_ne htu
                have HTU := Lib.hid htu
                clear htu
                go_wp2_with fail
                go_quiet (fail)
                go_wp2
                go_ret2
                exact ⟨by rw [HOKK.out, decide_eq_false (fun e => HTU.out (by rw [HT.out, HU.out, e])), HFIN.out]; rfl, S8.out.2.2.trans ⟨rfl, rfl, rfl, Nat.le_refl _, fun _ _ => rfl⟩⟩
            · obtain rfl : K = j := by omega
              have S8 := Lib.hid hbel
              clear h1 h2 hbel
              go_wp2
              go_ret2
              exact ⟨by rw [HOKK.out, decide_eq_true (getD_ext (by rw [HTL.out]; exact HN.out) (fun i hi => HEQ.out i (by rw [HTL.out] at hi; exact hi))), HFIN.out]; rfl, S8.out⟩
    · have ec : cd = 19 := by rw [hcd]; unfold checkCode; rw [if_neg (by rw [h]; simp), if_pos hne]
      obtain ⟨a, b, c, rfl, rfl, hc0, a1, a2⟩ := mayB_out h
      clear hc0
      have hnb : ((sn : Int) != (a : Int) + (b : Int)) = true := by rw [← hn] at hne; simpa using hne
      have H := Lib.hid h
      have HE := Lib.hid ec
      clear h hcd ec hne hn
      go_enter Try.func22, Try.ntmps22
      go_wp2_with (go_at_call 26; refine (wrong_any a b 0 _).mono ?_; rintro e w1 ⟨rfl, rfl⟩; rw [H.out])
      go_ret2
      exact ⟨by rw [HOK0.out (by rw [HE.out]; decide), HE.out]; rfl, Below.refl _ _⟩
end Go.Proofs.Ytbnfnijjldimkab
