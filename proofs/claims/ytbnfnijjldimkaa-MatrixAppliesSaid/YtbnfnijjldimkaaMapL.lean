/-
  The walk of MatrixApplies.
-/
import Derived.Test.YtbnfnijjldimkaaMappG
import Derived.Test.YtbnfnijjldimkaaMlent
import Derived.Test.YtbnfnijjldimkaaMStrs
namespace Go.Proofs.Ytbnfnijjldimkaa
open Go.RowKit
set_option linter.unusedVariables false
set_option linter.unusedSimpArgs false
theorem appTexts_le (r c : Int) (L : List (BitVec 8)) (ss : List ByteArray) : (appTexts r c L ss).length ≤ r.toNat := by
  unfold appTexts
  split
  · simp
  · simp
theorem lent_rd {w : World} {g : Nat} {L : List (BitVec 8)} {x : Value} {sp : List Value} (h : Row w g 5 ((ncells L ++ [x]) ++ sp)) : Rd w (some ⟨g, 0, none⟩) L :=
  Rd.of_row h (by rw [List.drop_zero, List.append_assoc, ← ncells_length L]; exact List.take_left)
set_option maxRecDepth 100000 in
set_option maxHeartbeats 3200000 in
theorem applies_any (r c : Int) (a la : Option Addr) (cap lcap : Nat) (L : List (BitVec 8)) (ss : List ByteArray) (w : World) (hA : MatArg w r c a cap L) (hss : StrsRd w la ss) (hs2 : ∀ s ∈ ss, s.size ≤ maxLen) (hnone : la = none → lcap = 0) (hlen : ss.length * 16 ≤ 140737488351232) :
    Calls Try.prog 3 #[.agg #[.int .i64 r, .int .i64 c, .slice a L.length cap], .slice la ss.length lcap] w fun e w' => e = .returned (.bool true) ∧ Below w.heap.size w w' := by
  obtain ⟨n, hn⟩ : ∃ n, n = L.length := ⟨_, rfl⟩
  obtain ⟨ln, hln⟩ : ∃ ln, ln = ss.length := ⟨_, rfl⟩
  obtain ⟨T, hT⟩ : ∃ T, T = appTexts r c L ss := ⟨_, rfl⟩
  obtain ⟨K, hK⟩ : ∃ K, K = T.length := ⟨_, rfl⟩
  obtain ⟨cd, hcd⟩ : ∃ cd, cd = appCode r c L.length ss := ⟨_, rfl⟩
  have hTle := appTexts_le r c L ss
  rw [← hT, ← hK] at hTle
  have hnc := hA.le
  have hcm := hA.cap
  rw [← hn] at hnc
  rw [← hln] at hlen
  obtain ⟨j0, hj0, jz0, jz1, jz2⟩ := info_parts strparts
  have S0 := Lib.hid ((Bun.start w).box 24 [.int .i64 r, .int .i64 c, .slice a n cap])
  have hnn1 : a = none → n = 0 ∧ cap = 0 := fun h => by have := hA.nn h; omega
  have hnn2 : la = none → ln = 0 ∧ lcap = 0 := by
    intro h
    refine ⟨?_, hnone h⟩
    rcases Nat.eq_zero_or_pos ss.length with h0 | h0
    · omega
    · obtain ⟨g, o, hx, _⟩ := hss 0 h0
      rw [h] at hx
      cases hx
  have hrd : ∀ w', Below w.heap.size w w' → ∀ p, la = some p → ∀ j u, (scells ss)[j]? = some u → w'.cell? (p.add j) = some u := fun w' hb p hp => by subst hp; exact (hss.after hb).news
  have hsl : (scells ss).length = ln * 1 := by rw [scells_length, Nat.mul_one, hln]
  rw [← hn, ← hln]
  have HA := Lib.hid hA.rd
  have HSS := Lib.hid hss
  have HS2 := Lib.hid hs2
  have HNN1 := Lib.hid hnn1
  have HNN2 := Lib.hid hnn2
  have HRD := Lib.hid hrd
  have HSL := Lib.hid hsl
  have HN := Lib.hid hn
  have HLN := Lib.hid hln
  have HT := Lib.hid hT
  have HK := Lib.hid hK
  have HCD := Lib.hid hcd
  have HCM := Lib.hid hcm
  clear hA hss hs2 hnn1 hnn2 hrd hsl hn hln hT hK hcd hnone hcm
  go_enter Try.func3, Try.ntmps3
  go_wp2_with (go_at_call 9; have h9 := S0.out; clear S0; refine (known_any _).mono ?_; rintro e w1 ⟨rfl, hb⟩; have hm := h9.after hb; obtain ⟨x0, x1, x2⟩ := box3 hm.here.2; have S1 := Lib.hid hm; clear h9 hb hm)
  go_loop [6] (fun i => ∃ k : Nat, k ≤ ln ∧ i = .int .i64 k ∧ ∀ i, i < k → (ss.getD i ⟨#[]⟩).size ≤ 500) (fun i => ln - (intOf i).toNat)
  case atStart => exact ⟨0, by omega, rfl, fun i h => by omega⟩
  case round =>
    obtain ⟨k, hk, rfl, hall⟩ := hrel
    have HALL := Lib.hid hall
    clear hall
    by_cases hlt : k < ln
    · obtain ⟨g0, o0, rfl, gl, hcell⟩ := HSS.out.open (by rw [← HLN.out]; omega)
      obtain ⟨t, ht⟩ : ∃ t, t = ss.getD k ⟨#[]⟩ := ⟨_, rfl⟩
      have cl : World.cell? w1 ⟨g0, o0 + k, none⟩ = some (.string t) := (S1.out.bel.cell (p := ⟨g0, o0 + k, none⟩) gl).trans (by rw [hcell k (by rw [← HLN.out]; exact hlt), ht])
      have hts : t.size ≤ 9223372036854775807 := by
        have := HS2.out (ss.getD k ⟨#[]⟩) (by rw [List.getD_eq_getElem?_getD, List.getElem?_eq_getElem (by rw [← HLN.out]; exact hlt), Option.getD_some]; exact List.getElem_mem _)
        unfold maxLen at this
        rw [ht]; omega
      have HTK := Lib.hid ht
      clear ht hcell
      by_cases hs : (500 : Int) < (t.size : Int)
      · go_wp2
        go_ret
        exact ⟨rfl, S1.out.bel⟩
      · have hs5 : t.size ≤ 500 := by omega
        go_wp2
        go_round
        case measure => simp [intOf]; omega
        case rel =>
          refine ⟨k + 1, by omega, by go_num, fun i hi => ?_⟩
          by_cases e : i = k
          · rw [e, ← HTK.out]; exact hs5
          · exact HALL.out i (by omega)
    · obtain rfl : k = ln := by omega
      clear hlt hk
      obtain ⟨W, hW⟩ : ∃ W, W = wideB r c n := ⟨_, rfl⟩
      cases W
      · have hw4 := wideB_no hW.symm
        obtain ⟨r40, c40, n16⟩ := hw4
        have hK40 : K ≤ 40 := by omega
        have HW := Lib.hid hW
        clear hW
        go_wp2_with (first
          | (go_at_call 10; have h9 := S1.out; clear S1; refine (wide_any r c n cap a _ (Nat.le_trans hnc HCM.out)).mono ?_; rintro e w2 ⟨rfl, hb⟩; rw [← HW.out]; have S2 := Lib.hid (h9.after hb); clear h9 hb)
          | (at_builtin; have h9 := S2.out; clear S2; go_loud (skip; refine wpList_append_copy _ rfl _ (.tmp 31) 25 rfl 9 j0 _ 1 16 Try.underlying25 hj0 jz0 jz1 jz2 rfl (by omega) rfl la k lcap (scells ss) rfl HNN2.out HSL.out (HRD.out _ h9.bel) (scells_one ss) (by unfold maxLen; omega) (by omega) ?_; intro a1 cap1 w3 hown hb; have hs3 := StrsRd.own hown; have hm := (h9.after hb).add (fun _ h => hs3.after h); obtain ⟨x0, x1, x2⟩ := box3 hm.here.1.2; have S3 := Lib.hid hm; clear h9 hown hb hm hs3))
          | (go_at_call 12; have h9 := S3.out; clear S3; refine (lent_any r c a n cap L _ HN.out n16 (HA.out.after h9.bel) HNN1.out).mono ?_; rintro e w4 ⟨g4, cap4, sp4, rfl, hg, hc1, hc2, hrow, hb⟩; have hr4 := lent_rd hrow; have S4 := Lib.hid ((h9.after hb).add (fun _ h => hr4.after h)); clear h9 hb hrow hr4)
          | (go_at_call 11; have h9 := S4.out; clear S4; refine (apply_gen r c n cap4 k cap1 _ a1 L ss _ HN.out (by omega) hc2 h9.here.2 HLN.out (by unfold maxLen; omega) h9.here.1.2 (fun i hi => Nat.le_trans (HALL.out i (by rw [HLN.out]; exact hi)) (by decide))).mono ?_; rw [← HT.out, ← HK.out, ← HCD.out]; rintro e w5 ⟨a5, cap5, ev, rfl, he, ht, hb⟩; have hm := ((h9.after hb).add (fun _ h => ht.after h)).add (fun _ h => he.after h); obtain ⟨x0, x1, x2⟩ := box3 hm.here.1.1.1.1.2; have S5 := Lib.hid hm; clear h9 hb he ht hm)
          | (go_at_call 13; have h9 := S5.out; clear S5; refine (rapply_gen r c n cap k lcap a la L ss _ HN.out hnc HCM.out (HA.out.after h9.bel) HLN.out (by unfold maxLen; omega) (HSS.out.after h9.bel) (fun i hi => Nat.le_trans (HALL.out i (by rw [HLN.out]; exact hi)) (by decide))).mono ?_; rw [← HT.out, ← HK.out, ← HCD.out]; rintro e w6 ⟨a6, cap6, rfl, ht, hb⟩; have S6 := Lib.hid ((h9.after hb).add (fun _ h => ht.after h)); clear h9 hb ht)
          | (go_at_call 14; have h9 := S6.out; clear S6; refine (is_ok _ ev cd _ h9.here.1.2).mono ?_; rintro e w7 ⟨rfl, rfl⟩; have S7 := Lib.hid h9; clear h9))
        go_loopw [13] (fun i wr => ∃ j : Nat, j ≤ K ∧ i = .int .i64 j ∧ StrsRd wr a5 T ∧ StrsRd wr a6 T ∧ Below w.heap.size w wr) (fun i _ => K - (intOf i).toNat)
        case atStart => exact ⟨0, by omega, rfl, S7.out.here.1.1.2, S7.out.here.2, S7.out.bel⟩
        case round =>
          clear S7
          obtain ⟨j, hj, rfl, h1, h2, hbel⟩ := hrel
          by_cases hlt : j < K
          · obtain ⟨g1, o1, rfl, _, d1⟩ := h1.open (by rw [← HK.out]; omega)
            obtain ⟨g2, o2, rfl, _, d2⟩ := h2.open (by rw [← HK.out]; omega)
            have d3 := d1 j (by rw [← HK.out]; exact hlt)
            have d4 := d2 j (by rw [← HK.out]; exact hlt)
            obtain ⟨t, ht⟩ : ∃ t, t = T.getD j ⟨#[]⟩ := ⟨_, rfl⟩
            rw [← ht] at d3 d4
            have S8 := Lib.hid (And.intro h1 (And.intro h2 hbel))
            clear h1 h2 hbel d1 d2 ht
            go_wp2_with fail
            go_quiet (fail)
            go_wp2
            go_roundw
            case measure => simp [intOf]; omega
            case rel => exact ⟨j + 1, by omega, by go_num, S8.out.1, S8.out.2.1, S8.out.2.2.trans ⟨rfl, rfl, rfl, Nat.le_refl _, fun _ _ => rfl⟩⟩
          · obtain rfl : j = K := by omega
            have S8 := Lib.hid hbel
            clear h1 h2 hbel
            go_wp2
            go_ret
            exact ⟨rfl, S8.out⟩
      · have HW := Lib.hid hW
        clear hW
        go_wp2_with (go_at_call 10; have h9 := S1.out; clear S1; refine (wide_any r c n cap a _ (Nat.le_trans hnc HCM.out)).mono ?_; rintro e w2 ⟨rfl, hb⟩; rw [← HW.out]; have S2 := Lib.hid (h9.after hb); clear h9 hb)
        go_ret
        exact ⟨rfl, S2.out.bel⟩
theorem applies_walk (r c : Int) (a : Option Addr) (cap : Nat) (L : List (BitVec 8)) (la : Option Addr) (lcap : Nat) (ss : List ByteArray) (w : World) (hA : MatArg w r c a cap L) (hS : StrsArg w la lcap ss) (hz : ss.length * 16 ≤ reachBytes) :
    Calls Try.prog 3 #[.agg #[.int .i64 r, .int .i64 c, .slice a L.length cap], .slice la ss.length lcap] w fun e w' => e = .returned (.bool true) ∧ Below w.heap.size w w' :=
  applies_any r c a la cap lcap L ss w hA hS.rd hS.sz hS.nn hz
end Go.Proofs.Ytbnfnijjldimkaa
