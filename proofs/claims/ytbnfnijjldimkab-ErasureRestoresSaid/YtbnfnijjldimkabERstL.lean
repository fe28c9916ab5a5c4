/-
  The walk of ErasureRestores.
-/
import Derived.Test.YtbnfnijjldimkabEPcs
namespace Go.Proofs.Ytbnfnijjldimkab
open Go.RowKit
set_option linter.unusedVariables false
set_option linter.unusedSimpArgs false
/-- the texts of the first i pieces -/
def txt (L : List (Bool × ByteArray)) (i : Nat) : List ByteArray := (List.range i).map fun j => (pcAt L j).2
theorem txt_length (L : List (Bool × ByteArray)) (i : Nat) : (txt L i).length = i := by simp [txt]
theorem txt_get (L : List (Bool × ByteArray)) (i j : Nat) (h : j < i) : (txt L i).getD j ⟨#[]⟩ = (pcAt L j).2 := by
  rw [List.getD_eq_getElem?_getD]
  simp [txt, h]
theorem txt_succ (L : List (Bool × ByteArray)) (i : Nat) : scells (txt L (i + 1)) = scells (txt L i) ++ [.string (pcAt L i).2] := by
  unfold scells txt
  rw [List.range_succ, List.map_append, List.map_append]
  rfl
set_option maxRecDepth 100000 in
set_option maxHeartbeats 6400000 in
theorem restores_any (k m l : Int) (pa : Option Addr) (pc : Nat) (L : List (Bool × ByteArray)) (w : World) (hk0 : -9223372036854775808 ≤ k) (hk1 : k ≤ 9223372036854775807) (hl1 : l ≤ 9223372036854775807) (hA : PcArg w pa pc L) :
    Calls Try.prog 4 #[.int .i64 k, .int .i64 m, .int .i64 l, .slice pa L.length pc] w fun e w' => e = .returned (.bool true) ∧ Below w.heap.size w w' := by
  obtain ⟨N, hN⟩ : ∃ N, N = L.length := ⟨_, rfl⟩
  have hNm := hA.le
  rw [← hN] at hNm ⊢
  unfold maxLen at hNm
  obtain ⟨b, hb⟩ : ∃ b, b = manyB k m := ⟨_, rfl⟩
  have HB := Lib.hid hb
  clear hb
  have S0 := Lib.hid (Bun.start w)
  cases b
  · by_cases h300 : N ≤ 300
    · have h30 : ¬ (300 : Int) < (N : Int) := by omega
      obtain ⟨j0, hj0, jz0, jz1, jz2⟩ := info_parts strparts
      obtain ⟨j1, hp0, pz0, pz1, pz2⟩ := info_parts pieceparts
      have hnn : pa = none → N = 0 ∧ pc = 0 := by
        intro h
        refine ⟨?_, hA.nn h⟩
        rcases Nat.eq_zero_or_pos L.length with h0 | h0
        · omega
        · obtain ⟨g, o, hx, _⟩ := hA.rd 0 h0
          rw [h] at hx
          cases hx
      have hrd : ∀ w', Below w.heap.size w w' → ∀ p, pa = some p → ∀ j u, (pcells L)[j]? = some u → w'.cell? (p.add j) = some u := fun w' hb p hp => by subst hp; exact (hA.rd.after hb).cells
      have hsl : (pcells L).length = N * 2 := by rw [pcells_length, hN]
      obtain ⟨TX, hTX⟩ : ∃ T, T = txt L N := ⟨_, rfl⟩
      have hTXl : TX.length = N := by rw [hTX, txt_length]
      obtain ⟨jt, hjt⟩ : ∃ t, t = joinText k l TX := ⟨_, rfl⟩
      obtain ⟨jc, hjc⟩ : ∃ t, t = joinCode k l TX := ⟨_, rfl⟩
      obtain ⟨ok, hok⟩ : ∃ t, t = checkOk k m TX := ⟨_, rfl⟩
      obtain ⟨cc, hcc⟩ : ∃ t, t = checkCode k m TX := ⟨_, rfl⟩
      have HN := Lib.hid hN
      have HP := Lib.hid hA.rd
      have HNN := Lib.hid hnn
      have HRD := Lib.hid hrd
      have HSL := Lib.hid hsl
      have HSZ := Lib.hid hA.sz
      have HTX := Lib.hid hTX
      have HTL := Lib.hid hTXl
      have HJT := Lib.hid hjt
      have HJC := Lib.hid hjc
      have HOK := Lib.hid hok
      have HCC := Lib.hid hcc
      clear hN hA hnn hrd hsl hTX hTXl hjt hjc hok hcc
      go_enter Try.func4, Try.ntmps4
      go_wp2_with (first
        | (go_at_call 9; have h9 := S0.out; clear S0; refine (known_any _).mono ?_; rintro e w1 ⟨rfl, hb⟩; have S1 := Lib.hid (h9.after hb); clear h9 hb)
        | (go_at_call 13; refine (many_any k m _).mono ?_; rw [← HB.out]; rintro e w5 ⟨rfl, rfl⟩)
        | (at_builtin; have h9 := S1.out; clear S1; go_loud (skip; refine wpList_append_copy _ rfl _ (.tmp 40) 38 rfl 40 j1 _ 2 24 Try.underlying38 hp0 pz0 pz1 pz2 rfl (by omega) rfl pa N pc (pcells L) rfl HNN.out HSL.out (HRD.out _ h9.bel) (pcells_one L) (by unfold maxLen; omega) (by omega) ?_; intro a1 cap1 w2 hown hb; have hs3 := PcRd.own hown; have hp2 := HP.out.after (h9.bel.trans (hb.mono h9.bel.size)); have S2 := Lib.hid (((h9.after hb).add (fun _ h => hp2.after h)).add (fun _ h => hs3.after h)); clear h9 hown hb hs3 hp2)))
      go_loopw [11, 12] (fun tv ii wr => ∃ i : Nat, i ≤ N ∧ ii = .int .i64 i ∧ (∀ j, j < i → (pcAt L j).2.size ≤ 500) ∧ wr.ownsRow w2.heap.size 9 1 tv i (scells (txt L i)) ∧ Below w2.heap.size w2 wr) (fun _ ii _ => N - (intOf ii).toNat)
      case atStart => exact ⟨0, by omega, rfl, fun j h => by omega, World.ownsRow_nil _ _ _ _, Below.refl _ _⟩
      case round =>
        obtain ⟨i, hi, rfl, hall, hown, hbel⟩ := hrel
        have HALL := Lib.hid hall
        clear hall
        by_cases hlt : i < N
        · obtain ⟨pg, po, rfl, pgl, _, c1⟩ := S2.out.here.1.2.at_ (j := i) (by rw [← HN.out]; exact hlt)
          have d1 := (hbel.cell (p := ⟨pg, po + i * 2 + 1, none⟩) pgl).trans c1
          obtain ⟨t, ht⟩ : ∃ t, t = (pcAt L i).2 := ⟨_, rfl⟩
          rw [← ht] at d1
          have hts : t.size ≤ 9223372036854775807 := by
            have h8 := HSZ.out (pcAt L i) (by rw [← pcAt_get L i (by rw [← HN.out]; exact hlt)]; exact List.getElem_mem _)
            unfold maxLen at h8
            rw [ht]; omega
          have HT := Lib.hid ht
          clear c1 ht
          by_cases hs : (500 : Int) < (t.size : Int)
          · have S9 := Lib.hid (S2.out.bel.trans (hbel.mono S2.out.bel.size))
            clear hown hbel
            go_wp2
            go_ret
            exact ⟨rfl, S9.out⟩
          · have hs5 : t.size ≤ 500 := by omega
            have hz := hbel.size
            have S3 := Lib.hid (And.intro hown hbel)
            clear hown hbel
            go_wp2_with (at_builtin; have h9 := S3.out; clear S3; go_loud (skip; refine wpList_append_own _ rfl (.tmp 56) (.tmp 62) 31 rfl w2.heap.size 9 j0 _ 1 16 Try.underlying31 hj0 jz0 jz1 jz2 rfl (by omega) _ i (scells (txt L i)) rfl (h9.1.alloc _) ⟨wr.heap.size, 0, none⟩ 1 1 [.string t] rfl rfl (World.news_of_block (cs := #[.string t]) (t := 9) (fr := (0, 0)) (heap_alloc_new wr _)) (by simp [Value.oneCell']) (by unfold maxLen; omega) (by omega) (Nat.le_trans hz (by simp)) ?_; intro v' w7 hown2 hgr2 hnil2; clear hnil2; have S4 := Lib.hid (And.intro hown2 (own_grown_below (h9.1.alloc _) (h9.2.alloc hz _) (Nat.le_trans hz (by simp)) hgr2)); clear h9 hown2 hgr2))
            go_roundw
            case measure => simp [intOf]; omega
            case rel =>
              refine ⟨i + 1, by omega, by go_num, fun j hj => ?_, ?_, S4.out.2⟩
              · by_cases e : j = i
                · rw [e, ← HT.out]; exact hs5
                · exact HALL.out j (by omega)
              · rw [txt_succ, ← HT.out]; exact S4.out.1
        · obtain rfl : i = N := by omega
          clear hlt hi
          obtain ⟨ta, tc, rfl⟩ := own_shape hown
          have hcaps := own_caps hown
          have htc1 := hcaps.1
          have htc2 := hcaps.2.1
          have hsr := StrsRd.own hown
          rw [← HTX.out] at hsr
          have hszl : ∀ j, j < L.length → (pcAt L j).2.size ≤ 100000 := fun j hj => Nat.le_trans (HALL.out j (by rw [HN.out]; exact hj)) (by decide)
          have hszt : ∀ j, j < TX.length → (TX.getD j ⟨#[]⟩).size ≤ 100000 := fun j hj => by
            rw [HTL.out] at hj
            rw [HTX.out, txt_get L i j hj]
            exact Nat.le_trans (HALL.out j hj) (by decide)
          have S3 := Lib.hid ((S2.out.after hbel).add (fun _ h => hsr.after h))
          have HSL2 := Lib.hid hszl
          have HST := Lib.hid hszt
          unfold maxLen at htc2
          clear S2 hown hcaps hsr hbel hszl hszt
          go_wp2_with (first
            | (go_at_call 17; have h9 := S3.out; clear S3; refine (restore_gen k m l a1 i cap1 L _ hl1 HN.out (by unfold maxLen; omega) h9.here.1.2 HSL2.out).mono ?_; rintro e w5 ⟨code, T, a5, c5, ev, hR, rfl, hE, hs, hb⟩; have S5 := Lib.hid (((h9.after hb).add (fun _ h => hs.after h)).add (fun _ h => hE.after h)); have HR := Lib.hid hR; have hTl := restg_len hR; clear h9 hR hE hs hb)
            | (go_at_call 18; have h9 := S5.out; clear S5; refine (rrestore_gen k m l pa i pc L _ hl1 HN.out (by unfold maxLen; omega) h9.here.1.1.1.1.2 HSL2.out).mono ?_; rintro e w6 ⟨code', T', a6, c6, hR, rfl, hs, hb⟩; obtain ⟨rfl, rfl⟩ := restg_one HR.out hR; have S6 := Lib.hid ((h9.after hb).add (fun _ h => hs.after h)); clear h9 hR hs hb)
            | (go_at_call 12; have h9 := S6.out; clear S6; refine (is_ok _ ev _ _ h9.here.1.2).mono ?_; rintro e w7 ⟨rfl, rfl⟩; have S7 := Lib.hid h9; clear h9)
            | (go_at_call 16; have h9 := S7.out; clear S7; refine (same_any a5 a6 _ c5 _ c6 _ _ _ h9.here.1.1.2 h9.here.2 rfl rfl (by omega) (by omega)).mono ?_; rw [decide_eq_true rfl]; rintro e w8 ⟨rfl, hb⟩; have S8 := Lib.hid ((h9.after hb).map (G := fun x => PcRd x pa L ∧ PcRd x a1 L ∧ StrsRd x ta TX) (fun x h => ⟨h.1.1.1.1.1.2, h.1.1.1.1.2, h.1.1.1.2⟩)); clear h9 hb))
          go_loopw [19] (fun jj wr => ∃ j : Nat, j ≤ i ∧ jj = .int .i64 j ∧ Bun w (fun x => PcRd x pa L ∧ PcRd x a1 L ∧ StrsRd x ta TX) wr) (fun jj _ => i - (intOf jj).toNat)
          case atStart => exact ⟨0, by omega, rfl, S8.out⟩
          case round =>
            clear S8
            obtain ⟨j, hj, rfl, hbun⟩ := hrel
            by_cases hlt : j < i
            · obtain ⟨g1, o1, rfl, _, c1, c2⟩ := hbun.here.1.at_ (j := j) (by rw [← HN.out]; exact hlt)
              obtain ⟨g2, o2, rfl, _, d1, d2⟩ := hbun.here.2.1.at_ (j := j) (by rw [← HN.out]; exact hlt)
              obtain ⟨pb, hpb⟩ : ∃ b, b = (pcAt L j).1 := ⟨_, rfl⟩
              obtain ⟨pt, hpt⟩ : ∃ b, b = (pcAt L j).2 := ⟨_, rfl⟩
              rw [← hpb] at c1 d1
              rw [← hpt] at c2 d2
              have S9 := Lib.hid hbun
              clear hbun hpb hpt
              go_wp2_with fail
              go_quiet (fail)
              go_wp2
              go_roundw
              case measure => simp [intOf]; omega
              case rel => exact ⟨j + 1, by omega, by go_num, S9.out.after ⟨rfl, rfl, rfl, Nat.le_refl _, fun _ _ => rfl⟩⟩
            · obtain rfl : j = i := by omega
              have S9 := Lib.hid hbun
              clear hbun hlt hj
              go_wp2_with (first
                | (go_at_call 19; have h9 := S9.out; clear S9; refine (join_gen k l ta j tc TX _ ⟨hk0, hk1⟩ hl1 h9.here.2.2 HTL.out.symm htc1 (by omega) HST.out).mono ?_; rw [← HJT.out, ← HJC.out]; rintro e w10 ⟨ev2, rfl, hE, hb⟩; have S10 := Lib.hid ((h9.after hb).add (fun _ h => hE.after h)); clear h9 hE hb)
                | (go_at_call 20; refine (rjoin_gen k l ta j tc TX _ ⟨hk0, hk1⟩ hl1 S10.out.here.1.2.2 HTL.out.symm htc1 (by omega) HST.out).mono ?_; rw [← HJT.out, ← HJC.out]; rintro e w11 ⟨rfl, rfl⟩)
                | (go_at_call 12; have h9 := S10.out; clear S10; refine (is_ok _ ev2 jc _ h9.here.2).mono ?_; rintro e w12 ⟨rfl, rfl⟩; have S11 := Lib.hid h9; clear h9)
                | (go_at_call 21; have h9 := S11.out; clear S11; refine (check_gen k m ta j tc TX _ h9.here.1.2.2 HTL.out.symm htc1 (by omega) HST.out).mono ?_; rw [← HOK.out, ← HCC.out]; rintro e w13 ⟨ev3, rfl, hE, hb⟩; have S12 := Lib.hid ((h9.after hb).add (fun _ h => hE.after h)); clear h9 hE hb)
                | (go_at_call 22; have h9 := S12.out; clear S12; refine (rcheck_gen k m ta j tc TX _ h9.here.1.1.2.2 HTL.out.symm htc1 (by omega) HST.out).mono ?_; rw [← HOK.out, ← HCC.out]; rintro e w14 ⟨rfl, hb⟩; have S13 := Lib.hid (h9.after hb); clear h9 hb)
                | (go_at_call 12; have h9 := S13.out; clear S13; refine (is_ok _ ev3 cc _ h9.here.2).mono ?_; rintro e w15 ⟨rfl, rfl⟩; have S14 := Lib.hid h9.bel; clear h9))
              go_ret
              exact ⟨rfl, S14.out⟩
    · have h30 : (300 : Int) < (N : Int) := by omega
      clear hN hA
      go_enter Try.func4, Try.ntmps4
      go_wp2_with (first
        | (go_at_call 9; have h9 := S0.out; clear S0; refine (known_any _).mono ?_; rintro e w1 ⟨rfl, hb⟩; have S1 := Lib.hid (h9.after hb); clear h9 hb)
        | (go_at_call 13; refine (many_any k m _).mono ?_; rw [← HB.out]; rintro e w5 ⟨rfl, rfl⟩))
      go_ret
      exact ⟨rfl, S1.out.bel⟩
  · clear hN hA
    go_enter Try.func4, Try.ntmps4
    go_wp2_with (first
      | (go_at_call 9; have h9 := S0.out; clear S0; refine (known_any _).mono ?_; rintro e w1 ⟨rfl, hb⟩; have S1 := Lib.hid (h9.after hb); clear h9 hb)
      | (go_at_call 13; refine (many_any k m _).mono ?_; rw [← HB.out]; rintro e w5 ⟨rfl, rfl⟩))
    go_ret
    exact ⟨rfl, S1.out.bel⟩
theorem restores_walk (k m l : Int) (pa : Option Addr) (pc : Nat) (L : List (Bool × ByteArray)) (hk0 : -9223372036854775808 ≤ k) (hk1 : k ≤ 9223372036854775807) (hm0 : -9223372036854775808 ≤ m) (hm1 : m ≤ 9223372036854775807) (hl0 : -9223372036854775808 ≤ l) (hl1 : l ≤ 9223372036854775807) (w : World) (hA : PcArg w pa pc L) :
    Calls Try.prog 4 #[.int .i64 k, .int .i64 m, .int .i64 l, .slice pa L.length pc] w fun e w' => e = .returned (.bool true) ∧ Below w.heap.size w w' :=
  restores_any k m l pa pc L w hk0 hk1 hl1 hA
end Go.Proofs.Ytbnfnijjldimkab
