/-
  The walk of the document's Restore.
-/
import Derived.Test.YtbnfnijjldimkabErest
import Derived.Test.YtbnfnijjldimkabRpick
namespace Go.Proofs.Ytbnfnijjldimkab
open Go.RowKit
set_option linter.unusedVariables false
set_option linter.unusedSimpArgs false
theorem take_snoc {α : Type} (l : List α) (x : α) (k : Nat) (h : l.length < k) : (l ++ [x]).take k = l.take k ++ [x] := by
  rw [List.take_of_length_le (by rw [List.length_append, List.length_singleton]; omega), List.take_of_length_le (by omega)]
theorem rpick_good' {w w' : World} {r c : Nat} {A : Nat → Nat → BitVec 8} {L : List Int} {e : Ending} (hx : RPickAns w r c A L e w') (h : ∀ i, i < L.length → 0 ≤ L.getD i 0 ∧ L.getD i 0 < r) : ∃ g cap, e = .returned (.tuple #[.agg #[.int .i64 L.length, .int .i64 c, .slice (some ⟨g, 0, none⟩) (L.length * c) cap], .int .i64 0]) ∧ MatRd w' g 0 L.length c (fun i j => A (L.getD i 0).toNat j) ∧ Below w.heap.size w w' := by
  obtain ⟨hx, hb⟩ := hx
  rcases hx with ⟨⟨i, hi, hn⟩, _⟩ | ⟨_, g, cap, sp, he, hrow⟩
  · exact absurd (h i hi) hn
  · exact ⟨g, cap, he, MatRd.of_row hrow, hb⟩
theorem rinv_good' {w w' : World} {N : Nat} {A : Nat → Nat → BitVec 8} {e : Ending} (hx : RInvAns w N A e w') (hI : Inj N A) : ∃ g B, RInv N A B ∧ e = .returned (.tuple #[mval N N g, .int .i64 0]) ∧ MatRd w' g 0 N N B ∧ Below w.heap.size w w' := by
  obtain ⟨hx, hb⟩ := hx
  rcases hx with ⟨h, _⟩ | ⟨_, g, B, h1, h2, _, h4⟩
  · exact absurd hI h
  · exact ⟨g, B, h1, h2, MatRd.of_row0 h4, hb⟩
theorem rrestore_bad1 (k m l : Int) (pa : Option Addr) (pn pc : Nat) (w : World) (h : mayB k m l = false) :
    Calls Try.prog 18 #[.int .i64 k, .int .i64 m, .int .i64 l, .slice pa pn pc] w fun e w' => e = .returned (.tuple #[.slice none 0 0, .int .i64 1]) ∧ Below w.heap.size w w' := by
  have H := Lib.hid h
  clear h
  go_enter Try.func18, Try.ntmps18
  go_wp2_with (go_at_call 26; refine (wrong_any k m l _).mono ?_; rintro e w1 ⟨rfl, rfl⟩; rw [H.out])
  go_ret2
  exact ⟨rfl, Below.refl _ _⟩
theorem rrestore_bad2 (k m l : Nat) (pa : Option Addr) (pn pc : Nat) (w : World) (h1 : 1 ≤ k) (h2 : k + m ≤ 255) (h3 : l ≤ 9223372036854775807) (hp : pn ≤ maxLen) (hne : pn ≠ k + m) :
    Calls Try.prog 18 #[.int .i64 k, .int .i64 m, .int .i64 l, .slice pa pn pc] w fun e w' => e = .returned (.tuple #[.slice none 0 0, .int .i64 19]) ∧ Below w.heap.size w w' := by
  have H := Lib.hid (mayB_ok (c := l) h1 h2)
  unfold maxLen at hp
  have hb : ((pn : Int) != (k : Int) + (m : Int)) = true := by simp; omega
  obtain ⟨n, hn⟩ : ∃ n, n = szOf k l := ⟨_, rfl⟩
  have HN := Lib.hid hn
  clear hne hn
  go_enter Try.func18, Try.ntmps18
  go_wp2_with (first
    | (go_at_call 26; refine (wrong_any k m l _).mono ?_; rintro e w1 ⟨rfl, rfl⟩; rw [H.out])
    | (go_at_call 11; refine (rsize_ok k l _ h1 (by omega) h3).mono ?_; rintro e w1 ⟨rfl, rfl⟩; rw [← HN.out]))
  go_ret2
  exact ⟨rfl, Below.refl _ _⟩
set_option maxRecDepth 100000 in
set_option maxHeartbeats 6400000 in
theorem rrestore_main (k m l : Nat) (pa : Option Addr) (pc : Nat) (L : List (Bool × ByteArray)) (w : World) (h1 : 1 ≤ k) (h2 : k + m ≤ 255) (h3 : l ≤ 9223372036854775807) (hl : L.length = k + m) (hP : PcRd w pa L) (hsz : ∀ j, j < k + m → (pcAt L j).1 = true → (pcAt L j).2.size ≤ 100000) :
    Calls Try.prog 18 #[.int .i64 k, .int .i64 m, .int .i64 l, .slice pa (k + m) pc] w fun e w' => ∃ code T a' cap', RestOut k m (szOf k l) L code T ∧ e = .returned (.tuple #[.slice a' T.length cap', .int .i64 code]) ∧ StrsRd w' a' T ∧ Below w.heap.size w w' := by
  have H := Lib.hid (mayB_ok (c := l) h1 h2)
  obtain ⟨n, hn⟩ : ∃ n, n = szOf k l := ⟨_, rfl⟩
  obtain ⟨K, hK⟩ : ∃ K, K = k + m := ⟨_, rfl⟩
  have k1 : K ≤ 255 := by omega
  have k2 : k ≤ K := by omega
  have hb : ((K : Int) != (k : Int) + (m : Int)) = false := by simp; omega
  have hnm : n ≤ 9223372036854775807 := by
    rw [hn]
    unfold szOf
    have h4 := Nat.div_add_mod l k
    have h5 : l / k ≤ k * (l / k) := Nat.le_mul_of_pos_left _ (by omega)
    split <;> omega
  obtain ⟨j0, hj0, jz0, jz1, jz2⟩ := info_parts strparts
  obtain ⟨i9, hi0, hz0, hz1, hz2⟩ := info_parts intparts
  unfold RestOut
  rw [← hn, ← hK]
  rw [← hK] at hl hsz
  have HN := Lib.hid hn
  have HK := Lib.hid hK
  have HL := Lib.hid hl
  have HP := Lib.hid hP
  have HSZ := Lib.hid hsz
  clear hn hK hl hP hsz
  go_enter Try.func18, Try.ntmps18
  go_wp2_with (first
    | (go_at_call 26; refine (wrong_any k m l _).mono ?_; rintro e w1 ⟨rfl, rfl⟩; rw [show mayB (k : Int) (m : Int) (l : Int) = true from H.out])
    | (go_at_call 11; refine (rsize_ok k l _ h1 (by omega) h3).mono ?_; rintro e w1 ⟨rfl, rfl⟩; rw [← HN.out]))
  obtain ⟨w0, hw0⟩ : ∃ w0 : World, w0 = w := ⟨_, rfl⟩
  subst hw0
  go_loopw [13, 14, 15] (fun hv wv ii wr => ∃ i : Nat, i ≤ K ∧ ii = .int .i64 i ∧ (∀ j, j < i → (pcAt L j).1 = true → (pcAt L j).2.size = n) ∧ wr.ownsRow w0.heap.size 9 1 hv ((whF L i).take k).length (scells ((hvF L i).take k)) ∧ wr.ownsRow w0.heap.size 3 1 wv ((whF L i).take k).length (icells ((whF L i).take k)) ∧ Below w0.heap.size w0 wr) (fun _ _ ii _ => K - (intOf ii).toNat)
  case atStart => exact ⟨0, by omega, rfl, fun j h => by omega, by rw [show (hvF L 0).take k = [] from by simp [hvF, whF], show (whF L 0).take k = [] from by simp [whF]]; exact World.ownsRow_nil _ _ _ _, by rw [show (whF L 0).take k = [] from by simp [whF]]; exact World.ownsRow_nil _ _ _ _, Below.refl _ _⟩
  case round =>
    obtain ⟨i, hi, rfl, hall, hown, hown2, hbel⟩ := hrel
    have HALL := Lib.hid hall
    clear hall
    by_cases hlt : i < K
    · obtain ⟨pg, po, rfl, pgl, c0, c1⟩ := HP.out.at_ (j := i) (by rw [HL.out]; exact hlt)
      have d0 := (hbel.cell (p := ⟨pg, po + i * 2, none⟩) pgl).trans c0
      have d1 := (hbel.cell (p := ⟨pg, po + i * 2 + 1, none⟩) pgl).trans c1
      obtain ⟨b, hbb⟩ : ∃ b, b = (pcAt L i).1 := ⟨_, rfl⟩
      obtain ⟨t, ht⟩ : ∃ t, t = (pcAt L i).2 := ⟨_, rfl⟩
      rw [← hbb] at d0
      rw [← ht] at d1
      have HB := Lib.hid hbb
      have HT := Lib.hid ht
      clear c0 c1 hbb ht
      cases b
      · have S1 := Lib.hid (And.intro hown (And.intro hown2 hbel))
        clear hown hown2 hbel
        go_wp2
        go_roundw
        case measure => simp [intOf]; omega
        case rel =>
          refine ⟨i + 1, by omega, by go_num, fun j hj hjb => ?_, by rw [whF_no HB.out.symm, hvF_no HB.out.symm]; exact S1.out.1, by rw [whF_no HB.out.symm]; exact S1.out.2.1, S1.out.2.2⟩
          by_cases e : j = i
          · rw [e, ← HB.out] at hjb; cases hjb
          · exact HALL.out j (by omega) hjb
      · have hts : t.size ≤ 100000 := by rw [HT.out]; exact HSZ.out i hlt HB.out.symm
        by_cases hsn : t.size = n
        · have hnb : ((t.size : Int) != (n : Int)) = false := by simp [hsn]
          have HSN := Lib.hid hsn
          have hz := hbel.size
          have hcl := whF_length L i
          obtain ⟨c, hc⟩ : ∃ c, c = ((whF L i).take k).length := ⟨_, rfl⟩
          have hck : c ≤ k := by rw [hc, List.length_take]; omega
          have hc2 : c < k → (whF L i).length = c := by rw [hc, List.length_take]; omega
          have hc3 : ¬ c < k → k ≤ (whF L i).length := by rw [hc, List.length_take]; omega
          rw [← hc] at hown hown2
          have HC := Lib.hid hc
          have HC2 := Lib.hid hc2
          have HC3 := Lib.hid hc3
          obtain ⟨ha9, hcap9, rfl⟩ := own_shape hown
          have S1 := Lib.hid (And.intro hown (And.intro hown2 hbel))
          clear hown hown2 hbel hsn hc hc2 hc3
          by_cases hlk : c < k
          · go_wp2_with (first
              | (at_builtin; have h9 := S1.out; clear S1; go_loud (skip; refine wpList_append_own _ rfl (.tmp 61) (.tmp 67) 31 rfl w0.heap.size 9 j0 _ 1 16 Try.underlying31 hj0 jz0 jz1 jz2 rfl (by omega) _ c (scells ((hvF L i).take k)) rfl (h9.1.alloc _) ⟨wr.heap.size, 0, none⟩ 1 1 [.string t] rfl rfl (World.news_of_block (cs := #[.string t]) (t := 9) (fr := (0, 0)) (heap_alloc_new wr _)) (by simp [Value.oneCell']) (by unfold maxLen; omega) (by omega) (Nat.le_trans hz (by simp)) ?_; intro v' w7 hown2 hgr2 hnil2; clear hnil2; have S2 := Lib.hid (And.intro hown2 (And.intro (own_keeps (h9.1.alloc _) (h9.2.1.alloc _) (by decide) hgr2) (own_grown_below (h9.1.alloc _) (h9.2.2.alloc hz _) (Nat.le_trans hz (by simp)) hgr2))); have hz7 := S2.out.2.2.size; clear h9 hown2 hgr2))
              | (at_builtin; have h9 := S2.out; clear S2; go_loud (skip; refine wpList_append_own _ rfl (.tmp 69) (.tmp 71) 52 rfl w0.heap.size 3 i9 _ 1 8 Try.underlying52 hi0 hz0 hz1 hz2 rfl (by omega) _ c (icells ((whF L i).take k)) rfl (h9.2.1.alloc _) ⟨w7.heap.size, 0, none⟩ 1 1 [.int .i64 (i : Int)] rfl rfl (World.news_of_block (cs := #[.int .i64 (i : Int)]) (t := 3) (fr := (0, 0)) (heap_alloc_new w7 _)) (by simp [Value.oneCell']) (by unfold maxLen; omega) (by omega) (Nat.le_trans hz7 (by simp)) ?_; intro v8 w8 hown2 hgr2 hnil2; clear hnil2; have S3 := Lib.hid (And.intro (own_keeps (h9.2.1.alloc _) (h9.1.alloc _) (by decide) hgr2) (And.intro hown2 (own_grown_below (h9.2.1.alloc _) (h9.2.2.alloc hz7 _) (Nat.le_trans hz7 (by simp)) hgr2))); clear h9 hown2 hgr2)))
            go_roundw
            case measure => simp [intOf]; omega
            case rel =>
              have e0 := HC2.out hlk
              have e2 : (whF L (i + 1)).take k = (whF L i).take k ++ [i] := by rw [whF_yes HB.out.symm]; exact take_snoc _ _ _ (by omega)
              have e3 : (hvF L (i + 1)).take k = (hvF L i).take k ++ [t] := by rw [hvF_yes HB.out.symm, ← HT.out]; exact take_snoc _ _ _ (by rw [hvF_length]; omega)
              have e1 : ((whF L (i + 1)).take k).length = c + 1 := by rw [e2, List.length_append, ← HC.out]; rfl
              refine ⟨i + 1, by omega, by go_num, fun j hj hjb => ?_, ?_, ?_, S3.out.2.2⟩
              · by_cases e : j = i
                · rw [e, ← HT.out]; exact HSN.out
                · exact HALL.out j (by omega) hjb
              · rw [e1, e3, scells_snoc]; exact S3.out.1
              · rw [e1, e2, icells_append]; exact S3.out.2.1
          · go_wp2
            go_roundw
            case measure => simp [intOf]; omega
            case rel =>
              have e0 := HC3.out hlk
              have e2 : (whF L (i + 1)).take k = (whF L i).take k := by rw [whF_yes HB.out.symm]; exact List.take_append_of_le_length e0
              have e3 : (hvF L (i + 1)).take k = (hvF L i).take k := by rw [hvF_yes HB.out.symm]; exact List.take_append_of_le_length (by rw [hvF_length]; exact e0)
              refine ⟨i + 1, by omega, by go_num, fun j hj hjb => ?_, ?_, ?_, S1.out.2.2⟩
              · by_cases e : j = i
                · rw [e, ← HT.out]; exact HSN.out
                · exact HALL.out j (by omega) hjb
              · rw [e2, e3, ← HC.out]; exact S1.out.1
              · rw [e2, ← HC.out]; exact S1.out.2.1
        · have hnb : ((t.size : Int) != (n : Int)) = true := by simp; omega
          have S1 := Lib.hid hbel
          have HSN := Lib.hid hsn
          clear hown hown2 hbel hsn
          go_wp2
          go_ret2
          exact ⟨19, [], none, 0, Or.inl ⟨⟨i, hlt, HB.out.symm, by rw [← HT.out]; exact HSN.out⟩, rfl, rfl⟩, rfl, fun j hj => by simp at hj, S1.out⟩
    · obtain rfl : K = i := by omega
      clear hlt hi
      obtain ⟨c, hc⟩ : ∃ c, c = ((whF L K).take k).length := ⟨_, rfl⟩
      have hck9 : c ≤ k := by rw [hc, List.length_take]; omega
      have hc2 : c < k → (whF L K).length < k := by rw [hc, List.length_take]; omega
      have hc3 : ¬ c < k → k ≤ (whF L K).length := by rw [hc, List.length_take]; omega
      rw [← hc] at hown hown2
      obtain ⟨ha, hcap, rfl⟩ := own_shape hown
      have HC := Lib.hid hc
      by_cases hck : c < k
      · have S1 := Lib.hid hbel
        have HC2 := Lib.hid (hc2 hck)
        clear hown hown2 hbel hc hc2 hc3
        go_wp2
        go_ret2
        exact ⟨17, [], none, 0, Or.inr (Or.inl ⟨HALL.out, HC2.out, rfl, rfl⟩), rfl, fun j hj => by simp at hj, S1.out⟩
      · obtain rfl : k = c := by omega
        have hck2 := hc3 (by omega)
        clear hc2 hc3 hck9 hck
        obtain ⟨gh, rfl, _, hh1, hh2⟩ := own_some hown (by omega)
        obtain ⟨wa, wcap, rfl⟩ := own_shape hown2
        obtain ⟨gw, rfl, _, hw1, hw2⟩ := own_some hown2 (by omega)
        have hsr := StrsRd.own hown
        have hin := IntsAt.own hown2
        obtain ⟨qa, hqa⟩ : ∃ q, q = K * k := ⟨_, rfl⟩
        obtain ⟨qi, hqi⟩ : ∃ q, q = k * k := ⟨_, rfl⟩
        have lqa : qa ≤ 255 * 255 := by rw [hqa]; exact Nat.mul_le_mul k1 (by omega)
        have lqi : qi ≤ 255 * 255 := by rw [hqi]; exact Nat.mul_le_mul (by omega) (by omega)
        obtain ⟨R, hR⟩ : ∃ R : List Int, R = ((whF L K).take k).map fun (x : Nat) => (x : Int) := ⟨_, rfl⟩
        have hRl : R.length = k := by rw [hR, List.length_map, List.length_take]; omega
        have hRD : ∀ j, R.getD j 0 = (((whF L K).take k).getD j 0 : Int) := fun j => by rw [hR, map_getD]
        have hAll : ∀ i, i < R.length → 0 ≤ R.getD i 0 ∧ R.getD i 0 < K := fun i hi => by
          rw [hRD]
          have hmem : ((whF L K).take k).getD i 0 ∈ (whF L K).take k := by
            rw [List.getD_eq_getElem?_getD, List.getElem?_eq_getElem (by rw [List.length_take]; omega), Option.getD_some]
            exact List.getElem_mem _
          have := whF_lt (List.mem_of_mem_take hmem)
          omega
        have hPe : (fun i j => gen k (R.getD i 0).toNat j) = fun i j => gen k (((whF L K).take k).getD i 0) j := by
          funext i j
          rw [hRD, Int.toNat_natCast]
        have hI : Inj k (fun i j => gen k (R.getD i 0).toNat j) := by rw [hPe]; exact rest_inj HK.out k1 hck2
        have hRI : ∀ x, IntsAt x gw 0 ((whF L K).take k) → ∀ j, j < R.length → x.cell? ⟨gw, 0 + j, none⟩ = some (.int .i64 (R.getD j 0)) := fun x hx j hj => by
          rw [hRD]
          exact hx j (by rw [← hc]; omega)
        have hRP : ∀ B, RInv k (fun i j => gen k (R.getD i 0).toNat j) B → RInv k (restP k L K) B := fun B hB => rinv_congr (fun i j hi => by
          show gen k (R.getD i 0).toNat j = gen k ((whF L K).getD i 0) j
          rw [hRD, Int.toNat_natCast, take_getD _ _ _ hi]) hB
        have hHl : ((hvF L K).take k).length = k := by rw [List.length_take, hvF_length]; omega
        have hHs := hvF_size HALL.out k
        have S1 := Lib.hid (Bun.of (F := fun x => StrsRd x (some ⟨gh, 0, none⟩) ((hvF L K).take k) ∧ IntsAt x gw 0 ((whF L K).take k)) (fun x hx => ⟨hsr.after hx, hin.after hx⟩) hbel)
        obtain ⟨P, hP⟩ : ∃ P : Nat → Nat → BitVec 8, P = fun i j => gen k (R.getD i 0).toNat j := ⟨_, rfl⟩
        have hnL : n ≤ 100000 := by
          have e0 : 0 < ((hvF L K).take k).length := by omega
          have hmem : (hvF L K)[0]'(by rw [hvF_length]; omega) ∈ hvF L K := List.getElem_mem _
          unfold hvF at hmem
          obtain ⟨j, hj, _⟩ := List.mem_map.1 hmem
          have h5 := whF_lt hj
          have h6 := HSZ.out j h5.1 h5.2
          rw [HALL.out j h5.1 h5.2] at h6
          exact h6
        rw [← hP] at hI
        have HQA := Lib.hid hqa
        have HQI := Lib.hid hqi
        have HRL := Lib.hid hRl
        have HAL := Lib.hid hAll
        have HI := Lib.hid hI
        have HRI := Lib.hid hRI
        have HRP := Lib.hid hRP
        have HHL := Lib.hid hHl
        have HHS := Lib.hid hHs
        have HPP := Lib.hid hP
        have HCK := Lib.hid hck2
        clear hown hown2 hbel hc hsr hin hqa hqi hR hRl hRD hAll hPe hI hRI hRP hHl hHs hP
        go_wp2_with (first
          | (go_at_call 36; have h9 := S1.out; clear S1; refine (rrows_ok k m _ h1 h2).mono ?_; rintro e w1 ⟨ga, ca, he, hca, hrow, hb⟩; have he2 : e = .returned (.agg #[.int .i64 K, .int .i64 k, .slice (some ⟨ga, 0, none⟩) qa ca]) := (by rw [he, HQA.out, HK.out]); subst he2; clear he; rw [← HK.out] at hca hrow; have hmm := (h9.after hb).add (fun _ h => hrow.after h); have S2 := Lib.hid (And.intro hmm hca); clear h9 hb hrow hmm hca)
          | (go_at_call 35; have h9 := S2.out.1; have hca := S2.out.2; clear S2; have hp := rpick_ok K k ga 0 qa ca gw 0 wcap (gen k) R _ (by omega) (by omega) (by omega) (by omega) HQA.out (by rw [HQA.out]; exact hca) (by rw [HRL.out]; omega) (by rw [HRL.out]; omega) h9.here.2 (HRI.out _ h9.here.1.2); rw [HRL.out] at hp; refine hp.mono ?_; rintro e w11 hx; obtain ⟨gp, cp, he, hmp, hb⟩ := rpick_good' hx HAL.out; have he2 : e = .returned (.tuple #[.agg #[.int .i64 k, .int .i64 k, .slice (some ⟨gp, 0, none⟩) qi cp], .int .i64 0]) := (by rw [he, HRL.out, HQI.out]); subst he2; clear he hx hp; rw [HRL.out, ← HPP.out] at hmp; have hmm := ((h9.after hb).add (fun _ h => hmp.after h)).box 71 [.int .i64 k, .int .i64 k, .slice (some ⟨gp, 0, none⟩) qi cp]; obtain ⟨x0, x1, x2⟩ := box3 hmm.here.2; have S3 := Lib.hid hmm; clear h9 hb hmp hmm hca)
          | (go_at_call 37; have h9 := S3.out; clear S3; refine (rinvert_ok k gp 0 qi cp P _ h1 (by omega) HQI.out h9.here.1.2).mono ?_; intro e w13 hx; obtain ⟨gz, B, hB, he, hmz, hb⟩ := rinv_good' hx HI.out; have he2 : e = .returned (.tuple #[.agg #[.int .i64 k, .int .i64 k, .slice (some ⟨gz, 0, none⟩) qi qi], .int .i64 0]) := (by rw [he, HQI.out]; rfl); subst he2; clear he hx; have hmm := ((h9.after hb).add (fun _ h => hmz.after h)).box 71 [.int .i64 k, .int .i64 k, .slice (some ⟨gz, 0, none⟩) qi qi]; obtain ⟨x0, x1, x2⟩ := box3 hmm.here.2; have S4 := Lib.hid hmm; have HBB := Lib.hid hB; clear h9 hb hmz hmm hB)
          | (go_at_call 38; have h9 := S4.out; clear S4; refine (rapply_fine k k gz 0 qi qi hcap n (some ⟨gh, 0, none⟩) B ((hvF L K).take k) _ h1 (by omega) h1 (by omega) HQI.out HHL.out HHS.out hnL h9.here.1.2 h9.here.1.1.1.1.1.1).mono ?_; rintro e w15 ⟨gq, cq, rfl, ht, hb⟩; have S5 := Lib.hid (And.intro ht (h9.after hb).bel); clear h9 hb ht)
          | (go_at_call 30; have h9 := S5.out; clear S5; refine (rall_ok k m cq n _ (rowStrs B ((hvF L K).take k) n k k) _ h1 h2 (rowStrs_length _ _ _ _ _) (rowStrs_size B ((hvF L K).take k) n k k HHS.out (by rw [HHL.out]; exact Nat.le_refl _)) hnL h9.1).mono ?_; rw [← HK.out]; rintro e w16 ⟨g8, cap8, rfl, hs, hb⟩; have S6 := Lib.hid (And.intro hs (h9.2.trans (hb.mono h9.2.size))); clear h9 hs hb))
        go_ret2
        exact ⟨0, _, some ⟨g8, 0, none⟩, cap8, Or.inr (Or.inr ⟨HALL.out, HCK.out, rfl, B, HRP.out B (by rw [← HPP.out]; exact HBB.out), rfl⟩), by rw [rowStrs_length]; rfl, S6.out.1, S6.out.2⟩
end Go.Proofs.Ytbnfnijjldimkab
