/-
  The walk of ErasureOne.
-/
import Derived.Test.YtbnfnijjldimkabEOwn
namespace Go.Proofs.Ytbnfnijjldimkab
open Go.RowKit
set_option linter.unusedVariables false
set_option linter.unusedSimpArgs false
theorem xor_bytes (u v : UInt8) : bits .xor .u8 (u.toNat : Int) (v.toNat : Int) = ((u ^^^ v).toNat : Int) := by
  rw [u8_xor_nat _ _ u.toNat_lt v.toNat_lt, UInt8.toNat_xor]
theorem strs_row {w : World} {g : Nat} {T : TypeId} {ss : List ByteArray} {sp : List Value} (h : Row w g T (scells ss ++ sp)) : StrsRd w (some ⟨g, 0, none⟩) ss := fun j hj => ⟨g, 0, rfl, by
  rw [Nat.zero_add]
  refine h.cell ?_
  rw [List.getElem?_append_left (by rw [scells_length]; exact hj)]
  exact scells_get ss j hj⟩
theorem scells_set (ss : List ByteArray) (n : Nat) (s : ByteArray) : (scells ss).set n (.string s) = scells (ss.set n s) := by simp [scells, List.map_set]
theorem byteAt_mk (l : List UInt8) (q : Nat) : byteAt ⟨l.toArray⟩ q = (l.getD q 0).toBitVec := by unfold byteAt; simp
set_option maxRecDepth 100000 in
set_option maxHeartbeats 6400000 in
theorem one_any (k m : Int) (t : ByteArray) (wh at' tv : Int) (w : World) (hk0 : -9223372036854775808 ≤ k) (hk1 : k ≤ 9223372036854775807) (hm0 : -9223372036854775808 ≤ m) (hm1 : m ≤ 9223372036854775807) (ht : t.size ≤ maxLen) (hw0 : -9223372036854775808 ≤ wh) (hw1 : wh ≤ 9223372036854775807) (ha0 : -9223372036854775808 ≤ at') (ha1 : at' ≤ 9223372036854775807) (hv0 : 0 ≤ tv) (hv1 : tv ≤ 255) :
    Calls Try.prog 7 #[.int .i64 k, .int .i64 m, .string t, .int .i64 wh, .int .i64 at', .int .u8 tv] w fun e w' => e = .returned (.bool true) ∧ Below w.heap.size w w' := by
  unfold maxLen at ht
  have hp1 := pickOf_lt k 10 (by omega)
  have hp2 := pickOf_lt m 6 (by omega)
  obtain ⟨ak, hak⟩ : ∃ a : Nat, (a : Int) = pickOf k 10 := ⟨(pickOf k 10).toNat, by omega⟩
  obtain ⟨am, ham⟩ : ∃ a : Nat, (a : Int) = pickOf m 6 := ⟨(pickOf m 6).toNat, by omega⟩
  have a1 : ak ≤ 9 := by omega
  have a2 : am ≤ 5 := by omega
  obtain ⟨kn, hkn⟩ : ∃ a, a = 1 + ak := ⟨_, rfl⟩
  obtain ⟨mn, hmn⟩ : ∃ a, a = 1 + am := ⟨_, rfl⟩
  obtain ⟨K, hK⟩ : ∃ a, a = kn + mn := ⟨_, rfl⟩
  have e1 : (1 : Int) + (ak : Int) = (kn : Int) := by omega
  have e4 : (1 : Int) + (am : Int) = (mn : Int) := by omega
  have e2 : (kn : Int) + (mn : Int) = (K : Int) := by omega
  have k1 : 1 ≤ kn := by omega
  have k2 : kn ≤ 10 := by omega
  have m1 : 1 ≤ mn := by omega
  have k3 : K ≤ 16 := by omega
  have k4 : kn ≤ K := by omega
  obtain ⟨u, hu, hu2⟩ : ∃ u, u = t.extract 0 (min (t.size : Int) 500).toNat ∧ u.size ≤ 500 := ⟨_, rfl, by rw [ByteArray.size_extract]; omega⟩
  obtain ⟨SS, hSS⟩ : ∃ T, T = shards kn mn u := ⟨_, rfl⟩
  have hSl := shards_length kn mn u
  rw [← hSS, ← hK] at hSl
  have hpw := pickOf_lt wh K (by omega)
  obtain ⟨n, hn⟩ : ∃ n : Nat, (n : Int) = pickOf wh K := ⟨(pickOf wh K).toNat, by omega⟩
  have hnK : n < K := by omega
  obtain ⟨s, hs⟩ : ∃ s, s = SS.getD n ⟨#[]⟩ := ⟨_, rfl⟩
  have hss : s.size = szOf kn u.size := by rw [hs, hSS]; exact shards_size kn mn u k1 n (by omega)
  have S0 := Lib.hid (Bun.start w)
  have P0 := Lib.hid True.intro
  have HAK := Lib.hid hak
  have HAM := Lib.hid ham
  have HKN := Lib.hid hkn
  have HMN := Lib.hid hmn
  have HK := Lib.hid hK
  have HU := Lib.hid hu
  have HSS := Lib.hid hSS
  have HSL := Lib.hid hSl
  have HN := Lib.hid hn
  have HS := Lib.hid hs
  have HSZ := Lib.hid hss
  clear hp1 hp2 hak ham hkn hmn hK hu hSS hSl hpw hn hs hss
  by_cases hue : u = ⟨#[]⟩
  · have hue2 : u.toList.isEmpty = true := by rw [hue, ByteArray.toList_eq]; rfl
    have HUE := Lib.hid hue
    clear hue
    go_enter Try.func7, Try.ntmps7
    go_wp2_with (first
      | (go_at_call 9; have h9 := S0.out; clear S0; refine (known_any _).mono ?_; rintro e w1 ⟨rfl, hb⟩; have S1 := Lib.hid (h9.after hb); clear h9 hb)
      | (go_at_call 23; have p0 := P0.out; clear P0 p0; refine (pick_any k 10 _ hk0 hk1 (by omega) (by omega)).mono ?_; rw [← HAK.out]; rintro e w2 ⟨rfl, rfl⟩; have P1 := Lib.hid True.intro)
      | (go_at_call 23; have p0 := P1.out; clear P1 p0; refine (pick_any m 6 _ hm0 hm1 (by omega) (by omega)).mono ?_; rw [← HAM.out]; rintro e w2 ⟨rfl, rfl⟩)
      | (go_at_call 14; rw [← HU.out]; have h9 := S1.out; clear S1; refine (encode_own kn mn u _ k1 (by omega) (by omega)).mono ?_; rw [← HK.out, ← HSS.out]; rintro e w3 ⟨g, c3, rfl, hown, hb⟩; have S3 := Lib.hid ((h9.after hb).bel); clear h9 hown hb))
    go_ret
    exact ⟨rfl, S3.out⟩
  · have hue2 : u.toList.isEmpty = false := by
      rw [ByteArray.toList_eq]
      cases h : u.data.toList with
      | nil => exact absurd (by cases u with | mk d => simp only [ByteArray.mk.injEq]; exact Array.toList_eq_nil_iff.1 h) hue
      | cons _ _ => rfl
    have hs1 : 1 ≤ s.size := by
      rw [HSZ.out]
      have h5 := szOf_lo kn u.size k1
      rcases Nat.eq_zero_or_pos (szOf kn u.size) with h6 | h6
      · rw [h6, Nat.mul_zero] at h5
        exact absurd (by
          have h7 : u.size = 0 := by omega
          cases u with
          | mk d => simp only [ByteArray.mk.injEq]; exact Array.eq_empty_of_size_eq_zero h7) hue
      · exact h6
    have hs2 : s.size ≤ 501 := by
      rw [HSZ.out]
      have := szOf_le kn u.size k1
      omega
    have HUE := Lib.hid hue
    clear hue
    by_cases hte : tv = 0
    · subst hte
      go_enter Try.func7, Try.ntmps7
      go_wp2_with (first
        | (go_at_call 9; have h9 := S0.out; clear S0; refine (known_any _).mono ?_; rintro e w1 ⟨rfl, hb⟩; have S1 := Lib.hid (h9.after hb); clear h9 hb)
        | (go_at_call 23; have p0 := P0.out; clear P0 p0; refine (pick_any k 10 _ hk0 hk1 (by omega) (by omega)).mono ?_; rw [← HAK.out]; rintro e w2 ⟨rfl, rfl⟩; have P1 := Lib.hid True.intro)
        | (go_at_call 23; have p0 := P1.out; clear P1 p0; refine (pick_any m 6 _ hm0 hm1 (by omega) (by omega)).mono ?_; rw [← HAM.out]; rintro e w2 ⟨rfl, rfl⟩)
        | (go_at_call 14; rw [← HU.out]; have h9 := S1.out; clear S1; refine (encode_own kn mn u _ k1 (by omega) (by omega)).mono ?_; rw [← HK.out, ← HSS.out]; rintro e w3 ⟨g, c3, rfl, hown, hb⟩; have S3 := Lib.hid ((h9.after hb).bel); clear h9 hown hb))
      go_ret
      exact ⟨rfl, S3.out⟩
    · have hcb : (tv == 0) = false := by simpa using hte
      obtain ⟨T, hT, hTb⟩ : ∃ T : UInt8, tv = (T.toNat : Int) ∧ T.toBitVec ≠ 0#8 := ⟨UInt8.ofNat tv.toNat, by simp; omega, fun h => hte (by
        have h2 := congrArg BitVec.toNat h
        simp at h2
        omega)⟩
      have hpa := pickOf_lt at' s.size (by omega)
      obtain ⟨p, hp⟩ : ∃ p : Nat, (p : Int) = pickOf at' s.size := ⟨(pickOf at' s.size).toNat, by omega⟩
      have hps : p < s.size := by omega
      obtain ⟨Sl, hSl⟩ : ∃ l, l = s.data.toList := ⟨_, rfl⟩
      have hSll : Sl.length = s.size := by rw [hSl]; simp
      obtain ⟨x, hx⟩ : ∃ x, x = Sl.getD p 0 := ⟨_, rfl⟩
      have hval : bits .xor .u8 (x.toNat : Int) tv = ((x ^^^ T).toNat : Int) := by rw [hT]; exact xor_bytes x T
      obtain ⟨x2, hx2⟩ : ∃ y, y = x ^^^ T := ⟨_, rfl⟩
      rw [← hx2] at hval
      have HP := Lib.hid hp
      have HSLL := Lib.hid hSll
      have HSD := Lib.hid hSl
      have HX := Lib.hid hx
      have HX2 := Lib.hid hx2
      have HTB := Lib.hid hTb
      clear hpa hp hSl hSll hx hx2 hT hTb
      go_enter Try.func7, Try.ntmps7
      go_wp2_with (first
        | (go_at_call 9; have h9 := S0.out; clear S0; refine (known_any _).mono ?_; rintro e w1 ⟨rfl, hb⟩; have S1 := Lib.hid (h9.after hb); clear h9 hb)
        | (go_at_call 23; have p0 := P0.out; clear P0 p0; refine (pick_any k 10 _ hk0 hk1 (by omega) (by omega)).mono ?_; rw [← HAK.out]; rintro e w2 ⟨rfl, rfl⟩; have P1 := Lib.hid True.intro)
        | (go_at_call 23; have p0 := P1.out; clear P1 p0; refine (pick_any m 6 _ hm0 hm1 (by omega) (by omega)).mono ?_; rw [← HAM.out]; rintro e w2 ⟨rfl, rfl⟩; have P2 := Lib.hid True.intro)
        | (go_at_call 14; rw [← HU.out]; have h9 := S1.out; clear S1; refine (encode_own kn mn u _ k1 (by omega) (by omega)).mono ?_; rw [← HK.out, ← HSS.out]; rintro e w3 ⟨g, c3, rfl, hown, hb⟩; have hcaps := own_caps hown; obtain ⟨g', cap', sp, hv, hg, _, _, hrow⟩ := own_row1 hown (by omega); cases hv; have hc31 := hcaps.1; have hc32 := hcaps.2.1; have cs := strs_cells (strs_row hrow) n (by rw [HSL.out]; exact hnK); rw [← HS.out, Nat.zero_add] at cs; have S3 := Lib.hid (And.intro hrow (And.intro (h9.after hb).bel (Nat.le_trans h9.bel.size hg))); clear h9 hown hb hcaps hrow hg)
        | (go_at_call 23; have p0 := P2.out; clear P2 p0; refine (pick_any wh K _ hw0 hw1 (by omega) (by omega)).mono ?_; rw [← HN.out]; rintro e w4 ⟨rfl, rfl⟩)
        | (refine wpList_bytes rfl 9 56 5 _ rfl s rfl Try.underlying9 Try.underlying56 Try.underlying5 ?_; intro g2 cap2 r2 w5 hg2 hrow2 hcap2 hbel2; have S5 := Lib.hid (And.intro hg2 (And.intro hrow2 hbel2)); clear hg2 hrow2 hbel2))
      obtain ⟨hg2, hrow2, hbel2⟩ := S5.out
      obtain ⟨hrow3, hbel3, hgb⟩ := S3.out
      have hrow5 := hrow3.after (hbel2.mono (Nat.le_refl _))
      have hne : g ≠ g2 := by have := hrow3.lt; omega
      rw [← HSD.out] at hrow2
      have hSll := HSLL.out
      have hxe : Sl[p]? = some x := by rw [HX.out, List.getD_eq_getElem?_getD, List.getElem?_eq_getElem (by omega)]; rfl
      have cx : World.cell? w5 ⟨g2, p, none⟩ = some (.int .u8 (x.toNat : Int)) := hrow2.cell (by
        rw [List.getElem?_append_left (by rw [bcells_length, hSll]; exact hps)]
        unfold bcells
        rw [List.getElem?_map, hxe]; rfl)
      have fx : w5.frozen? ⟨g2, p, none⟩ = false := hrow2.free (by rw [List.length_append, bcells_length]; omega)
      have hrow6 : Row (w5.setCell ⟨g2, p, none⟩ (.int .u8 (x2.toNat : Int))) g2 5 (bcells (Sl.set p x2) ++ r2) := by
        have h := hrow2.set p (.int .u8 (x2.toNat : Int))
        rw [List.set_append_left _ _ (by rw [bcells_length, hSll]; exact hps), bcells_set] at h
        exact h
      have hrowg : Row (w5.setCell ⟨g2, p, none⟩ (.int .u8 (x2.toNat : Int))) g 9 (scells SS ++ sp) := hrow5.other (p := ⟨g2, p, none⟩) hne _
      have hl2 : (Sl.set p x2).length = s.size := by rw [List.length_set, hSll]
      have hconv := run_string_of_row (P := Try.prog) _ 56 9 5 Try.underlying56 Try.underlying5 Try.underlying9 hrow6 0 s.size cap2 (Sl.set p x2) hl2 (by rw [List.drop_zero, ← hl2, List.take_left' (by rw [bcells_length])])
      obtain ⟨s2, hs2e⟩ : ∃ y : ByteArray, y = ⟨(Sl.set p x2).toArray⟩ := ⟨_, rfl⟩
      rw [← hs2e] at hconv
      have cg : (w5.setCell ⟨g2, p, none⟩ (.int .u8 (x2.toNat : Int))).cell? ⟨g, n, none⟩ = some (.string s) := by
        have h := strs_cells (strs_row hrowg) n (by rw [HSL.out]; exact hnK)
        rw [← HS.out, Nat.zero_add] at h
        exact h
      have fg : (w5.setCell ⟨g2, p, none⟩ (.int .u8 (x2.toNat : Int))).frozen? ⟨g, n, none⟩ = false := hrowg.free (by rw [List.length_append, scells_length, HSL.out]; omega)
      have hrow7 : Row ((w5.setCell ⟨g2, p, none⟩ (.int .u8 (x2.toNat : Int))).setCell ⟨g, n, none⟩ (.string s2)) g 9 (scells (SS.set n s2) ++ sp) := by
        have h := hrowg.set n (.string s2)
        rw [List.set_append_left _ _ (by rw [scells_length, HSL.out]; exact hnK), scells_set] at h
        exact h
      have hz3 := hbel3.size
      have hbel7 : Below w.heap.size w ((w5.setCell ⟨g2, p, none⟩ (.int .u8 (x2.toNat : Int))).setCell ⟨g, n, none⟩ (.string s2)) := ((hbel3.trans (hbel2.mono hz3)).setCell (p := ⟨g2, p, none⟩) (Nat.le_trans hz3 hg2) _).setCell (p := ⟨g, n, none⟩) hgb _
      obtain ⟨Z, hZ⟩ : ∃ Z, Z = SS.set n s2 := ⟨_, rfl⟩
      have hZl : Z.length = K := by rw [hZ, List.length_set, HSL.out]
      have hfin : checkCode kn mn Z = 0 ∧ checkOk kn mn Z = false := by
        rw [hZ, HSS.out]
        refine one_found (p := p) (d := T.toBitVec) k1 m1 (by omega) (by omega) (by rw [← HSZ.out]; exact hps) HTB.out (by rw [← HSZ.out, hs2e]; show (Sl.set p x2).toArray.size = _; rw [List.size_toArray]; exact hl2) (fun q hq => ?_)
        rw [← HSZ.out] at hq
        rw [← HSS.out, ← HS.out, hs2e, byteAt_mk]
        have hq2 : q < (Sl.set p x2).length := by omega
        have e9 : byteAt s q = (Sl.getD q 0).toBitVec := by unfold byteAt; rw [HSD.out]
        rw [e9, List.getD_eq_getElem?_getD, List.getElem?_set, List.getD_eq_getElem?_getD]
        by_cases e : p = q
        · subst e
          rw [if_pos rfl, if_pos rfl, if_pos (by omega), hxe, HX2.out]
          simp
        · rw [if_neg e, if_neg (fun h => e h.symm)]
      have hZs : ∀ i, i < Z.length → (Z.getD i ⟨#[]⟩).size ≤ 100000 := fun i hi => by
        rw [hZ, List.length_set] at hi
        rw [hZ, List.getD_eq_getElem?_getD, List.getElem?_set]
        by_cases e : n = i
        · rw [if_pos e, if_pos (by omega), Option.getD_some, hs2e]
          show (Sl.set p x2).toArray.size ≤ _
          rw [List.size_toArray]
          omega
        · rw [if_neg e, ← List.getD_eq_getElem?_getD, HSS.out]
          exact shards_small kn mn u k1 (by omega) i (by rw [← HSS.out]; exact hi)
      rw [← hZ] at hrow7
      have S7 := Lib.hid (And.intro hrow7 hbel7)
      have HF := Lib.hid hfin
      have HZS := Lib.hid hZs
      have HZL := Lib.hid hZl
      have hK9 : kn + mn ≤ 255 := by omega
      clear S5 S3 hg2 hrow2 hbel2 hrow3 hbel3 hgb hrow5 hne hxe hSll hrow6 hrowg hl2 hs2e hrow7 hz3 hbel7 hZ hZl hfin hZs
      unfold maxLen at hc32
      have P3 := Lib.hid True.intro
      go_wp2_with (first
        | (go_at_call 23; have p0 := P3.out; clear P3 p0; refine (pick_any at' s.size _ ha0 ha1 (by omega) (by omega)).mono ?_; rw [← HP.out]; rintro e w6 ⟨rfl, rfl⟩)
        | (go_at_call 21; have h9 := S7.out; clear S7; refine (check_gen kn mn (some ⟨g, 0, none⟩) K c3 Z _ (strs_row h9.1) HZL.out.symm hc31 (by omega) HZS.out).mono ?_; rw [HF.out.1, HF.out.2]; rintro e w8 ⟨ev3, rfl, hE, hb⟩; obtain rfl := hE.nil; have S8 := Lib.hid (h9.2.trans (hb.mono h9.2.size)); clear h9 hE hb))
      go_ret
      exact ⟨rfl, S8.out⟩
theorem one_walk (k m : Int) (t : ByteArray) (wh at' tv : Int) (hk0 : -9223372036854775808 ≤ k) (hk1 : k ≤ 9223372036854775807) (hm0 : -9223372036854775808 ≤ m) (hm1 : m ≤ 9223372036854775807) (ht : t.size ≤ maxLen) (hw0 : -9223372036854775808 ≤ wh) (hw1 : wh ≤ 9223372036854775807) (ha0 : -9223372036854775808 ≤ at') (ha1 : at' ≤ 9223372036854775807) (hv0 : 0 ≤ tv) (hv1 : tv ≤ 255) (w : World) :
    Calls Try.prog 7 #[.int .i64 k, .int .i64 m, .string t, .int .i64 wh, .int .i64 at', .int .u8 tv] w fun e w' => e = .returned (.bool true) ∧ Below w.heap.size w w' :=
  one_any k m t wh at' tv w hk0 hk1 hm0 hm1 ht hw0 hw1 ha0 ha1 hv0 hv1
end Go.Proofs.Ytbnfnijjldimkab
