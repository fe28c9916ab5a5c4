/-
  The walk of ErasureSums.
-/
import Derived.Test.YtbnfnijjldimkabEOneL
import Derived.StillTailTactics
namespace Go.Proofs.Ytbnfnijjldimkab
open Go.RowKit
set_option linter.unusedVariables false
set_option linter.unusedSimpArgs false
def smF (a b : ByteArray) (j i : Nat) : BitVec 8 := if i < j then byteAt a i ^^^ byteAt b i else 0#8
theorem smF_zero (a b : ByteArray) : (fun _ => 0#8) = smF a b 0 := by funext i; unfold smF; rw [if_neg (by omega)]
theorem smF_succ (a b : ByteArray) (j : Nat) : (fun i => if i = j then byteAt a j ^^^ byteAt b j else smF a b j i) = smF a b (j + 1) := by
  funext i
  unfold smF
  by_cases e : i = j
  · rw [if_pos e, if_pos (by omega), e]
  · rw [if_neg e]
    by_cases h : i < j
    · rw [if_pos h, if_pos (by omega)]
    · rw [if_neg h, if_neg (by omega)]
theorem nv_byte (s : ByteArray) (j : Nat) (h : j < s.size) : ((s[j]'h).toNat : Int) = nv (byteAt s j) := by
  rw [← nv_u8]
  congr 1
  unfold byteAt
  rw [List.getD_eq_getElem?_getD, List.getElem?_eq_getElem (by simp; exact h), Option.getD_some]
  congr 1
theorem byteAt_take (s : ByteArray) (j p : Nat) (h : p < j) : byteAt (s.extract 0 j) p = byteAt s p := by
  unfold byteAt
  congr 1
  rw [ByteArray.data_extract, List.getD_eq_getElem?_getD, List.getD_eq_getElem?_getD]
  simp only [Array.toList_extract, List.extract_eq_take_drop, List.getElem?_take, List.getElem?_drop]
  rw [if_pos (by omega), Nat.zero_add]
set_option maxRecDepth 100000 in
set_option maxHeartbeats 6400000 in
theorem sums_any (k m : Int) (a b : ByteArray) (w : World) (hk0 : -9223372036854775808 ≤ k) (hk1 : k ≤ 9223372036854775807) (hm0 : -9223372036854775808 ≤ m) (hm1 : m ≤ 9223372036854775807) (ha : a.size ≤ maxLen) (hb : b.size ≤ maxLen) :
    Calls Try.prog 8 #[.int .i64 k, .int .i64 m, .string a, .string b] w fun e w' => e = .returned (.bool true) ∧ Below w.heap.size w w' := by
  unfold maxLen at ha hb
  have hp1 := pickOf_lt k 10 (by omega)
  have hp2 := pickOf_lt m 7 (by omega)
  obtain ⟨ak, hak⟩ : ∃ a : Nat, (a : Int) = pickOf k 10 := ⟨(pickOf k 10).toNat, by omega⟩
  obtain ⟨mn, hmn⟩ : ∃ a : Nat, (a : Int) = pickOf m 7 := ⟨(pickOf m 7).toNat, by omega⟩
  have a1 : ak ≤ 9 := by omega
  have a2 : mn ≤ 6 := by omega
  obtain ⟨kn, hkn⟩ : ∃ a, a = 1 + ak := ⟨_, rfl⟩
  obtain ⟨K, hK⟩ : ∃ a, a = kn + mn := ⟨_, rfl⟩
  have e1 : (1 : Int) + (ak : Int) = (kn : Int) := by omega
  have e2 : (kn : Int) + (mn : Int) = (K : Int) := by omega
  have k1 : 1 ≤ kn := by omega
  have k2 : kn ≤ 10 := by omega
  have k3 : K ≤ 16 := by omega
  have k4 : kn ≤ K := by omega
  obtain ⟨i0, hi, hz0, hz1, hz2⟩ := info_parts u8parts
  obtain ⟨q, hq⟩ : ∃ q : Nat, q = min (min a.size b.size) 500 := ⟨_, rfl⟩
  have q1 : q ≤ a.size := by omega
  have q2 : q ≤ b.size := by omega
  have q3 : q ≤ 500 := by omega
  have hmk := fun W => run_make_bytes (P := Try.prog) 56 5 i0 Try.underlying56 hi hz0 hz1 hz2 q (by omega) W
  have S0 := Lib.hid (Bun.start w)
  have P0 := Lib.hid True.intro
  have HAK := Lib.hid hak
  have HMN := Lib.hid hmn
  have HKN := Lib.hid hkn
  have HK := Lib.hid hK
  have HQ := Lib.hid hq
  clear hp1 hp2 hak hmn hkn hK hi hz0 hz1 hz2
  obtain ⟨r, hr⟩ : ∃ r, r = min a.size b.size := ⟨_, rfl⟩
  have hx : (if b.size < a.size then (b.size : Int) else (a.size : Int)) = (r : Int) := by split <;> omega
  have hx2 : (if (b.size : Int) < (a.size : Int) then (b.size : Int) else (a.size : Int)) = (r : Int) := by split <;> omega
  have hqm : min (r : Int) 500 = (q : Int) := by omega
  have hy : (if (500 : Int) < (r : Int) then (500 : Int) else (r : Int)) = (q : Int) := by split <;> omega
  have hy2 : (if 500 < r then (500 : Int) else (r : Int)) = (q : Int) := by split <;> omega
  have HRR := Lib.hid hr
  clear hr
  clear hq
  go_enter Try.func8, Try.ntmps8
  go_wp2_with (first
    | (go_at_call 9; have h9 := S0.out; clear S0; refine (known_any _).mono ?_; rintro e w1 ⟨rfl, hb⟩; have S1 := Lib.hid (h9.after hb).bel; clear h9 hb)
    | (go_at_call 23; have p0 := P0.out; clear P0 p0; refine (pick_any k 10 _ hk0 hk1 (by omega) (by omega)).mono ?_; rw [← HAK.out]; rintro e w2 ⟨rfl, rfl⟩; have P1 := Lib.hid True.intro)
    | (go_at_call 23; have p0 := P1.out; clear P1 p0; refine (pick_any m 7 _ hm0 hm1 (by omega) (by omega)).mono ?_; rw [← HMN.out]; rintro e w2 ⟨rfl, rfl⟩))
  clear hx hx2 hy hy2 hqm
  have R0 : Row0 (w1.alloc (.cells (bcells (List.replicate q 0)).toArray 5)) w1.heap.size 5 (ncells (tab q (smF a b 0))) := by
    rw [← smF_zero, tab_zero, ncells_zero]
    exact Row0.new w1 5 _
  have HR0 := Lib.hid R0
  clear R0
  go_loopw [12] (fun ii wr => ∃ j : Nat, j ≤ q ∧ ii = .int .i64 j ∧ Row0 wr w1.heap.size 5 (ncells (tab q (smF a b j))) ∧ Below w1.heap.size w1 wr) (fun ii _ => q - (intOf ii).toNat)
  case atStart => exact ⟨0, by omega, rfl, HR0.out, (Below.refl _ _).alloc (Nat.le_refl _) _⟩
  case round =>
    obtain ⟨j, hj, rfl, hrow, hbel⟩ := hrel
    by_cases hlt : j < q
    · have hja : j < a.size := by omega
      have hjb : j < b.size := by omega
      have fk := tab0_free (i := j) hrow hlt
      have ck := tab0_cell (i := j) hrow hlt
      have hva : bits .xor .u8 ((a[j]'hja).toNat : Int) ((b[j]'hjb).toNat : Int) = nv (byteAt a j ^^^ byteAt b j) := by rw [nv_byte, nv_byte, u8_xor_nv]
      have hst : Row0 (wr.setCell ⟨w1.heap.size, j, none⟩ (.int .u8 (nv (byteAt a j ^^^ byteAt b j)))) w1.heap.size 5 (ncells (tab q (smF a b (j + 1)))) := by rw [← smF_succ]; exact tab0_store hrow (i := j) _
      have S1 := Lib.hid (And.intro hst (hbel.setCell (p := ⟨w1.heap.size, j, none⟩) (Nat.le_refl _) (.int .u8 (nv (byteAt a j ^^^ byteAt b j)))))
      have HV := Lib.hid hva
      clear hrow hbel hst hva
      go_wp2_with fail
      have w5 : 0 ≤ (j : Int) ∧ (j : Int) < (a.size : Int) := by omega
      have w6 : 0 ≤ (j : Int) ∧ (j : Int) < (b.size : Int) := by omega
      have w7 : 0 ≤ (j : Int) ∧ (j : Int) < (q : Int) := by omega
      have w8 : ((j : Int)).toNat = j := by omega
      go_still_tail 10, (by kernel_rfl)
      change wpList _ _ _ _ _ wr.drew
      go_wp2
      rw [HV.out]
      go_roundw
      case measure => simp [intOf]; omega
      case rel => exact ⟨j + 1, by omega, by go_num, S1.out.1.fr ((Fr.refl [] _).drew) (by simp), S1.out.2.drew⟩
    · obtain rfl : j = q := by omega
      obtain ⟨wb, rfl⟩ : ∃ x, x = wr := ⟨wr, rfl⟩
      obtain ⟨l, hl⟩ : ∃ l : List UInt8, l = (tab j (smF a b j)).map UInt8.ofBitVec := ⟨_, rfl⟩
      have hll : l.length = j := by rw [hl, List.length_map, tab_length]
      have hlb : ncells (tab j (smF a b j)) = bcells l := by
        rw [ncells_bcells, hl, List.map_map]
        congr 1
        exact (List.map_id _).symm
      have hconv := fun (x : World) (hx : Below wb.heap.size wb x) => run_string_of_row (P := Try.prog) x 56 9 5 Try.underlying56 Try.underlying5 Try.underlying9 (hrow.row.after hx) 0 j j l hll (by rw [List.drop_zero, hlb, ← hll]; exact List.take_of_length_le (by rw [bcells_length]; exact Nat.le_refl _))
      obtain ⟨cs, hcs⟩ : ∃ y : ByteArray, y = ⟨l.toArray⟩ := ⟨_, rfl⟩
      rw [← hcs] at hconv
      have HCV := Lib.hid hconv
      clear hconv
      obtain ⟨ua, hua⟩ : ∃ y : ByteArray, y = a.extract 0 j := ⟨_, rfl⟩
      obtain ⟨ub, hub⟩ : ∃ y : ByteArray, y = b.extract 0 j := ⟨_, rfl⟩
      have uas : ua.size = j := by rw [hua, ByteArray.size_extract]; omega
      have ubs : ub.size = j := by rw [hub, ByteArray.size_extract]; omega
      have css : cs.size = j := by rw [hcs]; show l.toArray.size = j; rw [List.size_toArray, hll]
      have hby : ∀ p, p < cs.size → byteAt cs p = byteAt ua p ^^^ byteAt ub p := fun p hp => by
        rw [css] at hp
        rw [hua, hub, byteAt_take a j p hp, byteAt_take b j p hp, hcs, byteAt_mk, hl, List.getD_eq_getElem?_getD, List.getElem?_map]
        have e5 : (tab j (smF a b j))[p]? = some (smF a b j p) := by unfold tab; simp [hp]
        rw [e5]
        show smF a b j p = _
        unfold smF
        rw [if_pos hp]
      obtain ⟨SA, hSA⟩ : ∃ T, T = shards kn mn ua := ⟨_, rfl⟩
      obtain ⟨SB, hSB⟩ : ∃ T, T = shards kn mn ub := ⟨_, rfl⟩
      obtain ⟨SC, hSC⟩ : ∃ T, T = shards kn mn cs := ⟨_, rfl⟩
      obtain ⟨N, hN⟩ : ∃ N, N = szOf kn j := ⟨_, rfl⟩
      have hK := HK.out
      have la : SA.length = K := by rw [hSA, shards_length, hK]
      have lb : SB.length = K := by rw [hSB, shards_length, hK]
      have lc : SC.length = K := by rw [hSC, shards_length, hK]
      have za : ∀ i, i < K → (SA.getD i ⟨#[]⟩).size = N := fun i hi => by rw [hSA, shards_size kn mn ua k1 i (by omega), uas, hN]
      have zb : ∀ i, i < K → (SB.getD i ⟨#[]⟩).size = N := fun i hi => by rw [hSB, shards_size kn mn ub k1 i (by omega), ubs, hN]
      have zc : ∀ i, i < K → (SC.getD i ⟨#[]⟩).size = N := fun i hi => by rw [hSC, shards_size kn mn cs k1 i (by omega), css, hN]
      have hsum : ∀ i p, i < K → p < N → byteAt (SA.getD i ⟨#[]⟩) p ^^^ byteAt (SB.getD i ⟨#[]⟩) p = byteAt (SC.getD i ⟨#[]⟩) p := fun i p hi hp => by
        rw [hSA, hSB, hSC]
        exact shards_sum kn mn ua ub cs k1 (by omega) (by omega) hby i p (by omega) (by rw [css, ← hN]; exact hp)
      have hNs : N ≤ 501 := by have := szOf_le kn j k1; omega
      have S3 := Lib.hid (Bun.start wb)
      have HBW := Lib.hid (S1.out.trans (hbel.mono S1.out.size))
      have HUA := Lib.hid hua
      have HUB := Lib.hid hub
      have HSA := Lib.hid hSA
      have HSB := Lib.hid hSB
      have HSC := Lib.hid hSC
      have HUS := Lib.hid (And.intro uas (And.intro ubs css))
      have HLA := Lib.hid (And.intro la (And.intro lb lc))
      have HZZ := Lib.hid (And.intro za (And.intro zb zc))
      have HSUM := Lib.hid hsum
      clear hrow hbel hl hll hlb hcs hua hub uas ubs css hby hSA hSB hSC hN hK la lb lc za zb zc hsum hlt hj S1 HR0
      have P3 := Lib.hid True.intro
      go_wp2_with (first
        | (go_at_call 14; have p0 := P3.out; clear P3 p0; rw [← HUA.out]; have h9 := S3.out; clear S3; refine (encode_ok kn mn ua _ k1 (by have := HK.out; omega) (by have := HUS.out.1; omega)).mono ?_; rw [← HK.out, ← HSA.out]; rintro e w4 ⟨g1, c1, rfl, hs, hb⟩; have hs1 := hs.1; have S4 := Lib.hid ((h9.after hb).add (fun _ h => hs1.after h)); clear h9 hs hs1 hb)
        | (go_at_call 14; have h9 := S4.out; clear S4; rw [← HUB.out]; refine (encode_ok kn mn ub _ k1 (by have := HK.out; omega) (by have := HUS.out.2.1; omega)).mono ?_; rw [← HK.out, ← HSB.out]; rintro e w5 ⟨g2, c2, rfl, hs, hb⟩; have hs1 := hs.1; have hconv := HCV.out _ (h9.after hb).bel; have S5 := Lib.hid ((h9.after hb).add (fun _ h => hs1.after h)); clear h9 hs hs1 hb)
        | (go_at_call 14; have h9 := S5.out; clear S5; refine (encode_ok kn mn cs _ k1 (by have := HK.out; omega) (by have := HUS.out.2.2; omega)).mono ?_; rw [← HK.out, ← HSC.out]; rintro e w6 ⟨g3, c3, rfl, hs, hb⟩; have hs1 := hs.1; have S6 := Lib.hid ((h9.after hb).add (fun _ h => hs1.after h)); clear h9 hs hs1 hb))
      go_loopw [19] (fun ii wy => ∃ i : Nat, i ≤ K ∧ ii = .int .i64 i ∧ Bun wb (fun x => ((True ∧ StrsRd x (some ⟨g1, 0, none⟩) SA) ∧ StrsRd x (some ⟨g2, 0, none⟩) SB) ∧ StrsRd x (some ⟨g3, 0, none⟩) SC) wy) (fun ii _ => K - (intOf ii).toNat)
      case atStart => exact ⟨0, by omega, rfl, S6.out⟩
      case round =>
        clear S6
        obtain ⟨i, hi, rfl, hbun⟩ := hrel
        by_cases hlt : i < K
        · have d1 := strs_cells hbun.here.1.1.2 i (by rw [HLA.out.1]; exact hlt)
          have d2 := strs_cells hbun.here.1.2 i (by rw [HLA.out.2.1]; exact hlt)
          have d3 := strs_cells hbun.here.2 i (by rw [HLA.out.2.2]; exact hlt)
          rw [Nat.zero_add] at d1 d2 d3
          have y1 := HZZ.out.1 i hlt
          have y2 := HZZ.out.2.1 i hlt
          have y3 := HZZ.out.2.2 i hlt
          have ys := fun p hp => HSUM.out i p hlt hp
          obtain ⟨s1, hs1⟩ : ∃ y, y = SA.getD i ⟨#[]⟩ := ⟨_, rfl⟩
          obtain ⟨s2, hs2⟩ : ∃ y, y = SB.getD i ⟨#[]⟩ := ⟨_, rfl⟩
          obtain ⟨s3, hs3⟩ : ∃ y, y = SC.getD i ⟨#[]⟩ := ⟨_, rfl⟩
          rw [← hs1] at d1 y1 ys
          rw [← hs2] at d2 y2 ys
          rw [← hs3] at d3 y3 ys
          have n1 : s1.size ≤ 501 := by omega
          have n2 : s2.size ≤ 501 := by omega
          have n3 : s3.size ≤ 501 := by omega
          have b1 : ((s1.size : Int) != (s3.size : Int)) = false := by simp; omega
          have b2 : ((s2.size : Int) != (s3.size : Int)) = false := by simp; omega
          have S7 := Lib.hid hbun
          have HY := Lib.hid (And.intro y1 (And.intro y2 y3))
          have HYS := Lib.hid ys
          have HS1 := Lib.hid hs1
          have HS2 := Lib.hid hs2
          have HS3 := Lib.hid hs3
          clear hbun y1 y2 y3 ys hs1 hs2 hs3
          go_wp2_with fail
          go_quiet (fail)
          go_wp2
          clear d1 d2 d3
          have S8 := Lib.hid (fun n : Nat => S7.out.after (w' := wr.drewN n) ⟨rfl, rfl, rfl, Nat.le_refl _, fun _ _ => rfl⟩)
          go_loopw [20] (fun pp wz => ∃ p : Nat, p ≤ s3.size ∧ pp = .int .i64 p ∧ Bun wb (fun x => ((True ∧ StrsRd x (some ⟨g1, 0, none⟩) SA) ∧ StrsRd x (some ⟨g2, 0, none⟩) SB) ∧ StrsRd x (some ⟨g3, 0, none⟩) SC) wz) (fun pp _ => s3.size - (intOf pp).toNat)
          case atStart => exact ⟨0, by omega, rfl, S8.out _⟩
          case round =>
            clear S7 S8
            obtain ⟨p, hp, rfl, hbun⟩ := hrel
            have d1 := strs_cells hbun.here.1.1.2 i (by rw [HLA.out.1]; exact hlt)
            have d2 := strs_cells hbun.here.1.2 i (by rw [HLA.out.2.1]; exact hlt)
            have d3 := strs_cells hbun.here.2 i (by rw [HLA.out.2.2]; exact hlt)
            rw [Nat.zero_add] at d1 d2 d3
            rw [← HS1.out] at d1
            rw [← HS2.out] at d2
            rw [← HS3.out] at d3
            by_cases hlp : p < s3.size
            · have p1 : p < s1.size := by have := HY.out; omega
              have p2 : p < s2.size := by have := HY.out; omega
              have hv : bits .xor .u8 ((s1[p]'p1).toNat : Int) ((s2[p]'p2).toNat : Int) = ((s3[p]'hlp).toNat : Int) := by
                rw [nv_byte, nv_byte, nv_byte, u8_xor_nv, HYS.out p (by have := HY.out; omega)]
              have S9 := Lib.hid hbun
              clear hbun
              go_wp2_with fail
              go_quiet (fail)
              go_wp2
              go_roundw
              case measure => simp [intOf]; omega
              case rel => exact ⟨p + 1, by omega, by go_num, S9.out.after ⟨rfl, rfl, rfl, Nat.le_refl _, fun _ _ => rfl⟩⟩
            · obtain rfl : p = s3.size := by omega
              have S9 := Lib.hid hbun
              clear hbun
              go_wp2
              go_roundw
              case measure => simp [intOf]; omega
              case rel => exact ⟨i + 1, by omega, by go_num, S9.out⟩
        · obtain rfl : i = K := by omega
          have S7 := Lib.hid (HBW.out.trans (hbun.bel.mono HBW.out.size))
          clear hbun
          go_wp2
          go_ret
          exact ⟨rfl, S7.out⟩
theorem sums_walk (k m : Int) (a b : ByteArray) (hk0 : -9223372036854775808 ≤ k) (hk1 : k ≤ 9223372036854775807) (hm0 : -9223372036854775808 ≤ m) (hm1 : m ≤ 9223372036854775807) (ha : a.size ≤ maxLen) (hb : b.size ≤ maxLen) (w : World) :
    Calls Try.prog 8 #[.int .i64 k, .int .i64 m, .string a, .string b] w fun e w' => e = .returned (.bool true) ∧ Below w.heap.size w w' :=
  sums_any k m a b w hk0 hk1 hm0 hm1 ha hb
end Go.Proofs.Ytbnfnijjldimkab
