/-
  The walk of ErasureAny.
-/
import Derived.Test.YtbnfnijjldimkabEargs
namespace Go.Proofs.Ytbnfnijjldimkab
open Go.RowKit
set_option linter.unusedVariables false
set_option linter.unusedSimpArgs false
set_option maxRecDepth 100000 in
set_option maxHeartbeats 6400000 in
theorem any_any (k m : Int) (t : ByteArray) (ka : Option Addr) (kc : Nat) (lost : List Int) (junk : ByteArray) (w : World) (hk0 : -9223372036854775808 ≤ k) (hk1 : k ≤ 9223372036854775807) (hm0 : -9223372036854775808 ≤ m) (hm1 : m ≤ 9223372036854775807) (ht : t.size ≤ maxLen) (hA : IntArg w ka lost) :
    Calls Try.prog 5 #[.int .i64 k, .int .i64 m, .string t, .slice ka lost.length kc, .string junk] w fun e w' => e = .returned (.bool true) ∧ Below w.heap.size w w' := by
  unfold maxLen at ht
  have hp1 := pickOf_lt k 10 (by omega)
  have hp2 := pickOf_lt m 7 (by omega)
  obtain ⟨ak, hak⟩ : ∃ a : Nat, (a : Int) = pickOf k 10 := ⟨(pickOf k 10).toNat, by omega⟩
  obtain ⟨mn, hmn⟩ : ∃ a : Nat, (a : Int) = pickOf m 7 := ⟨(pickOf m 7).toNat, by omega⟩
  have a1 : ak ≤ 9 := by omega
  have a2 : mn ≤ 6 := by omega
  obtain ⟨kn, hkn⟩ : ∃ a, a = 1 + ak := ⟨_, rfl⟩
  obtain ⟨K, hK⟩ : ∃ a, a = kn + mn := ⟨_, rfl⟩
  have e1 : (1 : Int) + (ak : Int) = (kn : Int) := by omega
  have e2 : (kn : Int) + (mn : Int) = (K : Int) := by omega
  have k1 : 1 ≤ kn := by omega
  have k2 : kn ≤ 10 := by omega
  have k3 : K ≤ 16 := by omega
  have k4 : kn ≤ K := by omega
  obtain ⟨u, hu, hu2⟩ : ∃ u, u = t.extract 0 (min (t.size : Int) 2000).toNat ∧ u.size ≤ 50000 := ⟨_, rfl, by rw [ByteArray.size_extract]; omega⟩
  obtain ⟨N, hN⟩ : ∃ N, N = lost.length := ⟨_, rfl⟩
  have hNm := hA.le
  rw [← hN] at hNm ⊢
  unfold maxLen at hNm
  obtain ⟨SS, hSS⟩ : ∃ T, T = shards kn mn u := ⟨_, rfl⟩
  obtain ⟨j1, hp0, pz0, pz1, pz2⟩ := info_parts pieceparts
  have hmk := run_make_pcs j1 hp0 pz0 pz1 pz2 K (by omega)
  obtain ⟨Z, hZ⟩ : ∃ Z, Z = pcells (List.replicate K (false, (⟨#[]⟩ : ByteArray))) := ⟨_, rfl⟩
  rw [← hZ] at hmk
  have hj := join_shards (k := kn) (m := mn) (t := u) k1 (by omega)
  have hc := check_shards (k := kn) (m := mn) (t := u) k1 (by omega)
  have hsm := shards_small kn mn u k1 hu2
  have hSl := shards_length kn mn u
  rw [← hSS] at hj hc hsm hSl
  rw [← hK] at hSl
  have HJ := Lib.hid hj
  have HC := Lib.hid hc
  have HSM := Lib.hid hsm
  have HSL := Lib.hid hSl
  have S0 := Lib.hid (Bun.start w)
  have P0 := Lib.hid True.intro
  have HAK := Lib.hid hak
  have HMN := Lib.hid hmn
  have HKN := Lib.hid hkn
  have HK := Lib.hid hK
  have HU := Lib.hid hu
  have HN := Lib.hid hN
  have HA := Lib.hid hA
  have HSS := Lib.hid hSS
  have HZ := Lib.hid hZ
  clear hj hc hsm hSl hp1 hp2 hak hmn hkn hK hu hN hA hSS hZ hp0 pz0 pz1 pz2
  go_enter Try.func5, Try.ntmps5
  go_wp2_with (first
    | (go_at_call 9; have h9 := S0.out; clear S0; refine (known_any _).mono ?_; rintro e w1 ⟨rfl, hb⟩; have S1 := Lib.hid (h9.after hb); clear h9 hb)
    | (go_at_call 23; have p0 := P0.out; clear P0 p0; refine (pick_any k 10 _ hk0 hk1 (by omega) (by omega)).mono ?_; rw [← HAK.out]; rintro e w2 ⟨rfl, rfl⟩; have P1 := Lib.hid True.intro)
    | (go_at_call 23; have p0 := P1.out; clear P1 p0; refine (pick_any m 7 _ hm0 hm1 (by omega) (by omega)).mono ?_; rw [← HMN.out]; rintro e w2 ⟨rfl, rfl⟩)
    | (go_at_call 14; rw [← HU.out]; have h9 := S1.out; clear S1; refine (encode_ok kn mn u _ k1 (by omega) hu2).mono ?_; rw [← HK.out, ← HSS.out]; rintro e w3 ⟨g, c3, rfl, hs, hb⟩; have hc31 := hs.2.1; have S3 := Lib.hid (And.intro hs.1 (h9.after hb).bel); clear h9 hs hb))
  rw [HZ.out]
  go_loopw [15] (fun ii wr => ∃ (j : Nat) (P : List (Bool × ByteArray)), j ≤ K ∧ ii = .int .i64 j ∧ (∀ i, i < j → (pcAt P i).1 = true) ∧ PieS w3 w3.heap.size K SS P wr) (fun ii _ => K - (intOf ii).toNat)
  case atStart => exact ⟨0, _, by omega, rfl, fun i h => by omega, PieS.start w3 K SS⟩
  case round =>
    obtain ⟨j, P, hj1, rfl, hcnt, hP⟩ := hrel
    by_cases hlt : j < K
    · obtain ⟨s, hs⟩ : ∃ s, s = SS.getD j ⟨#[]⟩ := ⟨_, rfl⟩
      have cs := strs_cells (S3.out.1.after hP.bel) j (by rw [HSL.out]; exact hlt)
      rw [← hs, Nat.zero_add] at cs
      obtain ⟨f0, f1⟩ := hP.free hlt
      obtain ⟨y0, y1⟩ := hP.cells hlt
      have hput := hP.put hlt true s (fun _ => hs)
      have hall : ∀ i, i < j + 1 → (pcAt (P.set j (true, s)) i).1 = true := fun i hi => by
        rw [pcAt_set P j (true, s) (by rw [hP.len]; exact hlt)]
        by_cases e : i = j
        · rw [if_pos e]
        · rw [if_neg e]; exact hcnt i (by omega)
      have S4 := Lib.hid (And.intro hput hall)
      clear hP hput hall hcnt hs
      go_wp2
      go_roundw
      case measure => simp [intOf]; omega
      case rel => exact ⟨j + 1, _, by omega, by go_num, S4.out.2, S4.out.1⟩
    · obtain rfl : j = K := by omega
      have hcK := whF_all P j hcnt
      have S5 := Lib.hid (And.intro hP hcK)
      clear hP hcK hcnt hlt hj1
      go_wp2
      go_loopw [16] (fun ii wr => ∃ (i : Nat) (P : List (Bool × ByteArray)), i ≤ mn ∧ i ≤ N ∧ ii = .int .i64 i ∧ j ≤ (whF P j).length + i ∧ PieS w3 w3.heap.size j SS P wr) (fun ii _ => N - (intOf ii).toNat)
      case atStart => exact ⟨0, P, by omega, by omega, rfl, by rw [S5.out.2]; omega, S5.out.1⟩
      case round =>
        clear S5
        obtain ⟨i, Q, hj1, hj2, rfl, hcnt, hP⟩ := hrel
        by_cases hlt : i < mn ∧ i < N
        · obtain ⟨hl1, hl2⟩ := hlt
          obtain ⟨kg, ko, x, rfl, kgl, cx, x0, x1⟩ := HA.out.at_ (i := i) (by rw [← HN.out]; exact hl2)
          have dx := ((S3.out.2.trans (hP.bel.mono S3.out.2.size)).cell (p := ⟨kg, ko + i, none⟩) kgl).trans cx
          have hpx := pickOf_lt x j (by omega)
          obtain ⟨n, hn⟩ : ∃ n : Nat, (n : Int) = pickOf x j := ⟨(pickOf x j).toNat, by omega⟩
          have hnK : n < j := by omega
          obtain ⟨f0, f1⟩ := hP.free hnK
          obtain ⟨y0, y1⟩ := hP.cells hnK
          have hput := hP.put hnK false junk (fun h => by cases h)
          have hcn := (whF_le_set Q n (false, junk) (by rw [hP.len]; exact hnK) j).2
          rw [if_pos hnK] at hcn
          have HPX := Lib.hid hn
          have S4 := Lib.hid (And.intro hput (show j ≤ (whF (Q.set n (false, junk)) j).length + (i + 1) by omega))
          clear hP hput hcn hcnt hn cx hpx
          go_wp2_with (go_at_call 23; refine (pick_any x j _ x0 x1 (by omega) (by omega)).mono ?_; rw [← HPX.out]; rintro e w5 ⟨rfl, rfl⟩)
          go_roundw
          case measure => simp [intOf]; omega
          case rel => exact ⟨i + 1, _, by omega, by omega, by go_num, S4.out.2, S4.out.1⟩
        · have hR := restore_main kn mn u.size (some ⟨w3.heap.size, 0, none⟩) j Q wr k1 (by rw [← HK.out]; omega) (by omega) (by rw [hP.len]; exact HK.out) hP.row.pcs (hP.sz k1 HK.out HSS.out hu2)
          rw [← HK.out] at hR
          have HF : ∀ (code : Int) (T : List ByteArray), RestOut kn mn (szOf kn u.size) Q code T → code = 0 ∧ T = SS := fun code T h => hP.enough k1 HK.out (by omega) HSS.out (by omega) h
          have HB := Lib.hid (And.intro (S3.out.1.after hP.bel) (S3.out.2.trans (hP.bel.mono S3.out.2.size)))
          have HR := Lib.hid hR
          have HFF := Lib.hid HF
          have hcase : ¬ i < mn ∨ (i < mn ∧ ¬ i < N) := by omega
          clear hP hcnt hR HF hlt
          rcases hcase with hc | ⟨hc, hc2⟩
          all_goals
            go_wp2_with (first
              | (go_at_call 17; have h9 := HR.out; clear HR; refine h9.mono ?_; rintro e w5 ⟨code, T, a5, c5, ev, hR, rfl, hE, hs, hb⟩; obtain ⟨rfl, rfl⟩ := HFF.out code T hR; obtain rfl := hE.nil; have hs2 := hs.1; have hc51 := hs.2.1; have hc52 := hs.2.2; rw [HSL.out] at hc51 ⊢; have hr0 := HB.out.1.after hb; have S5 := Lib.hid (Bun.of (F := fun x => StrsRd x a5 T ∧ StrsRd x (some ⟨g, 0, none⟩) T) (fun x hx => ⟨hs2.after hx, hr0.after hx⟩) (HB.out.2.trans (hb.mono HB.out.2.size))); clear h9 hR hE hs hs2 hr0 hb)
              | (go_at_call 19; have h9 := S5.out; clear S5; refine (join_gen kn u.size a5 j c5 _ _ ⟨by omega, by omega⟩ (by omega) h9.here.1 HSL.out.symm hc51 hc52 HSM.out).mono ?_; rw [HJ.out.1, HJ.out.2]; rintro e w7 ⟨ev2, rfl, hE, hb⟩; obtain rfl := hE.nil; have S7 := Lib.hid (h9.after hb); clear h9 hE hb)
              | (go_at_call 21; have h9 := S7.out; clear S7; refine (check_gen kn mn a5 j c5 _ _ h9.here.1 HSL.out.symm hc51 hc52 HSM.out).mono ?_; rw [HC.out.1, HC.out.2]; rintro e w8 ⟨ev3, rfl, hE, hb⟩; obtain rfl := hE.nil; have S8 := Lib.hid (h9.after hb); clear h9 hE hb)
              | (go_at_call 16; have h9 := S8.out; clear S8; refine (same_any a5 _ j c5 j c3 _ _ _ h9.here.1 h9.here.2 HSL.out.symm HSL.out.symm (by omega) (by omega)).mono ?_; rw [decide_eq_true rfl]; rintro e w9 ⟨rfl, hb⟩; have S9 := Lib.hid ((h9.after hb).bel); clear h9 hb))
            go_ret
            exact ⟨rfl, S9.out⟩
theorem any_walk (k m : Int) (t : ByteArray) (ka : Option Addr) (kc : Nat) (lost : List Int) (junk : ByteArray) (hk0 : -9223372036854775808 ≤ k) (hk1 : k ≤ 9223372036854775807) (hm0 : -9223372036854775808 ≤ m) (hm1 : m ≤ 9223372036854775807) (ht : t.size ≤ maxLen) (hj : junk.size ≤ maxLen) (w : World) (hA : IntArg w ka lost) :
    Calls Try.prog 5 #[.int .i64 k, .int .i64 m, .string t, .slice ka lost.length kc, .string junk] w fun e w' => e = .returned (.bool true) ∧ Below w.heap.size w w' :=
  any_any k m t ka kc lost junk w hk0 hk1 hm0 hm1 ht hA
end Go.Proofs.Ytbnfnijjldimkab
