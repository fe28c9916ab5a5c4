/-
  The walk of ErasureFew.
-/
import Derived.Test.YtbnfnijjldimkabEargs
namespace Go.Proofs.Ytbnfnijjldimkab
open Go.RowKit
set_option linter.unusedVariables false
set_option linter.unusedSimpArgs false
set_option maxRecDepth 100000 in
set_option maxHeartbeats 6400000 in
theorem few_any (k m : Int) (t : ByteArray) (ka : Option Addr) (kc : Nat) (keep : List Int) (w : World) (hk0 : -9223372036854775808 ≤ k) (hk1 : k ≤ 9223372036854775807) (hm0 : -9223372036854775808 ≤ m) (hm1 : m ≤ 9223372036854775807) (ht : t.size ≤ maxLen) (hA : IntArg w ka keep) :
    Calls Try.prog 6 #[.int .i64 k, .int .i64 m, .string t, .slice ka keep.length kc] w fun e w' => e = .returned (.bool true) ∧ Below w.heap.size w w' := by
  unfold maxLen at ht
  have hp1 := pickOf_lt k 10 (by omega)
  have hp2 := pickOf_lt m 7 (by omega)
  obtain ⟨ak, hak⟩ : ∃ a : Nat, (a : Int) = pickOf k 10 := ⟨(pickOf k 10).toNat, by omega⟩
  obtain ⟨mn, hmn⟩ : ∃ a : Nat, (a : Int) = pickOf m 7 := ⟨(pickOf m 7).toNat, by omega⟩
  have a1 : ak ≤ 9 := by omega
  have a2 : mn ≤ 6 := by omega
  obtain ⟨kn, hkn⟩ : ∃ a, a = 1 + ak := ⟨_, rfl⟩
  obtain ⟨K, hK⟩ : ∃ a, a = kn + mn := ⟨_, rfl⟩
  have e1 : (1 : Int) + (ak : Int) = (kn : Int) := by omega
  have e2 : (kn : Int) + (mn : Int) = (K : Int) := by omega
  have e3 : (kn : Int) - 1 = (ak : Int) := by omega
  have k1 : 1 ≤ kn := by omega
  have k2 : kn ≤ 10 := by omega
  have k3 : K ≤ 16 := by omega
  have k4 : kn ≤ K := by omega
  obtain ⟨u, hu, hu2⟩ : ∃ u, u = t.extract 0 (min (t.size : Int) 500).toNat ∧ u.size ≤ 50000 := ⟨_, rfl, by rw [ByteArray.size_extract]; omega⟩
  obtain ⟨N, hN⟩ : ∃ N, N = keep.length := ⟨_, rfl⟩
  have hNm := hA.le
  rw [← hN] at hNm ⊢
  unfold maxLen at hNm
  obtain ⟨SS, hSS⟩ : ∃ T, T = shards kn mn u := ⟨_, rfl⟩
  obtain ⟨j1, hp0, pz0, pz1, pz2⟩ := info_parts pieceparts
  have hmk := run_make_pcs j1 hp0 pz0 pz1 pz2 K (by omega)
  obtain ⟨Z, hZ⟩ : ∃ Z, Z = pcells (List.replicate K (false, (⟨#[]⟩ : ByteArray))) := ⟨_, rfl⟩
  rw [← hZ] at hmk
  have S0 := Lib.hid (Bun.start w)
  have P0 := Lib.hid True.intro
  have HAK := Lib.hid hak
  have HMN := Lib.hid hmn
  have HKN := Lib.hid hkn
  have HK := Lib.hid hK
  have HU := Lib.hid hu
  have HN := Lib.hid hN
  have HA := Lib.hid hA
  have HSS := Lib.hid hSS
  have HZ := Lib.hid hZ
  clear hp1 hp2 hak hmn hkn hK hu hN hA hSS hZ hp0 pz0 pz1 pz2
  go_enter Try.func6, Try.ntmps6
  go_wp2_with (first
    | (go_at_call 9; have h9 := S0.out; clear S0; refine (known_any _).mono ?_; rintro e w1 ⟨rfl, hb⟩; have S1 := Lib.hid (h9.after hb); clear h9 hb)
    | (go_at_call 23; have p0 := P0.out; clear P0 p0; refine (pick_any k 10 _ hk0 hk1 (by omega) (by omega)).mono ?_; rw [← HAK.out]; rintro e w2 ⟨rfl, rfl⟩; have P1 := Lib.hid True.intro)
    | (go_at_call 23; have p0 := P1.out; clear P1 p0; refine (pick_any m 7 _ hm0 hm1 (by omega) (by omega)).mono ?_; rw [← HMN.out]; rintro e w2 ⟨rfl, rfl⟩)
    | (go_at_call 14; rw [← HU.out]; have h9 := S1.out; clear S1; refine (encode_ok kn mn u _ k1 (by omega) hu2).mono ?_; rw [← HK.out, ← HSS.out]; rintro e w3 ⟨g, c3, rfl, hs, hb⟩; have S3 := Lib.hid (And.intro hs.1 (h9.after hb).bel); clear h9 hs hb))
  rw [HZ.out]
  go_loopw [13] (fun ii wr => ∃ (j : Nat) (P : List (Bool × ByteArray)), j ≤ ak ∧ j ≤ N ∧ ii = .int .i64 j ∧ (whF P K).length ≤ j ∧ PieS w3 w3.heap.size K SS P wr) (fun ii _ => N - (intOf ii).toNat)
  case atStart => exact ⟨0, _, by omega, by omega, rfl, by rw [whF_none _ K (fun i _ => by rw [pcAt_rep])]; exact Nat.le_refl _, PieS.start w3 K SS⟩
  case round =>
    obtain ⟨j, P, hj1, hj2, rfl, hcnt, hP⟩ := hrel
    by_cases hlt : j < ak ∧ j < N
    · obtain ⟨hl1, hl2⟩ := hlt
      obtain ⟨kg, ko, x, rfl, kgl, cx, x0, x1⟩ := HA.out.at_ (i := j) (by rw [← HN.out]; exact hl2)
      have dx := ((S3.out.2.trans (hP.bel.mono S3.out.2.size)).cell (p := ⟨kg, ko + j, none⟩) kgl).trans cx
      have hpx := pickOf_lt x K (by omega)
      obtain ⟨n, hn⟩ : ∃ n : Nat, (n : Int) = pickOf x K := ⟨(pickOf x K).toNat, by omega⟩
      have hnK : n < K := by omega
      obtain ⟨s, hs⟩ : ∃ s, s = SS.getD n ⟨#[]⟩ := ⟨_, rfl⟩
      have cs := strs_cells (S3.out.1.after hP.bel) n (by rw [HSS.out, shards_length, ← HK.out]; exact hnK)
      rw [← hs, Nat.zero_add] at cs
      obtain ⟨f0, f1⟩ := hP.free hnK
      obtain ⟨y0, y1⟩ := hP.cells hnK
      have hput := hP.put hnK true s (fun _ => hs)
      have hcn := (whF_le_set P n (true, s) (by rw [hP.len]; exact hnK) K).1
      rw [if_pos hnK] at hcn
      have HPX := Lib.hid hn
      have S4 := Lib.hid (And.intro hput (Nat.le_trans hcn (Nat.add_le_add_right hcnt 1)))
      clear hP hput hcn hcnt hn hs cx hpx
      go_wp2_with (go_at_call 23; refine (pick_any x K _ x0 x1 (by omega) (by omega)).mono ?_; rw [← HPX.out]; rintro e w5 ⟨rfl, rfl⟩)
      go_roundw
      case measure => simp [intOf]; omega
      case rel => exact ⟨j + 1, _, by omega, by omega, by go_num, S4.out.2, S4.out.1⟩
    · have hR := restore_main kn mn u.size (some ⟨w3.heap.size, 0, none⟩) K P wr k1 (by rw [← HK.out]; omega) (by omega) (by rw [hP.len]; exact HK.out) hP.row.pcs (hP.sz k1 HK.out HSS.out hu2)
      rw [← HK.out] at hR
      have HF : ∀ (code : Int) (T : List ByteArray), RestOut kn mn (szOf kn u.size) P code T → code = 17 ∧ T = [] := fun code T h => hP.few k1 HK.out (by omega) HSS.out (by omega) h
      have HB := Lib.hid (S3.out.2.trans (hP.bel.mono S3.out.2.size))
      have HR := Lib.hid hR
      have HFF := Lib.hid HF
      have hcase : ¬ j < ak ∨ (j < ak ∧ ¬ j < N) := by omega
      clear hP hcnt hR HF hlt
      rcases hcase with hc | ⟨hc, hc2⟩
      all_goals
        go_wp2_with (first
          | (go_at_call 17; have h9 := HR.out; clear HR; refine h9.mono ?_; rintro e w5 ⟨code, T, a5, c5, ev, hR, rfl, hE, hs, hb⟩; obtain ⟨rfl, rfl⟩ := HFF.out code T hR; have S5 := Lib.hid (And.intro hE (HB.out.trans (hb.mono HB.out.size))); clear h9 hR hE hs hb)
          | (go_at_call 12; have h9 := S5.out; clear S5; refine (is_ok _ ev 17 _ h9.1).mono ?_; rintro e w6 ⟨rfl, rfl⟩; have S6 := Lib.hid h9.2; clear h9))
        go_ret
        exact ⟨rfl, S6.out⟩
theorem few_walk (k m : Int) (t : ByteArray) (ka : Option Addr) (kc : Nat) (keep : List Int) (hk0 : -9223372036854775808 ≤ k) (hk1 : k ≤ 9223372036854775807) (hm0 : -9223372036854775808 ≤ m) (hm1 : m ≤ 9223372036854775807) (ht : t.size ≤ maxLen) (w : World) (hA : IntArg w ka keep) :
    Calls Try.prog 6 #[.int .i64 k, .int .i64 m, .string t, .slice ka keep.length kc] w fun e w' => e = .returned (.bool true) ∧ Below w.heap.size w w' :=
  few_any k m t ka kc keep w hk0 hk1 hm0 hm1 ht hA
end Go.Proofs.Ytbnfnijjldimkab
