/-
  The walk of ErasureEncodes.
-/
import Derived.Test.YtbnfnijjldimkabEgen
namespace Go.Proofs.Ytbnfnijjldimkab
open Go.RowKit
set_option linter.unusedVariables false
set_option linter.unusedSimpArgs false
set_option maxRecDepth 100000 in
set_option maxHeartbeats 3200000 in
theorem encodes_walk (k m : Int) (t : ByteArray) (l : Int) (hk0 : -9223372036854775808 ≤ k) (hk1 : k ≤ 9223372036854775807) (hm0 : -9223372036854775808 ≤ m) (hm1 : m ≤ 9223372036854775807) (ht : t.size ≤ maxLen) (hl0 : -9223372036854775808 ≤ l) (hl1 : l ≤ 9223372036854775807) (w : World) :
    Calls Try.prog 3 #[.int .i64 k, .int .i64 m, .string t, .int .i64 l] w fun e w' => e = .returned (.bool true) ∧ Below w.heap.size w w' := by
  unfold maxLen at ht
  have HBD := szI_bd k l hl1
  obtain ⟨q, hq⟩ : ∃ q, q = szI k l := ⟨_, rfl⟩
  obtain ⟨qc, hqc⟩ : ∃ q, q = szC k l := ⟨_, rfl⟩
  rw [← hq] at HBD
  have S0 := Lib.hid (Bun.start w)
  have HQ := Lib.hid hq
  have HQC := Lib.hid hqc
  clear hq hqc
  obtain ⟨b, hb⟩ : ∃ b, b = manyB k m := ⟨_, rfl⟩
  have HB := Lib.hid hb
  clear hb
  cases b
  · obtain ⟨u, hu, hu2⟩ : ∃ u, u = t.extract 0 (min (t.size : Int) 3000).toNat ∧ u.size ≤ 50000 := ⟨_, rfl, by rw [ByteArray.size_extract]; omega⟩
    obtain ⟨T, hT⟩ : ∃ T, T = encT k m u := ⟨_, rfl⟩
    obtain ⟨N, hN⟩ : ∃ N, N = T.length := ⟨_, rfl⟩
    obtain ⟨c, hc⟩ : ∃ c, c = encC k m := ⟨_, rfl⟩
    have hN2 : N ≤ 255 := by rw [hN, hT]; exact encT_le k m u
    have HU := Lib.hid hu
    have HT := Lib.hid hT
    have HN := Lib.hid hN
    have HC := Lib.hid hc
    clear hu hT hN hc
    go_enter Try.func3, Try.ntmps3
    go_wp2_with (first
      | (go_at_call 9; have h9 := S0.out; clear S0; refine (known_any _).mono ?_; rintro e w1 ⟨rfl, hb⟩; have S1 := Lib.hid (h9.after hb); clear h9 hb)
      | (go_at_call 10; have h9 := S1.out; clear S1; refine (size_gen k l _ hl1).mono ?_; rw [← HQ.out, ← HQC.out]; rintro e w2 ⟨ev, rfl, hE, hb⟩; have S2 := Lib.hid ((h9.after hb).add (fun _ h => hE.after h)); clear h9 hE hb)
      | (go_at_call 11; have h9 := S2.out; clear S2; refine (rsize_gen k l _ hl1).mono ?_; rw [← HQ.out, ← HQC.out]; rintro e w3 ⟨rfl, hb⟩; have S3 := Lib.hid (h9.after hb); clear h9 hb)
      | (go_at_call 12; have h9 := S3.out; clear S3; refine (is_ok _ ev qc _ h9.here.2).mono ?_; rintro e w4 ⟨rfl, rfl⟩; have S4 := Lib.hid h9; clear h9)
      | (go_at_call 13; refine (many_any k m _).mono ?_; rw [← HB.out]; rintro e w5 ⟨rfl, rfl⟩)
      | (go_at_call 14; rw [← HU.out]; have h9 := S4.out; clear S4; refine (encode_gen k m u _ hu2).mono ?_; rw [← HT.out, ← HN.out, ← HC.out]; rintro e w6 ⟨a6, c6, ev6, rfl, hE, hs, hb⟩; have S5 := Lib.hid (((h9.after hb).add (fun _ h => hE.after h)).add (fun _ h => hs.after h)); clear h9 hE hs hb)
      | (go_at_call 15; have h9 := S5.out; clear S5; refine (rencode_gen k m u _ hu2).mono ?_; rw [← HT.out, ← HN.out, ← HC.out]; rintro e w7 ⟨a7, c7, rfl, hs, hb⟩; have S6 := Lib.hid ((h9.after hb).add (fun _ h => hs.after h)); clear h9 hs hb)
      | (go_at_call 12; have h9 := S6.out; clear S6; refine (is_ok _ ev6 c _ h9.here.1.1.2).mono ?_; rintro e w8 ⟨rfl, rfl⟩; have S7 := Lib.hid h9; clear h9)
      | (go_at_call 16; have h9 := S7.out; clear S7; refine (same_any a6 a7 N c6 N c7 T T _ h9.here.1.2 h9.here.2 HN.out HN.out (by omega) (by omega)).mono ?_; rw [show decide (T = T) = true from decide_eq_true rfl]; rintro e w9 ⟨rfl, hb⟩; have S8 := Lib.hid (h9.bel.trans (hb.mono h9.bel.size)); clear h9 hb))
    go_ret
    exact ⟨rfl, S8.out⟩
  · go_enter Try.func3, Try.ntmps3
    go_wp2_with (first
      | (go_at_call 9; have h9 := S0.out; clear S0; refine (known_any _).mono ?_; rintro e w1 ⟨rfl, hb⟩; have S1 := Lib.hid (h9.after hb); clear h9 hb)
      | (go_at_call 10; have h9 := S1.out; clear S1; refine (size_gen k l _ hl1).mono ?_; rw [← HQ.out, ← HQC.out]; rintro e w2 ⟨ev, rfl, hE, hb⟩; have S2 := Lib.hid ((h9.after hb).add (fun _ h => hE.after h)); clear h9 hE hb)
      | (go_at_call 11; have h9 := S2.out; clear S2; refine (rsize_gen k l _ hl1).mono ?_; rw [← HQ.out, ← HQC.out]; rintro e w3 ⟨rfl, hb⟩; have S3 := Lib.hid (h9.after hb); clear h9 hb)
      | (go_at_call 12; have h9 := S3.out; clear S3; refine (is_ok _ ev qc _ h9.here.2).mono ?_; rintro e w4 ⟨rfl, rfl⟩; have S4 := Lib.hid h9; clear h9)
      | (go_at_call 13; refine (many_any k m _).mono ?_; rw [← HB.out]; rintro e w5 ⟨rfl, rfl⟩))
    go_ret
    exact ⟨rfl, S4.out.bel⟩
end Go.Proofs.Ytbnfnijjldimkab
