/-
  Encode's shards lie in a row of their own: they may be written.
-/
import Derived.Test.YtbnfnijjldimkabEgen
namespace Go.Proofs.Ytbnfnijjldimkab
open Go.RowKit
set_option linter.unusedVariables false
set_option linter.unusedSimpArgs false
theorem apply_own (r c ga oa n cap lcap len : Nat) (la : Option Addr) (A : Nat → Nat → BitVec 8) (cols : List ByteArray) (w : World) (r1 : 1 ≤ r) (r2 : r ≤ 255) (c1 : 1 ≤ c) (c2 : c ≤ 255) (hn : n = r * c) (hcap : n ≤ cap) (hcap2 : cap ≤ 9223372036854775807) (hlen : cols.length = c) (hsz : ∀ i, i < cols.length → (cols.getD i ⟨#[]⟩).size = len) (hl : len ≤ 100000)
    (ha : MatRd w ga oa r c A) (hL : StrsRd w la cols) :
    Calls Try.prog 34 #[.agg #[.int .i64 r, .int .i64 c, .slice (some ⟨ga, oa, none⟩) n cap], .slice la c lcap] w fun e w' => ∃ g cap', e = .returned (.tuple #[.slice (some ⟨g, 0, none⟩) r cap', .nilIface]) ∧ w'.ownsRow w.heap.size 9 1 (.slice (some ⟨g, 0, none⟩) r cap') r (scells (rowStrs A cols len c r)) ∧ Below w.heap.size w w' := by
  obtain ⟨lg, lo, rfl, _, hcell⟩ := hL.open (by omega)
  refine (apply_ok r c ga oa n cap lg lo lcap A cols w r1 r2 c1 c2 hn hcap hcap2 hlen (fun i hi => by rw [hsz i hi]; exact hl) ha hcell).mono ?_
  rintro e w' ⟨h | h, hb⟩
  · obtain ⟨⟨i, hi, hne⟩, _⟩ := h
    exact absurd (by rw [hsz i hi, hsz 0 (by omega)]) hne
  · obtain ⟨hall, v, rfl, hown⟩ := h
    rw [hsz 0 (by omega), appCells_rowStrs] at hown
    rcases hown.2 with ⟨_, h0⟩ | ⟨g2, cap2, cur, rfl, _⟩
    · omega
    · exact ⟨_, _, rfl, hown, hb⟩
theorem all_own (k m lcap len : Nat) (la : Option Addr) (cols : List ByteArray) (w : World) (h1 : 1 ≤ k) (h2 : k + m ≤ 255) (hlen : cols.length = k) (hsz : ∀ i, i < cols.length → (cols.getD i ⟨#[]⟩).size = len) (hl : len ≤ 100000) (hL : StrsRd w la cols) :
    Calls Try.prog 29 #[.int .i64 k, .int .i64 m, .slice la k lcap] w fun e w' => ∃ g cap', e = .returned (.tuple #[.slice (some ⟨g, 0, none⟩) (k + m) cap', .nilIface]) ∧ w'.ownsRow w.heap.size 9 1 (.slice (some ⟨g, 0, none⟩) (k + m) cap') (k + m) (scells (rowStrs (gen k) cols len k (k + m))) ∧ Below w.heap.size w w' := by
  obtain ⟨K, hK⟩ : ∃ q, q = k + m := ⟨_, rfl⟩
  obtain ⟨qa, hqa⟩ : ∃ q, q = K * k := ⟨_, rfl⟩
  have hqa2 : qa ≤ 255 * 255 := by rw [hqa]; exact Nat.mul_le_mul (by omega) (by omega)
  have S0 := Lib.hid (Bun.start w)
  have HK := Lib.hid hK
  have HQA := Lib.hid hqa
  have HLEN := Lib.hid hlen
  have HSZ := Lib.hid hsz
  have HL := Lib.hid hL
  have hK1 : k ≤ K := by omega
  have hK2 : K ≤ 255 := by omega
  rw [← hK]
  clear hK hqa hlen hsz hL
  go_enter Try.func29, Try.ntmps29
  go_wp2_with (first
    | (go_at_call 31; have h9 := S0.out; clear S0; refine (rows_ok k m _ h1 h2).mono ?_; rintro e w1 ⟨ga, he, hg, hrow, hb⟩; have he2 : e = .returned (.tuple #[.agg #[.int .i64 K, .int .i64 k, .slice (some ⟨ga, 0, none⟩) qa qa], .nilIface]) := (by rw [he, HQA.out, HK.out]; rfl); subst he2; clear he; rw [← HK.out] at hrow; have hmm := ((h9.after hb).add (fun _ h => (MatRd.of_row0 hrow).after h)).box 71 [.int .i64 K, .int .i64 k, .slice (some ⟨ga, 0, none⟩) qa qa]; obtain ⟨x0, x1, x2⟩ := box3 hmm.here.2; have S1 := Lib.hid hmm; clear h9 hb hrow hg hmm)
    | (go_at_call 34; have h9 := S1.out; clear S1; refine (apply_own K k ga 0 qa qa lcap len la (gen k) cols _ (by omega) (by omega) (by omega) (by omega) HQA.out (Nat.le_refl _) (by omega) HLEN.out HSZ.out hl h9.here.1.2 (HL.out.after h9.bel)).mono ?_; rintro e w2 ⟨g5, cap5, rfl, ht, hb⟩; have S2 := Lib.hid (And.intro (own_base ht h9.bel.size) (h9.after hb).bel); clear h9 hb ht))
  go_ret2
  exact ⟨g5, cap5, rfl, S2.out.1, S2.out.2⟩
set_option maxRecDepth 100000 in
set_option maxHeartbeats 3200000 in
theorem encode_own (k m : Nat) (t : ByteArray) (w : World) (h1 : 1 ≤ k) (h2 : k + m ≤ 255) (ht : t.size ≤ 50000) :
    Calls Try.prog 14 #[.int .i64 k, .int .i64 m, .string t] w fun e w' => ∃ g cap', e = .returned (.tuple #[.slice (some ⟨g, 0, none⟩) (k + m) cap', .nilIface]) ∧ w'.ownsRow w.heap.size 9 1 (.slice (some ⟨g, 0, none⟩) (k + m) cap') (k + m) (scells (shards k m t)) ∧ Below w.heap.size w w' := by
  obtain ⟨n, hn⟩ : ∃ n, n = szOf k t.size := ⟨_, rfl⟩
  obtain ⟨N, hN⟩ : ∃ N, N = k * n := ⟨_, rfl⟩
  have n1 : t.size ≤ N := by rw [hN, hn]; exact szOf_lo k t.size h1
  have n2 : N ≤ t.size + k := by rw [hN, hn]; exact szOf_hi k t.size h1
  have n3 : n ≤ t.size + 1 := by rw [hn]; exact szOf_le k t.size h1
  obtain ⟨z, hz⟩ : ∃ z, z = N - t.size := ⟨_, rfl⟩
  have e1 : (k : Int) * (n : Int) = (N : Int) := by rw [hN]; simp
  have e2 : (N : Int) - (t.size : Int) = (z : Int) := by omega
  have z1 : z ≤ 255 := by omega
  obtain ⟨Z, hZ⟩ : ∃ Z, Z = zeros z := ⟨_, rfl⟩
  have z2 : Z.size = z := by rw [hZ, zeros_size]
  have z3 : t.size + Z.size ≤ 9223372036854775807 := by omega
  obtain ⟨T, hT⟩ : ∃ T, T = t ++ Z := ⟨_, rfl⟩
  have t1 : T.size = N := by rw [hT, ByteArray.size_append, z2]; omega
  have t2 : T = padT t N := by unfold padT; rw [hT, hZ, hz]
  obtain ⟨K, hK⟩ : ∃ K, K = k + m := ⟨_, rfl⟩
  obtain ⟨j0, hj0, jz0, jz1, jz2⟩ := info_parts strparts
  unfold shards
  rw [← hn, ← hN, ← t2, ← hK]
  have H := Lib.hid (mayB_ok (c := 0) h1 h2)
  have HN := Lib.hid hN
  have HNN := Lib.hid hn
  have HZ := Lib.hid hZ
  have HT := Lib.hid hT
  have HTS := Lib.hid t1
  have HK := Lib.hid hK
  have T1 : N ≤ T.size := by omega
  have T2 : T.size ≤ N := by omega
  clear hn hN hz hZ z2 hT t1 t2 hK
  go_enter Try.func14, Try.ntmps14
  go_wp2_with (first
    | (go_at_call 24; refine (may_any k m 0 _).mono ?_; rintro e w1 ⟨rfl, rfl⟩; rw [show mayB (k : Int) (m : Int) 0 = true from H.out])
    | (go_at_call 10; refine (size_ok k t.size _ h1 (by omega) (by omega)).mono ?_; rintro e w1 ⟨rfl, rfl⟩; rw [← HNN.out])
    | (go_at_call 28; refine (Try.strings_Repeat ⟨#[0]⟩ z _ (by omega) (by show 1 * z ≤ _; omega)).mono ?_; rw [repeat_zeros, ← HZ.out]; rintro e w2 ⟨rfl, hb⟩; have S2 := Lib.hid hb; clear hb))
  rw [← HT.out]
  go_loopw [10, 34] (fun fst ii wr => ∃ i : Nat, i ≤ k ∧ ii = .int .i64 i ∧ wr.ownsRow w2.heap.size 9 1 fst i (scells (cutT T n i)) ∧ Below w2.heap.size w2 wr) (fun _ ii _ => k - (intOf ii).toNat)
  case atStart => exact ⟨0, by omega, rfl, World.ownsRow_nil _ _ _ _, Below.refl _ _⟩
  case round =>
    obtain ⟨i, hi, rfl, hown, hbel⟩ := hrel
    by_cases hlt : i < k
    · obtain ⟨q, hq⟩ : ∃ q, q = i * n := ⟨_, rfl⟩
      have q1 : q + n ≤ N := by
        have h3 : (i + 1) * n ≤ k * n := Nat.mul_le_mul_right n hlt
        rw [Nat.add_mul, Nat.one_mul] at h3
        rw [hq, HN.out]; exact h3
      have q2 : (i : Int) * (n : Int) = (q : Int) := by rw [hq]; simp
      have q3 : ((i : Int) + 1) * (n : Int) = ((q + n : Nat) : Int) := by rw [Int.add_mul, q2]; simp
      have q4 : (i + 1) * n = q + n := by rw [Nat.add_mul, Nat.one_mul, hq]
      have hz := hbel.size
      have S3 := Lib.hid (And.intro hown hbel)
      have HQ := Lib.hid hq
      have HQ4 := Lib.hid q4
      clear hown hbel hq q4
      go_wp2_with (at_builtin; go_loud (skip; refine wpList_append_own _ rfl (.tmp 37) (.tmp 47) 31 rfl w2.heap.size 9 j0 _ 1 16 Try.underlying31 hj0 jz0 jz1 jz2 rfl (by omega) _ i (scells (cutT T n i)) rfl (S3.out.1.alloc _) ⟨wr.heap.size, 0, none⟩ 1 1 [.string (T.extract q (q + n))] rfl rfl (World.news_of_block (cs := #[.string (T.extract q (q + n))]) (t := 9) (fr := (0, 0)) (heap_alloc_new wr _)) (by simp [Value.oneCell']) (by unfold maxLen; omega) (by omega) (Nat.le_trans hz (by simp)) ?_; intro v' w7 hown2 hgr2 hnil2; clear hnil2; have S4 := Lib.hid (And.intro hown2 (own_grown_below (S3.out.1.alloc _) (S3.out.2.alloc hz _) (Nat.le_trans hz (by simp)) hgr2)); clear hown2 hgr2))
      go_roundw
      case measure => simp [intOf]; omega
      case rel =>
        refine ⟨i + 1, by omega, by go_num, ?_, S4.out.2⟩
        rw [cutT_succ, ← HQ.out, HQ4.out]
        exact S4.out.1
    · obtain rfl : k = i := by omega
      rcases hown.2 with ⟨_, h0⟩ | ⟨g3, cap3, cur, rfl, _⟩
      · omega
      · have hs := StrsRd.own hown
        have S3 := Lib.hid (And.intro hs (S2.out.trans (hbel.mono S2.out.size)))
        clear hown hbel hs hlt hi
        go_wp2_with (go_at_call 29; have h9 := S3.out; clear S3; refine (all_own k m cap3 n _ (cutT T n k) _ h1 h2 (cutT_length _ _ _) (cutT_size T n k (by rw [HTS.out, HN.out])) (by omega) h9.1).mono ?_; rw [← HK.out]; rintro e w8 ⟨g8, cap8, rfl, hs, hb⟩; have S4 := Lib.hid (And.intro (own_base hs h9.2.size) (h9.2.trans (hb.mono h9.2.size))); clear h9 hs hb)
        go_ret2
        exact ⟨g8, cap8, rfl, S4.out.1, S4.out.2⟩
end Go.Proofs.Ytbnfnijjldimkab
