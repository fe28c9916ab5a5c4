/-
  The walks of erasure.Encode and of the document's.
-/
import Derived.Test.YtbnfnijjldimkabErows
import Derived.Test.YtbnfnijjldimkabShelf
namespace Go.Proofs.Ytbnfnijjldimkab
open Go.RowKit
set_option linter.unusedVariables false
set_option linter.unusedSimpArgs false
/-- bytes 0 -/
def zeros (n : Nat) : ByteArray := ⟨(List.replicate n 0).toArray⟩
theorem zeros_size (n : Nat) : (zeros n).size = n := by
  show (List.replicate n (0 : UInt8)).toArray.size = n
  rw [List.size_toArray, List.length_replicate]
theorem repeat_zeros (z : Nat) : (⟨(Lib.repeatL (⟨#[0]⟩ : ByteArray).data.toList z).toArray⟩ : ByteArray) = zeros z := by
  unfold zeros
  congr 2
  show Lib.repeatL [0] z = List.replicate z 0
  induction z with
  | zero => rfl
  | succ z ih => rw [List.replicate_succ, ← ih]; rfl
/-- a text, cut -/
def cutT (T : ByteArray) (n k : Nat) : List ByteArray := (List.range k).map fun i => T.extract (i * n) ((i + 1) * n)
theorem cutT_length (T : ByteArray) (n k : Nat) : (cutT T n k).length = k := by simp [cutT]
theorem cutT_get (T : ByteArray) (n k i : Nat) (h : i < k) : (cutT T n k).getD i ⟨#[]⟩ = T.extract (i * n) ((i + 1) * n) := by
  rw [List.getD_eq_getElem?_getD]
  simp [cutT, h]
theorem cutT_succ (T : ByteArray) (n k : Nat) : scells (cutT T n (k + 1)) = scells (cutT T n k) ++ [.string (T.extract (k * n) ((k + 1) * n))] := by
  unfold scells cutT
  rw [List.range_succ, List.map_append, List.map_append]
  rfl
theorem cutT_size (T : ByteArray) (n k : Nat) (h : T.size = k * n) : ∀ i, i < (cutT T n k).length → ((cutT T n k).getD i ⟨#[]⟩).size = n := by
  intro i hi
  rw [cutT_length] at hi
  rw [cutT_get T n k i hi, ByteArray.size_extract, h]
  have h1 : (i + 1) * n ≤ k * n := Nat.mul_le_mul_right n hi
  have h2 : (i + 1) * n = i * n + n := by rw [Nat.add_mul, Nat.one_mul]
  omega
/-- a text, made longer -/
def padT (t : ByteArray) (N : Nat) : ByteArray := t ++ zeros (N - t.size)
theorem padT_size (t : ByteArray) (N : Nat) (h : t.size ≤ N) : (padT t N).size = N := by
  unfold padT
  rw [ByteArray.size_append, zeros_size]
  omega
theorem szOf_lo (k l : Nat) (hk : 1 ≤ k) : l ≤ k * szOf k l := by
  unfold szOf
  have h := Nat.div_add_mod l k
  split
  · have := Nat.mod_lt l (show k > 0 by omega)
    rw [Nat.mul_add]
    omega
  · rw [Nat.mul_add]
    omega
theorem szOf_hi (k l : Nat) (hk : 1 ≤ k) : k * szOf k l ≤ l + k := by
  unfold szOf
  have h := Nat.div_add_mod l k
  split
  · rw [Nat.mul_add]; omega
  · rw [Nat.mul_add]; omega
theorem szOf_le (k l : Nat) (hk : 1 ≤ k) : szOf k l ≤ l + 1 := by
  unfold szOf
  have := Nat.div_le_self l k
  split <;> omega
/-- a text's shards -/
def shards (k m : Nat) (t : ByteArray) : List ByteArray := rowStrs (gen k) (cutT (padT t (k * szOf k t.size)) (szOf k t.size) k) (szOf k t.size) k (k + m)
theorem encode_bad (k m : Int) (t : ByteArray) (w : World) (h : mayB k m 0 = false) :
    Calls Try.prog 14 #[.int .i64 k, .int .i64 m, .string t] w fun e w' => ∃ ev, e = .returned (.tuple #[.slice none 0 0, ev]) ∧ ErrAt w.heap.size w' ev 1 ∧ Below w.heap.size w w' := by
  have H := Lib.hid h
  clear h
  go_enter Try.func14, Try.ntmps14
  go_wp2_with (first
    | (go_at_call 24; refine (may_any k m 0 _).mono ?_; rintro e w1 ⟨rfl, rfl⟩; rw [H.out])
    | (go_at_call 25; refine (efault_any 1 (by decide) _).mono ?_; rintro e w2 ⟨ev, rfl, he, hb⟩; have S2 := Lib.hid (And.intro he hb); clear he hb))
  go_ret2
  exact ⟨ev, rfl, S2.out.1, S2.out.2⟩
theorem rencode_bad (k m : Int) (t : ByteArray) (w : World) (h : mayB k m 0 = false) :
    Calls Try.prog 15 #[.int .i64 k, .int .i64 m, .string t] w fun e w' => e = .returned (.tuple #[.slice none 0 0, .int .i64 1]) ∧ w = w' := by
  have H := Lib.hid h
  clear h
  go_enter Try.func15, Try.ntmps15
  go_wp2_with (go_at_call 26; refine (wrong_any k m 0 _).mono ?_; rintro e w1 ⟨rfl, rfl⟩; rw [H.out])
  go_ret2
  exact ⟨rfl, rfl⟩
set_option maxRecDepth 100000 in
set_option maxHeartbeats 3200000 in
theorem encode_ok (k m : Nat) (t : ByteArray) (w : World) (h1 : 1 ≤ k) (h2 : k + m ≤ 255) (ht : t.size ≤ 50000) :
    Calls Try.prog 14 #[.int .i64 k, .int .i64 m, .string t] w fun e w' => ∃ g cap', e = .returned (.tuple #[.slice (some ⟨g, 0, none⟩) (k + m) cap', .nilIface]) ∧ (StrsRd w' (some ⟨g, 0, none⟩) (shards k m t) ∧ k + m ≤ cap' ∧ cap' ≤ 9223372036854775807) ∧ Below w.heap.size w w' := by
  obtain ⟨n, hn⟩ : ∃ n, n = szOf k t.size := ⟨_, rfl⟩
  obtain ⟨N, hN⟩ : ∃ N, N = k * n := ⟨_, rfl⟩
  have n1 : t.size ≤ N := by rw [hN, hn]; exact szOf_lo k t.size h1
  have n2 : N ≤ t.size + k := by rw [hN, hn]; exact szOf_hi k t.size h1
  have n3 : n ≤ t.size + 1 := by rw [hn]; exact szOf_le k t.size h1
  obtain ⟨z, hz⟩ : ∃ z, z = N - t.size := ⟨_, rfl⟩
  have e1 : (k : Int) * (n : Int) = (N : Int) := by rw [hN]; simp
  have e2 : (N : Int) - (t.size : Int) = (z : Int) := by omega
  have z1 : z ≤ 255 := by omega
  obtain ⟨Z, hZ⟩ : ∃ Z, Z = zeros z := ⟨_, rfl⟩
  have z2 : Z.size = z := by rw [hZ, zeros_size]
  have z3 : t.size + Z.size ≤ 9223372036854775807 := by omega
  obtain ⟨T, hT⟩ : ∃ T, T = t ++ Z := ⟨_, rfl⟩
  have t1 : T.size = N := by rw [hT, ByteArray.size_append, z2]; omega
  have t2 : T = padT t N := by unfold padT; rw [hT, hZ, hz]
  obtain ⟨K, hK⟩ : ∃ K, K = k + m := ⟨_, rfl⟩
  obtain ⟨j0, hj0, jz0, jz1, jz2⟩ := info_parts strparts
  unfold shards
  rw [← hn, ← hN, ← t2, ← hK]
  have H := Lib.hid (mayB_ok (c := 0) h1 h2)
  have HN := Lib.hid hN
  have HNN := Lib.hid hn
  have HZ := Lib.hid hZ
  have HT := Lib.hid hT
  have HTS := Lib.hid t1
  have HK := Lib.hid hK
  have T1 : N ≤ T.size := by omega
  have T2 : T.size ≤ N := by omega
  clear hn hN hz hZ z2 hT t1 t2 hK
  go_enter Try.func14, Try.ntmps14
  go_wp2_with (first
    | (go_at_call 24; refine (may_any k m 0 _).mono ?_; rintro e w1 ⟨rfl, rfl⟩; rw [show mayB (k : Int) (m : Int) 0 = true from H.out])
    | (go_at_call 10; refine (size_ok k t.size _ h1 (by omega) (by omega)).mono ?_; rintro e w1 ⟨rfl, rfl⟩; rw [← HNN.out])
    | (go_at_call 28; refine (Try.strings_Repeat ⟨#[0]⟩ z _ (by omega) (by show 1 * z ≤ _; omega)).mono ?_; rw [repeat_zeros, ← HZ.out]; rintro e w2 ⟨rfl, hb⟩; have S2 := Lib.hid hb; clear hb))
  rw [← HT.out]
  go_loopw [10, 34] (fun fst ii wr => ∃ i : Nat, i ≤ k ∧ ii = .int .i64 i ∧ wr.ownsRow w2.heap.size 9 1 fst i (scells (cutT T n i)) ∧ Below w2.heap.size w2 wr) (fun _ ii _ => k - (intOf ii).toNat)
  case atStart => exact ⟨0, by omega, rfl, World.ownsRow_nil _ _ _ _, Below.refl _ _⟩
  case round =>
    obtain ⟨i, hi, rfl, hown, hbel⟩ := hrel
    by_cases hlt : i < k
    · obtain ⟨q, hq⟩ : ∃ q, q = i * n := ⟨_, rfl⟩
      have q1 : q + n ≤ N := by
        have h3 : (i + 1) * n ≤ k * n := Nat.mul_le_mul_right n hlt
        rw [Nat.add_mul, Nat.one_mul] at h3
        rw [hq, HN.out]; exact h3
      have q2 : (i : Int) * (n : Int) = (q : Int) := by rw [hq]; simp
      have q3 : ((i : Int) + 1) * (n : Int) = ((q + n : Nat) : Int) := by rw [Int.add_mul, q2]; simp
      have q4 : (i + 1) * n = q + n := by rw [Nat.add_mul, Nat.one_mul, hq]
      have hz := hbel.size
      have S3 := Lib.hid (And.intro hown hbel)
      have HQ := Lib.hid hq
      have HQ4 := Lib.hid q4
      clear hown hbel hq q4
      go_wp2_with (at_builtin; go_loud (skip; refine wpList_append_own _ rfl (.tmp 37) (.tmp 47) 31 rfl w2.heap.size 9 j0 _ 1 16 Try.underlying31 hj0 jz0 jz1 jz2 rfl (by omega) _ i (scells (cutT T n i)) rfl (S3.out.1.alloc _) ⟨wr.heap.size, 0, none⟩ 1 1 [.string (T.extract q (q + n))] rfl rfl (World.news_of_block (cs := #[.string (T.extract q (q + n))]) (t := 9) (fr := (0, 0)) (heap_alloc_new wr _)) (by simp [Value.oneCell']) (by unfold maxLen; omega) (by omega) (Nat.le_trans hz (by simp)) ?_; intro v' w7 hown2 hgr2 hnil2; clear hnil2; have S4 := Lib.hid (And.intro hown2 (own_grown_below (S3.out.1.alloc _) (S3.out.2.alloc hz _) (Nat.le_trans hz (by simp)) hgr2)); clear hown2 hgr2))
      go_roundw
      case measure => simp [intOf]; omega
      case rel =>
        refine ⟨i + 1, by omega, by go_num, ?_, S4.out.2⟩
        rw [cutT_succ, ← HQ.out, HQ4.out]
        exact S4.out.1
    · obtain rfl : k = i := by omega
      rcases hown.2 with ⟨_, h0⟩ | ⟨g3, cap3, cur, rfl, _⟩
      · omega
      · have hs := StrsRd.own hown
        have S3 := Lib.hid (And.intro hs (S2.out.trans (hbel.mono S2.out.size)))
        clear hown hbel hs hlt hi
        go_wp2_with (go_at_call 29; have h9 := S3.out; clear S3; refine (all_ok k m cap3 n _ (cutT T n k) _ h1 h2 (cutT_length _ _ _) (cutT_size T n k (by rw [HTS.out, HN.out])) (by omega) h9.1).mono ?_; rw [← HK.out]; rintro e w8 ⟨g8, cap8, rfl, hs, hb⟩; have S4 := Lib.hid (And.intro hs (h9.2.trans (hb.mono h9.2.size))); clear h9 hs hb)
        go_ret2
        exact ⟨g8, cap8, rfl, S4.out.1, S4.out.2⟩
end Go.Proofs.Ytbnfnijjldimkab
namespace Go.Proofs.Ytbnfnijjldimkab
open Go.RowKit
set_option linter.unusedVariables false
set_option linter.unusedSimpArgs false
set_option maxRecDepth 100000 in
set_option maxHeartbeats 3200000 in
theorem rencode_ok (k m : Nat) (t : ByteArray) (w : World) (h1 : 1 ≤ k) (h2 : k + m ≤ 255) (ht : t.size ≤ 50000) :
    Calls Try.prog 15 #[.int .i64 k, .int .i64 m, .string t] w fun e w' => ∃ g cap', e = .returned (.tuple #[.slice (some ⟨g, 0, none⟩) (k + m) cap', .int .i64 0]) ∧ StrsRd w' (some ⟨g, 0, none⟩) (shards k m t) ∧ Below w.heap.size w w' := by
  obtain ⟨n, hn⟩ : ∃ n, n = szOf k t.size := ⟨_, rfl⟩
  obtain ⟨N, hN⟩ : ∃ N, N = k * n := ⟨_, rfl⟩
  have n1 : t.size ≤ N := by rw [hN, hn]; exact szOf_lo k t.size h1
  have n2 : N ≤ t.size + k := by rw [hN, hn]; exact szOf_hi k t.size h1
  have n3 : n ≤ t.size + 1 := by rw [hn]; exact szOf_le k t.size h1
  obtain ⟨z, hz⟩ : ∃ z, z = N - t.size := ⟨_, rfl⟩
  have e1 : (k : Int) * (n : Int) = (N : Int) := by rw [hN]; simp
  have e2 : (N : Int) - (t.size : Int) = (z : Int) := by omega
  have z1 : z ≤ 255 := by omega
  obtain ⟨Z, hZ⟩ : ∃ Z, Z = zeros z := ⟨_, rfl⟩
  have z2 : Z.size = z := by rw [hZ, zeros_size]
  have z3 : t.size + Z.size ≤ 9223372036854775807 := by omega
  obtain ⟨T, hT⟩ : ∃ T, T = t ++ Z := ⟨_, rfl⟩
  have t1 : T.size = N := by rw [hT, ByteArray.size_append, z2]; omega
  have t2 : T = padT t N := by unfold padT; rw [hT, hZ, hz]
  obtain ⟨K, hK⟩ : ∃ K, K = k + m := ⟨_, rfl⟩
  obtain ⟨j0, hj0, jz0, jz1, jz2⟩ := info_parts strparts
  obtain ⟨i0, hi0, hz0, hz1, hz2⟩ := info_parts u8parts
  have hmk := run_make_bytes (P := Try.prog) 56 5 i0 Try.underlying56 hi0 hz0 hz1 hz2 z (by omega) w
  have hconv := run_string_of_row (P := Try.prog) _ 56 9 5 Try.underlying56 Try.underlying5 Try.underlying9 (Row0.new w 5 (bcells (List.replicate z 0))).row 0 z z (List.replicate z 0) List.length_replicate (by rw [List.drop_zero]; exact List.take_of_length_le (by rw [bcells_length, List.length_replicate]; exact Nat.le_refl _))
  rw [show (⟨(List.replicate z 0).toArray⟩ : ByteArray) = Z from by rw [hZ]; rfl] at hconv
  have hal := (Below.refl w.heap.size w).alloc (Nat.le_refl _) (.cells (bcells (List.replicate z 0)).toArray 5)
  obtain ⟨w2, hw2⟩ : ∃ w2, w2 = w.alloc (.cells (bcells (List.replicate z 0)).toArray 5) := ⟨_, rfl⟩
  rw [← hw2] at hmk hconv hal
  have S2 := Lib.hid hal
  clear hal hw2 hi0 hz0 hz1 hz2
  unfold shards
  rw [← hn, ← hN, ← t2, ← hK]
  have H := Lib.hid (mayB_ok (c := 0) h1 h2)
  have HN := Lib.hid hN
  have HNN := Lib.hid hn
  have HZ := Lib.hid hZ
  have HT := Lib.hid hT
  have HTS := Lib.hid t1
  have HK := Lib.hid hK
  have T1 : N ≤ T.size := by omega
  have T2 : T.size ≤ N := by omega
  clear hn hN hz hZ z2 hT t1 t2 hK
  go_enter Try.func15, Try.ntmps15
  go_wp2_with (first
    | (go_at_call 26; refine (wrong_any k m 0 _).mono ?_; rintro e w1 ⟨rfl, rfl⟩; rw [show mayB (k : Int) (m : Int) 0 = true from H.out])
    | (go_at_call 11; refine (rsize_ok k t.size _ h1 (by omega) (by omega)).mono ?_; rintro e w1 ⟨rfl, rfl⟩; rw [← HNN.out]))
  rw [← HT.out]
  go_loopw [11, 12] (fun fst ii wr => ∃ i : Nat, i ≤ k ∧ ii = .int .i64 i ∧ wr.ownsRow w2.heap.size 9 1 fst i (scells (cutT T n i)) ∧ Below w2.heap.size w2 wr) (fun _ ii _ => k - (intOf ii).toNat)
  case atStart => exact ⟨0, by omega, rfl, World.ownsRow_nil _ _ _ _, Below.refl _ _⟩
  case round =>
    obtain ⟨i, hi, rfl, hown, hbel⟩ := hrel
    by_cases hlt : i < k
    · obtain ⟨q, hq⟩ : ∃ q, q = i * n := ⟨_, rfl⟩
      have q1 : q + n ≤ N := by
        have h3 : (i + 1) * n ≤ k * n := Nat.mul_le_mul_right n hlt
        rw [Nat.add_mul, Nat.one_mul] at h3
        rw [hq, HN.out]; exact h3
      have q2 : (i : Int) * (n : Int) = (q : Int) := by rw [hq]; simp
      have q3 : ((i : Int) + 1) * (n : Int) = ((q + n : Nat) : Int) := by rw [Int.add_mul, q2]; simp
      have q4 : (i + 1) * n = q + n := by rw [Nat.add_mul, Nat.one_mul, hq]
      have hz := hbel.size
      have S3 := Lib.hid (And.intro hown hbel)
      have HQ := Lib.hid hq
      have HQ4 := Lib.hid q4
      clear hown hbel hq q4
      go_wp2_with (at_builtin; go_loud (skip; refine wpList_append_own _ rfl (.tmp 39) (.tmp 49) 31 rfl w2.heap.size 9 j0 _ 1 16 Try.underlying31 hj0 jz0 jz1 jz2 rfl (by omega) _ i (scells (cutT T n i)) rfl (S3.out.1.alloc _) ⟨wr.heap.size, 0, none⟩ 1 1 [.string (T.extract q (q + n))] rfl rfl (World.news_of_block (cs := #[.string (T.extract q (q + n))]) (t := 9) (fr := (0, 0)) (heap_alloc_new wr _)) (by simp [Value.oneCell']) (by unfold maxLen; omega) (by omega) (Nat.le_trans hz (by simp)) ?_; intro v' w7 hown2 hgr2 hnil2; clear hnil2; have S4 := Lib.hid (And.intro hown2 (own_grown_below (S3.out.1.alloc _) (S3.out.2.alloc hz _) (Nat.le_trans hz (by simp)) hgr2)); clear hown2 hgr2))
      go_roundw
      case measure => simp [intOf]; omega
      case rel =>
        refine ⟨i + 1, by omega, by go_num, ?_, S4.out.2⟩
        rw [cutT_succ, ← HQ.out, HQ4.out]
        exact S4.out.1
    · obtain rfl : k = i := by omega
      rcases hown.2 with ⟨_, h0⟩ | ⟨g3, cap3, cur, rfl, _⟩
      · omega
      · have hs := StrsRd.own hown
        have S3 := Lib.hid (And.intro hs (S2.out.trans (hbel.mono S2.out.size)))
        clear hown hbel hs hlt hi
        go_wp2_with (go_at_call 30; have h9 := S3.out; clear S3; refine (rall_ok k m cap3 n _ (cutT T n k) _ h1 h2 (cutT_length _ _ _) (cutT_size T n k (by rw [HTS.out, HN.out])) (by omega) h9.1).mono ?_; rw [← HK.out]; rintro e w8 ⟨g8, cap8, rfl, hs, hb⟩; have S4 := Lib.hid (And.intro hs (h9.2.trans (hb.mono h9.2.size))); clear h9 hs hb)
        go_ret2
        exact ⟨g8, cap8, rfl, S4.out.1, S4.out.2⟩
end Go.Proofs.Ytbnfnijjldimkab
