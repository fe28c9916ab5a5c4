/-
  What shards are, without Go: they come back, they join, a byte that is another one is found, sums.
-/
import Derived.Test.YtbnfnijjldimkabEcheck
import Derived.Test.YtbnfnijjldimkabEjoin
import Derived.Test.YtbnfnijjldimkabErest
namespace Go.Proofs.Ytbnfnijjldimkab
open Go.RowKit
set_option linter.unusedVariables false
set_option linter.unusedSimpArgs false
theorem rowText_congr {x y : Nat → BitVec 8} {cols : List ByteArray} {len : Nat} : ∀ k, (∀ j, j < k → x j = y j) → rowText x cols len k = rowText y cols len k
  | 0, _ => rfl
  | k + 1, h => by rw [rowText, rowText, rowText_congr k (fun j hj => h j (by omega)), h k (by omega)]
theorem rowStr_congr {x y : Nat → BitVec 8} {cols : List ByteArray} {len k : Nat} (h : ∀ j, j < k → x j = y j) : rowStr x cols len k = rowStr y cols len k := by
  unfold rowStr; rw [rowText_congr k h]
theorem rowStrs_congr {A B : Nat → Nat → BitVec 8} {cols : List ByteArray} {len k r : Nat} (h : ∀ i j, i < r → j < k → A i j = B i j) : rowStrs A cols len k r = rowStrs B cols len k r := by
  unfold rowStrs
  exact List.map_congr_left fun i hi => rowStr_congr fun j hj => h i j (by simpa using hi) hj
theorem rowStr_idm {cols : List ByteArray} {len k : Nat} (h : ∀ i, i < cols.length → (cols.getD i ⟨#[]⟩).size = len) (hk : k ≤ cols.length) {i : Nat} (hi : i < k) : rowStr (idm i) cols len k = cols.getD i ⟨#[]⟩ := by
  refine (rowStr_ext h hk (h i (by omega)) fun p hp => ?_).symm
  rw [sm_one (k := i) hi (fun j _ hj => by unfold idm; rw [if_neg (fun e => hj e.symm), gm_zero_left])]
  unfold idm; rw [if_pos rfl, gm_one_left]
theorem rowStrs_idm {cols : List ByteArray} {len k : Nat} (h : ∀ i, i < cols.length → (cols.getD i ⟨#[]⟩).size = len) (hk : cols.length = k) : rowStrs idm cols len k k = cols := by
  refine getD_ext (by rw [rowStrs_length, hk]) fun i hi => ?_
  rw [rowStrs_length] at hi
  rw [rowStrs_get _ _ _ _ _ _ hi, rowStr_idm h (by omega) hi]
theorem rowStrs_chain (A B : Nat → Nat → BitVec 8) (cols : List ByteArray) (len n m r : Nat) (h : ∀ i, i < cols.length → (cols.getD i ⟨#[]⟩).size = len) (hm : m ≤ cols.length) : rowStrs A (rowStrs B cols len m n) len n r = rowStrs (mmul n A B) cols len m r := by
  unfold rowStrs
  exact List.map_congr_left fun i _ => (rowStr_chain A B cols len n m i h hm).symm
/-- what Restore answers is one thing -/
theorem rest_one {k m n : Nat} {L : List (Bool × ByteArray)} {c c' : Int} {T T' : List ByteArray} (hK : k + m ≤ 255) (h : RestOut k m n L c T) (h' : RestOut k m n L c' T') : c = c' ∧ T = T' := by
  rcases h with ⟨⟨j, hj, h1, h2⟩, rfl, rfl⟩ | ⟨ha, hb, rfl, rfl⟩ | ⟨ha, hb, rfl, B, hB, rfl⟩
  · rcases h' with ⟨_, rfl, rfl⟩ | ⟨ha', _⟩ | ⟨ha', _⟩
    · exact ⟨rfl, rfl⟩
    · exact absurd (ha' j hj h1) h2
    · exact absurd (ha' j hj h1) h2
  · rcases h' with ⟨⟨j, hj, h1, h2⟩, _⟩ | ⟨_, _, rfl, rfl⟩ | ⟨_, hb', _⟩
    · exact absurd (ha j hj h1) h2
    · exact ⟨rfl, rfl⟩
    · omega
  · rcases h' with ⟨⟨j, hj, h1, h2⟩, _⟩ | ⟨_, hb', _⟩ | ⟨_, _, rfl, B', hB', rfl⟩
    · exact absurd (ha j hj h1) h2
    · omega
    · refine ⟨rfl, ?_⟩
      have hI : Inj k (restP k L (k + m)) := by
        have h9 := rest_inj (L := L) (k := k) (m := m) rfl hK hb
        intro x hx c hc
        refine h9 x (fun i hi => ?_) c hc
        rw [← hx i hi]
        refine sm_congr fun j hj => ?_
        show gm (gen k (((whF L (k + m)).take k).getD i 0) j) (x j) = gm (gen k ((whF L (k + m)).getD i 0) j) (x j)
        rw [take_getD _ _ _ hi]
      have hE := unique_of_inj hI (fun i l hi hl => (hB i l hi hl).trans (hB' i l hi hl).symm)
      rw [rowStrs_congr (fun i j hi hj => hE i j hi hj)]
theorem shards_length (k m : Nat) (t : ByteArray) : (shards k m t).length = k + m := rowStrs_length _ _ _ _ _
theorem cut_size (k : Nat) (t : ByteArray) (h1 : 1 ≤ k) : ∀ i, i < (cutT (padT t (k * szOf k t.size)) (szOf k t.size) k).length → ((cutT (padT t (k * szOf k t.size)) (szOf k t.size) k).getD i ⟨#[]⟩).size = szOf k t.size :=
  cutT_size _ _ _ (padT_size t _ (szOf_lo k t.size h1))
theorem shards_size (k m : Nat) (t : ByteArray) (h1 : 1 ≤ k) (i : Nat) (hi : i < k + m) : ((shards k m t).getD i ⟨#[]⟩).size = szOf k t.size :=
  rowStrs_size _ _ _ _ _ (cut_size k t h1) (by rw [cutT_length]; exact Nat.le_refl _) i (by rw [rowStrs_length]; exact hi)
theorem shards_get (k m : Nat) (t : ByteArray) (i : Nat) (hi : i < k + m) : (shards k m t).getD i ⟨#[]⟩ = rowStr (gen k i) (cutT (padT t (k * szOf k t.size)) (szOf k t.size) k) (szOf k t.size) k := rowStrs_get _ _ _ _ _ _ hi
theorem shards_take (k m : Nat) (t : ByteArray) (h1 : 1 ≤ k) : (shards k m t).take k = cutT (padT t (k * szOf k t.size)) (szOf k t.size) k := by
  refine getD_ext (by rw [List.length_take, shards_length, cutT_length]; omega) fun i hi => ?_
  rw [List.length_take, shards_length] at hi
  have hik : i < k := by omega
  have e1 : ((shards k m t).take k).getD i ⟨#[]⟩ = (shards k m t).getD i ⟨#[]⟩ := by
    rw [List.getD_eq_getElem?_getD, List.getD_eq_getElem?_getD, List.getElem?_take, if_pos hik]
  rw [e1, shards_get k m t i (by omega), rowStr_congr (y := idm i) (fun j _ => by unfold gen; rw [if_pos hik]), rowStr_idm (cut_size k t h1) (by rw [cutT_length]; exact Nat.le_refl _) hik]
theorem map_take {α β : Type} (f : α → β) (l : List α) (k : Nat) : (l.map f).take k = (l.take k).map f := by simp
/-- shards come back -/
theorem rest_shards {k m : Nat} {t : ByteArray} {L : List (Bool × ByteArray)} {c : Int} {T : List ByteArray} (h1 : 1 ≤ k) (hK : k + m ≤ 255) (hL : ∀ j, j < k + m → (pcAt L j).1 = true → (pcAt L j).2 = (shards k m t).getD j ⟨#[]⟩) (hk : k ≤ (whF L (k + m)).length) (h : RestOut k m (szOf k t.size) L c T) : c = 0 ∧ T = shards k m t := by
  obtain ⟨n, hn⟩ : ∃ n, n = szOf k t.size := ⟨_, rfl⟩
  rcases h with ⟨⟨j, hj, h2, h3⟩, _⟩ | ⟨_, hb, _⟩ | ⟨ha, hb, rfl, B, hB, rfl⟩
  · exact absurd (by rw [hL j hj h2, shards_size k m t h1 j hj]) h3
  · omega
  · refine ⟨rfl, ?_⟩
    have hcs := cut_size k t h1
    have hcl := cutT_length (padT t (k * szOf k t.size)) (szOf k t.size) k
    obtain ⟨cols, hcols⟩ : ∃ cols, cols = cutT (padT t (k * szOf k t.size)) (szOf k t.size) k := ⟨_, rfl⟩
    rw [← hcols, ← hn] at hcs
    rw [← hcols] at hcl
    have hhv : (hvF L (k + m)).take k = rowStrs (restP k L (k + m)) cols n k k := by
      refine getD_ext (by rw [rowStrs_length, List.length_take, hvF_length]; omega) fun i hi => ?_
      rw [List.length_take, hvF_length] at hi
      have hik : i < k := by omega
      have hiw : i < (whF L (k + m)).length := by omega
      rw [rowStrs_get _ _ _ _ _ _ hik]
      have e1 : ((hvF L (k + m)).take k).getD i ⟨#[]⟩ = (pcAt L ((whF L (k + m)).getD i 0)).2 := by
        rw [List.getD_eq_getElem?_getD, List.getElem?_take, if_pos hik]
        unfold hvF
        rw [List.getElem?_map, List.getElem?_eq_getElem hiw, List.getD_eq_getElem?_getD, List.getElem?_eq_getElem hiw]
        rfl
      have hmem : (whF L (k + m)).getD i 0 ∈ whF L (k + m) := by
        rw [List.getD_eq_getElem?_getD, List.getElem?_eq_getElem hiw, Option.getD_some]
        exact List.getElem_mem _
      have h5 := whF_lt hmem
      rw [e1, hL _ h5.1 h5.2, shards_get k m t _ h5.1, ← hcols, ← hn]
      rfl
    have hI : Inj k (restP k L (k + m)) := by
      have h9 := rest_inj (L := L) (k := k) (m := m) rfl hK hb
      intro x hx c hc
      refine h9 x (fun i hi => ?_) c hc
      rw [← hx i hi]
      refine sm_congr fun j hj => ?_
      show gm (gen k (((whF L (k + m)).take k).getD i 0) j) (x j) = gm (gen k ((whF L (k + m)).getD i 0) j) (x j)
      rw [take_getD _ _ _ hi]
    have hLI := linv_of_rinv hI hB
    rw [← hn, hhv, rowStrs_chain B (restP k L (k + m)) cols n k k k hcs (by omega), rowStrs_congr (B := idm) (fun i j hi hj => hLI i j hi hj), rowStrs_idm hcs hcl]
    unfold shards
    rw [← hcols, ← hn]
/-- they join -/
theorem flat_cut (l : List UInt8) (n : Nat) : ∀ k, ((List.range k).map fun i => (l.take ((i + 1) * n)).drop (i * n)).flatten = l.take (k * n)
  | 0 => by simp
  | k + 1 => by
    rw [List.range_succ, List.map_append, List.flatten_append, flat_cut l n k]
    simp only [List.map_cons, List.map_nil, List.flatten_cons, List.flatten_nil, List.append_nil]
    have e : (k + 1) * n = k * n + n := by rw [Nat.add_mul, Nat.one_mul]
    rw [e]
    have h3 : l.take (k * n) = (l.take (k * n + n)).take (k * n) := by rw [List.take_take, Nat.min_eq_left (by omega)]
    rw [h3]
    exact List.take_append_drop _ _
theorem cat_cut (T : ByteArray) (n k : Nat) (h : T.size = k * n) : catT (cutT T n k) = T := by
  have e : ((cutT T n k).map (·.data.toList)).flatten = T.data.toList := by
    unfold cutT
    rw [List.map_map]
    have h2 : ((fun s : ByteArray => s.data.toList) ∘ fun i => T.extract (i * n) ((i + 1) * n)) = fun i => (T.data.toList.take ((i + 1) * n)).drop (i * n) := by
      funext i
      simp [ByteArray.data_extract, List.drop_take]
    rw [h2, flat_cut]
    exact List.take_of_length_le (by simp; omega)
  unfold catT
  rw [e]
theorem pad_cut (t : ByteArray) (N : Nat) (h : t.size ≤ N) : (padT t N).extract 0 t.size = t := by
  unfold padT
  exact ByteArray.extract_append_eq_left rfl
theorem join_shards {k m : Nat} {t : ByteArray} (h1 : 1 ≤ k) (hK : k + m ≤ 255) : joinCode k t.size (shards k m t) = 0 ∧ joinText k t.size (shards k m t) = t := by
  have hc : joinCode k t.size (shards k m t) = 0 := by
    rw [joinCode_nat h1 (by omega) (by rw [shards_length]; omega), if_pos (fun i hi => shards_size k m t h1 i (by omega))]
  refine ⟨hc, ?_⟩
  unfold joinText
  rw [if_pos hc]
  simp only [Int.toNat_natCast]
  rw [shards_take k m t h1, cat_cut _ _ _ (padT_size t _ (szOf_lo k t.size h1)), pad_cut t _ (szOf_lo k t.size h1)]
theorem checkCode_nat {k m : Nat} {ss : List ByteArray} (h1 : 1 ≤ k) (hK : k + m ≤ 255) (hl : ss.length = k + m) {n : Nat} (hs : ∀ i, i < k + m → (ss.getD i ⟨#[]⟩).size = n) : checkCode k m ss = 0 := by
  unfold checkCode
  rw [if_neg (by rw [show mayB (k : Int) (m : Int) 0 = true from mayB_ok (c := 0) h1 hK]; simp), if_neg (by rw [hl]; simp), if_pos (fun i hi => by rw [hs i (by omega), hs 0 (by omega)])]
theorem check_shards {k m : Nat} {t : ByteArray} (h1 : 1 ≤ k) (hK : k + m ≤ 255) : checkCode k m (shards k m t) = 0 ∧ checkOk k m (shards k m t) = true := by
  have hc : checkCode k m (shards k m t) = 0 := checkCode_nat h1 hK (shards_length k m t) (shards_size k m t h1)
  refine ⟨hc, ?_⟩
  unfold checkOk
  rw [if_pos hc]
  refine decide_eq_true ?_
  rw [Int.toNat_natCast, shards_take k m t h1, shards_size k m t h1 0 (by omega), shards_length]
  rfl
theorem shards_small (k m : Nat) (t : ByteArray) (h1 : 1 ≤ k) (ht : t.size ≤ 50000) (i : Nat) (hi : i < (shards k m t).length) : ((shards k m t).getD i ⟨#[]⟩).size ≤ 100000 := by
  rw [shards_length] at hi
  rw [shards_size k m t h1 i hi]
  have := szOf_le k t.size h1
  omega
end Go.Proofs.Ytbnfnijjldimkab
namespace Go.Proofs.Ytbnfnijjldimkab
open Go.RowKit
set_option linter.unusedVariables false
set_option linter.unusedSimpArgs false
theorem iv_ne (a : BitVec 8) (h : a ≠ 0#8) : iv a ≠ 0#8 := by
  intro e
  have h2 := gm_iv a h
  rw [e, gm_zero_right] at h2
  exact absurd h2 (by decide)
theorem cau_ne {k i j : Nat} (hj : j < k) (hk : k + i < 256) : cau k i j ≠ 0#8 := by
  unfold cau ivv0
  have h : BitVec.ofNat 8 (k + i) ^^^ BitVec.ofNat 8 j ≠ 0#8 := by
    intro e
    have := ofNat_inj8 hk (by omega) (eq_of_xor_zero e)
    omega
  rw [if_neg h]
  exact iv_ne _ h
/-- a byte turned -/
theorem one_found {k m n p : Nat} {t s : ByteArray} {d : BitVec 8} (h1 : 1 ≤ k) (hm : 1 ≤ m) (hK : k + m ≤ 255) (hn : n < k + m) (hp : p < szOf k t.size) (hd : d ≠ 0#8) (hs : s.size = szOf k t.size)
    (hb : ∀ q, q < szOf k t.size → byteAt s q = if q = p then byteAt ((shards k m t).getD n ⟨#[]⟩) q ^^^ d else byteAt ((shards k m t).getD n ⟨#[]⟩) q) :
    checkCode k m ((shards k m t).set n s) = 0 ∧ checkOk k m ((shards k m t).set n s) = false := by
  obtain ⟨N, hN⟩ : ∃ N, N = szOf k t.size := ⟨_, rfl⟩
  obtain ⟨ss, hss⟩ : ∃ ss, ss = (shards k m t).set n s := ⟨_, rfl⟩
  rw [← hss]
  rw [← hN] at hp hs hb
  have hlen : ss.length = k + m := by rw [hss, List.length_set, shards_length]
  have hget : ∀ i, i < k + m → ss.getD i ⟨#[]⟩ = if i = n then s else (shards k m t).getD i ⟨#[]⟩ := fun i hi => by
    rw [hss, List.getD_eq_getElem?_getD, List.getElem?_set, List.getD_eq_getElem?_getD]
    by_cases e : n = i
    · rw [if_pos e, if_pos e.symm, if_pos (by rw [shards_length]; omega)]; rfl
    · rw [if_neg e, if_neg (fun h => e h.symm)]
  have hsz : ∀ i, i < k + m → (ss.getD i ⟨#[]⟩).size = N := fun i hi => by
    rw [hget i hi]
    split
    · exact hs
    · rw [shards_size k m t h1 i hi, hN]
  have hc : checkCode k m ss = 0 := checkCode_nat h1 hK hlen hsz
  refine ⟨hc, ?_⟩
  unfold checkOk
  rw [if_pos hc]
  refine decide_eq_false fun e => ?_
  rw [Int.toNat_natCast, hsz 0 (by omega), hlen] at e
  have htl : (ss.take k).length = k := by rw [List.length_take, hlen]; omega
  have htg : ∀ i, i < k → (ss.take k).getD i ⟨#[]⟩ = ss.getD i ⟨#[]⟩ := fun i hi => by
    rw [List.getD_eq_getElem?_getD, List.getD_eq_getElem?_getD, List.getElem?_take, if_pos hi]
  have hts : ∀ i, i < (ss.take k).length → ((ss.take k).getD i ⟨#[]⟩).size = N := fun i hi => by rw [htg i (by omega), hsz i (by omega)]
  have hrow : ∀ i, i < k + m → ∀ q, q < N → byteAt (ss.getD i ⟨#[]⟩) q = sm k fun j => gm (gen k i j) (byteAt (ss.getD j ⟨#[]⟩) q) := fun i hi q hq => by
    have e2 : ss.getD i ⟨#[]⟩ = rowStr (gen k i) (ss.take k) N k := by rw [← rowStrs_get (gen k) (ss.take k) N k (k + m) i hi, e]
    rw [e2, byteAt_row _ _ _ hts _ (by omega) q hq]
    exact sm_congr fun j hj => by rw [htg j hj]
  have hcs := cut_size k t h1
  have hcl := cutT_length (padT t (k * szOf k t.size)) (szOf k t.size) k
  have horig : ∀ i, i < k + m → ∀ q, q < N → byteAt ((shards k m t).getD i ⟨#[]⟩) q = sm k fun j => gm (gen k i j) (byteAt ((shards k m t).getD j ⟨#[]⟩) q) := fun i hi q hq => by
    have hT := shards_take k m t h1
    rw [shards_get k m t i hi, byteAt_row _ _ _ hcs _ (by rw [hcl]; exact Nat.le_refl _) q (by rw [← hN]; exact hq)]
    refine sm_congr fun j hj => ?_
    rw [← hT, List.getD_eq_getElem?_getD, List.getElem?_take, if_pos hj, ← List.getD_eq_getElem?_getD]
  have hx : ∀ a : BitVec 8, a ≠ a ^^^ d := fun a ha => hd (by
    have : a ^^^ a = a ^^^ (a ^^^ d) := by rw [← ha]
    rw [← BitVec.xor_assoc, BitVec.xor_self, BitVec.zero_xor] at this
    exact this.symm)
  by_cases hnk : n < k
  · have a1 := hrow k (by omega) p hp
    have a2 := horig k (by omega) p hp
    rw [hget k (by omega), if_neg (by omega), a2] at a1
    have a3 : (sm k fun j => gm (gen k k j) (byteAt (ss.getD j ⟨#[]⟩) p)) = (sm k fun j => gm (gen k k j) (byteAt ((shards k m t).getD j ⟨#[]⟩) p)) ^^^ gm (gen k k n) d := by
      have e4 : (sm k fun j => gm (gen k k j) (if j = n then d else 0#8)) = gm (gen k k n) d := by
        rw [sm_one (k := n) hnk (fun j _ hj => by rw [if_neg hj, gm_zero_right]), if_pos rfl]
      rw [← e4, ← sm_xor]
      refine sm_congr fun j hj => ?_
      rw [← gm_xor_right, hget j (by omega)]
      by_cases ej : j = n
      · rw [if_pos ej, if_pos ej, hb p hp, if_pos rfl, ej]
      · rw [if_neg ej, if_neg ej, BitVec.xor_zero]
    rw [a3] at a1
    have hg : gm (gen k k n) d ≠ 0#8 := by
      intro e5
      rcases (gm_eq_zero _ _).1 e5 with h | h
      · unfold gen at h
        rw [if_neg (by omega)] at h
        exact cau_ne hnk (by omega) h
      · exact hd h
    refine hg ?_
    obtain ⟨a, ha⟩ : ∃ a, a = sm k fun j => gm (gen k k j) (byteAt ((shards k m t).getD j ⟨#[]⟩) p) := ⟨_, rfl⟩
    rw [← ha] at a1
    have : a ^^^ a = a ^^^ (a ^^^ gm (gen k k n) d) := by rw [← a1]
    rw [← BitVec.xor_assoc, BitVec.xor_self, BitVec.zero_xor] at this
    exact this.symm
  · have a1 := hrow n hn p hp
    have a2 := horig n hn p hp
    rw [hget n hn, if_pos rfl, hb p hp, if_pos rfl] at a1
    have a3 : (sm k fun j => gm (gen k n j) (byteAt (ss.getD j ⟨#[]⟩) p)) = byteAt ((shards k m t).getD n ⟨#[]⟩) p := by
      rw [a2]
      refine sm_congr fun j hj => ?_
      rw [hget j (by omega), if_neg (by omega)]
    rw [a3] at a1
    exact hx _ a1.symm
/-- sums -/
theorem byteAt_pad {t : ByteArray} {N : Nat} (h : t.size ≤ N) (p : Nat) (hp : p < N) : byteAt (padT t N) p = byteAt t p := by
  unfold byteAt padT
  congr 1
  rw [ByteArray.data_append, Array.toList_append, List.getD_eq_getElem?_getD, List.getD_eq_getElem?_getD, List.getElem?_append]
  split
  · rfl
  · rename_i h2
    have h3 : t.data.toList.length ≤ p := by omega
    rw [List.getElem?_eq_none h3]
    unfold zeros
    simp only [List.toList_toArray, List.getElem?_replicate]
    split <;> rfl
theorem byteAt_cut {T : ByteArray} {n k i p : Nat} (h : T.size = k * n) (hi : i < k) (hp : p < n) : byteAt ((cutT T n k).getD i ⟨#[]⟩) p = byteAt T (i * n + p) := by
  rw [cutT_get T n k i hi]
  unfold byteAt
  congr 1
  have e : (i + 1) * n = i * n + n := by rw [Nat.add_mul, Nat.one_mul]
  have h2 : (i + 1) * n ≤ k * n := Nat.mul_le_mul_right n hi
  rw [ByteArray.data_extract, List.getD_eq_getElem?_getD, List.getD_eq_getElem?_getD]
  simp only [Array.toList_extract, List.extract_eq_take_drop, List.getElem?_take, List.getElem?_drop]
  rw [if_pos (by omega)]
theorem shards_byte (k m : Nat) (t : ByteArray) (h1 : 1 ≤ k) (i p : Nat) (hi : i < k + m) (hp : p < szOf k t.size) : byteAt ((shards k m t).getD i ⟨#[]⟩) p = sm k fun j => gm (gen k i j) (byteAt t (j * szOf k t.size + p)) := by
  have hT := padT_size t _ (szOf_lo k t.size h1)
  rw [shards_get k m t i hi, byteAt_row _ _ _ (cut_size k t h1) _ (by rw [cutT_length]; exact Nat.le_refl _) p hp]
  refine sm_congr fun j hj => ?_
  rw [byteAt_cut hT hj hp]
  have e : (j + 1) * szOf k t.size = j * szOf k t.size + szOf k t.size := by rw [Nat.add_mul, Nat.one_mul]
  have h2 : (j + 1) * szOf k t.size ≤ k * szOf k t.size := Nat.mul_le_mul_right _ hj
  rw [byteAt_pad (szOf_lo k t.size h1) _ (by omega)]
theorem shards_sum (k m : Nat) (a b c : ByteArray) (h1 : 1 ≤ k) (ha : a.size = c.size) (hb : b.size = c.size) (hc : ∀ p, p < c.size → byteAt c p = byteAt a p ^^^ byteAt b p) (i p : Nat) (hi : i < k + m) (hp : p < szOf k c.size) :
    byteAt ((shards k m a).getD i ⟨#[]⟩) p ^^^ byteAt ((shards k m b).getD i ⟨#[]⟩) p = byteAt ((shards k m c).getD i ⟨#[]⟩) p := by
  rw [shards_byte k m a h1 i p hi (by rw [ha]; exact hp), shards_byte k m b h1 i p hi (by rw [hb]; exact hp), shards_byte k m c h1 i p hi hp, ← sm_xor]
  refine sm_congr fun j hj => ?_
  rw [← gm_xor_right, ha, hb]
  congr 1
  by_cases h : j * szOf k c.size + p < c.size
  · rw [hc _ h]
  · have z : ∀ s : ByteArray, s.size ≤ j * szOf k c.size + p → byteAt s (j * szOf k c.size + p) = 0#8 := fun s hs => by
      unfold byteAt
      rw [List.getD_eq_getElem?_getD, List.getElem?_eq_none (by simp; exact hs)]
      rfl
    rw [z a (by omega), z b (by omega), z c (by omega)]
    rfl
end Go.Proofs.Ytbnfnijjldimkab
