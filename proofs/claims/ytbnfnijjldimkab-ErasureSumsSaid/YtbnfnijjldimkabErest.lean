/-
  The walk of erasure.Restore.
-/
import Derived.Test.YtbnfnijjldimkabErows
import Derived.Deep.RegionHeld3
import Derived.Deep.RegionLaw
namespace Go.Proofs.Ytbnfnijjldimkab
open Go.RowKit
set_option linter.unusedVariables false
set_option linter.unusedSimpArgs false
/-- pieces that lie behind a slice -/
def PcRd (w : World) (a : Option Addr) (L : List (Bool × ByteArray)) : Prop := ∀ j (h : j < L.length), ∃ g o, a = some ⟨g, o, none⟩ ∧ w.cell? ⟨g, o + j * 2, none⟩ = some (.bool L[j].1) ∧ w.cell? ⟨g, o + j * 2 + 1, none⟩ = some (.string L[j].2)
theorem PcRd.after {w w' : World} {a : Option Addr} {L : List (Bool × ByteArray)} (h : PcRd w a L) (hb : Below w.heap.size w w') : PcRd w' a L := fun j hj => by
  obtain ⟨g, o, ha, h1, h2⟩ := h j hj
  exact ⟨g, o, ha, (hb.cell (p := ⟨g, o + j * 2, none⟩) (rd_cell_lt h1)).trans h1, (hb.cell (p := ⟨g, o + j * 2 + 1, none⟩) (rd_cell_lt h2)).trans h2⟩
def pcAt (L : List (Bool × ByteArray)) (j : Nat) : Bool × ByteArray := L.getD j (false, ⟨#[]⟩)
theorem pcAt_get (L : List (Bool × ByteArray)) (j : Nat) (h : j < L.length) : L[j] = pcAt L j := by
  unfold pcAt; rw [List.getD_eq_getElem?_getD, List.getElem?_eq_getElem h, Option.getD_some]
theorem PcRd.at_ {w : World} {a : Option Addr} {L : List (Bool × ByteArray)} (h : PcRd w a L) {j : Nat} (hj : j < L.length) : ∃ g o, a = some ⟨g, o, none⟩ ∧ g < w.heap.size ∧ w.cell? ⟨g, o + j * 2, none⟩ = some (.bool (pcAt L j).1) ∧ w.cell? ⟨g, o + j * 2 + 1, none⟩ = some (.string (pcAt L j).2) := by
  obtain ⟨g, o, ha, h1, h2⟩ := h j hj
  rw [pcAt_get L j hj] at h1 h2
  exact ⟨g, o, ha, rd_cell_lt h1, h1, h2⟩
/-- the numbers of the first i pieces that are there -/
def whF (L : List (Bool × ByteArray)) (i : Nat) : List Nat := (List.range i).filter fun j => (pcAt L j).1
/-- their data -/
def hvF (L : List (Bool × ByteArray)) (i : Nat) : List ByteArray := (whF L i).map fun j => (pcAt L j).2
theorem whF_yes {L : List (Bool × ByteArray)} {i : Nat} (h : (pcAt L i).1 = true) : whF L (i + 1) = whF L i ++ [i] := by
  unfold whF
  rw [List.range_succ, List.filter_append]
  simp [h]
theorem whF_no {L : List (Bool × ByteArray)} {i : Nat} (h : (pcAt L i).1 = false) : whF L (i + 1) = whF L i := by
  unfold whF
  rw [List.range_succ, List.filter_append]
  simp [h]
theorem hvF_yes {L : List (Bool × ByteArray)} {i : Nat} (h : (pcAt L i).1 = true) : hvF L (i + 1) = hvF L i ++ [(pcAt L i).2] := by
  unfold hvF; rw [whF_yes h, List.map_append]; rfl
theorem hvF_no {L : List (Bool × ByteArray)} {i : Nat} (h : (pcAt L i).1 = false) : hvF L (i + 1) = hvF L i := by
  unfold hvF; rw [whF_no h]
theorem hvF_length (L : List (Bool × ByteArray)) (i : Nat) : (hvF L i).length = (whF L i).length := by simp [hvF]
theorem whF_length (L : List (Bool × ByteArray)) (i : Nat) : (whF L i).length ≤ i := by
  unfold whF
  exact Nat.le_trans (List.length_filter_le _ _) (by simp)
theorem whF_lt {L : List (Bool × ByteArray)} {i j : Nat} (h : j ∈ whF L i) : j < i ∧ (pcAt L j).1 = true := by
  unfold whF at h
  simpa using h
theorem whF_nodup (L : List (Bool × ByteArray)) (i : Nat) : (whF L i).Nodup := by
  unfold whF
  exact List.Pairwise.filter (fun j => (pcAt L j).1) List.nodup_range
/-- an append to one slice leaves what another owns -/
theorem own_keeps {w w' : World} {B e s n B2 e2 s2 n2 : Nat} {v v2 : Value} {xs xs2 : List Value} (h1 : w.ownsRow B e s v n xs) (h2 : w.ownsRow B2 e2 s2 v2 n2 xs2) (hne : e ≠ e2) (hg : w.grownBy w' v.ownBlock) : w'.ownsRow B2 e2 s2 v2 n2 xs2 := by
  refine ⟨h2.1, ?_⟩
  rcases h2.2 with h | ⟨g, cap, cur, hv, hb, hh, r⟩
  · exact Or.inl h
  · refine Or.inr ⟨g, cap, cur, hv, hb, (hg.block g (Array.getElem?_eq_some_iff.1 hh).1 ?_).trans hh, r⟩
    intro e1
    rcases h1.2 with ⟨hv1, _⟩ | ⟨g1, cap1, cur1, hv1, _, hh1, _⟩
    · rw [hv1] at e1; cases e1
    · rw [hv1] at e1
      simp only [Value.ownBlock, Option.some.injEq] at e1
      subst e1
      rw [hh] at hh1
      simp only [Option.some.injEq, Obj.cells.injEq] at hh1
      exact hne hh1.2.1.symm
theorem scells_snoc (cols : List ByteArray) (u : ByteArray) : scells (cols ++ [u]) = scells cols ++ [.string u] := by simp [scells]
theorem own_shape {w : World} {B e s n : Nat} {v : Value} {xs : List Value} (h : w.ownsRow B e s v n xs) : ∃ a c, v = .slice a n c := by
  rcases h.2 with ⟨hv, hn⟩ | ⟨g, cap, cur, hv, _⟩
  · exact ⟨none, 0, by rw [hv, hn]⟩
  · exact ⟨_, _, hv⟩
theorem intparts : (Try.prog.info? 3).map (fun i => (i.zero, i.size, i.bytes)) = some (some (.int .i64 0), 1, 8) := by kernel_rfl
theorem pick_good' {w w' : World} {r c : Nat} {A : Nat → Nat → BitVec 8} {L : List Int} {e : Ending} (hx : PickAns w r c A L e w') (h : ∀ i, i < L.length → 0 ≤ L.getD i 0 ∧ L.getD i 0 < r) : ∃ g, e = .returned (.tuple #[mval L.length c g, .nilIface]) ∧ w.heap.size ≤ g ∧ MatRd w' g 0 L.length c (fun i j => A (L.getD i 0).toNat j) ∧ Below w.heap.size w w' := by
  obtain ⟨hx, hb⟩ := hx
  rcases hx with ⟨⟨i, hi, hn⟩, _⟩ | ⟨_, g, he, hg, hrow⟩
  · exact absurd (h i hi) hn
  · exact ⟨g, he, hg, MatRd.of_row0 hrow, hb⟩
theorem inv_good' {w w' : World} {N : Nat} {A : Nat → Nat → BitVec 8} {e : Ending} (hx : InvAns w N A e w') (hI : Inj N A) : ∃ g B, RInv N A B ∧ e = .returned (.tuple #[mval N N g, .nilIface]) ∧ w.heap.size ≤ g ∧ MatRd w' g 0 N N B ∧ Below w.heap.size w w' := by
  obtain ⟨hx, hb⟩ := hx
  rcases hx with ⟨h, _⟩ | ⟨_, g, B, h1, h2, h3, h4⟩
  · exact absurd hI h
  · exact ⟨g, B, h1, h2, h3, MatRd.of_row0 h4, hb⟩
theorem StrsRd.take {w : World} {a : Option Addr} {ss : List ByteArray} (h : StrsRd w a ss) (k : Nat) : StrsRd w a (ss.take k) := fun j hj => by
  rw [List.length_take] at hj
  obtain ⟨g, o, ha, hc⟩ := h j (by omega)
  exact ⟨g, o, ha, by rw [hc, List.getElem_take]⟩
theorem hvF_size {L : List (Bool × ByteArray)} {K n : Nat} (h : ∀ j, j < K → (pcAt L j).1 = true → (pcAt L j).2.size = n) (k : Nat) : ∀ i, i < ((hvF L K).take k).length → (((hvF L K).take k).getD i ⟨#[]⟩).size = n := by
  intro i hi
  rw [List.getD_eq_getElem?_getD, List.getElem?_eq_getElem hi, Option.getD_some]
  have hm : ((hvF L K).take k)[i] ∈ hvF L K := List.mem_of_mem_take (List.getElem_mem hi)
  unfold hvF at hm
  obtain ⟨j, hj, he⟩ := List.mem_map.1 hm
  have h2 := whF_lt hj
  have h3 := h j h2.1 h2.2
  rw [he] at h3
  exact h3
theorem rinv_congr {k : Nat} {P P' B : Nat → Nat → BitVec 8} (h : ∀ i j, i < k → P i j = P' i j) (hB : RInv k P B) : RInv k P' B := fun i l hi hl => by
  rw [← hB i l hi hl]
  unfold mmul
  exact sm_congr fun j _ => by rw [h i j hi]
theorem take_getD (L : List Nat) (k i : Nat) (h : i < k) : (L.take k).getD i 0 = L.getD i 0 := by
  rw [List.getD_eq_getElem?_getD, List.getD_eq_getElem?_getD, List.getElem?_take, if_pos h]
theorem map_getD (L : List Nat) (i : Nat) : (L.map fun (x : Nat) => (x : Int)).getD i 0 = (L.getD i 0 : Int) := by
  rw [List.getD_eq_getElem?_getD, List.getElem?_map, List.getD_eq_getElem?_getD]
  cases L[i]? <;> rfl
theorem rest_inj {L : List (Bool × ByteArray)} {k m K : Nat} (hK : K = k + m) (hK2 : K ≤ 255) (hc : k ≤ (whF L K).length) : Inj k (fun i j => gen k (((whF L K).take k).getD i 0) j) :=
  inj_gen k m (by omega) _ (by rw [List.length_take]; omega) ((whF_nodup L K).sublist (List.take_sublist _ _)) (fun a ha => by have := whF_lt (List.mem_of_mem_take ha); omega)
theorem restore_bad1 (k m l : Int) (pa : Option Addr) (pn pc : Nat) (w : World) (h : mayB k m l = false) :
    Calls Try.prog 17 #[.int .i64 k, .int .i64 m, .int .i64 l, .slice pa pn pc] w fun e w' => ∃ ev, e = .returned (.tuple #[.slice none 0 0, ev]) ∧ ErrAt w.heap.size w' ev 1 ∧ Below w.heap.size w w' := by
  have H := Lib.hid h
  clear h
  go_enter Try.func17, Try.ntmps17
  go_wp2_with (first
    | (go_at_call 24; refine (may_any k m l _).mono ?_; rintro e w1 ⟨rfl, rfl⟩; rw [H.out])
    | (go_at_call 25; refine (efault_any 1 (by decide) _).mono ?_; rintro e w2 ⟨ev, rfl, he, hb⟩; have S2 := Lib.hid (And.intro he hb); clear he hb))
  go_ret2
  exact ⟨ev, rfl, S2.out.1, S2.out.2⟩
theorem restore_bad2 (k m l : Nat) (pa : Option Addr) (pn pc : Nat) (w : World) (h1 : 1 ≤ k) (h2 : k + m ≤ 255) (h3 : l ≤ 9223372036854775807) (hp : pn ≤ maxLen) (hne : pn ≠ k + m) :
    Calls Try.prog 17 #[.int .i64 k, .int .i64 m, .int .i64 l, .slice pa pn pc] w fun e w' => ∃ ev, e = .returned (.tuple #[.slice none 0 0, ev]) ∧ ErrAt w.heap.size w' ev 19 ∧ Below w.heap.size w w' := by
  have H := Lib.hid (mayB_ok (c := l) h1 h2)
  unfold maxLen at hp
  have hb : ((pn : Int) != (k : Int) + (m : Int)) = true := by simp; omega
  obtain ⟨n, hn⟩ : ∃ n, n = szOf k l := ⟨_, rfl⟩
  have HN := Lib.hid hn
  clear hne hn
  go_enter Try.func17, Try.ntmps17
  go_wp2_with (first
    | (go_at_call 24; refine (may_any k m l _).mono ?_; rintro e w1 ⟨rfl, rfl⟩; rw [H.out])
    | (go_at_call 10; refine (size_ok k l _ h1 (by omega) h3).mono ?_; rintro e w1 ⟨rfl, rfl⟩; rw [← HN.out])
    | (go_at_call 25; refine (efault_any 19 (by decide) _).mono ?_; rintro e w2 ⟨ev, rfl, he, hb⟩; have S2 := Lib.hid (And.intro he hb); clear he hb))
  go_ret2
  exact ⟨ev, rfl, S2.out.1, S2.out.2⟩
/-- the rows that the first k pieces come of -/
def restP (k : Nat) (L : List (Bool × ByteArray)) (K i j : Nat) : BitVec 8 := gen k ((whF L K).getD i 0) j
/-- what Restore answers of as many pieces as there are shards -/
def RestOut (k m n : Nat) (L : List (Bool × ByteArray)) (code : Int) (T : List ByteArray) : Prop :=
  ((∃ j, j < k + m ∧ (pcAt L j).1 = true ∧ (pcAt L j).2.size ≠ n) ∧ code = 19 ∧ T = []) ∨
  ((∀ j, j < k + m → (pcAt L j).1 = true → (pcAt L j).2.size = n) ∧ (whF L (k + m)).length < k ∧ code = 17 ∧ T = []) ∨
  ((∀ j, j < k + m → (pcAt L j).1 = true → (pcAt L j).2.size = n) ∧ k ≤ (whF L (k + m)).length ∧ code = 0 ∧ ∃ B, RInv k (restP k L (k + m)) B ∧ T = rowStrs (gen k) (rowStrs B ((hvF L (k + m)).take k) n k k) n k (k + m))
set_option maxRecDepth 100000 in
set_option maxHeartbeats 6400000 in
theorem restore_main (k m l : Nat) (pa : Option Addr) (pc : Nat) (L : List (Bool × ByteArray)) (w : World) (h1 : 1 ≤ k) (h2 : k + m ≤ 255) (h3 : l ≤ 9223372036854775807) (hl : L.length = k + m) (hP : PcRd w pa L) (hsz : ∀ j, j < k + m → (pcAt L j).1 = true → (pcAt L j).2.size ≤ 100000) :
    Calls Try.prog 17 #[.int .i64 k, .int .i64 m, .int .i64 l, .slice pa (k + m) pc] w fun e w' => ∃ code T a' cap' ev, RestOut k m (szOf k l) L code T ∧ e = .returned (.tuple #[.slice a' T.length cap', ev]) ∧ ErrAt w.heap.size w' ev code ∧ (StrsRd w' a' T ∧ T.length ≤ cap' ∧ cap' ≤ 9223372036854775807) ∧ Below w.heap.size w w' := by
  have H := Lib.hid (mayB_ok (c := l) h1 h2)
  obtain ⟨n, hn⟩ : ∃ n, n = szOf k l := ⟨_, rfl⟩
  obtain ⟨K, hK⟩ : ∃ K, K = k + m := ⟨_, rfl⟩
  have k1 : K ≤ 255 := by omega
  have k2 : k ≤ K := by omega
  have hb : ((K : Int) != (k : Int) + (m : Int)) = false := by simp; omega
  have hnm : n ≤ 9223372036854775807 := by
    rw [hn]
    unfold szOf
    have h4 := Nat.div_add_mod l k
    have h5 : l / k ≤ k * (l / k) := Nat.le_mul_of_pos_left _ (by omega)
    split <;> omega
  obtain ⟨j0, hj0, jz0, jz1, jz2⟩ := info_parts strparts
  obtain ⟨i9, hi0, hz0, hz1, hz2⟩ := info_parts intparts
  unfold RestOut
  rw [← hn, ← hK]
  rw [← hK] at hl hsz
  have HN := Lib.hid hn
  have HK := Lib.hid hK
  have HL := Lib.hid hl
  have HP := Lib.hid hP
  have HSZ := Lib.hid hsz
  clear hn hK hl hP hsz
  go_enter Try.func17, Try.ntmps17
  go_wp2_with (first
    | (go_at_call 24; refine (may_any k m l _).mono ?_; rintro e w1 ⟨rfl, rfl⟩; rw [H.out])
    | (go_at_call 10; refine (size_ok k l _ h1 (by omega) h3).mono ?_; rintro e w1 ⟨rfl, rfl⟩; rw [← HN.out]))
  obtain ⟨w0, hw0⟩ : ∃ w0 : World, w0 = w := ⟨_, rfl⟩
  subst hw0
  go_loopw [12, 13, 39] (fun hv wv ii wr => ∃ i : Nat, i ≤ K ∧ ii = .int .i64 i ∧ (∀ j, j < i → (pcAt L j).1 = true → (pcAt L j).2.size = n) ∧ wr.ownsRow w0.heap.size 9 1 hv (whF L i).length (scells (hvF L i)) ∧ wr.ownsRow w0.heap.size 3 1 wv (whF L i).length (icells (whF L i)) ∧ Below w0.heap.size w0 wr) (fun _ _ ii _ => K - (intOf ii).toNat)
  case atStart => exact ⟨0, by omega, rfl, fun j h => by omega, World.ownsRow_nil _ _ _ _, World.ownsRow_nil _ _ _ _, Below.refl _ _⟩
  case round =>
    obtain ⟨i, hi, rfl, hall, hown, hown2, hbel⟩ := hrel
    have HALL := Lib.hid hall
    clear hall
    by_cases hlt : i < K
    · obtain ⟨pg, po, rfl, pgl, c0, c1⟩ := HP.out.at_ (j := i) (by rw [HL.out]; exact hlt)
      have d0 := (hbel.cell (p := ⟨pg, po + i * 2, none⟩) pgl).trans c0
      have d1 := (hbel.cell (p := ⟨pg, po + i * 2 + 1, none⟩) pgl).trans c1
      obtain ⟨b, hbb⟩ : ∃ b, b = (pcAt L i).1 := ⟨_, rfl⟩
      obtain ⟨t, ht⟩ : ∃ t, t = (pcAt L i).2 := ⟨_, rfl⟩
      rw [← hbb] at d0
      rw [← ht] at d1
      have HB := Lib.hid hbb
      have HT := Lib.hid ht
      clear c0 c1 hbb ht
      cases b
      · have S1 := Lib.hid (And.intro hown (And.intro hown2 hbel))
        clear hown hown2 hbel
        go_wp2
        go_roundw
        case measure => simp [intOf]; omega
        case rel =>
          refine ⟨i + 1, by omega, by go_num, fun j hj hjb => ?_, by rw [whF_no HB.out.symm, hvF_no HB.out.symm]; exact S1.out.1, by rw [whF_no HB.out.symm]; exact S1.out.2.1, S1.out.2.2⟩
          by_cases e : j = i
          · rw [e, ← HB.out] at hjb; cases hjb
          · exact HALL.out j (by omega) hjb
      · have hts : t.size ≤ 100000 := by rw [HT.out]; exact HSZ.out i hlt HB.out.symm
        by_cases hsn : t.size = n
        · have hnb : ((t.size : Int) != (n : Int)) = false := by simp [hsn]
          have HSN := Lib.hid hsn
          have hz := hbel.size
          have hcl := whF_length L i
          obtain ⟨c, hc⟩ : ∃ c, c = (whF L i).length := ⟨_, rfl⟩
          rw [← hc] at hown hown2 hcl
          have S1 := Lib.hid (And.intro hown (And.intro hown2 hbel))
          have HC := Lib.hid hc
          clear hown hown2 hbel hsn hc
          go_wp2_with (first
            | (at_builtin; have h9 := S1.out; clear S1; go_loud (skip; refine wpList_append_own _ rfl (.tmp 57) (.tmp 63) 31 rfl w0.heap.size 9 j0 _ 1 16 Try.underlying31 hj0 jz0 jz1 jz2 rfl (by omega) _ c (scells (hvF L i)) rfl (h9.1.alloc _) ⟨wr.heap.size, 0, none⟩ 1 1 [.string t] rfl rfl (World.news_of_block (cs := #[.string t]) (t := 9) (fr := (0, 0)) (heap_alloc_new wr _)) (by simp [Value.oneCell']) (by unfold maxLen; omega) (by omega) (Nat.le_trans hz (by simp)) ?_; intro v' w7 hown2 hgr2 hnil2; clear hnil2; have S2 := Lib.hid (And.intro hown2 (And.intro (own_keeps (h9.1.alloc _) (h9.2.1.alloc _) (by decide) hgr2) (own_grown_below (h9.1.alloc _) (h9.2.2.alloc hz _) (Nat.le_trans hz (by simp)) hgr2))); have hz7 := S2.out.2.2.size; clear h9 hown2 hgr2))
            | (at_builtin; have h9 := S2.out; clear S2; go_loud (skip; refine wpList_append_own _ rfl (.tmp 65) (.tmp 67) 52 rfl w0.heap.size 3 i9 _ 1 8 Try.underlying52 hi0 hz0 hz1 hz2 rfl (by omega) _ c (icells (whF L i)) rfl (h9.2.1.alloc _) ⟨w7.heap.size, 0, none⟩ 1 1 [.int .i64 (i : Int)] rfl rfl (World.news_of_block (cs := #[.int .i64 (i : Int)]) (t := 3) (fr := (0, 0)) (heap_alloc_new w7 _)) (by simp [Value.oneCell']) (by unfold maxLen; omega) (by omega) (Nat.le_trans hz7 (by simp)) ?_; intro v8 w8 hown2 hgr2 hnil2; clear hnil2; have S3 := Lib.hid (And.intro (own_keeps (h9.2.1.alloc _) (h9.1.alloc _) (by decide) hgr2) (And.intro hown2 (own_grown_below (h9.2.1.alloc _) (h9.2.2.alloc hz7 _) (Nat.le_trans hz7 (by simp)) hgr2))); clear h9 hown2 hgr2)))
          go_roundw
          case measure => simp [intOf]; omega
          case rel =>
            have e1 : (whF L (i + 1)).length = c + 1 := by rw [whF_yes HB.out.symm, List.length_append, HC.out]; rfl
            refine ⟨i + 1, by omega, by go_num, fun j hj hjb => ?_, ?_, ?_, S3.out.2.2⟩
            · by_cases e : j = i
              · rw [e, ← HT.out]; exact HSN.out
              · exact HALL.out j (by omega) hjb
            · rw [e1, hvF_yes HB.out.symm, scells_snoc, ← HT.out]; exact S3.out.1
            · rw [e1, whF_yes HB.out.symm, icells_append]; exact S3.out.2.1
        · have hnb : ((t.size : Int) != (n : Int)) = true := by simp; omega
          have S1 := Lib.hid hbel
          have HSN := Lib.hid hsn
          clear hown hown2 hbel hsn
          go_wp2_with (go_at_call 25; refine (efault_any 19 (by decide) _).mono ?_; rintro e w2 ⟨ev, rfl, he, hb⟩; have S2 := Lib.hid (And.intro (he.mono S1.out.size) (S1.out.trans (hb.mono S1.out.size))); clear he hb)
          go_ret2
          exact ⟨19, [], none, 0, ev, Or.inl ⟨⟨i, hlt, HB.out.symm, by rw [← HT.out]; exact HSN.out⟩, rfl, rfl⟩, rfl, S2.out.1, ⟨fun j hj => by simp at hj, by simp, by simp⟩, S2.out.2⟩
    · obtain rfl : K = i := by omega
      clear hlt hi
      obtain ⟨c, hc⟩ : ∃ c, c = (whF L K).length := ⟨_, rfl⟩
      have hcK : c ≤ K := by rw [hc]; exact whF_length L K
      rw [← hc] at hown hown2
      obtain ⟨ha, hcap, rfl⟩ := own_shape hown
      have HC := Lib.hid hc
      by_cases hck : c < k
      · have S1 := Lib.hid hbel
        clear hown hown2 hbel hc
        go_wp2_with (go_at_call 25; refine (efault_any 17 (by decide) _).mono ?_; rintro e w2 ⟨ev, rfl, he, hb⟩; have S2 := Lib.hid (And.intro (he.mono S1.out.size) (S1.out.trans (hb.mono S1.out.size))); clear he hb)
        go_ret2
        exact ⟨17, [], none, 0, ev, Or.inr (Or.inl ⟨HALL.out, by rw [← HC.out]; exact hck, rfl, rfl⟩), rfl, S2.out.1, ⟨fun j hj => by simp at hj, by simp, by simp⟩, S2.out.2⟩
      · have hck2 : k ≤ c := by omega
        obtain ⟨gh, rfl, _, hh1, hh2⟩ := own_some hown (by omega)
        obtain ⟨wa, wcap, rfl⟩ := own_shape hown2
        obtain ⟨gw, rfl, _, hw1, hw2⟩ := own_some hown2 (by omega)
        have hsr := StrsRd.own hown
        have hin := IntsAt.own hown2
        obtain ⟨qa, hqa⟩ : ∃ q, q = K * k := ⟨_, rfl⟩
        obtain ⟨qi, hqi⟩ : ∃ q, q = k * k := ⟨_, rfl⟩
        have lqa : qa ≤ 255 * 255 := by rw [hqa]; exact Nat.mul_le_mul k1 (by omega)
        have lqi : qi ≤ 255 * 255 := by rw [hqi]; exact Nat.mul_le_mul (by omega) (by omega)
        obtain ⟨R, hR⟩ : ∃ R : List Int, R = ((whF L K).take k).map fun (x : Nat) => (x : Int) := ⟨_, rfl⟩
        have hRl : R.length = k := by rw [hR, List.length_map, List.length_take, ← hc]; omega
        have hRD : ∀ j, R.getD j 0 = (((whF L K).take k).getD j 0 : Int) := fun j => by rw [hR, map_getD]
        have hAll : ∀ i, i < R.length → 0 ≤ R.getD i 0 ∧ R.getD i 0 < K := fun i hi => by
          rw [hRD]
          have hmem : ((whF L K).take k).getD i 0 ∈ (whF L K).take k := by
            rw [List.getD_eq_getElem?_getD, List.getElem?_eq_getElem (by rw [List.length_take, ← hc]; omega), Option.getD_some]
            exact List.getElem_mem _
          have := whF_lt (List.mem_of_mem_take hmem)
          omega
        have hPe : (fun i j => gen k (R.getD i 0).toNat j) = fun i j => gen k (((whF L K).take k).getD i 0) j := by
          funext i j
          rw [hRD, Int.toNat_natCast]
        have hI : Inj k (fun i j => gen k (R.getD i 0).toNat j) := by rw [hPe]; exact rest_inj HK.out k1 (by rw [← hc]; exact hck2)
        have hRI : ∀ x, IntsAt x gw 0 (whF L K) → ∀ j, j < R.length → x.cell? ⟨gw, 0 + j, none⟩ = some (.int .i64 (R.getD j 0)) := fun x hx j hj => by
          rw [hRD, take_getD _ _ _ (by omega)]
          exact hx j (by rw [← hc]; omega)
        have hRP : ∀ B, RInv k (fun i j => gen k (R.getD i 0).toNat j) B → RInv k (restP k L K) B := fun B hB => rinv_congr (fun i j hi => by
          show gen k (R.getD i 0).toNat j = gen k ((whF L K).getD i 0) j
          rw [hRD, Int.toNat_natCast, take_getD _ _ _ hi]) hB
        have hHl : ((hvF L K).take k).length = k := by rw [List.length_take, hvF_length, ← hc]; omega
        have hHs := hvF_size HALL.out k
        have S1 := Lib.hid (Bun.of (F := fun x => StrsRd x (some ⟨gh, 0, none⟩) (hvF L K) ∧ IntsAt x gw 0 (whF L K)) (fun x hx => ⟨hsr.after hx, hin.after hx⟩) hbel)
        obtain ⟨P, hP⟩ : ∃ P : Nat → Nat → BitVec 8, P = fun i j => gen k (R.getD i 0).toNat j := ⟨_, rfl⟩
        have hnL : n ≤ 100000 := by
          have e0 : 0 < ((hvF L K).take k).length := by omega
          have hmem : (hvF L K)[0]'(by rw [hvF_length, ← hc]; omega) ∈ hvF L K := List.getElem_mem _
          unfold hvF at hmem
          obtain ⟨j, hj, _⟩ := List.mem_map.1 hmem
          have h5 := whF_lt hj
          have h6 := HSZ.out j h5.1 h5.2
          rw [HALL.out j h5.1 h5.2] at h6
          exact h6
        rw [← hP] at hI
        have HQA := Lib.hid hqa
        have HQI := Lib.hid hqi
        have HRL := Lib.hid hRl
        have HAL := Lib.hid hAll
        have HI := Lib.hid hI
        have HRI := Lib.hid hRI
        have HRP := Lib.hid hRP
        have HHL := Lib.hid hHl
        have HHS := Lib.hid hHs
        have HPP := Lib.hid hP
        have HCK := Lib.hid hck2
        clear hown hown2 hbel hc hsr hin hqa hqi hR hRl hRD hAll hPe hI hRI hRP hHl hHs hP
        go_wp2_with (go_at_call 31; have h9 := S1.out; clear S1; refine (rows_ok k m _ h1 h2).mono ?_; rintro e w1 ⟨ga, he, hg, hrow, hb⟩; have he2 : e = .returned (.tuple #[.agg #[.int .i64 K, .int .i64 k, .slice (some ⟨ga, 0, none⟩) qa qa], .nilIface]) := (by rw [he, HQA.out, HK.out]; rfl); subst he2; clear he; rw [← HK.out] at hrow; have hmm := (h9.after hb).add (fun _ h => (MatRd.of_row0 hrow).after h); have hbx := Row.new w1 71 [.int .i64 K, .int .i64 k, .slice (some ⟨ga, 0, none⟩) qa qa]; obtain ⟨x0, x1, x2⟩ := box3 hbx; have SB := Lib.hid hmm; have SX := Lib.hid (And.intro hbx ((Below.refl w1.heap.size w1).alloc (Nat.le_refl _) (.cells #[.int .i64 K, .int .i64 k, .slice (some ⟨ga, 0, none⟩) qa qa] 71))); clear h9 hb hrow hg hmm hbx)
        have e1 : 0 ≤ (k : Int) := by omega
        have e2 : (k : Int) ≤ (wcap : Int) := by omega
        have e3 : ((k : Int)).toNat = k := by omega
        have e4 : (k : Int) ≤ (hcap : Int) := by omega
        go_region_law
          (first | (go_simp; go_at_call 32; have h9 := SX.out; clear SX; have hbd := h9.2.drew; have hF := SB.out.after hbd; have hp := pick_ok K k ga 0 qa qa gw 0 wcap (gen k) R _ (by omega) (by omega) (by omega) (by omega) HQA.out (Nat.le_refl _) (by omega) (by rw [HRL.out]; omega) (by rw [HRL.out]; omega) hF.here.2 (HRI.out _ hF.here.1.2); rw [HRL.out] at hp; refine hp.mono ?_; rintro e w11 hx; obtain ⟨gp, he, hgp, hmp, hb⟩ := pick_good' hx HAL.out; have he2 : e = .returned (.tuple #[.agg #[.int .i64 k, .int .i64 k, .slice (some ⟨gp, 0, none⟩) qi qi], .nilIface]) := (by rw [he, HRL.out, HQI.out]; rfl); subst he2; clear he hx hp; rw [HRL.out, ← HPP.out] at hmp; have hgb : gp ≠ w1.heap.size := (by have h8 : (w1.alloc (.cells #[.int .i64 K, .int .i64 k, .slice (some ⟨ga, 0, none⟩) qa qa] 71)).drew.heap.size = w1.heap.size + 1 := (by show (w1.alloc _).heap.size = _; simp); omega); have hbx := Row.after h9.1.drew hb; have hk6 := box3 hbx; obtain ⟨f0, f1, f2⟩ := box3f hbx; have hy := set3_row (a := .int .i64 k) (b := .int .i64 k) (c := .slice (some ⟨gp, 0, none⟩) qi qi) hbx; obtain ⟨y0, y1, y2⟩ := box3 hy; have SY := Lib.hid (And.intro hy (And.intro (set3_below (a := .int .i64 k) (b := .int .i64 k) (c := .slice (some ⟨gp, 0, none⟩) qi qi) (h9.2.drew.trans (hb.mono h9.2.drew.size)) (Nat.le_refl w1.heap.size)) (hmp.fr ((((Fr.refl [w1.heap.size] w11).setCell (p := ⟨w1.heap.size, 0, none⟩) (Or.inl (by simp)) (.int .i64 k)).setCell (p := ⟨w1.heap.size, 1, none⟩) (Or.inl (by simp)) (.int .i64 k)).setCell (p := ⟨w1.heap.size, 2, none⟩) (Or.inl (by simp)) (.slice (some ⟨gp, 0, none⟩) qi qi)) (by simp only [List.mem_singleton]; exact hgb)))); clear h9 hbd hF hmp hb hbx hgb hgp))
        clear e1 e2 e3 x0 x1 x2
        go_wp2_with (go_at_call 33; have h9 := SY.out; clear SY; refine (invert_ok k gp 0 qi qi P _ h1 (by omega) HQI.out (Nat.le_refl _) (by omega) h9.2.2).mono ?_; intro e w13 hx; obtain ⟨gz, B, hB, he, hgz, hmz, hb⟩ := inv_good' hx HI.out; have he2 : e = .returned (.tuple #[.agg #[.int .i64 k, .int .i64 k, .slice (some ⟨gz, 0, none⟩) qi qi], .nilIface]) := (by rw [he, HQI.out]; rfl); subst he2; clear he hx; have hgb : gz ≠ w1.heap.size := (by have h8 := h9.1.lt; omega); have hbx := Row.after h9.1 hb; obtain ⟨v0, v1, v2⟩ := box3 hbx; obtain ⟨f3, f4, f5⟩ := box3f hbx; have hy := set3_row (a := .int .i64 k) (b := .int .i64 k) (c := .slice (some ⟨gz, 0, none⟩) qi qi) hbx; obtain ⟨z0, z1, z2⟩ := box3 hy; have SZ := Lib.hid (And.intro hy (And.intro (set3_below (a := .int .i64 k) (b := .int .i64 k) (c := .slice (some ⟨gz, 0, none⟩) qi qi) (h9.2.1.trans (hb.mono h9.2.1.size)) (Nat.le_refl w1.heap.size)) (hmz.fr ((((Fr.refl [w1.heap.size] w13).setCell (p := ⟨w1.heap.size, 0, none⟩) (Or.inl (by simp)) (.int .i64 k)).setCell (p := ⟨w1.heap.size, 1, none⟩) (Or.inl (by simp)) (.int .i64 k)).setCell (p := ⟨w1.heap.size, 2, none⟩) (Or.inl (by simp)) (.slice (some ⟨gz, 0, none⟩) qi qi)) (by simp only [List.mem_singleton]; exact hgb)))); have HBB := Lib.hid hB; clear h9 hmz hb hbx hgb hgz hy hB)
        clear f0 f1 f2 f3 f4 f5 v0 v1 v2 y0 y1 y2
        have e1 : 0 ≤ (k : Int) := by omega
        have e3 : ((k : Int)).toNat = k := by omega
        go_region_law (first
          | (go_simp; go_at_call 34; have h9 := SZ.out; clear SZ; have hbd := h9.2.1.drew; have hF := SB.out.after hbd; refine (apply_fine k k gz 0 qi qi hcap n (some ⟨gh, 0, none⟩) B ((hvF L K).take k) _ h1 (by omega) h1 (by omega) HQI.out (Nat.le_refl _) (by omega) HHL.out HHS.out hnL (h9.2.2.after ((Below.refl _ _).drew)) (StrsRd.take hF.here.1.1 k)).mono ?_; rintro e w15 ⟨gq, cq, rfl, ht, hb⟩; have SW := Lib.hid (And.intro ht (hF.after hb).bel); clear h9 hbd hF ht hb))
        go_wp2_with (go_at_call 29; have h9 := SW.out; clear SW; refine (all_ok k m cq n _ (rowStrs B ((hvF L K).take k) n k k) _ h1 h2 (rowStrs_length _ _ _ _ _) (rowStrs_size B ((hvF L K).take k) n k k HHS.out (by rw [HHL.out]; exact Nat.le_refl _)) hnL h9.1).mono ?_; rw [← HK.out]; rintro e w16 ⟨g8, cap8, rfl, hs, hb⟩; have S4 := Lib.hid (And.intro hs (h9.2.trans (hb.mono h9.2.size))); clear h9 hs hb)
        go_ret2
        exact ⟨0, _, some ⟨g8, 0, none⟩, cap8, .nilIface, Or.inr (Or.inr ⟨HALL.out, by rw [← HC.out]; exact HCK.out, rfl, B, HRP.out B (by rw [← HPP.out]; exact HBB.out), rfl⟩), by rw [rowStrs_length]; rfl, ErrAt.ok0 _ _, ⟨S4.out.1.1, by rw [rowStrs_length]; exact S4.out.1.2.1, S4.out.1.2.2⟩, S4.out.2⟩
end Go.Proofs.Ytbnfnijjldimkab
