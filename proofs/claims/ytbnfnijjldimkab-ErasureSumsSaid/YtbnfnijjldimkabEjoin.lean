/-
  The walks of erasure.Join and of the document's.
-/
import Derived.Test.YtbnfnijjldimkabEenc
namespace Go.Proofs.Ytbnfnijjldimkab
open Go.RowKit
set_option linter.unusedVariables false
set_option linter.unusedSimpArgs false
/-- texts, one behind the other -/
def catT (ss : List ByteArray) : ByteArray := ⟨(ss.map (·.data.toList)).flatten.toArray⟩
theorem catT_snoc (ss : List ByteArray) (t : ByteArray) : catT (ss ++ [t]) = catT ss ++ t := by
  have h : (catT (ss ++ [t])).data = (catT ss ++ t).data := by
    rw [ByteArray.data_append]
    unfold catT
    simp only [List.map_append, List.flatten_append]
    apply Array.toList_inj.1
    simp
  cases h1 : catT (ss ++ [t])
  cases h2 : catT ss ++ t
  rw [h1, h2] at h
  simpa using h
theorem catT_size (ss : List ByteArray) (n : Nat) (h : ∀ i, i < ss.length → (ss.getD i ⟨#[]⟩).size = n) : (catT ss).size = ss.length * n := by
  induction ss with
  | nil => simp [catT]; rfl
  | cons x xs ih =>
    have h0 := h 0 (by simp)
    have h1 := ih (fun i hi => by have := h (i + 1) (by simp; omega); simpa using this)
    show (((x :: xs).map (·.data.toList)).flatten.toArray).size = _
    rw [List.size_toArray, List.map_cons, List.flatten_cons, List.length_append]
    have h2 : (xs.map (·.data.toList)).flatten.length = xs.length * n := by
      have := h1
      unfold catT at this
      have e : (ByteArray.mk (xs.map (·.data.toList)).flatten.toArray).size = (xs.map (·.data.toList)).flatten.length := by
        show ((xs.map (·.data.toList)).flatten.toArray).size = _
        rw [List.size_toArray]
      rw [e] at this
      exact this
    have h3 : x.data.toList.length = n := by rw [← h0]; simp
    rw [h2, h3, List.length_cons, Nat.add_mul, Nat.one_mul]
    omega
theorem join_flat (L : List (List UInt8)) : Lib.join L [] = L.flatten := by
  cases L with
  | nil => rfl
  | cons x xs =>
    rw [Lib.join_cons]
    unfold Lib.joinTail
    simp
/-- what Join answers: the code, and the text -/
def joinCode (k l : Int) (ss : List ByteArray) : Int :=
  if mayB k 0 l = false then 1 else if (ss.length : Int) < k then 19 else if ∀ i, i < k.toNat → (ss.getD i ⟨#[]⟩).size = szOf k.toNat l.toNat then 0 else 19
def joinText (k l : Int) (ss : List ByteArray) : ByteArray :=
  if joinCode k l ss = 0 then (catT (ss.take k.toNat)).extract 0 l.toNat else ⟨#[]⟩
theorem ErrAt.iface {B : Nat} {w : World} {v : Value} {c : Int} (h : ErrAt B w v c) (hc : c ≠ 0) : ∃ b, v = .iface 62 (.pointer (some ⟨b, 0, none⟩)) ∧ ErrAt B w (.iface 62 (.pointer (some ⟨b, 0, none⟩))) c := by
  rcases h with ⟨_, h0⟩ | ⟨_, b, hv, h1⟩
  · exact absurd h0 hc
  · exact ⟨b, hv, Or.inr ⟨hc, b, rfl, h1⟩⟩
theorem joinCode_nat {k l : Nat} {ss : List ByteArray} (h1 : 1 ≤ k) (h2 : k ≤ 255) (hk : k ≤ ss.length) : joinCode k l ss = if ∀ i, i < k → (ss.getD i ⟨#[]⟩).size = szOf k l then 0 else 19 := by
  unfold joinCode
  rw [if_neg (by rw [show mayB (k : Int) 0 (l : Int) = true from mayB_ok (b := 0) h1 (by omega)]; simp), if_neg (by omega)]
  simp only [Int.toNat_natCast]
set_option maxRecDepth 100000 in
set_option maxHeartbeats 3200000 in
theorem join_gen (k l : Int) (sa : Option Addr) (sn sc : Nat) (ss : List ByteArray) (w : World) (hk : -9223372036854775808 ≤ k ∧ k ≤ 9223372036854775807) (hl : l ≤ 9223372036854775807) (hss : StrsRd w sa ss) (hn : sn = ss.length) (hn2 : sn ≤ sc) (hn3 : sc ≤ 9223372036854775807) (hsz : ∀ i, i < ss.length → (ss.getD i ⟨#[]⟩).size ≤ 100000) :
    Calls Try.prog 19 #[.int .i64 k, .int .i64 l, .slice sa sn sc] w fun e w' => ∃ ev, e = .returned (.tuple #[.string (joinText k l ss), ev]) ∧ ErrAt w.heap.size w' ev (joinCode k l ss) ∧ Below w.heap.size w w' := by
  have bad : ∀ c : Int, joinCode k l ss = c → c ≠ 0 → joinText k l ss = ⟨#[]⟩ := fun c h h0 => by unfold joinText; rw [if_neg (by rw [h]; exact h0)]
  cases h : mayB k 0 l
  · have hc : joinCode k l ss = 1 := by unfold joinCode; rw [if_pos h]
    rw [hc, bad 1 hc (by decide)]
    have H := Lib.hid h
    clear h hc bad
    go_enter Try.func19, Try.ntmps19
    go_wp2_with (go_at_call 10; refine (size_bad k l _ H.out).mono ?_; rintro e w1 ⟨ev, rfl, he, hb⟩; obtain ⟨fb, rfl, he1⟩ := he.iface (by decide); have S2 := Lib.hid (And.intro he1 hb); clear he he1 hb)
    go_ret2
    exact ⟨_, rfl, S2.out.1, S2.out.2⟩
  · obtain ⟨a, b, c, rfl, hb0, rfl, a1, a2⟩ := mayB_out h
    clear hb0
    by_cases hlt : (ss.length : Int) < (a : Int)
    · have hc : joinCode (a : Int) (c : Int) ss = 19 := by unfold joinCode; rw [if_neg (by rw [h]; simp), if_pos hlt]
      rw [hc, bad 19 hc (by decide)]
      have hlt2 : (sn : Int) < (a : Int) := by rw [hn]; exact hlt
      obtain ⟨n, hnn⟩ : ∃ n, n = szOf a c := ⟨_, rfl⟩
      have HN := Lib.hid hnn
      clear h hc bad hlt hnn hn
      go_enter Try.func19, Try.ntmps19
      go_wp2_with (first
        | (go_at_call 10; refine (size_ok a c _ a1 (by omega) (by omega)).mono ?_; rintro e w1 ⟨rfl, rfl⟩; rw [← HN.out])
        | (go_at_call 25; refine (efault_any 19 (by decide) _).mono ?_; rintro e w2 ⟨ev, rfl, he, hb⟩; have S2 := Lib.hid (And.intro he hb); clear he hb))
      go_ret2
      exact ⟨_, rfl, S2.out.1, S2.out.2⟩
    · have ha : a ≤ ss.length := by omega
      have hc := joinCode_nat (l := c) a1 (by omega) ha
      obtain ⟨cd, hcd⟩ : ∃ cd, cd = joinCode (a : Int) (c : Int) ss := ⟨_, rfl⟩
      obtain ⟨tx, htx⟩ : ∃ tx, tx = joinText (a : Int) (c : Int) ss := ⟨_, rfl⟩
      have htx2 : cd ≠ 0 → tx = ⟨#[]⟩ := fun h0 => by rw [htx]; exact bad cd hcd.symm h0
      have htx3 : cd = 0 → tx = (catT (ss.take a)).extract 0 c := fun h0 => by
        rw [htx]; unfold joinText; rw [← hcd, if_pos h0]; simp only [Int.toNat_natCast]
      rw [hc] at hcd
      rw [← htx, show joinCode (a : Int) (c : Int) ss = cd from by rw [hc, hcd]]
      obtain ⟨g, o, rfl, gl, hcell⟩ := hss.open (by omega)
      obtain ⟨n, hnn⟩ : ∃ n, n = szOf a c := ⟨_, rfl⟩
      have hlo : c ≤ a * n := by rw [hnn]; exact szOf_lo a c a1
      rw [← hnn] at hcd
      have HCD := Lib.hid hcd
      have HTX2 := Lib.hid htx2
      have HTX3 := Lib.hid htx3
      have hnge : ¬ (sn : Int) < (a : Int) := by omega
      have hsc : (a : Int) ≤ (sc : Int) := by omega
      have hsc0 : 0 ≤ (a : Int) := by omega
      have hsc2 : a ≤ sc := by omega
      have hnm : n ≤ 9223372036854775807 := by
        rw [hnn]
        unfold szOf
        have h4 := Nat.div_add_mod c a
        have h5 : c / a ≤ a * (c / a) := Nat.le_mul_of_pos_left _ (by omega)
        split <;> omega
      have HN := Lib.hid hnn
      have HCELL := Lib.hid hcell
      have HA := Lib.hid ha
      have HSZ := Lib.hid hsz
      have HLO := Lib.hid hlo
      clear h hc bad hlt hnn hn hcell ha hss hsz hlo hcd htx htx2 htx3
      go_enter Try.func19, Try.ntmps19
      go_wp2_with (go_at_call 10; refine (size_ok a c _ a1 (by omega) (by omega)).mono ?_; rintro e w1 ⟨rfl, rfl⟩; rw [← HN.out])
      go_loop [30] (fun i => ∃ j : Nat, j ≤ a ∧ i = .int .i64 j ∧ ∀ i, i < j → (ss.getD i ⟨#[]⟩).size = n) (fun i => a - (intOf i).toNat)
      case atStart => exact ⟨0, by omega, rfl, fun i h => by omega⟩
      case round =>
        obtain ⟨j, hj, rfl, hall⟩ := hrel
        have HALL := Lib.hid hall
        clear hall
        by_cases hja : j < a
        · obtain ⟨t, ht⟩ : ∃ t, t = ss.getD j ⟨#[]⟩ := ⟨_, rfl⟩
          have cl := HCELL.out j (by have := HA.out; omega)
          have hts := HSZ.out j (by have := HA.out; omega)
          rw [← ht] at cl hts
          have HT := Lib.hid ht
          clear ht
          by_cases hs : t.size = n
          · have hnb : ((t.size : Int) != (n : Int)) = false := by simp [hs]
            have HS := Lib.hid hs
            clear hs
            go_wp2
            go_round
            case measure => simp [intOf]; omega
            case rel =>
              refine ⟨j + 1, by omega, by go_num, fun i hi => ?_⟩
              by_cases e : i = j
              · rw [e, ← HT.out]; exact HS.out
              · exact HALL.out i (by omega)
          · have hnb : ((t.size : Int) != (n : Int)) = true := by simp; omega
            have HS := Lib.hid hs
            clear hs
            go_wp2_with (go_at_call 25; refine (efault_any 19 (by decide) _).mono ?_; rintro e w2 ⟨ev, rfl, he, hb⟩; have S2 := Lib.hid (And.intro he hb); clear he hb)
            go_ret2
            have ec : cd = 19 := by rw [HCD.out, if_neg (fun h => HS.out (by rw [HT.out]; exact h j hja))]
            exact ⟨_, by rw [HTX2.out (by rw [ec]; decide)]; rfl, by rw [ec]; exact S2.out.1, S2.out.2⟩
        · obtain rfl : a = j := by omega
          clear hja hj
          obtain ⟨xs, hxs⟩ : ∃ xs, xs = ss.take a := ⟨_, rfl⟩
          have hxl : xs.length = a := by rw [hxs, List.length_take]; have := HA.out; omega
          have hxg : ∀ i, i < a → xs.getD i ⟨#[]⟩ = ss.getD i ⟨#[]⟩ := fun i hi => by rw [hxs, List.getD_eq_getElem?_getD, List.getD_eq_getElem?_getD, List.getElem?_take, if_pos hi]
          have hsize : (catT xs).size = a * n := by
            have := catT_size xs n (fun i hi => by rw [hxg i (by omega)]; exact HALL.out i (by omega))
            rw [hxl] at this; exact this
          have hnL : n ≤ 100000 := by
            have h0 := HSZ.out 0 (by have := HA.out; omega)
            rw [HALL.out 0 (by omega)] at h0
            exact h0
          have htot : a * n ≤ 255 * 100000 := Nat.mul_le_mul (by omega) hnL
          have hj := Try.strings_Join g o sc xs ⟨#[]⟩ w (fun j x hx => by
            have hj2 : j < xs.length := (List.getElem?_eq_some_iff.1 hx).1
            have hc9 := HCELL.out j (by have := HA.out; omega)
            rw [← hxg j (by omega), List.getD_eq_getElem?_getD, hx, Option.getD_some] at hc9
            exact hc9) gl (by omega) (by omega) (by
              show (Lib.join (xs.map (·.data.toList)) []).length ≤ _
              rw [join_flat]
              have e : (catT xs).size = ((xs.map (·.data.toList)).flatten).length := by
                show (((xs.map (·.data.toList)).flatten).toArray).size = _
                rw [List.size_toArray]
              omega)
          rw [hxl] at hj
          rw [show (⟨(Lib.join (xs.map (·.data.toList)) (⟨#[]⟩ : ByteArray).data.toList).toArray⟩ : ByteArray) = catT xs from by show (⟨(Lib.join (xs.map (·.data.toList)) []).toArray⟩ : ByteArray) = _; rw [join_flat]; rfl] at hj
          obtain ⟨J, hJ⟩ : ∃ J, J = catT xs := ⟨_, rfl⟩
          rw [← hJ] at hj hsize
          have hJ1 : (c : Int) ≤ (J.size : Int) := by have := HLO.out; omega
          have hJ2 : 0 ≤ (c : Int) := by omega
          have HJ := Lib.hid hJ
          have HXS := Lib.hid hxs
          have HJC := Lib.hid hj
          clear hJ hxs hxl hxg hsize hj
          have e3 : ((c : Int)).toNat = c := by omega
          go_wp2_with (go_at_call 39; refine (HJC.out).mono ?_; rintro e w2 ⟨rfl, hb⟩; have S2 := Lib.hid hb; clear hb)
          go_ret2
          have ec : cd = 0 := by rw [HCD.out, if_pos HALL.out]
          exact ⟨_, by rw [HTX3.out ec, ← HXS.out, ← HJ.out]; rfl, by rw [ec]; exact ErrAt.ok0 _ _, S2.out⟩
end Go.Proofs.Ytbnfnijjldimkab
namespace Go.Proofs.Ytbnfnijjldimkab
open Go.RowKit
set_option linter.unusedVariables false
set_option linter.unusedSimpArgs false
set_option maxRecDepth 100000 in
set_option maxHeartbeats 3200000 in
theorem rjoin_gen (k l : Int) (sa : Option Addr) (sn sc : Nat) (ss : List ByteArray) (w : World) (hk : -9223372036854775808 ≤ k ∧ k ≤ 9223372036854775807) (hl : l ≤ 9223372036854775807) (hss : StrsRd w sa ss) (hn : sn = ss.length) (hn2 : sn ≤ sc) (hn3 : sc ≤ 9223372036854775807) (hsz : ∀ i, i < ss.length → (ss.getD i ⟨#[]⟩).size ≤ 100000) :
    Calls Try.prog 20 #[.int .i64 k, .int .i64 l, .slice sa sn sc] w fun e w' => e = .returned (.tuple #[.string (joinText k l ss), .int .i64 (joinCode k l ss)]) ∧ w = w' := by
  have bad : ∀ c : Int, joinCode k l ss = c → c ≠ 0 → joinText k l ss = ⟨#[]⟩ := fun c h h0 => by unfold joinText; rw [if_neg (by rw [h]; exact h0)]
  cases h : mayB k 0 l
  · have hc : joinCode k l ss = 1 := by unfold joinCode; rw [if_pos h]
    rw [hc, bad 1 hc (by decide)]
    have H := Lib.hid h
    clear h hc bad
    go_enter Try.func20, Try.ntmps20
    go_wp2_with (go_at_call 26; refine (wrong_any k 0 l _).mono ?_; rintro e w1 ⟨rfl, rfl⟩; rw [H.out])
    go_ret2
    exact ⟨rfl, rfl⟩
  · obtain ⟨a, b, c, rfl, hb0, rfl, a1, a2⟩ := mayB_out h
    clear hb0
    by_cases hlt : (ss.length : Int) < (a : Int)
    · have hc : joinCode (a : Int) (c : Int) ss = 19 := by unfold joinCode; rw [if_neg (by rw [h]; simp), if_pos hlt]
      rw [hc, bad 19 hc (by decide)]
      have hlt2 : (sn : Int) < (a : Int) := by rw [hn]; exact hlt
      obtain ⟨n, hnn⟩ : ∃ n, n = szOf a c := ⟨_, rfl⟩
      have HN := Lib.hid hnn
      have H := Lib.hid h
      clear h hc bad hlt hnn hn
      go_enter Try.func20, Try.ntmps20
      go_wp2_with (first
        | (go_at_call 26; refine (wrong_any a 0 c _).mono ?_; rintro e w1 ⟨rfl, rfl⟩; rw [H.out])
        | (go_at_call 11; refine (rsize_ok a c _ a1 (by omega) (by omega)).mono ?_; rintro e w1 ⟨rfl, rfl⟩; rw [← HN.out]))
      go_ret2
      exact ⟨rfl, rfl⟩
    · have ha : a ≤ ss.length := by omega
      have hc := joinCode_nat (l := c) a1 (by omega) ha
      obtain ⟨cd, hcd⟩ : ∃ cd, cd = joinCode (a : Int) (c : Int) ss := ⟨_, rfl⟩
      obtain ⟨tx, htx⟩ : ∃ tx, tx = joinText (a : Int) (c : Int) ss := ⟨_, rfl⟩
      have htx2 : cd ≠ 0 → tx = ⟨#[]⟩ := fun h0 => by rw [htx]; exact bad cd hcd.symm h0
      have htx3 : cd = 0 → tx = (catT (ss.take a)).extract 0 c := fun h0 => by
        rw [htx]; unfold joinText; rw [← hcd, if_pos h0]; simp only [Int.toNat_natCast]
      rw [hc] at hcd
      rw [← htx, show joinCode (a : Int) (c : Int) ss = cd from by rw [hc, hcd]]
      obtain ⟨g, o, rfl, gl, hcell⟩ := hss.open (by omega)
      obtain ⟨n, hnn⟩ : ∃ n, n = szOf a c := ⟨_, rfl⟩
      have hlo : c ≤ a * n := by rw [hnn]; exact szOf_lo a c a1
      rw [← hnn] at hcd
      have HCD := Lib.hid hcd
      have HTX2 := Lib.hid htx2
      have HTX3 := Lib.hid htx3
      have H := Lib.hid h
      have hnge : ¬ (sn : Int) < (a : Int) := by omega
      have hsc : (a : Int) ≤ (sc : Int) := by omega
      have hsc0 : 0 ≤ (a : Int) := by omega
      have hsc2 : a ≤ sc := by omega
      have hnm : n ≤ 9223372036854775807 := by
        rw [hnn]
        unfold szOf
        have h4 := Nat.div_add_mod c a
        have h5 : c / a ≤ a * (c / a) := Nat.le_mul_of_pos_left _ (by omega)
        split <;> omega
      have HN := Lib.hid hnn
      have HCELL := Lib.hid hcell
      have HA := Lib.hid ha
      have HSZ := Lib.hid hsz
      have HLO := Lib.hid hlo
      clear h hc bad hlt hnn hn hcell ha hss hsz hlo hcd htx htx2 htx3
      go_enter Try.func20, Try.ntmps20
      go_wp2_with (first
        | (go_at_call 26; refine (wrong_any a 0 c _).mono ?_; rintro e w1 ⟨rfl, rfl⟩; rw [H.out])
        | (go_at_call 11; refine (rsize_ok a c _ a1 (by omega) (by omega)).mono ?_; rintro e w1 ⟨rfl, rfl⟩; rw [← HN.out]))
      go_loop [11, 12] (fun s i => ∃ j : Nat, j ≤ a ∧ i = .int .i64 j ∧ s = .string (catT (ss.take j)) ∧ ∀ i, i < j → (ss.getD i ⟨#[]⟩).size = n) (fun _ i => a - (intOf i).toNat)
      case atStart => exact ⟨0, by omega, rfl, by rw [List.take_zero]; rfl, fun i h => by omega⟩
      case round =>
        obtain ⟨j, hj, rfl, rfl, hall⟩ := hrel
        have HALL := Lib.hid hall
        have hsj : (catT (ss.take j)).size = j * n := by
          have h7 := catT_size (ss.take j) n (fun i hi => by
            rw [List.length_take] at hi
            rw [List.getD_eq_getElem?_getD, List.getElem?_take, if_pos (by omega), ← List.getD_eq_getElem?_getD]
            exact hall i (by omega))
          rw [List.length_take, Nat.min_eq_left (by have := HA.out; omega)] at h7
          exact h7
        clear hall
        obtain ⟨J, hJ⟩ : ∃ J, J = catT (ss.take j) := ⟨_, rfl⟩
        rw [← hJ] at hsj ⊢
        have HJ := Lib.hid hJ
        by_cases hja : j < a
        · obtain ⟨t, ht⟩ : ∃ t, t = ss.getD j ⟨#[]⟩ := ⟨_, rfl⟩
          have hjl : j < ss.length := by have := HA.out; omega
          have cl := HCELL.out j hjl
          have hts := HSZ.out j hjl
          have hcs : catT (ss.take (j + 1)) = J ++ t := by
            rw [List.take_succ_eq_append_getElem hjl, catT_snoc, ← hJ]
            congr 1
            rw [ht, List.getD_eq_getElem?_getD, List.getElem?_eq_getElem hjl, Option.getD_some]
          rw [← ht] at cl hts
          have hJb : J.size ≤ 25500000 ∨ n ≠ t.size := by
            by_cases hx : n = t.size
            · left
              rw [hsj]
              exact Nat.le_trans (Nat.mul_le_mul (show j ≤ 255 by omega) (show n ≤ 100000 by omega)) (by omega)
            · exact Or.inr hx
          have HT := Lib.hid ht
          have HCS := Lib.hid hcs
          clear ht hcs hJ hsj
          by_cases hs : t.size = n
          · have hnb : ((t.size : Int) != (n : Int)) = false := by simp [hs]
            have hsum : J.size + t.size ≤ 9223372036854775807 := by
              rcases hJb with h | h
              · omega
              · exact absurd hs.symm h
            have HS := Lib.hid hs
            clear hs hJb
            go_wp2
            go_round
            case measure => simp [intOf]; omega
            case rel =>
              refine ⟨j + 1, by omega, by go_num, by rw [HCS.out], fun i hi => ?_⟩
              by_cases e : i = j
              · rw [e, ← HT.out]; exact HS.out
              · exact HALL.out i (by omega)
          · have hnb : ((t.size : Int) != (n : Int)) = true := by simp; omega
            have HS := Lib.hid hs
            clear hs hJb
            go_wp2
            go_ret2
            have ec : cd = 19 := by rw [HCD.out, if_neg (fun h => HS.out (by rw [HT.out]; exact h j hja))]
            exact ⟨by rw [HTX2.out (by rw [ec]; decide), ec]; rfl, rfl⟩
        · obtain rfl : a = j := by omega
          have hJ1 : (c : Int) ≤ (J.size : Int) := by have := HLO.out; omega
          have hJ2 : 0 ≤ (c : Int) := by omega
          have e3 : ((c : Int)).toNat = c := by omega
          clear hja hj hJ hsj
          go_wp2
          go_ret2
          have ec : cd = 0 := by rw [HCD.out, if_pos HALL.out]
          exact ⟨by rw [HTX3.out ec, ← HJ.out, ec]; rfl, rfl⟩
end Go.Proofs.Ytbnfnijjldimkab
