/-
  The walks of the erasure laws' own small helpers: pick, is, many, same.
-/
import Derived.Test.YtbnfnijjldimkabEcheck
import Derived.Test.YtbnfnijjldimkabEjoin
import Derived.Test.YtbnfnijjldimkabERrest
import Derived.Test.YtbnfnijjldimkabEenc
import Derived.Test.YtbnfnijjldimkabIs
import Derived.Deep.QuietTactic
import Derived.BigQuiet
namespace Go.Proofs.Ytbnfnijjldimkab
open Go.RowKit
set_option linter.unusedVariables false
set_option linter.unusedSimpArgs false
/-- which of n things a raw number speaks of -/
def pickOf (c : Int) (n : Int) : Int := if c < 0 then (-(c + 1)) % n else c % n
theorem pickOf_lt (c n : Int) (h : 0 < n) : 0 ≤ pickOf c n ∧ pickOf c n < n := by
  unfold pickOf; split <;> exact ⟨Int.emod_nonneg _ (by omega), Int.emod_lt_of_pos _ h⟩
set_option maxHeartbeats 400000 in
theorem pick_any (c n : Int) (w : World) (h0 : -9223372036854775808 ≤ c) (h1 : c ≤ 9223372036854775807) (hn : 0 < n) (hn1 : n ≤ 100000) :
    Calls Try.prog 23 #[.int .i64 c, .int .i64 n] w fun e w' => e = .returned (.int .i64 (pickOf c n)) ∧ w = w' := by
  by_cases hc : c < 0
  · go_enter Try.func23, Try.ntmps23
    go_wp2
    go_ret
    refine ⟨ret_int ?_, rfl⟩
    unfold pickOf
    rw [if_pos (by omega), ← Int.neg_tmod, Int.tmod_eq_emod_of_nonneg (by omega)]
  · go_enter Try.func23, Try.ntmps23
    go_wp2
    go_ret
    refine ⟨ret_int ?_, rfl⟩
    unfold pickOf
    rw [if_neg (by omega)]
theorem assertFault (b : Nat) (xT : TypeId) (w : World) : (Instr.typeAssert (.iface 62 (.pointer (some ⟨b, 0, none⟩))) xT 62 true).run Try.prog w = .ok (.tuple #[.pointer (some ⟨b, 0, none⟩), .bool true]) w := by kernel_rfl
set_option maxHeartbeats 800000 in
set_option maxRecDepth 100000 in
theorem is_ok (B : Nat) (v : Value) (c : Int) (w : World) (h : ErrAt B w v c) :
    Calls Try.prog 12 #[v, .int .i64 c] w fun e w' => e = .returned (.bool true) ∧ w = w' := by
  rcases h with ⟨rfl, rfl⟩ | ⟨hc, b, rfl, hB, hf⟩
  · go_enter Try.func12, Try.ntmps12
    go_wp2
    go_ret
    exact ⟨rfl, rfl⟩
  · have c0 := hf.cell (j := 0) rfl
    have c1 := hf.cell (j := 1) rfl
    have c2 := hf.cell (j := 2) rfl
    have hcb : (c == 0) = false := by simpa using hc
    have HC := Lib.hid c0
    have hA := assertFault
    clear hf hc hB
    go_enter Try.func12, Try.ntmps12
    go_wp2_with (go_at_call 27; refine (errorsIs b c _ HC.out).mono ?_; rintro e w' ⟨rfl, rfl⟩)
    go_ret
    exact ⟨rfl, rfl⟩
/-- are there too many shards? -/
def manyB (k m : Int) : Bool := decide (1 ≤ k ∧ 0 ≤ m ∧ k ≤ 255 ∧ m ≤ 255 ∧ k + m ≤ 255 ∧ 24 < k + m)
theorem many_no {k m : Int} (h : manyB k m = false) : mayB k m 0 = false ∨ ∃ a b : Nat, k = a ∧ m = b ∧ 1 ≤ a ∧ a + b ≤ 24 := by
  unfold manyB at h
  cases hm : mayB k m 0
  · exact Or.inl rfl
  · right
    obtain ⟨a, b, c, rfl, rfl, _, h1, h2⟩ := mayB_out hm
    have h3 := of_decide_eq_false h
    exact ⟨a, b, rfl, rfl, h1, by omega⟩
set_option maxHeartbeats 1600000 in
theorem many_any (k m : Int) (w : World) :
    Calls Try.prog 13 #[.int .i64 k, .int .i64 m] w fun e w' => e = .returned (.bool (manyB k m)) ∧ w = w' := by
  have go : ∀ b, manyB k m = b → Ending.returned (.bool b) = .returned (.bool (manyB k m)) := fun b h => by rw [h]
  by_cases h1 : 1 ≤ k
  · by_cases h2 : 0 ≤ m
    · by_cases h3 : k ≤ 255
      · by_cases h4 : m ≤ 255
        · by_cases h5 : k + m ≤ 255
          · by_cases h6 : 24 < k + m
            · have H := Lib.hid (go true (by unfold manyB; exact decide_eq_true (by omega)))
              clear go
              go_enter Try.func13, Try.ntmps13
              go_wp2
              go_ret
              exact ⟨H.out, rfl⟩
            · have H := Lib.hid (go false (by unfold manyB; exact decide_eq_false (by omega)))
              clear go
              go_enter Try.func13, Try.ntmps13
              go_wp2
              go_ret
              exact ⟨H.out, rfl⟩
          · have H := Lib.hid (go false (by unfold manyB; exact decide_eq_false (by omega)))
            clear go
            go_enter Try.func13, Try.ntmps13
            go_wp2
            go_ret
            exact ⟨H.out, rfl⟩
        · have H := Lib.hid (go false (by unfold manyB; exact decide_eq_false (by omega)))
          clear go
          go_enter Try.func13, Try.ntmps13
          go_wp2
          go_ret
          exact ⟨H.out, rfl⟩
      · have H := Lib.hid (go false (by unfold manyB; exact decide_eq_false (by omega)))
        clear go
        go_enter Try.func13, Try.ntmps13
        go_wp2
        go_ret
        exact ⟨H.out, rfl⟩
    · have H := Lib.hid (go false (by unfold manyB; exact decide_eq_false (by omega)))
      clear go
      go_enter Try.func13, Try.ntmps13
      go_wp2
      go_ret
      exact ⟨H.out, rfl⟩
  · have H := Lib.hid (go false (by unfold manyB; exact decide_eq_false (by omega)))
    clear go
    go_enter Try.func13, Try.ntmps13
    go_wp2
    go_ret
    exact ⟨H.out, rfl⟩
set_option maxHeartbeats 1600000 in
/-- same: two lists of texts are one, or not -/
theorem same_any (a b : Option Addr) (an ac bn bc : Nat) (A B : List ByteArray) (w : World) (hA : StrsRd w a A) (hB : StrsRd w b B) (ha : an = A.length) (hb : bn = B.length) (hl : an ≤ 9223372036854775807) (hl2 : bn ≤ 9223372036854775807) :
    Calls Try.prog 16 #[.slice a an ac, .slice b bn bc] w fun e w' => e = .returned (.bool (decide (A = B))) ∧ Below w.heap.size w w' := by
  obtain ⟨r, hr⟩ : ∃ r, r = decide (A = B) := ⟨_, rfl⟩
  rw [← hr]
  by_cases hne : an = bn
  · have hq : ((an : Int) != (bn : Int)) = false := by simp [hne]
    subst hne
    have HA := Lib.hid hA
    have HB := Lib.hid hB
    have HAL := Lib.hid ha
    have HBL := Lib.hid hb
    have HR := Lib.hid hr
    clear hA hB ha hb hr
    go_enter Try.func16, Try.ntmps16
    go_wp2
    go_loopw [5] (fun i wr => ∃ j : Nat, j ≤ an ∧ i = .int .i64 j ∧ (∀ i, i < j → A.getD i ⟨#[]⟩ = B.getD i ⟨#[]⟩) ∧ Below w.heap.size w wr) (fun i _ => an - (intOf i).toNat)
    case atStart => exact ⟨0, by omega, rfl, fun i h => by omega, Below.refl _ _⟩
    case round =>
      obtain ⟨j, hj, rfl, hall, hbel⟩ := hrel
      by_cases hlt : j < an
      · obtain ⟨g1, o1, rfl, l1, d1⟩ := HA.out.open (by rw [← HAL.out]; omega)
        obtain ⟨g2, o2, rfl, l2, d2⟩ := HB.out.open (by rw [← HBL.out]; omega)
        have d3 := (hbel.cell (p := ⟨g1, o1 + j, none⟩) l1).trans (d1 j (by rw [← HAL.out]; exact hlt))
        have d4 := (hbel.cell (p := ⟨g2, o2 + j, none⟩) l2).trans (d2 j (by rw [← HBL.out]; exact hlt))
        obtain ⟨t, ht⟩ : ∃ t, t = A.getD j ⟨#[]⟩ := ⟨_, rfl⟩
        obtain ⟨u, hu⟩ : ∃ u, u = B.getD j ⟨#[]⟩ := ⟨_, rfl⟩
        rw [← ht] at d3
        rw [← hu] at d4
        have S8 := Lib.hid (And.intro hall hbel)
        have HT := Lib.hid ht
        have HU := Lib.hid hu
        clear hall hbel d1 d2 ht hu
        by_cases e : t = u
        · have HE := Lib.hid (HT.out.symm.trans (e.trans HU.out))
          subst e
          go_wp2_with fail
          go_quiet (fail)
          go_wp2
          go_roundw
          case measure => simp [intOf]; omega
          case rel =>
            refine ⟨j + 1, by omega, by go_num, fun i hi => ?_, S8.out.2.trans ⟨rfl, rfl, rfl, Nat.le_refl _, fun _ _ => rfl⟩⟩
            by_cases e : i = j
            · rw [e]; exact HE.out
            · exact S8.out.1 i (by omega)
        · have ht2 := toList_ne e
          have HE := Lib.hid e
          clear e
          go_wp2_with fail
          go_quiet (fail)
          go_wp2
          go_ret
          have hrf : r = false := by rw [HR.out]; exact decide_eq_false (fun h => HE.out (by rw [HT.out, HU.out, h]))
          exact ⟨by rw [hrf]; rfl, S8.out.2.trans ⟨rfl, rfl, rfl, Nat.le_refl _, fun _ _ => rfl⟩⟩
      · obtain rfl : j = an := by omega
        have S8 := Lib.hid (And.intro hall hbel)
        clear hall hbel
        go_wp2
        go_ret
        have hrf : r = true := by rw [HR.out]; exact decide_eq_true (getD_ext (by rw [← HAL.out, ← HBL.out]) (fun i hi => S8.out.1 i (by rw [HAL.out]; exact hi)))
        exact ⟨by rw [hrf]; rfl, S8.out.2⟩
  · have hq : ((an : Int) != (bn : Int)) = true := by simp; omega
    have HN := Lib.hid hne
    have HAL := Lib.hid ha
    have HBL := Lib.hid hb
    have HR := Lib.hid hr
    clear hA hB ha hb hr hne
    go_enter Try.func16, Try.ntmps16
    go_wp2
    go_ret
    have hrf : r = false := by rw [HR.out]; exact decide_eq_false (fun h => HN.out (by rw [HAL.out, HBL.out, h]))
    exact ⟨by rw [hrf]; rfl, Below.refl _ _⟩
end Go.Proofs.Ytbnfnijjldimkab
