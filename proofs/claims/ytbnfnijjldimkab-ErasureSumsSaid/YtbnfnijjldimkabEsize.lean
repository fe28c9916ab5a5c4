/-
  The walks of erasure's small functions: may, fault, Size; the document's wrong, Size.
-/
import Derived.Test.YtbnfnijjldimkabMfine
import Derived.Test.YtbnfnijjldimkabMapp2
namespace Go.Proofs.Ytbnfnijjldimkab
open Go.RowKit
set_option linter.unusedVariables false
set_option linter.unusedSimpArgs false
/-- are there such shards? -/
def mayB (k m l : Int) : Bool := decide (1 ≤ k) && (decide (0 ≤ m) && (decide (0 ≤ l) && (decide (k ≤ 255) && decide (m ≤ 255 - k))))
theorem mayB_out {k m l : Int} (h : mayB k m l = true) : ∃ a b c : Nat, k = a ∧ m = b ∧ l = c ∧ 1 ≤ a ∧ a + b ≤ 255 := by
  unfold mayB at h
  simp only [Bool.and_eq_true, decide_eq_true_eq] at h
  exact ⟨k.toNat, m.toNat, l.toNat, by omega, by omega, by omega, by omega, by omega⟩
theorem mayB_ok {a b c : Nat} (h1 : 1 ≤ a) (h2 : a + b ≤ 255) : mayB a b c = true := by
  unfold mayB
  simp only [Bool.and_eq_true, decide_eq_true_eq]
  omega
set_option maxHeartbeats 800000 in
theorem may_any (k m l : Int) (w : World) :
    Calls Try.prog 24 #[.int .i64 k, .int .i64 m, .int .i64 l] w fun e w' => e = .returned (.bool (mayB k m l)) ∧ w = w' := by
  have go : ∀ b, mayB k m l = b → Ending.returned (.bool b) = .returned (.bool (mayB k m l)) := fun b h => by rw [h]
  by_cases h1 : 1 ≤ k
  · by_cases h2 : 0 ≤ m
    · by_cases h3 : 0 ≤ l
      · by_cases h4 : k ≤ 255
        · by_cases h5 : m ≤ 255 - k
          · have H := Lib.hid (go true (by unfold mayB; rw [decide_eq_true h1, decide_eq_true h2, decide_eq_true h3, decide_eq_true h4, decide_eq_true h5]; rfl))
            clear go
            go_enter Try.func24, Try.ntmps24
            go_wp2
            go_ret
            exact ⟨H.out, rfl⟩
          · have H := Lib.hid (go false (by unfold mayB; rw [decide_eq_false h5]; simp))
            clear go
            go_enter Try.func24, Try.ntmps24
            go_wp2
            go_ret
            exact ⟨H.out, rfl⟩
        · have H := Lib.hid (go false (by unfold mayB; rw [decide_eq_false h4]; simp))
          clear go
          go_enter Try.func24, Try.ntmps24
          go_wp2
          go_ret
          exact ⟨H.out, rfl⟩
      · have H := Lib.hid (go false (by unfold mayB; rw [decide_eq_false h3]; simp))
        clear go
        go_enter Try.func24, Try.ntmps24
        go_wp2
        go_ret
        exact ⟨H.out, rfl⟩
    · have H := Lib.hid (go false (by unfold mayB; rw [decide_eq_false h2]; simp))
      clear go
      go_enter Try.func24, Try.ntmps24
      go_wp2
      go_ret
      exact ⟨H.out, rfl⟩
  · have H := Lib.hid (go false (by unfold mayB; rw [decide_eq_false h1]; simp))
    clear go
    go_enter Try.func24, Try.ntmps24
    go_wp2
    go_ret
    exact ⟨H.out, rfl⟩
set_option maxHeartbeats 800000 in
theorem wrong_any (k m l : Int) (w : World) :
    Calls Try.prog 26 #[.int .i64 k, .int .i64 m, .int .i64 l] w fun e w' => e = .returned (.bool (!mayB k m l)) ∧ w = w' := by
  have go : ∀ b, mayB k m l = b → Ending.returned (.bool (!b)) = .returned (.bool (!mayB k m l)) := fun b h => by rw [h]
  have hno : ∀ {p : Prop}, p → ¬ p → False := fun a b => b a
  by_cases h1 : k < 1
  · have H := Lib.hid (go false (by unfold mayB; rw [decide_eq_false (by omega : ¬ 1 ≤ k)]; simp))
    clear go
    go_enter Try.func26, Try.ntmps26
    go_wp2
    go_ret
    exact ⟨H.out, rfl⟩
  · by_cases h2 : m < 0
    · have H := Lib.hid (go false (by unfold mayB; rw [decide_eq_false (by omega : ¬ 0 ≤ m)]; simp))
      clear go
      go_enter Try.func26, Try.ntmps26
      go_wp2
      go_ret
      exact ⟨H.out, rfl⟩
    · by_cases h3 : 255 < k
      · have H := Lib.hid (go false (by unfold mayB; rw [decide_eq_false (by omega : ¬ k ≤ 255)]; simp))
        clear go
        go_enter Try.func26, Try.ntmps26
        go_wp2
        go_ret
        exact ⟨H.out, rfl⟩
      · by_cases h4 : 255 < m
        · have H := Lib.hid (go false (by unfold mayB; rw [decide_eq_false (by omega : ¬ m ≤ 255 - k)]; simp))
          clear go
          go_enter Try.func26, Try.ntmps26
          go_wp2
          go_ret
          exact ⟨H.out, rfl⟩
        · by_cases h5 : 255 < k + m
          · have H := Lib.hid (go false (by unfold mayB; rw [decide_eq_false (by omega : ¬ m ≤ 255 - k)]; simp))
            clear go
            go_enter Try.func26, Try.ntmps26
            go_wp2
            go_ret
            exact ⟨H.out, rfl⟩
          · by_cases h6 : l < 0
            · have H := Lib.hid (go false (by unfold mayB; rw [decide_eq_false (by omega : ¬ 0 ≤ l)]; simp))
              clear go
              go_enter Try.func26, Try.ntmps26
              go_wp2
              go_ret
              exact ⟨H.out, rfl⟩
            · have H := Lib.hid (go true (by unfold mayB; rw [decide_eq_true (by omega : 1 ≤ k), decide_eq_true (by omega : 0 ≤ m), decide_eq_true (by omega : 0 ≤ l), decide_eq_true (by omega : k ≤ 255), decide_eq_true (by omega : m ≤ 255 - k)]; rfl))
              clear go
              go_enter Try.func26, Try.ntmps26
              go_wp2
              go_ret
              exact ⟨H.out, rfl⟩
set_option maxHeartbeats 400000 in
theorem efault_any (c : Int) (hc : c ≠ 0) (w : World) :
    Calls Try.prog 25 #[.int .i64 c] w fun e w' => ∃ v, e = .returned v ∧ ErrAt w.heap.size w' v c ∧ Below w.heap.size w w' := by
  have HC := Lib.hid hc
  clear hc
  go_enter Try.func25, Try.ntmps25
  go_wp2
  go_ret
  exact ⟨_, rfl, Or.inr ⟨HC.out, w.heap.size, rfl, Nat.le_refl _, Row.new w _ [.int .i64 c, .int .i64 0, .nilIface]⟩, (Below.refl _ _).alloc (Nat.le_refl _) _⟩
/-- how many bytes a shard has -/
def szOf (k l : Nat) : Nat := l / k + (if 0 < l % k then 1 else 0)
theorem size_bad (k l : Int) (w : World) (h : mayB k 0 l = false) :
    Calls Try.prog 10 #[.int .i64 k, .int .i64 l] w fun e w' => ∃ ev, e = .returned (.tuple #[.int .i64 0, ev]) ∧ ErrAt w.heap.size w' ev 1 ∧ Below w.heap.size w w' := by
  have H := Lib.hid h
  clear h
  go_enter Try.func10, Try.ntmps10
  go_wp2_with (first
    | (go_at_call 24; refine (may_any k 0 l _).mono ?_; rintro e w1 ⟨rfl, rfl⟩; rw [H.out])
    | (go_at_call 25; refine (efault_any 1 (by decide) _).mono ?_; rintro e w2 ⟨ev, rfl, he, hb⟩; have S2 := Lib.hid (And.intro he hb); clear he hb))
  go_ret2
  exact ⟨ev, rfl, S2.out.1, S2.out.2⟩
theorem rsize_bad (k l : Int) (w : World) (h : mayB k 0 l = false) :
    Calls Try.prog 11 #[.int .i64 k, .int .i64 l] w fun e w' => e = .returned (.tuple #[.int .i64 0, .int .i64 1]) ∧ w = w' := by
  have H := Lib.hid h
  clear h
  go_enter Try.func11, Try.ntmps11
  go_wp2_with (go_at_call 26; refine (wrong_any k 0 l _).mono ?_; rintro e w1 ⟨rfl, rfl⟩; rw [H.out])
  go_ret2
  exact ⟨rfl, rfl⟩
set_option maxHeartbeats 800000 in
theorem size_ok (k l : Nat) (w : World) (h1 : 1 ≤ k) (h2 : k ≤ 255) (h3 : l ≤ 9223372036854775807) :
    Calls Try.prog 10 #[.int .i64 k, .int .i64 l] w fun e w' => e = .returned (.tuple #[.int .i64 (szOf k l), .nilIface]) ∧ w = w' := by
  have H := Lib.hid (mayB_ok (b := 0) (c := l) h1 (by omega))
  obtain ⟨d, hd⟩ : ∃ d, d = l / k := ⟨_, rfl⟩
  obtain ⟨m, hm⟩ : ∃ d, d = l % k := ⟨_, rfl⟩
  have ed : Int.tdiv (l : Int) (k : Int) = (d : Int) := by rw [hd]; exact (Int.ofNat_tdiv l k).symm
  have em : Int.tmod (l : Int) (k : Int) = (m : Int) := by rw [hm]; exact (Int.ofNat_tmod l k).symm
  have hd2 : d ≤ 9223372036854775807 := by rw [hd]; exact Nat.le_trans (Nat.div_le_self _ _) h3
  have hk0 : ¬ k = 0 := by omega
  by_cases hz : 0 < m
  · have hd3 : d ≤ 9223372036854775806 := by
      have h4 : l = k * (l / k) + l % k := (Nat.div_add_mod l k).symm
      have h5 : l / k ≤ k * (l / k) := Nat.le_mul_of_pos_left _ (by omega)
      rw [hd]
      omega
    have hs : szOf k l = d + 1 := by unfold szOf; rw [← hm, if_pos hz, ← hd]
    rw [hs]
    clear hd hm hs
    go_enter Try.func10, Try.ntmps10
    go_wp2_with (go_at_call 24; refine (may_any k 0 l _).mono ?_; rintro e w1 ⟨rfl, rfl⟩; rw [show mayB (k : Int) 0 (l : Int) = true from H.out])
    go_ret2
    exact ⟨by simp, rfl⟩
  · have hs : szOf k l = d := by unfold szOf; rw [← hm, if_neg hz, ← hd]; omega
    rw [hs]
    clear hd hm hs
    go_enter Try.func10, Try.ntmps10
    go_wp2_with (go_at_call 24; refine (may_any k 0 l _).mono ?_; rintro e w1 ⟨rfl, rfl⟩; rw [show mayB (k : Int) 0 (l : Int) = true from H.out])
    go_ret2
    exact ⟨rfl, rfl⟩
set_option maxHeartbeats 800000 in
theorem rsize_ok (k l : Nat) (w : World) (h1 : 1 ≤ k) (h2 : k ≤ 255) (h3 : l ≤ 9223372036854775807) :
    Calls Try.prog 11 #[.int .i64 k, .int .i64 l] w fun e w' => e = .returned (.tuple #[.int .i64 (szOf k l), .int .i64 0]) ∧ w = w' := by
  have H := Lib.hid (mayB_ok (b := 0) (c := l) h1 (by omega))
  obtain ⟨d, hd⟩ : ∃ d, d = l / k := ⟨_, rfl⟩
  obtain ⟨m, hm⟩ : ∃ d, d = l % k := ⟨_, rfl⟩
  have ed : Int.tdiv (l : Int) (k : Int) = (d : Int) := by rw [hd]; exact (Int.ofNat_tdiv l k).symm
  have em : Int.tmod (l : Int) (k : Int) = (m : Int) := by rw [hm]; exact (Int.ofNat_tmod l k).symm
  have hd2 : d ≤ 9223372036854775807 := by rw [hd]; exact Nat.le_trans (Nat.div_le_self _ _) h3
  have hk0 : ¬ k = 0 := by omega
  by_cases hz : 0 < m
  · have hd3 : d ≤ 9223372036854775806 := by
      have h4 : l = k * (l / k) + l % k := (Nat.div_add_mod l k).symm
      have h5 : l / k ≤ k * (l / k) := Nat.le_mul_of_pos_left _ (by omega)
      rw [hd]
      omega
    have hs : szOf k l = d + 1 := by unfold szOf; rw [← hm, if_pos hz, ← hd]
    have hmb : ((m : Int) != 0) = true := by simp; omega
    rw [hs]
    clear hd hm hs
    go_enter Try.func11, Try.ntmps11
    go_wp2_with (go_at_call 26; refine (wrong_any k 0 l _).mono ?_; rintro e w1 ⟨rfl, rfl⟩; rw [show mayB (k : Int) 0 (l : Int) = true from H.out])
    go_ret2
    exact ⟨by simp, rfl⟩
  · have hs : szOf k l = d := by unfold szOf; rw [← hm, if_neg hz, ← hd]; omega
    have hmb : ((m : Int) != 0) = false := by simp; omega
    rw [hs]
    clear hd hm hs
    go_enter Try.func11, Try.ntmps11
    go_wp2_with (go_at_call 26; refine (wrong_any k 0 l _).mono ?_; rintro e w1 ⟨rfl, rfl⟩; rw [show mayB (k : Int) 0 (l : Int) = true from H.out])
    go_ret2
    exact ⟨rfl, rfl⟩
end Go.Proofs.Ytbnfnijjldimkab
