/-
  The walk of a disk's Read.
-/
import Derived.Test.YthppnjmepeeejaaDisk
namespace Go.Proofs.Ythppnjmepeeejaa
open Go.RowKit
/-- what lasts of sector a -/
def Dk.lasts (D : Dk) (a : Nat) : ByteArray := ⟨((D.has.drop (a * 64)).take 64).toArray⟩
/-- what the sector a reads as -/
def Dk.reads (D : Dk) (a : Nat) : ByteArray := D.wait.foldl (fun s x => if x.1 = a then x.2 else s) (D.lasts a)
structure Dk.ok (D : Dk) (n : Nat) : Prop where
  len : D.has.length = 64 * n
  n1 : 1 ≤ n
  n2 : n ≤ 8192
  at_ : ∀ x, x ∈ D.wait → x.1 < n
  size : ∀ x, x ∈ D.wait → x.2.size = 64
  few : D.wait.length ≤ 1099511627776
  life0 : 0 ≤ D.life
  life1 : D.life ≤ 4611686018427387904
theorem wcells_length (l : List (Nat × ByteArray)) : (wcells l).length = 2 * l.length := by
  induction l with
  | nil => rfl
  | cons x l ih => simp [wcells, ih]; omega
theorem wcells_get (l : List (Nat × ByteArray)) (i : Nat) (h : i < l.length) : (wcells l)[2 * i]? = some (.int .i64 (l[i].1 : Int)) ∧ (wcells l)[2 * i + 1]? = some (.string l[i].2) := by
  induction l generalizing i with
  | nil => simp at h
  | cons x l ih =>
    match i, h with
    | 0, _ => exact ⟨rfl, rfl⟩
    | i + 1, h =>
      have := ih i (by simpa using h)
      simp only [wcells, List.getElem_cons_succ]
      exact ⟨by rw [show 2 * (i + 1) = 2 * i + 1 + 1 from by omega]; simpa using this.1, by rw [show 2 * (i + 1) + 1 = 2 * i + 1 + 1 + 1 from by omega]; simpa using this.2⟩
theorem fold_last (l : List (Nat × ByteArray)) (a : Nat) (s : ByteArray) : (∀ x, x ∈ l → x.1 ≠ a) → l.foldl (fun s x => if x.1 = a then x.2 else s) s = s := by
  induction l generalizing s with
  | nil => intro _; rfl
  | cons x l ih =>
    intro h
    rw [List.foldl_cons, if_neg (h x (by simp))]
    exact ih s (fun y hy => h y (by simp [hy]))
theorem fold_at (l : List (Nat × ByteArray)) (a i : Nat) (s : ByteArray) (hi : i < l.length) (h : l[i].1 = a) (hl : ∀ j (hj : j < l.length), i < j → l[j].1 ≠ a) : l.foldl (fun s x => if x.1 = a then x.2 else s) s = l[i].2 := by
  induction l generalizing i s with
  | nil => simp at hi
  | cons x l ih =>
    rw [List.foldl_cons]
    match i, hi with
    | 0, _ =>
      simp only [List.getElem_cons_zero] at h ⊢
      rw [if_pos h]
      refine fold_last l a _ (fun y hy => ?_)
      obtain ⟨j, hj, rfl⟩ := List.getElem_of_mem hy
      have := hl (j + 1) (by simpa using hj) (by omega)
      simpa using this
    | i + 1, hi =>
      simp only [List.getElem_cons_succ] at h ⊢
      exact ih i _ (by simpa using hi) h (fun j hj hij => by
        have := hl (j + 1) (by simpa using hj) (by omega)
        simpa using this)
set_option maxHeartbeats 800000 in
theorem read_ok (p d gh : Nat) (v : Value) (P : Pw) (D : Dk) (n a : Nat) (w : World) (hp : PowerAt w p P) (h : DiskAt w p d gh v D) (ok : D.ok n) (hr : rdy P D a = 0) (ha : a < n) :
    Calls Try.prog 14 #[.pointer (some ⟨d, 0, none⟩), .int .i64 a] w fun e w' => e = .returned (.tuple #[.string (D.reads a), .nilIface]) ∧ Below w.heap.size w w' := by
  have c2 := h.top.cell (j := 2) rfl
  have H := Lib.hid h
  have HP := Lib.hid hp
  have OK := Lib.hid ok
  have n2 := ok.n2
  have hfew := ok.few
  have hv : D.wait.length = 0 ∧ v = .slice none 0 0 ∨ ∃ g cap, v = .slice (some ⟨g, 0, none⟩) D.wait.length cap := by
    rcases h.late.2 with ⟨h1, h2⟩ | ⟨g, cap, cur, hv, _⟩
    · exact Or.inl ⟨h2, h1⟩
    · exact Or.inr ⟨g, cap, hv⟩
  clear h hp ok
  rcases hv with ⟨h0, rfl⟩ | ⟨g, cap, rfl⟩
  · have hw : D.wait = [] := List.length_eq_zero_iff.1 h0
    have hl64 : ((D.has.drop (a * 64)).take 64).length = 64 := by rw [List.length_take, List.length_drop, OK.out.len]; omega
    have hconv := run_string_of_row (P := Try.prog) w 70 9 5 Try.underlying70 Try.underlying5 Try.underlying9 H.out.bytes.row (a * 64) 64 (64 * n - a * 64) ((D.has.drop (a * 64)).take 64) hl64 (by rw [bcells_drop, bcells_take])
    have HL := Lib.hid hl64
    have HW := Lib.hid hw
    have HR := Lib.hid hr
    clear hl64 hw h0 hr
    go_enter Try.func14, Try.ntmps14
    go_wp2_with (go_at_call 34; refine (ready_ok p d gh _ P D n _ _ HP.out H.out OK.out.len n2 HR.out).mono ?_; rintro e w' ⟨rfl, rfl⟩)
    refine wp_loop_rounds 1 ?_
    rw [rounds_succ]
    go_wp2_with (go_at_call 38; refine (sector_any p d gh _ D n a _ H.out OK.out.len n2 ha).mono ?_; rintro e w' ⟨rfl, rfl⟩)
    go_ret2
    exact ⟨by unfold Dk.reads; rw [HW.out]; rfl, Below.refl _ _⟩
  · have HR := Lib.hid hr
    clear hr
    go_enter Try.func14, Try.ntmps14
    go_wp2_with (go_at_call 34; refine (ready_ok p d gh _ P D n _ _ HP.out H.out OK.out.len n2 HR.out).mono ?_; rintro e w' ⟨rfl, rfl⟩)
    go_loop [7] (fun i => ∃ k : Nat, k ≤ D.wait.length ∧ i = .int .i64 ((k : Int) - 1) ∧ ∀ j (hj : j < D.wait.length), k ≤ j → D.wait[j].1 ≠ a) (fun i => (intOf i + 1).toNat)
    case atStart => exact ⟨D.wait.length, Nat.le_refl _, rfl, fun j hj h => by omega⟩
    case round =>
      obtain ⟨k, hk, rfl, hall⟩ := hrel
      have HA := Lib.hid hall; clear hall
      by_cases hlt : 0 < k
      · obtain ⟨m, rfl⟩ : ∃ m, k = m + 1 := ⟨k - 1, by omega⟩
        have hm : m < D.wait.length := by omega
        have c3 : w.cell? ⟨g, m * 2, none⟩ = some (.int .i64 (D.wait[m].1 : Int)) := own_cell H.out.late rfl (by rw [Nat.mul_comm]; exact (wcells_get _ _ hm).1)
        have c4 : w.cell? ⟨g, m * 2 + 1, none⟩ = some (.string D.wait[m].2) := own_cell H.out.late rfl (by rw [Nat.mul_comm]; exact (wcells_get _ _ hm).2)
        by_cases he : D.wait[m].1 = a
        · have ht : ((D.wait[m].1 : Int) == (a : Int)) = true := by simp [he]
          have HE := Lib.hid he; clear he
          go_wp2
          go_ret2
          exact ⟨by unfold Dk.reads; rw [fold_at D.wait a m _ hm HE.out (fun j hj h => HA.out j hj (by omega))]; rfl, Below.refl _ _⟩
        · have ht : ((D.wait[m].1 : Int) == (a : Int)) = false := by simp; omega
          have HE := Lib.hid he; clear he
          go_wp2
          go_round
          case measure => simp [intOf]
          case rel => exact ⟨m, by omega, by go_num, fun j hj h => by
            by_cases e : j = m
            · subst e; exact HE.out
            · exact HA.out j hj (by omega)⟩
      · obtain rfl : k = 0 := by omega
        have hl64 : ((D.has.drop (a * 64)).take 64).length = 64 := by rw [List.length_take, List.length_drop, OK.out.len]; omega
        have hconv := run_string_of_row (P := Try.prog) w 70 9 5 Try.underlying70 Try.underlying5 Try.underlying9 H.out.bytes.row (a * 64) 64 (64 * n - a * 64) ((D.has.drop (a * 64)).take 64) hl64 (by rw [bcells_drop, bcells_take])
        have HL := Lib.hid hl64; clear hl64
        go_wp2_with (go_at_call 38; refine (sector_any p d gh _ D n a _ H.out OK.out.len n2 ha).mono ?_; rintro e w' ⟨rfl, rfl⟩)
        go_ret2
        exact ⟨by unfold Dk.reads; rw [fold_last _ _ _ (fun x hx => by
          obtain ⟨j, hj, rfl⟩ := List.getElem_of_mem hx
          exact HA.out j hj (by omega))]; rfl, Below.refl _ _⟩
set_option maxHeartbeats 400000 in
theorem read_bad (p d gh : Nat) (v : Value) (P : Pw) (D : Dk) (n : Nat) (a : Int) (w : World) (hp : PowerAt w p P) (h : DiskAt w p d gh v D) (ok : D.ok n) (hr : rdy P D a ≠ 0) :
    Calls Try.prog 14 #[.pointer (some ⟨d, 0, none⟩), .int .i64 a] w fun e w' => ∃ b, e = .returned (.tuple #[.string ⟨#[]⟩, .iface 81 (.pointer (some ⟨b, 0, none⟩))]) ∧ w.heap.size ≤ b ∧ FaultAt w' b (rdy P D a) ∧ Below w.heap.size w w' := by
  have H := Lib.hid h
  have HP := Lib.hid hp
  have OK := Lib.hid ok
  have HR := Lib.hid hr
  clear h hp ok hr
  go_enter Try.func14, Try.ntmps14
  go_wp2_with (go_at_call 34; refine (ready_bad p d gh _ P D n _ _ HP.out H.out OK.out.len OK.out.n2 HR.out).mono ?_; rintro e w' ⟨b, rfl, hb1, hb2, hb3⟩)
  go_ret2
  exact ⟨b, rfl, hb1, hb2, hb3⟩
end Go.Proofs.Ythppnjmepeeejaa
