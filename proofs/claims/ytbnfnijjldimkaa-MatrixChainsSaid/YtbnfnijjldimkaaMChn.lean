/-
  The walk of MatrixChains.
-/
import Derived.Test.YtbnfnijjldimkaaMfine
import Derived.Test.YtbnfnijjldimkaaMLinv
import Derived.Test.YtbnfnijjldimkaaMStrs
import Derived.Lib.SlBytesConst
import Derived.Laws.IdiomArrays
namespace Go.Proofs.Ytbnfnijjldimkaa
open Go.RowKit
set_option linter.unusedVariables false
set_option linter.unusedSimpArgs false
theorem row4_cell {w : World} {g : Nat} {T : TypeId} {s0 s1 s2 s3 : Int} (h : Row w g T [.int .i64 s0, .int .i64 s1, .int .i64 s2, .int .i64 s3]) (k : Nat) (hk : k < 4) : w.cell? ⟨g, k, none⟩ = some (.int .i64 ([s0, s1, s2, s3].getD k 0)) := by
  match k, hk with
  | 0, _ => exact h.cell rfl
  | 1, _ => exact h.cell rfl
  | 2, _ => exact h.cell rfl
  | 3, _ => exact h.cell rfl
theorem box4 {w : World} {g : Nat} {T : TypeId} {a b c d : Value} (h : Row w g T [a, b, c, d]) : w.cell? ⟨g, 0, none⟩ = some a ∧ w.cell? ⟨g, 1, none⟩ = some b ∧ w.cell? ⟨g, 2, none⟩ = some c ∧ w.cell? ⟨g, 3, none⟩ = some d := ⟨h.cell rfl, h.cell rfl, h.cell rfl, h.cell rfl⟩
/-- four numbers, the first k of which are laid -/
def chL (M : Nat → Nat) (k : Nat) : List Value := [.int .i64 (if 0 < k then (M 0 : Int) else 0), .int .i64 (if 1 < k then (M 1 : Int) else 0), .int .i64 (if 2 < k then (M 2 : Int) else 0), .int .i64 (if 3 < k then (M 3 : Int) else 0)]
theorem chL_set (M : Nat → Nat) (k : Nat) (hk : k < 4) : (chL M k).set k (.int .i64 (M k : Int)) = chL M (k + 1) := by
  match k, hk with
  | 0, _ => rfl
  | 1, _ => rfl
  | 2, _ => rfl
  | 3, _ => rfl
theorem chL_four (M : Nat → Nat) : chL M 4 = [.int .i64 (M 0 : Int), .int .i64 (M 1 : Int), .int .i64 (M 2 : Int), .int .i64 (M 3 : Int)] := rfl
theorem ch_num (s : List Int) (j : Nat) : ∃ M : Nat → Nat, ∀ j, 1 + pickOf (s.getD j 0) 6 = (M j : Int) ∧ 1 ≤ M j ∧ M j ≤ 6 := by
  refine ⟨fun j => (1 + pickOf (s.getD j 0) 6).toNat, fun j => ?_⟩
  have := pickOf_lt (s.getD j 0) 6 (by omega)
  simp only
  omega
/-- what MatrixChains goes on with -/
structure ChF (bn n0 n1 n2 n3 ga gb gab qa qb qab ba bb bab : Nat) (A B : Nat → Nat → BitVec 8) (x : World) : Prop where
  nn : Row x bn 47 [.int .i64 n0, .int .i64 n1, .int .i64 n2, .int .i64 n3]
  ma : MatRd x ga 0 n0 n1 A
  boxa : Row x ba 24 [.int .i64 n0, .int .i64 n1, .slice (some ⟨ga, 0, none⟩) qa qa]
  mb : MatRd x gb 0 n1 n2 B
  boxb : Row x bb 24 [.int .i64 n1, .int .i64 n2, .slice (some ⟨gb, 0, none⟩) qb qb]
  mab : MatRd x gab 0 n0 n2 (mmul n1 A B)
  boxab : Row x bab 24 [.int .i64 n0, .int .i64 n2, .slice (some ⟨gab, 0, none⟩) qab qab]
theorem scells_snoc (cols : List ByteArray) (u : ByteArray) : scells (cols ++ [u]) = scells cols ++ [.string u] := by simp [scells]
theorem cols_snoc {cols : List ByteArray} {u : ByteArray} {n : Nat} (h : ∀ j, j < cols.length → (cols.getD j ⟨#[]⟩).size = n) (hu : u.size = n) : ∀ j, j < (cols ++ [u]).length → ((cols ++ [u]).getD j ⟨#[]⟩).size = n := by
  intro j hj
  rw [List.getD_eq_getElem?_getD]
  by_cases e : j < cols.length
  · rw [List.getElem?_append_left e, ← List.getD_eq_getElem?_getD]; exact h j e
  · have : j = cols.length := by rw [List.length_append, List.length_singleton] at hj; omega
    subst this
    rw [List.getElem?_append_right (Nat.le_refl _), Nat.sub_self]
    exact hu
theorem rowStrs_chain (A B : Nat → Nat → BitVec 8) (cols : List ByteArray) (len n m r : Nat) (h : ∀ i, i < cols.length → (cols.getD i ⟨#[]⟩).size = len) (hm : m ≤ cols.length) : rowStrs A (rowStrs B cols len m n) len n r = rowStrs (mmul n A B) cols len m r := by
  unfold rowStrs
  exact List.map_congr_left fun i _ => (rowStr_chain A B cols len n m i h hm).symm
theorem Bun.of {w0 w : World} {F : World → Prop} (h : ∀ w', Below w.heap.size w w' → F w') (hb : Below w0.heap.size w0 w) : Bun w0 F w := ⟨h, hb⟩
set_option maxRecDepth 100000 in
set_option maxHeartbeats 6400000 in
theorem chains_any (s0 s1 s2 s3 : Int) (xa ya za ta : Option Addr) (xc yc zc tc : Nat) (X Y Z : List (BitVec 8)) (ss : List ByteArray) (w : World)
    (b0 : -9223372036854775808 ≤ s0 ∧ s0 ≤ 9223372036854775807) (b1 : -9223372036854775808 ≤ s1 ∧ s1 ≤ 9223372036854775807) (b2 : -9223372036854775808 ≤ s2 ∧ s2 ≤ 9223372036854775807) (b3 : -9223372036854775808 ≤ s3 ∧ s3 ≤ 9223372036854775807)
    (hX : Rd w xa X ∧ X.length ≤ maxLen) (hY : Rd w ya Y ∧ Y.length ≤ maxLen) (hZ : Rd w za Z ∧ Z.length ≤ maxLen) (hS : StrsArg w ta tc ss) (hS2 : ss.length ≤ maxLen) :
    Calls Try.prog 5 #[.agg #[.int .i64 s0, .int .i64 s1, .int .i64 s2, .int .i64 s3], .slice xa X.length xc, .slice ya Y.length yc, .slice za Z.length zc, .slice ta ss.length tc] w fun e w' => e = .returned (.bool true) ∧ Below w.heap.size w w' := by
  obtain ⟨S, hSS⟩ : ∃ S : List Int, S = [s0, s1, s2, s3] := ⟨_, rfl⟩
  obtain ⟨M, hM⟩ := ch_num S 0
  have hSb : ∀ k, k < 4 → -9223372036854775808 ≤ S.getD k 0 ∧ S.getD k 0 ≤ 9223372036854775807 := fun k hk => by
    rw [hSS]
    match k, hk with
    | 0, _ => exact b0
    | 1, _ => exact b1
    | 2, _ => exact b2
    | 3, _ => exact b3
  obtain ⟨nx, hnx⟩ : ∃ n, n = X.length := ⟨_, rfl⟩
  obtain ⟨ny, hny⟩ : ∃ n, n = Y.length := ⟨_, rfl⟩
  obtain ⟨nz, hnz⟩ : ∃ n, n = Z.length := ⟨_, rfl⟩
  obtain ⟨ln, hln⟩ : ∃ ln, ln = ss.length := ⟨_, rfl⟩
  obtain ⟨j0, hj0, jz0, jz1, jz2⟩ := info_parts strparts
  have S0 := Lib.hid (((Bun.start w).box 47 [.int .i64 s0, .int .i64 s1, .int .i64 s2, .int .i64 s3]))
  rw [← hnx, ← hny, ← hnz, ← hln]
  have HSS := Lib.hid hSS
  have HM := Lib.hid hM
  have HSB := Lib.hid hSb
  have HX := Lib.hid hX
  have HY := Lib.hid hY
  have HZ := Lib.hid hZ
  have HNX := Lib.hid hnx
  have HNY := Lib.hid hny
  have HNZ := Lib.hid hnz
  have HLN := Lib.hid hln
  have HS := Lib.hid hS
  have HS2 := Lib.hid hS2
  clear hSS hM hSb hX hY hZ hnx hny hnz hln hS hS2 b0 b1 b2 b3
  go_enter Try.func5, Try.ntmps5
  go_wp2_with (go_at_call 9; have h9 := S0.out; clear S0; refine (known_any _).mono ?_; rintro e w1 ⟨rfl, hb⟩; have S1 := Lib.hid (h9.after hb); clear h9 hb)
  have T0 : Hid (Row (w1.alloc (.cells #[.int .i64 0, .int .i64 0, .int .i64 0, .int .i64 0] 47)) w.heap.size 47 [.int .i64 s0, .int .i64 s1, .int .i64 s2, .int .i64 s3] ∧ Row (w1.alloc (.cells #[.int .i64 0, .int .i64 0, .int .i64 0, .int .i64 0] 47)) w1.heap.size 47 (chL M 0) ∧ Below w.heap.size w (w1.alloc (.cells #[.int .i64 0, .int .i64 0, .int .i64 0, .int .i64 0] 47))) :=
    Lib.hid ⟨S1.out.here.2.alloc _, Row.new w1 47 (chL M 0), S1.out.bel.alloc S1.out.bel.size _⟩
  have hne1 : w.heap.size < w1.heap.size := S1.out.here.2.lt
  clear S1
  go_loopw [13] (fun i wr => ∃ k : Nat, k ≤ 4 ∧ i = .int .i64 k ∧ Row wr w.heap.size 47 [.int .i64 s0, .int .i64 s1, .int .i64 s2, .int .i64 s3] ∧ Row wr w1.heap.size 47 (chL M k) ∧ Below w.heap.size w wr) (fun i _ => 4 - (intOf i).toNat)
  case atStart => exact ⟨0, by omega, rfl, T0.out.1, T0.out.2.1, T0.out.2.2⟩
  case round =>
    clear T0
    obtain ⟨k, hk, rfl, h1, h2, hbel⟩ := hrel
    by_cases hlt : k < 4
    · have c1 := row4_cell h1 k hlt
      rw [← HSS.out] at c1
      have f2 : World.frozen? wr ⟨w1.heap.size, k, none⟩ = false := h2.free (by show k < 4; exact hlt)
      have hp := HM.out k
      have hs := HSB.out k hlt
      obtain ⟨x, hx⟩ : ∃ x, x = S.getD k 0 := ⟨_, rfl⟩
      rw [← hx] at c1 hp hs
      have c2 : World.cell? wr ⟨w1.heap.size, k, none⟩ = some (.int .i64 0) := h2.cell (by
        match k, hlt with
        | 0, _ => rfl
        | 1, _ => rfl
        | 2, _ => rfl
        | 3, _ => rfl)
      have T1 := Lib.hid (And.intro h1 (And.intro h2 hbel))
      have HP := Lib.hid hp
      clear h1 h2 hbel hp hx
      go_wp2_with (go_at_call 15; refine (pick_any x 6 _ hs.1 hs.2 (by omega) (by omega)).mono ?_; rintro e w2 ⟨rfl, rfl⟩; have q1 := HP.out.1; have q2 : (M k : Int) ≤ 6 := (by have := HP.out.2.2; omega); have q3 : (1 : Int) ≤ M k := (by have := HP.out.2.1; omega); obtain ⟨y, hy⟩ : ∃ y, y = pickOf x 6 := ⟨_, rfl⟩; rw [← hy] at q1 ⊢; clear hy)
      go_roundw
      case measure => simp [intOf]; omega
      case rel =>
        refine ⟨k + 1, by omega, by go_num, T1.out.1.other (by show w.heap.size ≠ w1.heap.size; omega) _, ?_, T1.out.2.2.setCell (by show w.heap.size ≤ w1.heap.size; omega) _⟩
        have := T1.out.2.1.set k (.int .i64 (M k : Int))
        rw [chL_set M k hlt] at this
        first | exact this | (rw [← q1] at this; exact this)
    · obtain rfl : k = 4 := by omega
      clear hlt hk
      rw [chL_four] at h2
      obtain ⟨n0, hn0⟩ : ∃ n, n = M 0 := ⟨_, rfl⟩
      obtain ⟨n1, hn1⟩ : ∃ n, n = M 1 := ⟨_, rfl⟩
      obtain ⟨n2, hn2⟩ : ∃ n, n = M 2 := ⟨_, rfl⟩
      obtain ⟨n3, hn3⟩ : ∃ n, n = M 3 := ⟨_, rfl⟩
      have p0 := (HM.out 0).2
      have p1 := (HM.out 1).2
      have p2 := (HM.out 2).2
      have p3 := (HM.out 3).2
      rw [← hn0] at p0
      rw [← hn1] at p1
      rw [← hn2] at p2
      rw [← hn3] at p3
      rw [← hn0, ← hn1, ← hn2, ← hn3] at h2
      clear hn0 hn1 hn2 hn3 HM HSB HSS
      obtain ⟨A, hA⟩ : ∃ A, A = filM X n1 := ⟨_, rfl⟩
      obtain ⟨B, hB⟩ : ∃ A, A = filM Y n2 := ⟨_, rfl⟩
      obtain ⟨C, hC⟩ : ∃ A, A = filM Z n3 := ⟨_, rfl⟩
      have HA := Lib.hid hA
      have HB := Lib.hid hB
      have HC := Lib.hid hC
      clear hA hB hC
      obtain ⟨qa, hqa⟩ : ∃ q, q = n0 * n1 := ⟨_, rfl⟩
      have lqa : qa ≤ 6 * 6 := by rw [hqa]; exact Nat.mul_le_mul (by omega) (by omega)
      have HQA := Lib.hid hqa
      clear hqa
      obtain ⟨qb, hqb⟩ : ∃ q, q = n1 * n2 := ⟨_, rfl⟩
      have lqb : qb ≤ 6 * 6 := by rw [hqb]; exact Nat.mul_le_mul (by omega) (by omega)
      have HQB := Lib.hid hqb
      clear hqb
      obtain ⟨qc, hqc⟩ : ∃ q, q = n2 * n3 := ⟨_, rfl⟩
      have lqc : qc ≤ 6 * 6 := by rw [hqc]; exact Nat.mul_le_mul (by omega) (by omega)
      have HQC := Lib.hid hqc
      clear hqc
      obtain ⟨qab, hqab⟩ : ∃ q, q = n0 * n2 := ⟨_, rfl⟩
      have lqab : qab ≤ 6 * 6 := by rw [hqab]; exact Nat.mul_le_mul (by omega) (by omega)
      have HQAB := Lib.hid hqab
      clear hqab
      obtain ⟨qbc, hqbc⟩ : ∃ q, q = n1 * n3 := ⟨_, rfl⟩
      have lqbc : qbc ≤ 6 * 6 := by rw [hqbc]; exact Nat.mul_le_mul (by omega) (by omega)
      have HQBC := Lib.hid hqbc
      clear hqbc
      obtain ⟨ql, hql⟩ : ∃ q, q = n0 * n3 := ⟨_, rfl⟩
      have lql : ql ≤ 6 * 6 := by rw [hql]; exact Nat.mul_le_mul (by omega) (by omega)
      have HQL := Lib.hid hql
      clear hql
      have T1 := Lib.hid (Bun.of (F := fun x => True ∧ Row x w1.heap.size 47 [.int .i64 n0, .int .i64 n1, .int .i64 n2, .int .i64 n3]) (fun w' hb => ⟨trivial, h2.after hb⟩) hbel)
      clear h1 hbel
      obtain ⟨x0, x1, x2, x3⟩ := box4 h2
      clear h2
      go_wp2_with (first
        | (go_at_call 16; have h9 := T1.out; clear T1; refine (filled_any n0 n1 nx xc xa X _ (by rw [← HQA.out]; omega) (by omega) (by omega) HNX.out (by rw [HNX.out]; exact HX.out.2) (HX.out.1.after h9.bel)).mono ?_; rintro e wqa ⟨ga, he, hg, hrow, hb⟩; rw [← HA.out] at hrow; have he2 : e = .returned (.agg #[.int .i64 n0, .int .i64 n1, .slice (some ⟨ga, 0, none⟩) qa qa]) := (by rw [he, HQA.out]; rfl); subst he2; clear he; have hm := ((h9.after hb).add (fun _ h => (MatRd.of_row0 hrow).after h)).box 24 [.int .i64 n0, .int .i64 n1, .slice (some ⟨ga, 0, none⟩) qa qa]; obtain ⟨x0, x1, x2, x3⟩ := box4 hm.here.1.1.2; have T2 := Lib.hid hm; clear h9 hb hrow hg hm)
        | (go_at_call 16; have h9 := T2.out; clear T2; refine (filled_any n1 n2 ny yc ya Y _ (by rw [← HQB.out]; omega) (by omega) (by omega) HNY.out (by rw [HNY.out]; exact HY.out.2) (HY.out.1.after h9.bel)).mono ?_; rintro e wqb ⟨gb, he, hg, hrow, hb⟩; rw [← HB.out] at hrow; have he2 : e = .returned (.agg #[.int .i64 n1, .int .i64 n2, .slice (some ⟨gb, 0, none⟩) qb qb]) := (by rw [he, HQB.out]; rfl); subst he2; clear he; have hm := ((h9.after hb).add (fun _ h => (MatRd.of_row0 hrow).after h)).box 24 [.int .i64 n1, .int .i64 n2, .slice (some ⟨gb, 0, none⟩) qb qb]; obtain ⟨x0, x1, x2, x3⟩ := box4 hm.here.1.1.1.1.2; have T3 := Lib.hid hm; clear h9 hb hrow hg hm)
        | (go_at_call 16; have h9 := T3.out; clear T3; refine (filled_any n2 n3 nz zc za Z _ (by rw [← HQC.out]; omega) (by omega) (by omega) HNZ.out (by rw [HNZ.out]; exact HZ.out.2) (HZ.out.1.after h9.bel)).mono ?_; rintro e wqc ⟨gc, he, hg, hrow, hb⟩; rw [← HC.out] at hrow; have he2 : e = .returned (.agg #[.int .i64 n2, .int .i64 n3, .slice (some ⟨gc, 0, none⟩) qc qc]) := (by rw [he, HQC.out]; rfl); subst he2; clear he; have hm := ((h9.after hb).add (fun _ h => (MatRd.of_row0 hrow).after h)).box 24 [.int .i64 n2, .int .i64 n3, .slice (some ⟨gc, 0, none⟩) qc qc]; obtain ⟨u0, u1, u2⟩ := box3 hm.here.1.1.1.1.2; obtain ⟨v0, v1, v2⟩ := box3 hm.here.1.1.2; have T4 := Lib.hid hm; clear h9 hb hrow hg hm)
        | (go_at_call 20; have h9 := T4.out; clear T4; refine (mul_ok n0 n1 n2 ga 0 qa qa gb 0 qb qb A B _ (by omega) (by omega) (by omega) (by omega) (by omega) (by omega) HQA.out HQB.out (by omega) (by omega) (by omega) (by omega) h9.here.1.1.1.1.1.2 h9.here.1.1.1.2).mono ?_; rintro e wqab ⟨gab, he, hg, hrow, hb⟩; have he2 : e = .returned (.tuple #[.agg #[.int .i64 n0, .int .i64 n2, .slice (some ⟨gab, 0, none⟩) qab qab], .nilIface]) := (by rw [he, HQAB.out]; rfl); subst he2; clear he; have hm3 := MatRd.of_row (r := n0) (c := n2) (sp := []) (by rw [List.append_nil]; exact hrow); have hm := ((h9.after hb).add (fun _ h => hm3.after h)).box 24 [.int .i64 n0, .int .i64 n2, .slice (some ⟨gab, 0, none⟩) qab qab]; obtain ⟨u0, u1, u2⟩ := box3 hm.here.1.1.1.1.2; obtain ⟨v0, v1, v2⟩ := box3 hm.here.1.1.2; have T5 := Lib.hid hm; clear h9 hb hrow hg hm hm3)
        | (go_at_call 20; have h9 := T5.out; clear T5; refine (mul_ok n1 n2 n3 gb 0 qb qb gc 0 qc qc B C _ (by omega) (by omega) (by omega) (by omega) (by omega) (by omega) HQB.out HQC.out (by omega) (by omega) (by omega) (by omega) h9.here.1.1.1.1.1.2 h9.here.1.1.1.2).mono ?_; rintro e wqbc ⟨gbc, he, hg, hrow, hb⟩; have he2 : e = .returned (.tuple #[.agg #[.int .i64 n1, .int .i64 n3, .slice (some ⟨gbc, 0, none⟩) qbc qbc], .nilIface]) := (by rw [he, HQBC.out]; rfl); subst he2; clear he; have hm3 := MatRd.of_row (r := n1) (c := n3) (sp := []) (by rw [List.append_nil]; exact hrow); have hm := ((h9.after hb).add (fun _ h => hm3.after h)).box 24 [.int .i64 n1, .int .i64 n3, .slice (some ⟨gbc, 0, none⟩) qbc qbc]; obtain ⟨u0, u1, u2⟩ := box3 hm.here.1.1.2; obtain ⟨v0, v1, v2⟩ := box3 hm.here.1.1.1.1.2; have T6 := Lib.hid hm; clear h9 hb hrow hg hm hm3)
        | (go_at_call 20; have h9 := T6.out; clear T6; refine (mul_ok n0 n2 n3 gab 0 qab qab gc 0 qc qc (mmul n1 A B) C _ (by omega) (by omega) (by omega) (by omega) (by omega) (by omega) HQAB.out HQC.out (by omega) (by omega) (by omega) (by omega) h9.here.1.1.1.2 h9.here.1.1.1.1.1.2).mono ?_; rintro e wql ⟨gl, he, hg, hrow, hb⟩; have he2 : e = .returned (.tuple #[.agg #[.int .i64 n0, .int .i64 n3, .slice (some ⟨gl, 0, none⟩) ql ql], .nilIface]) := (by rw [he, HQL.out]; rfl); subst he2; clear he; have hm3 := MatRd.of_row (r := n0) (c := n3) (sp := []) (by rw [List.append_nil]; exact hrow); have hm := ((h9.after hb).add (fun _ h => hm3.after h)).box 24 [.int .i64 n0, .int .i64 n3, .slice (some ⟨gl, 0, none⟩) ql ql]; obtain ⟨u0, u1, u2⟩ := box3 hm.here.1.1.1.1.1.1.1.1.1.1.2; obtain ⟨v0, v1, v2⟩ := box3 hm.here.1.1.2; have T7 := Lib.hid hm; clear h9 hb hrow hg hm hm3)
        | (go_at_call 20; have h9 := T7.out; clear T7; refine (mul_ok n0 n1 n3 ga 0 qa qa gbc 0 qbc qbc A (mmul n2 B C) _ (by omega) (by omega) (by omega) (by omega) (by omega) (by omega) HQA.out HQBC.out (by omega) (by omega) (by omega) (by omega) h9.here.1.1.1.1.1.1.1.1.1.1.1.2 h9.here.1.1.1.2).mono ?_; rintro e wqr ⟨gr, he, hg, hrow, hb⟩; have he2 : e = .returned (.tuple #[.agg #[.int .i64 n0, .int .i64 n3, .slice (some ⟨gr, 0, none⟩) ql ql], .nilIface]) := (by rw [he, HQL.out]; rfl); subst he2; clear he; have hm3 := MatRd.of_row (r := n0) (c := n3) (sp := []) (by rw [List.append_nil]; exact hrow); have hm := ((h9.after hb).add (fun _ h => hm3.after h)).box 24 [.int .i64 n0, .int .i64 n3, .slice (some ⟨gr, 0, none⟩) ql ql]; obtain ⟨u0, u1, u2⟩ := box3 hm.here.1.1.2; obtain ⟨v0, v1, v2⟩ := box3 hm.here.2; have T8 := Lib.hid hm; clear h9 hb hrow hg hm hm3)
        | (go_at_call 21; have h9 := T8.out; clear T8; refine (same_matn n0 n3 ql gl gr ql ql (mmul n2 (mmul n1 A B) C) (mmul n1 A (mmul n2 B C)) _ HQL.out (by omega) (by omega) (by omega) h9.here.1.1.1.2 h9.here.1.2 (fun i j _ _ => mmul_assoc n1 n2 A B C i j)).mono ?_; rintro e ws ⟨rfl, hb⟩; have T9 := Lib.hid ((h9.after hb).map (fun x h => (⟨h.1.1.1.1.1.1.1.1.1.1.1.1.1.1.2, h.1.1.1.1.1.1.1.1.1.1.1.1.1.2, h.1.1.1.1.1.1.1.1.1.1.1.1.2, h.1.1.1.1.1.1.1.1.1.1.1.2, h.1.1.1.1.1.1.1.1.1.1.2, h.1.1.1.1.1.1.1.2, h.1.1.1.1.1.1.2⟩ : ChF w1.heap.size n0 n1 n2 n3 ga gb gab qa qb qab wqa.heap.size wqb.heap.size wqab.heap.size A B x))); clear h9 hb))
      go_loopw [26, 27] (fun col ii wr => ∃ i : Nat, i ≤ n2 ∧ ii = .int .i64 i ∧ Below ws.heap.size ws wr ∧ ∃ cols : List ByteArray, cols.length = i ∧ (∀ j, j < cols.length → (cols.getD j ⟨#[]⟩).size = 8) ∧ wr.ownsRow ws.heap.size 9 1 col i (scells cols)) (fun _ ii _ => n2 - (intOf ii).toNat)
      case atStart => exact ⟨0, by omega, rfl, Below.refl _ _, [], rfl, fun j h => by simp at h, World.ownsRow_nil _ _ _ _⟩
      case round =>
        obtain ⟨i, hi, rfl, hbw, cols, hcl, hcs, hown⟩ := hrel
        obtain ⟨y0, y1, y2, y3⟩ := box4 (T9.out.after hbw).here.nn
        have HCL := Lib.hid hcl
        have HCS := Lib.hid hcs
        clear hcl hcs
        by_cases hlt : i < n2
        · obtain ⟨l0, hl0⟩ : ∃ l0 : List UInt8, l0 = [97, 98, 99, 100, 101, 102, 103, 104] := ⟨_, rfl⟩
          have hr0 : Row (wr.alloc (.cells #[.int .u8 97, .int .u8 98, .int .u8 99, .int .u8 100, .int .u8 101, .int .u8 102, .int .u8 103, .int .u8 104] 5 (8, 9))) wr.heap.size 5 (bcells l0) := by rw [hl0]; exact ⟨(8, 9), heap_alloc_new _ _, Or.inr (Nat.le_refl _)⟩
          have hl8 : l0.length = 8 := by rw [hl0]; rfl
          have U0 := Lib.hid (And.intro hr0 ((Below.refl wr.heap.size wr).alloc (Nat.le_refl _) (.cells #[.int .u8 97, .int .u8 98, .int .u8 99, .int .u8 100, .int .u8 101, .int .u8 102, .int .u8 103, .int .u8 104] 5 (8, 9))))
          have U1 := Lib.hid (And.intro hown hbw)
          have HL8 := Lib.hid hl8
          have kc := fun (w : World) (C : Array Value) (n c : Nat) => Lib.run_convert_bytes_const (P := Try.prog) w 22 5 C n c Try.underlying22 Try.underlying5
          clear hl0 hr0 hl8 hown hbw
          go_wp2
          clear kc
          obtain ⟨wo, rfl⟩ : ∃ wo : World, wo = wr := ⟨_, rfl⟩
          go_loopw [29] (fun kk wr => ∃ k : Nat, k ≤ 8 ∧ kk = .int .i64 k ∧ Below wo.heap.size wo wr ∧ ∃ l : List UInt8, l.length = 8 ∧ Row wr wo.heap.size 5 (bcells l)) (fun kk _ => 8 - (intOf kk).toNat)
          case atStart => exact ⟨0, by omega, rfl, U0.out.2, l0, HL8.out, U0.out.1⟩
          case round =>
            clear U0 y0 y1 y2 y3
            obtain ⟨k, hk, rfl, hbo, l, hll, hrow⟩ := hrel
            have HLL := Lib.hid hll
            have hbws : Below w.heap.size w wr := T9.out.bel.trans ((U1.out.2.trans (hbo.mono U1.out.2.size)).mono T9.out.bel.size)
            have hx : (i < ln ∧ k < 8 ∧ k < (ss.getD i ⟨#[]⟩).size) ∨ (¬ i < ln) ∨ (i < ln ∧ ¬ k < 8) ∨ (i < ln ∧ k < 8 ∧ ¬ k < (ss.getD i ⟨#[]⟩).size) := by omega
            rcases hx with ⟨hin, h8, hkt⟩ | hx
            · obtain ⟨g0, o0, rfl, gl, hcell⟩ := HS.out.rd.open (by rw [← HLN.out]; omega)
              obtain ⟨t, ht⟩ : ∃ t, t = ss.getD i ⟨#[]⟩ := ⟨_, rfl⟩
              have cl : World.cell? wr ⟨g0, o0 + i, none⟩ = some (.string t) := (hbws.cell (p := ⟨g0, o0 + i, none⟩) gl).trans (by rw [hcell i (by rw [← HLN.out]; exact hin), ht])
              have hts : t.size ≤ 9223372036854775807 := by
                have := HS.out.sz (ss.getD i ⟨#[]⟩) (by rw [List.getD_eq_getElem?_getD, List.getElem?_eq_getElem (by rw [← HLN.out]; exact hin), Option.getD_some]; exact List.getElem_mem _)
                unfold maxLen at this
                rw [ht]; omega
              rw [← ht] at hkt
              have ck : World.cell? wr ⟨wo.heap.size, k, none⟩ = some (.int .u8 ((l[k]'(by rw [hll]; exact h8)).toNat : Int)) := hrow.cell (bcells_get _ _ (by rw [hll]; exact h8))
              have fk : World.frozen? wr ⟨wo.heap.size, k, none⟩ = false := hrow.free (by rw [bcells_length, hll]; exact h8)
              have hset : Row (wr.setCell ⟨wo.heap.size, k, none⟩ (.int .u8 ((t[k]'hkt).toNat : Int))) wo.heap.size 5 (bcells (l.set k (t[k]'hkt))) := by
                have := hrow.set k (.int .u8 ((t[k]'hkt).toNat : Int))
                rw [bcells_set] at this
                exact this
              have U2 := Lib.hid (And.intro hset (hbo.setCell (p := ⟨wo.heap.size, k, none⟩) (Nat.le_refl _) (.int .u8 ((t[k]'hkt).toNat : Int))))
              clear hset hrow hbo hbws ht hcell
              go_wp2
              go_roundw
              case measure => simp [intOf]; omega
              case rel => exact ⟨k + 1, by omega, by go_num, U2.out.2, _, by rw [List.length_set]; exact HLL.out, U2.out.1⟩
            · have hconv := run_string_of_row (P := Try.prog) wr 22 9 5 Try.underlying22 Try.underlying5 Try.underlying9 hrow 0 8 8 l hll (by rw [List.drop_zero]; exact List.take_of_length_le (by rw [bcells_length, hll]; exact Nat.le_refl _))
              obtain ⟨u, hu⟩ : ∃ u : ByteArray, u = ⟨l.toArray⟩ := ⟨_, rfl⟩
              rw [← hu] at hconv
              have hus : u.size = 8 := by rw [hu]; show l.toArray.size = 8; rw [List.size_toArray, hll]
              have HUS := Lib.hid hus
              have hz1 := U1.out.2.size
              have hz2 := hbo.size
              have U2 := Lib.hid (And.intro (ownsRow_fr U1.out.1 (Fr.of_below (L := []) hbo) (by simp)) (And.intro hrow (U1.out.2.trans (hbo.mono U1.out.2.size))))
              have cl : i < ln → World.cell? wr ⟨(ta.getD ⟨0, 0, none⟩).block, (ta.getD ⟨0, 0, none⟩).off + i, none⟩ = some (.string (ss.getD i ⟨#[]⟩)) ∧ ta = some ⟨(ta.getD ⟨0, 0, none⟩).block, (ta.getD ⟨0, 0, none⟩).off, none⟩ ∧ (ss.getD i ⟨#[]⟩).size ≤ 9223372036854775807 := by
                intro hin
                obtain ⟨g0, o0, rfl, gl, hcell⟩ := HS.out.rd.open (by rw [← HLN.out]; omega)
                refine ⟨(hbws.cell (p := ⟨g0, o0 + i, none⟩) gl).trans (hcell i (by rw [← HLN.out]; exact hin)), rfl, ?_⟩
                have := HS.out.sz (ss.getD i ⟨#[]⟩) (by rw [List.getD_eq_getElem?_getD, List.getElem?_eq_getElem (by rw [← HLN.out]; exact hin), Option.getD_some]; exact List.getElem_mem _)
                unfold maxLen at this
                omega
              obtain ⟨t, ht⟩ : ∃ t, t = ss.getD i ⟨#[]⟩ := ⟨_, rfl⟩
              rw [← ht] at cl hx
              have hz3 := hbws.size
              have CL := Lib.hid cl
              have hlnm : ln ≤ 9223372036854775807 := by have := HS2.out; unfold maxLen at this; rw [HLN.out]; omega
              clear hrow hbo hbws hll hu hus ht cl
              have hz5 := U2.out.2.2.size
              rcases hx with hx | ⟨hin, hx⟩ | ⟨hin, h8, hx⟩
              · go_wp2_with (at_builtin; refine wpList_append_own _ rfl (.tmp 130) (.tmp 133) 25 rfl ws.heap.size 9 j0 _ 1 16 Try.underlying25 hj0 jz0 jz1 jz2 rfl (by omega) _ i (scells cols) rfl (U2.out.1.alloc _) ⟨wr.heap.size, 0, none⟩ 1 1 [.string u] rfl rfl (World.news_of_block (cs := #[.string u]) (t := 9) (fr := (0, 0)) (heap_alloc_new wr _)) (by simp [Value.oneCell']) (by unfold maxLen; omega) (by omega) (Nat.le_trans hz5 (by simp)) ?_; intro v' w7 hown2 hgr2 hnil2; clear hnil2; have HO2 := Lib.hid hown2; have HG2 := Lib.hid hgr2; clear hown2 hgr2)
                go_roundw
                case measure => simp [intOf]; omega
                case rel =>
                  obtain ⟨h1, h2, h3⟩ := U2.out
                  obtain ⟨k1, k2⟩ := own_appended h1 h2 h3 HG2.out (by decide)
                  exact ⟨i + 1, by omega, by go_num, k2, cols ++ [u], by rw [List.length_append, HCL.out]; rfl, cols_snoc HCS.out HUS.out, by rw [scells_snoc]; exact HO2.out⟩
              · obtain ⟨cl, hta, hts⟩ := CL.out hin
                obtain ⟨g0, hg0⟩ : ∃ g0, g0 = (ta.getD ⟨0, 0, none⟩).block := ⟨_, rfl⟩
                obtain ⟨o0, ho0⟩ : ∃ o0, o0 = (ta.getD ⟨0, 0, none⟩).off := ⟨_, rfl⟩
                rw [← hg0, ← ho0] at cl hta
                clear hg0 ho0 CL
                subst hta
                go_wp2_with (at_builtin; refine wpList_append_own _ rfl (.tmp 130) (.tmp 133) 25 rfl ws.heap.size 9 j0 _ 1 16 Try.underlying25 hj0 jz0 jz1 jz2 rfl (by omega) _ i (scells cols) rfl (U2.out.1.alloc _) ⟨wr.heap.size, 0, none⟩ 1 1 [.string u] rfl rfl (World.news_of_block (cs := #[.string u]) (t := 9) (fr := (0, 0)) (heap_alloc_new wr _)) (by simp [Value.oneCell']) (by unfold maxLen; omega) (by omega) (Nat.le_trans hz5 (by simp)) ?_; intro v' w7 hown2 hgr2 hnil2; clear hnil2; have HO2 := Lib.hid hown2; have HG2 := Lib.hid hgr2; clear hown2 hgr2)
                go_roundw
                case measure => simp [intOf]; omega
                case rel =>
                  obtain ⟨h1, h2, h3⟩ := U2.out
                  obtain ⟨k1, k2⟩ := own_appended h1 h2 h3 HG2.out (by decide)
                  exact ⟨i + 1, by omega, by go_num, k2, cols ++ [u], by rw [List.length_append, HCL.out]; rfl, cols_snoc HCS.out HUS.out, by rw [scells_snoc]; exact HO2.out⟩
              · obtain ⟨cl, hta, hts⟩ := CL.out hin
                obtain ⟨g0, hg0⟩ : ∃ g0, g0 = (ta.getD ⟨0, 0, none⟩).block := ⟨_, rfl⟩
                obtain ⟨o0, ho0⟩ : ∃ o0, o0 = (ta.getD ⟨0, 0, none⟩).off := ⟨_, rfl⟩
                rw [← hg0, ← ho0] at cl hta
                clear hg0 ho0 CL
                subst hta
                go_wp2_with (at_builtin; refine wpList_append_own _ rfl (.tmp 130) (.tmp 133) 25 rfl ws.heap.size 9 j0 _ 1 16 Try.underlying25 hj0 jz0 jz1 jz2 rfl (by omega) _ i (scells cols) rfl (U2.out.1.alloc _) ⟨wr.heap.size, 0, none⟩ 1 1 [.string u] rfl rfl (World.news_of_block (cs := #[.string u]) (t := 9) (fr := (0, 0)) (heap_alloc_new wr _)) (by simp [Value.oneCell']) (by unfold maxLen; omega) (by omega) (Nat.le_trans hz5 (by simp)) ?_; intro v' w7 hown2 hgr2 hnil2; clear hnil2; have HO2 := Lib.hid hown2; have HG2 := Lib.hid hgr2; clear hown2 hgr2)
                go_roundw
                case measure => simp [intOf]; omega
                case rel =>
                  obtain ⟨h1, h2, h3⟩ := U2.out
                  obtain ⟨k1, k2⟩ := own_appended h1 h2 h3 HG2.out (by decide)
                  exact ⟨i + 1, by omega, by go_num, k2, cols ++ [u], by rw [List.length_append, HCL.out]; rfl, cols_snoc HCS.out HUS.out, by rw [scells_snoc]; exact HO2.out⟩
        · obtain rfl : i = n2 := by omega
          obtain ⟨gc, capc, spc, rfl, _, _, _, _⟩ := own_row1 hown (by omega)
          have hstr := StrsRd.own hown
          have T10 := (T9.out.after hbw).add (fun _ h => hstr.after h)
          obtain ⟨z0, z1, z2⟩ := box3 T10.here.1.boxab
          have T10 := Lib.hid T10
          clear hown hbw hstr T9
          go_wp2_with (first
            | (go_at_call 11; have h9 := T10.out; clear T10; refine (apply_fine n0 i gab 0 qab qab capc 8 _ (mmul n1 A B) cols _ (by omega) (by omega) (by omega) (by omega) HQAB.out (Nat.le_refl _) (by omega) HCL.out HCS.out (by decide) h9.here.1.mab h9.here.2).mono ?_; rintro e w5 ⟨g5, cap5, rfl, ht, hb⟩; have hm := (h9.after hb).add (fun _ h => ht.after h); obtain ⟨u0, u1, u2⟩ := box3 hm.here.1.1.boxb; have T11 := Lib.hid hm; clear h9 hb ht hm)
            | (go_at_call 11; have h9 := T11.out; clear T11; refine (apply_fine n1 i gb 0 qb qb capc 8 _ B cols _ (by omega) (by omega) (by omega) (by omega) HQB.out (Nat.le_refl _) (by omega) HCL.out HCS.out (by decide) h9.here.1.1.mb h9.here.1.2).mono ?_; rintro e w6 ⟨g6, cap6, rfl, ht, hb⟩; have hm := (h9.after hb).add (fun _ h => ht.after h); obtain ⟨u0, u1, u2⟩ := box3 hm.here.1.1.1.boxa; have T12 := Lib.hid hm; clear h9 hb ht hm)
            | (go_at_call 11; have h9 := T12.out; clear T12; refine (apply_fine n0 n1 ga 0 qa qa cap6 8 _ A (rowStrs B cols 8 i n1) _ (by omega) (by omega) (by omega) (by omega) HQA.out (Nat.le_refl _) (by omega) (rowStrs_length _ _ _ _ _) (rowStrs_size B cols 8 i n1 HCS.out (by rw [HCL.out]; exact Nat.le_refl _)) (by decide) h9.here.1.1.1.ma h9.here.2).mono ?_; rw [rowStrs_chain A B cols 8 n1 i n0 HCS.out (by rw [HCL.out]; exact Nat.le_refl _)]; rintro e w7 ⟨g7, cap7, rfl, ht, hb⟩; have hm := (h9.after hb).add (fun _ h => ht.after h); have T13 := Lib.hid (And.intro hm.here.1.1.2 (And.intro hm.here.2 hm.bel)); clear h9 hb ht hm))
          obtain ⟨T, hT⟩ : ∃ T, T = rowStrs (mmul n1 A B) cols 8 i n0 := ⟨_, rfl⟩
          have hTl : T.length = n0 := by rw [hT, rowStrs_length]
          rw [← hT] at T13
          have HTL := Lib.hid hTl
          clear hT hTl
          go_loopw [36] (fun q wr => ∃ j : Nat, j ≤ n0 ∧ q = .int .i64 j ∧ StrsRd wr (some ⟨g5, 0, none⟩) T ∧ StrsRd wr (some ⟨g7, 0, none⟩) T ∧ Below w.heap.size w wr) (fun q _ => n0 - (intOf q).toNat)
          case atStart => exact ⟨0, by omega, rfl, T13.out.1, T13.out.2.1, T13.out.2.2⟩
          case round =>
            clear T13
            obtain ⟨j, hj, rfl, h1, h2, hbel⟩ := hrel
            by_cases hlt : j < n0
            · have d3 := strs_cells h1 j (by rw [HTL.out]; exact hlt)
              have d4 := strs_cells h2 j (by rw [HTL.out]; exact hlt)
              rw [Nat.zero_add] at d3 d4
              obtain ⟨t, ht⟩ : ∃ t, t = T.getD j ⟨#[]⟩ := ⟨_, rfl⟩
              rw [← ht] at d3 d4
              have S8 := Lib.hid (And.intro h1 (And.intro h2 hbel))
              clear h1 h2 hbel ht
              go_wp2_with fail
              go_quiet (fail)
              go_wp2
              go_roundw
              case measure => simp [intOf]; omega
              case rel => exact ⟨j + 1, by omega, by go_num, S8.out.1, S8.out.2.1, S8.out.2.2.trans ⟨rfl, rfl, rfl, Nat.le_refl _, fun _ _ => rfl⟩⟩
            · obtain rfl : j = n0 := by omega
              have S8 := Lib.hid hbel
              clear h1 h2 hbel
              go_wp2
              go_ret
              exact ⟨rfl, S8.out⟩
section
open Go.ChangeShapes Go.WideShapes Go.Joins
variable {H : Type} {enc : TypeId × Value → H} {W : World}
/-- four numbers that were handed in -/
structure Int4 (a b c d : Int) : Prop where
  b0 : -9223372036854775808 ≤ a ∧ a ≤ 9223372036854775807
  b1 : -9223372036854775808 ≤ b ∧ b ≤ 9223372036854775807
  b2 : -9223372036854775808 ≤ c ∧ c ≤ 9223372036854775807
  b3 : -9223372036854775808 ≤ d ∧ d ≤ 9223372036854775807
set_option maxRecDepth 100000 in
theorem int4_open {r : Reach} {b0 : Nat} {v : Value} {d : DataW H} {p : List MemPlace} (hv : Value.okWide Try.prog W r b0 47 v) (h : DataW.Trod enc Try.prog W 0 (fun _ => true) true 47 v d p) :
    ∃ s0 s1 s2 s3 : Int, v = .agg #[.int .i64 s0, .int .i64 s1, .int .i64 s2, .int .i64 s3] ∧ Int4 s0 s1 s2 s3 := by
  unfold Value.okWide at hv
  rw [Try.underlying47] at hv
  obtain ⟨cs, rfl, hsz, _⟩ := hv
  rw [show Try.prog.cellsOf 47 = 4 from by kernel_rfl] at hsz
  obtain ⟨c0, c1, c2, c3, rfl⟩ := array4 hsz
  obtain ⟨fuel, hf⟩ := h
  obtain ⟨y0, y1, y2, y3, n, _, h0, h1, h2, h3⟩ := trod_array4 Try.underlying47 (by kernel_rfl) hf
  obtain ⟨m0, rfl, l0, u0⟩ := intw_of h0
  obtain ⟨m1, rfl, l1, u1⟩ := intw_of h1
  obtain ⟨m2, rfl, l2, u2⟩ := intw_of h2
  obtain ⟨m3, rfl, l3, u3⟩ := intw_of h3
  exact ⟨m0, m1, m2, m3, rfl, ⟨l0, u0⟩, ⟨l1, u1⟩, ⟨l2, u2⟩, ⟨l3, u3⟩⟩
end
theorem chains_walk (s0 s1 s2 s3 : Int) (xa : Option Addr) (xc : Nat) (X : List (BitVec 8)) (ya : Option Addr) (yc : Nat) (Y : List (BitVec 8)) (za : Option Addr) (zc : Nat) (Z : List (BitVec 8)) (ta : Option Addr) (tc : Nat) (ss : List ByteArray) (w : World) (h4 : Int4 s0 s1 s2 s3) (hX : Rd w xa X ∧ X.length ≤ maxLen) (hY : Rd w ya Y ∧ Y.length ≤ maxLen) (hZ : Rd w za Z ∧ Z.length ≤ maxLen) (hS : StrsArg w ta tc ss) (hz : ss.length * 16 ≤ reachBytes) :
    Calls Try.prog 5 #[.agg #[.int .i64 s0, .int .i64 s1, .int .i64 s2, .int .i64 s3], .slice xa X.length xc, .slice ya Y.length yc, .slice za Z.length zc, .slice ta ss.length tc] w fun e w' => e = .returned (.bool true) ∧ Below w.heap.size w w' :=
  chains_any s0 s1 s2 s3 xa ya za ta xc yc zc tc X Y Z ss w h4.b0 h4.b1 h4.b2 h4.b3 hX hY hZ hS (by unfold reachBytes at hz; unfold maxLen; omega)
end Go.Proofs.Ytbnfnijjldimkaa
