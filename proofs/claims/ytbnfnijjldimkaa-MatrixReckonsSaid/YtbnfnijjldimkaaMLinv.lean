/-
  The walk of MatrixInverse.
-/
import Derived.Test.YtbnfnijjldimkaaMknown
namespace Go.Proofs.Ytbnfnijjldimkaa
open Go.RowKit
set_option linter.unusedVariables false
set_option linter.unusedSimpArgs false
theorem good_idm (n : Nat) : Good n idm n n (fun t => t) :=
  ⟨Nat.le_refl _, fun t h => h, fun s t h _ => h, fun t i _ _ => rfl, fun i c h1 h2 _ => by omega, fun t c _ h => by unfold idm; rw [if_neg (by omega)]⟩
theorem rank_full {n : Nat} {A M' : Nat → Nat → BitVec 8} {j k : Nat} {p : Nat → Nat} (g : Good n M' j k p) (hj : j ≤ n) (hend : j = n ∨ k = n) (hker : ∀ x, Ker n n M' x ↔ Ker n n A x) (hI : Inj n A) : k = n := by
  have h1 := good_le (good_idm n) g (Nat.le_refl _) hj hend (fun x hx i hi => sm_zero fun l hl => by rw [hI x ((hker x).1 hx) l hl, gm_zero_right])
  have := g.le
  omega
theorem rank_less {n : Nat} {A M' : Nat → Nat → BitVec 8} {j k : Nat} {p : Nat → Nat} (g : Good n M' j k p) (hj : j ≤ n) (hker : ∀ x, Ker n n M' x ↔ Ker n n A x) (hI : ¬ Inj n A) : k < n := by
  have h1 := g.le
  by_cases e : k = n
  · subst e; exact absurd (good_inj g hj hker) hI
  · omega
theorem same_matn (r c n g g' cap cap' : Nat) (M M' : Nat → Nat → BitVec 8) (w : World) (hn : n = r * c) (hr : r ≤ 255) (hc : 1 ≤ c) (hc2 : c ≤ 255) (h : MatRd w g 0 r c M) (h' : MatRd w g' 0 r c M') (e : ∀ i j, i < r → j < c → M i j = M' i j) :
    Calls Try.prog 21 #[.agg #[.int .i64 r, .int .i64 c, .slice (some ⟨g, 0, none⟩) n cap], .agg #[.int .i64 r, .int .i64 c, .slice (some ⟨g', 0, none⟩) n cap']] w fun e w' => e = .returned (.bool true) ∧ Below w.heap.size w w' := by
  subst hn
  exact same_mat r c g g' cap cap' M M' w hr hc hc2 h h' e
theorem inv_bad {w w' : World} {N : Nat} {A : Nat → Nat → BitVec 8} {e : Ending} (hx : InvAns w N A e w') (hI : ¬ Inj N A) : ∃ b, e = .returned (.tuple #[.agg #[.int .i64 0, .int .i64 0, .slice none 0 0], .iface 68 (.pointer (some ⟨b, 0, none⟩))]) ∧ ErrAt w.heap.size w' (.iface 68 (.pointer (some ⟨b, 0, none⟩))) 18 ∧ Below w.heap.size w w' := by
  obtain ⟨hx, hb⟩ := hx
  rcases hx with ⟨_, ev, he, hE⟩ | ⟨h, _⟩
  · rcases hE with ⟨_, h⟩ | ⟨h0, b, rfl, hB, hf⟩
    · exact absurd h (by decide)
    · exact ⟨b, he, Or.inr ⟨h0, b, rfl, hB, hf⟩, hb⟩
  · exact absurd h hI
theorem inv_good {w w' : World} {N : Nat} {A : Nat → Nat → BitVec 8} {e : Ending} (hx : InvAns w N A e w') (hI : Inj N A) : ∃ g B, RInv N A B ∧ e = .returned (.tuple #[mval N N g, .nilIface]) ∧ MatRd w' g 0 N N B ∧ Below w.heap.size w w' := by
  obtain ⟨hx, hb⟩ := hx
  rcases hx with ⟨h, _⟩ | ⟨_, g, B, h1, h2, _, h4⟩
  · exact absurd hI h
  · exact ⟨g, B, h1, h2, MatRd.of_row0 h4, hb⟩
theorem pick_nat (c : Int) (n : Nat) (h : 0 < n) : ∃ p : Nat, pickOf c n = (p : Int) ∧ p < n := by
  obtain ⟨h1, h2⟩ := pickOf_lt c n (by omega)
  exact ⟨(pickOf c n).toNat, by omega, by omega⟩
set_option maxRecDepth 100000 in
set_option maxHeartbeats 3200000 in
theorem inverse_any (c : Int) (a : Option Addr) (n cap : Nat) (L : List (BitVec 8)) (w : World) (h0 : -9223372036854775808 ≤ c) (h1 : c ≤ 9223372036854775807) (hn : n = L.length) (hn2 : n ≤ maxLen) (hL : Rd w a L) :
    Calls Try.prog 4 #[.int .i64 c, .slice a n cap] w fun e w' => e = .returned (.bool true) ∧ Below w.heap.size w w' := by
  obtain ⟨p, hp, hp2⟩ := pick_nat c 12 (by omega)
  obtain ⟨N, hN⟩ : ∃ N, N = p + 1 := ⟨_, rfl⟩
  obtain ⟨q, hq⟩ : ∃ q, q = N * N := ⟨_, rfl⟩
  have hq2 : q ≤ 12 * 12 := by rw [hq]; exact Nat.mul_le_mul (by omega) (by omega)
  have s1 : (1 : Int) + (p : Int) = (N : Int) := by omega
  have n1 : 1 ≤ N := by omega
  have n2 : N ≤ 12 := by omega
  have HP := Lib.hid hp
  have HQ := Lib.hid hq
  have HNL := Lib.hid hn
  have HL := Lib.hid hL
  have HN2 := Lib.hid hn2
  have S0 := Lib.hid (Bun.start w)
  obtain ⟨A, hA⟩ : ∃ A, A = filM L N := ⟨_, rfl⟩
  have HA := Lib.hid hA
  clear hp hp2 hN hq hn hL hn2 hA
  by_cases hI : Inj N A
  · have HI := Lib.hid hI
    clear hI
    go_enter Try.func4, Try.ntmps4
    go_wp2_with (first
      | (go_at_call 9; have h9 := S0.out; clear S0; refine (known_any _).mono ?_; rintro e w1 ⟨rfl, hb⟩; have S1 := Lib.hid (h9.after hb); have HL1 := Lib.hid (HL.out.after hb); clear h9 hb)
      | (go_at_call 15; have h9 := S1.out; clear S1; refine (pick_any c 12 _ h0 h1 (by omega) (by omega)).mono ?_; rintro e w2 ⟨rfl, rfl⟩; rw [show pickOf c 12 = (p : Int) from HP.out]; have S2 := Lib.hid h9; clear h9)
      | (go_at_call 16; have h9 := S2.out; clear S2; refine (filled_any N N n cap a L _ (by rw [← HQ.out]; omega) (by omega) (by omega) HNL.out HN2.out HL1.out).mono ?_; rintro e w3 ⟨ga, he, hg, hrow, hb⟩; rw [← HA.out] at hrow; have he2 : e = .returned (.agg #[.int .i64 N, .int .i64 N, .slice (some ⟨ga, 0, none⟩) q q]) := (by rw [he, HQ.out]; rfl); subst he2; clear he; have S3 := Lib.hid (((h9.after hb).add (fun _ h => (MatRd.of_row0 hrow).after h)).box 24 [.int .i64 N, .int .i64 N, .slice (some ⟨ga, 0, none⟩) q q]); clear h9 hb hrow hg)
      | (go_at_call 17; have h9 := S3.out; clear S3; refine (rank_ok N N ga 0 q q A _ (by omega) (by omega) (by omega) (by omega) HQ.out (by omega) h9.here.1.2).mono ?_; rintro e w4 ⟨k, M', j, pp, rfl, hG, hj, hjr, hker, hb⟩; have hk := rank_full hG hj hjr hker HI.out; subst hk; have hm := h9.after hb; obtain ⟨x0, x1, x2⟩ := box3 hm.here.2; have S4 := Lib.hid hm; clear h9 hb hm hG hj hjr hker)
      | (go_at_call 18; have h9 := S4.out; clear S4; refine (invert_ok k ga 0 q q A _ (by omega) (by omega) HQ.out (by omega) (by omega) h9.here.1.2).mono ?_; intro e w5 hx; obtain ⟨gb, B, hR, he, hmB, hb⟩ := inv_good hx HI.out; have he2 : e = .returned (.tuple #[.agg #[.int .i64 k, .int .i64 k, .slice (some ⟨gb, 0, none⟩) q q], .nilIface]) := (by rw [he, HQ.out]; rfl); subst he2; clear he; have S5 := Lib.hid (((h9.after hb).add (fun _ h => hmB.after h)).box 24 [.int .i64 k, .int .i64 k, .slice (some ⟨gb, 0, none⟩) q q]); have HR := Lib.hid hR; clear h9 hb hx hmB hR)
      | (go_at_call 19; have h9 := S5.out; clear S5; refine (identity_ok k _ (by omega) (by omega)).mono ?_; rintro e w6 ⟨gi, he, hg, hrow, hb⟩; have he2 : e = .returned (.tuple #[.agg #[.int .i64 k, .int .i64 k, .slice (some ⟨gi, 0, none⟩) q q], .nilIface]) := (by rw [he, HQ.out]; rfl); subst he2; clear he; have hm := ((h9.after hb).add (fun _ h => (MatRd.of_row0 hrow).after h)).box 24 [.int .i64 k, .int .i64 k, .slice (some ⟨gi, 0, none⟩) q q]; obtain ⟨x0, x1, x2⟩ := box3 hm.here.1.1.1.1.2; obtain ⟨y0, y1, y2⟩ := box3 hm.here.1.1.2; have S6 := Lib.hid hm; clear h9 hb hrow hg hm)
      | (go_at_call 20; have h9 := S6.out; clear S6; refine (mul_ok k k k ga 0 q q gb 0 q q A B _ (by omega) (by omega) (by omega) (by omega) (by omega) (by omega) HQ.out HQ.out (by omega) (by omega) (by omega) (by omega) h9.here.1.1.1.1.1.2 h9.here.1.1.1.2).mono ?_; rintro e w7 ⟨gx, he, hg, hrow, hb⟩; have he2 : e = .returned (.tuple #[.agg #[.int .i64 k, .int .i64 k, .slice (some ⟨gx, 0, none⟩) q q], .nilIface]) := (by rw [he, HQ.out]; rfl); subst he2; clear he; have hm3 := MatRd.of_row (r := k) (c := k) (sp := []) (by rw [List.append_nil]; exact hrow); have hm := ((h9.after hb).add (fun _ h => hm3.after h)).box 24 [.int .i64 k, .int .i64 k, .slice (some ⟨gx, 0, none⟩) q q]; obtain ⟨x0, x1, x2⟩ := box3 hm.here.1.1.1.1.1.1.2; obtain ⟨y0, y1, y2⟩ := box3 hm.here.1.1.1.1.2; have S7 := Lib.hid hm; clear h9 hb hrow hg hm hm3)
      | (go_at_call 20; have h9 := S7.out; clear S7; refine (mul_ok k k k gb 0 q q ga 0 q q B A _ (by omega) (by omega) (by omega) (by omega) (by omega) (by omega) HQ.out HQ.out (by omega) (by omega) (by omega) (by omega) h9.here.1.1.1.1.1.2 h9.here.1.1.1.1.1.1.1.2).mono ?_; rintro e w8 ⟨gy, he, hg, hrow, hb⟩; have he2 : e = .returned (.tuple #[.agg #[.int .i64 k, .int .i64 k, .slice (some ⟨gy, 0, none⟩) q q], .nilIface]) := (by rw [he, HQ.out]; rfl); subst he2; clear he; have hm3 := MatRd.of_row (r := k) (c := k) (sp := []) (by rw [List.append_nil]; exact hrow); have hm := ((h9.after hb).add (fun _ h => hm3.after h)).box 24 [.int .i64 k, .int .i64 k, .slice (some ⟨gy, 0, none⟩) q q]; obtain ⟨x0, x1, x2⟩ := box3 hm.here.1.1.2; obtain ⟨y0, y1, y2⟩ := box3 hm.here.1.1.1.1.2; have S8 := Lib.hid (hm.map (fun x h => And.intro h.1.1.1.1.1.1.1.1.1.2 (And.intro h.1.1.1.1.1.1.1.1.2 (And.intro h.1.1.1.1.1.1.1.2 (And.intro h.1.1.1.1.1.1.2 (And.intro h.1.1.1.1.1.2 (And.intro h.1.1.1.1.2 (And.intro h.1.1.1.2 (And.intro h.1.2 h.2))))))))); clear h9 hb hrow hg hm hm3)
      | (go_at_call 21; have h9 := S8.out; clear S8; refine (same_matn k k q gx gi q q (mmul k A B) idm _ HQ.out (by omega) (by omega) (by omega) h9.here.2.2.2.2.2.2.1 h9.here.2.2.2.2.1 HR.out).mono ?_; rintro e w9 ⟨rfl, hb⟩; have hm := h9.after hb; obtain ⟨x0, x1, x2⟩ := box3 hm.here.2.2.2.2.2.1; obtain ⟨y0, y1, y2⟩ := box3 hm.here.2.2.2.2.2.2.2.2; have S9 := Lib.hid hm; clear h9 hb hm)
      | (go_at_call 21; have h9 := S9.out; clear S9; refine (same_matn k k q gy gi q q (mmul k B A) idm _ HQ.out (by omega) (by omega) (by omega) h9.here.2.2.2.2.2.2.2.1 h9.here.2.2.2.2.1 (linv_of_rinv HI.out HR.out)).mono ?_; rintro e w10 ⟨rfl, hb⟩; have hm := h9.after hb; obtain ⟨x0, x1, x2⟩ := box3 hm.here.2.2.2.1; have S10 := Lib.hid hm; clear h9 hb hm)
      | (go_at_call 18; have h9 := S10.out; clear S10; refine (invert_ok k gb 0 q q B _ (by omega) (by omega) HQ.out (by omega) (by omega) h9.here.2.2.1).mono ?_; intro e w11 hx; obtain ⟨gz, B2, hR2, he, hmB, hb⟩ := inv_good hx (inj_of_linv HR.out); have he2 : e = .returned (.tuple #[.agg #[.int .i64 k, .int .i64 k, .slice (some ⟨gz, 0, none⟩) q q], .nilIface]) := (by rw [he, HQ.out]; rfl); subst he2; clear he; have hm := ((h9.after hb).add (fun _ h => hmB.after h)).box 24 [.int .i64 k, .int .i64 k, .slice (some ⟨gz, 0, none⟩) q q]; obtain ⟨x0, x1, x2⟩ := box3 hm.here.1.1.2.1; have HR2 := Lib.hid hR2; have S11 := Lib.hid hm; clear h9 hb hx hmB hR2 hm)
      | (go_at_call 21; have h9 := S11.out; clear S11; refine (same_matn k k q gz ga q q B2 A _ HQ.out (by omega) (by omega) (by omega) h9.here.1.2 h9.here.1.1.1 (unique_of_inj (inj_of_linv HR.out) (fun i l hi hl => (HR2.out i l hi hl).trans (linv_of_rinv HI.out HR.out i l hi hl).symm))).mono ?_; rintro e w12 ⟨rfl, hb⟩; have S12 := Lib.hid (h9.after hb); clear h9 hb))
    go_ret
    exact ⟨rfl, S12.out.bel⟩
  · have HI := Lib.hid hI
    clear hI
    go_enter Try.func4, Try.ntmps4
    go_wp2_with (first
      | (go_at_call 9; have h9 := S0.out; clear S0; refine (known_any _).mono ?_; rintro e w1 ⟨rfl, hb⟩; have S1 := Lib.hid (h9.after hb); have HL1 := Lib.hid (HL.out.after hb); clear h9 hb)
      | (go_at_call 15; have h9 := S1.out; clear S1; refine (pick_any c 12 _ h0 h1 (by omega) (by omega)).mono ?_; rintro e w2 ⟨rfl, rfl⟩; rw [show pickOf c 12 = (p : Int) from HP.out]; have S2 := Lib.hid h9; clear h9)
      | (go_at_call 16; have h9 := S2.out; clear S2; refine (filled_any N N n cap a L _ (by rw [← HQ.out]; omega) (by omega) (by omega) HNL.out HN2.out HL1.out).mono ?_; rintro e w3 ⟨ga, he, hg, hrow, hb⟩; rw [← HA.out] at hrow; have he2 : e = .returned (.agg #[.int .i64 N, .int .i64 N, .slice (some ⟨ga, 0, none⟩) q q]) := (by rw [he, HQ.out]; rfl); subst he2; clear he; have S3 := Lib.hid (((h9.after hb).add (fun _ h => (MatRd.of_row0 hrow).after h)).box 24 [.int .i64 N, .int .i64 N, .slice (some ⟨ga, 0, none⟩) q q]); clear h9 hb hrow hg)
      | (go_at_call 17; have h9 := S3.out; clear S3; refine (rank_ok N N ga 0 q q A _ (by omega) (by omega) (by omega) (by omega) HQ.out (by omega) h9.here.1.2).mono ?_; rintro e w4 ⟨k, M', j, pp, rfl, hG, hj, hjr, hker, hb⟩; have hk := rank_less hG hj hker HI.out; have hki : (k : Int) < (N : Int) := (by omega); have hm := h9.after hb; obtain ⟨x0, x1, x2⟩ := box3 hm.here.2; have S4 := Lib.hid hm; clear h9 hb hm hG hj hjr hker)
      | (go_at_call 18; have h9 := S4.out; clear S4; refine (invert_ok N ga 0 q q A _ (by omega) (by omega) HQ.out (by omega) (by omega) h9.here.1.2).mono ?_; intro e w5 hx; obtain ⟨b, rfl, hE, hb⟩ := inv_bad hx HI.out; have S5 := Lib.hid (((h9.after hb).add (fun _ h => hE.after h)).box 24 [.int .i64 0, .int .i64 0, .slice none 0 0]); clear h9 hb hx hE)
      | (go_at_call 14; have h9 := S5.out; clear S5; refine (is_ok _ _ 18 _ h9.here.1.2).mono ?_; rintro e w6 ⟨rfl, rfl⟩; have S6 := Lib.hid h9; clear h9))
    go_ret
    exact ⟨rfl, S6.out.bel⟩
end Go.Proofs.Ytbnfnijjldimkaa
