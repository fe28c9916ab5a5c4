/-
  The walk of the law DiskFuse.
-/
import Derived.Test.YthppnjmepeeejaaDall
namespace Go.Proofs.Ythppnjmepeeejaa
open Go.RowKit
/-- the power behind k turns, with a fuse of A acts -/
def fuseP (A k : Nat) : Pw := if k ≤ A then ⟨false, (A : Int) - k, k⟩ else ⟨true, 0, A⟩
def fuseC (A k : Nat) : Int := if k < A then 0 else 10
theorem fuseP_lt {A k : Nat} (h : k ≤ A) : fuseP A k = ⟨false, (A : Int) - k, k⟩ := by unfold fuseP; rw [if_pos h]
theorem fuseP_ge {A k : Nat} (h : A < k) : fuseP A k = ⟨true, 0, A⟩ := by unfold fuseP; rw [if_neg (by omega)]
theorem fuseP_ok (A k : Nat) (h : A < 60) : (fuseP A k).ok := by
  unfold fuseP; split <;> exact ⟨by simp only []; omega, by simp only []; omega, by simp only []; omega, by simp only []; omega⟩
theorem fuseP_acts (A k : Nat) (h : A < 60) : (fuseP A k).acts < 4611686018427387904 := by unfold fuseP; split <;> simp only [] <;> omega
theorem fuse_w {A k n : Nat} {D : Dk} {a : Int} {s : ByteArray} (ok : D.ok n) (hd : D.dead = false) (ha : 0 ≤ a) (ha1 : a < n) (hs : s.size = 64) : wcode (fuseP A k) D a s = fuseC A k ∧ wpow (fuseP A k) D a s = fuseP A (k + 1) := by
  by_cases h1 : k ≤ A
  · have hr : rdy (fuseP A k) D a = 0 := rdy_zero ok (by rw [fuseP_lt h1]) hd ha ha1
    unfold wcode wpow fuseC
    rw [hr]
    simp only [hs, true_and, and_true, if_true]
    by_cases h2 : k < A
    · rw [if_pos h2, fuseP_lt h1, fuseP_lt (by omega : k + 1 ≤ A)]
      have e1 : ¬ ((A : Int) - k = 0) := by omega
      constructor
      · simp [Pw.can, e1]
      · simp only [Pw.act, if_neg e1]
        rw [if_pos (by omega)]
        simp only [Pw.mk.injEq, true_and]
        omega
    · obtain rfl : k = A := by omega
      rw [if_neg h2, fuseP_lt h1, fuseP_ge (by omega : k < k + 1)]
      constructor
      · simp [Pw.can]
      · simp [Pw.act]
  · have hg : (fuseP A k).gone = true := by rw [fuseP_ge (by omega)]
    have hr : rdy (fuseP A k) D a = 10 := by unfold rdy; rw [hg]; rfl
    unfold wcode wpow fuseC
    rw [hr, if_neg (by decide), if_neg (by omega), if_neg (by omega), fuseP_ge (by omega), fuseP_ge (by omega)]
    exact ⟨rfl, rfl⟩
theorem fuse_f {A k n : Nat} {D : Dk} (ok : D.ok n) (hd : D.dead = false) : fcode (fuseP A k) D = fuseC A k ∧ fpow (fuseP A k) D = fuseP A (k + 1) := by
  have n1 := ok.n1
  have h := fuse_w (A := A) (k := k) (a := 0) (s := secOf ⟨#[]⟩) ok hd (by omega) (by omega) (secOf_size _)
  unfold wcode wpow at h
  rw [secOf_size] at h
  simp only [if_true, and_true] at h
  unfold fcode fpow
  exact h
theorem fuse_r {A k : Nat} {D : Dk} {a : Int} (h : A < k) : rdy (fuseP A k) D a = 10 := by
  have hg : (fuseP A k).gone = true := by rw [fuseP_ge h]
  unfold rdy; rw [hg]; rfl
theorem wdk_more {P : Pw} {D : Dk} {a : Int} {s : ByteArray} {k : Nat} (hd : D.dead = false) (hk : D.wait.length ≤ k) : (wdk P D a s).dead = false ∧ (wdk P D a s).wait.length ≤ k + 1 := by
  unfold wdk; split
  · exact ⟨hd, by simp; omega⟩
  · exact ⟨hd, by omega⟩
theorem fdk_more {P : Pw} {D : Dk} {k : Nat} (hd : D.dead = false) (hk : D.wait.length ≤ k) : (fdk P D).dead = false ∧ (fdk P D).wait.length ≤ k + 1 := by
  unfold fdk; split
  · exact ⟨hd, by simp [Dk.flushed]⟩
  · exact ⟨hd, by omega⟩
theorem ErrAt.nil {B : Nat} {w : World} {v : Value} {c : Int} (h : ErrAt B w v c) (hc : c = 0) : v = .nilIface := by
  rcases h with ⟨_, h⟩ | ⟨h, _⟩
  · exact h
  · exact absurd hc h
theorem ErrAt.fault {B : Nat} {w : World} {v : Value} {c : Int} (h : ErrAt B w v c) (hc : c ≠ 0) : ∃ b, v = .iface 81 (.pointer (some ⟨b, 0, none⟩)) ∧ FaultAt w b c := by
  rcases h with ⟨h, _⟩ | ⟨_, b, h1, _, h2⟩
  · exact absurd h hc
  · exact ⟨b, h1, h2⟩
theorem fuse_stepw {w0 : World} {p d g1 e g2 n1 n2 A k : Nat} {D1 D2 : Dk} {w : World} (h : Two w0 p d g1 e g2 n1 n2 (fuseP A k) D1 D2 w) (hA : A < 60) (a : Int) (s : ByteArray) (ha : 0 ≤ a) (ha1 : a < n1) (hs : s.size = 64) (hd : D1.dead = false) (hk : D1.wait.length ≤ k) (hk2 : k < 80) :
    Calls Try.prog 12 #[.pointer (some ⟨d, 0, none⟩), .int .i64 a, .string s] w fun x w' => ∃ ev D1', x = .returned ev ∧ ErrAt w.heap.size w' ev (fuseC A k) ∧ D1'.dead = false ∧ D1'.wait.length ≤ k + 1 ∧ Two w0 p d g1 e g2 n1 n2 (fuseP A (k + 1)) D1' D2 w' := by
  refine (h.write a s (by omega) (fuseP_acts A k hA)).mono ?_
  rintro x w' ⟨ev, rfl, he, hx⟩
  obtain ⟨e1, e2⟩ := fuse_w (A := A) (k := k) h.ok1 hd ha ha1 hs
  rw [e1] at he
  rw [e2] at hx
  obtain ⟨q1, q2⟩ := wdk_more (P := fuseP A k) (a := a) (s := s) hd hk
  exact ⟨ev, _, rfl, he, q1, q2, hx⟩
theorem fuse_stepf {w0 : World} {p d g1 e g2 n1 n2 A k : Nat} {D1 D2 : Dk} {w : World} (h : Two w0 p d g1 e g2 n1 n2 (fuseP A k) D1 D2 w) (hA : A < 60) (hd : D1.dead = false) (hk : D1.wait.length ≤ k) :
    Calls Try.prog 15 #[.pointer (some ⟨d, 0, none⟩)] w fun x w' => ∃ ev D1', x = .returned ev ∧ ErrAt w.heap.size w' ev (fuseC A k) ∧ D1'.dead = false ∧ D1'.wait.length ≤ k + 1 ∧ Two w0 p d g1 e g2 n1 n2 (fuseP A (k + 1)) D1' D2 w' := by
  refine (h.flush (fuseP_acts A k hA)).mono ?_
  rintro x w' ⟨ev, rfl, he, hx⟩
  obtain ⟨e1, e2⟩ := fuse_f (A := A) (k := k) h.ok1 hd
  rw [e1] at he
  rw [e2] at hx
  obtain ⟨q1, q2⟩ := fdk_more (P := fuseP A k) hd hk
  exact ⟨ev, _, rfl, he, q1, q2, hx⟩
theorem on_ok (c : Int) (h0 : 0 ≤ c) (h1 : c ≤ 60) : (⟨false, -1, c⟩ : Pw).ok := ⟨by simp only []; omega, by simp only []; omega, h0, by simp only []; omega⟩
theorem on_w (c : Int) {D : Dk} {n : Nat} {s : ByteArray} (ok : D.ok n) (hd : D.dead = false) (hs : s.size = 64) : wcode ⟨false, -1, c⟩ D 0 s = 0 ∧ wpow ⟨false, -1, c⟩ D 0 s = ⟨false, -1, c + 1⟩ := by
  have n1 := ok.n1
  have hr : rdy ⟨false, -1, c⟩ D 0 = 0 := rdy_zero ok rfl hd (by omega) (by omega)
  unfold wcode wpow
  rw [hr]
  simp only [hs, true_and, and_true, if_true]
  exact ⟨rfl, rfl⟩
theorem FaultAt.after {w w' : World} {b : Nat} {c : Int} (h : FaultAt w b c) (hb : Below w.heap.size w w') : FaultAt w' b c := Row.after h hb
set_option maxRecDepth 100000 in
set_option maxHeartbeats 1600000 in
theorem fuse_walk (acts turns : Int) (a0 : -9223372036854775808 ≤ acts) (a1 : acts ≤ 9223372036854775807) (b0 : -9223372036854775808 ≤ turns) (b1 : turns ≤ 9223372036854775807) (w : World) :
    Calls Try.prog 7 #[.int .i64 acts, .int .i64 turns] w fun e w' => e = .returned (.bool true) ∧ Below w.heap.size w w' := by
  obtain ⟨A, ha, hla⟩ : ∃ a : Nat, pickOf acts 60 = (a : Int) ∧ a < 60 := by
    have := pickOf_lt acts 60 (by omega)
    exact ⟨(pickOf acts 60).toNat, by omega, by omega⟩
  obtain ⟨T, ht, hlt⟩ : ∃ b : Nat, pickOf turns 80 = (b : Int) ∧ b < 80 := by
    have := pickOf_lt turns 80 (by omega)
    exact ⟨(pickOf turns 80).toNat, by omega, by omega⟩
  have HA := Lib.hid ha
  have HT := Lib.hid ht
  clear ha ht
  go_enter Try.func7, Try.ntmps7
  go_wp2_with (first
    | (go_at_call 9; refine (known_any _).mono ?_; rintro e w1 ⟨rfl, hb1⟩)
    | (go_at_call 10; refine (rack_any _).mono ?_; rintro e w2 ⟨p, d, g1, rfl, hp1, hp2, hp3, hp4, hp5, hp6⟩)
    | (go_at_call 20; refine (new_ok _ 3 _ (by omega) (by omega)).mono ?_; rintro x w3 ⟨e, g2, rfl, hd1, hd2, hd3, hd4⟩; have S0 := Lib.hid (Two.make hp1 hp2 hp3 hp4 kP0_ok hp5 hp6 hd1 hd2 hd3 hd4 (by omega) (by omega) (by omega) (by omega)); clear hp1 hp2 hp3 hp4 hp5 hp6 hd1 hd2 hd3 hd4)
    | (go_at_call 18; refine (pick_any acts 60 _ a0 a1 (by omega) (by omega)).mono ?_; rintro e w3 ⟨he, rfl⟩; rw [HA.out] at he; subst he)
    | (go_at_call 26; refine (fuse_any p kP0 A _ S0.out.pw).mono ?_; rintro e w4 ⟨rfl, hp', hf'⟩; have S1 := Lib.hid (S0.out.power (P' := fuseP A 0) (by rw [fuseP_lt (Nat.zero_le _)]; rw [show max (A : Int) (-1) = (A : Int) - (0 : Nat) from by omega] at hp'; exact hp') (fuseP_ok A 0 hla) hf'); clear hp' hf' S0))
  clear HA
  have HB1 := Lib.hid hb1
  clear hb1
  go_loopw [10, 11] (fun dn i wr => ∃ (k : Nat) (c : Int), k ≤ T ∧ i = .int .i64 k ∧ dn = .int .i64 c ∧ ((k < A ∧ c = k) ∨ (A ≤ k ∧ c = A)) ∧ ∃ D1 D2, Two w1 p d g1 e g2 8 3 (fuseP A k) D1 D2 wr ∧ (D1.dead = false ∧ D1.wait.length ≤ k) ∧ (D2.dead = false ∧ D2.wait.length ≤ k)) (fun _ i _ => 80 - (intOf i).toNat)
  case atStart => exact ⟨0, 0, by omega, rfl, rfl, by omega, _, _, S1.out, ⟨rfl, Nat.le_refl _⟩, ⟨rfl, Nat.le_refl _⟩⟩
  case round =>
    obtain ⟨k, c, hk, rfl, rfl, hdn, D1, D2, htwo, q1, q2⟩ := hrel
    have S2 := Lib.hid htwo
    clear htwo
    by_cases hlt2 : k < T
    · rcases hdn with ⟨hlow, rfl⟩ | ⟨hlow, rfl⟩
      · have HC := Lib.hid (show fuseC A k = 0 by unfold fuseC; rw [if_pos hlow])
        have HG := Lib.hid (show (fuseP A (k + 1)).gone = false by rw [fuseP_lt (by omega)])
        rcases (by omega : k % 3 = 0 ∨ k % 3 = 1 ∨ k % 3 = 2) with h3 | h3 | h3
        · have hm : (k : Int) % 3 = 0 := by omega
          clear h3
          go_wp2_with (first
            | (go_at_call 18; refine (pick_any turns 80 _ b0 b1 (by omega) (by omega)).mono ?_; rintro x w3 ⟨hv, rfl⟩; rw [HT.out] at hv; subst hv)
            | (go_at_call 11; refine (lsector_any _ _ (by decide)).mono ?_; rintro x w5 ⟨rfl, hb⟩; have S3 := Lib.hid (S2.out.after hb); clear hb S2)
            | (go_at_call 12; refine (fuse_stepw S3.out hla ((k : Int) % 8) _ (by omega) (by omega) (secOf_size _) q1.1 q1.2 (by omega)).mono ?_; rintro x w6 ⟨ev, D', rfl, he, hd', hk', hx⟩; rw [HC.out] at he; have S4 := Lib.hid hx; obtain rfl := he.nil rfl; clear he; clear hx S3)
            | (go_at_call 27; refine (gone_any p _ _ S4.out.pw).mono ?_; rintro x w7 ⟨hv, rfl⟩; rw [HG.out] at hv; subst hv))
          go_roundw
          case measure => simp [intOf]; omega
          case rel => exact ⟨k + 1, (k : Int) + 1, by omega, by go_num, rfl, by omega, D', D2, S4.out, ⟨hd', hk'⟩, ⟨q2.1, by omega⟩⟩
        · have hm : (k : Int) % 3 = 1 := by omega
          clear h3
          go_wp2_with (first
            | (go_at_call 18; refine (pick_any turns 80 _ b0 b1 (by omega) (by omega)).mono ?_; rintro x w3 ⟨hv, rfl⟩; rw [HT.out] at hv; subst hv)
            | (go_at_call 11; refine (lsector_any _ _ (by decide)).mono ?_; rintro x w5 ⟨rfl, hb⟩; have S3 := Lib.hid (S2.out.after hb); clear hb S2)
            | (go_at_call 12; refine (fuse_stepw S3.out.swap hla 1 _ (by omega) (by omega) (secOf_size _) q2.1 q2.2 (by omega)).mono ?_; rintro x w6 ⟨ev, D', rfl, he, hd', hk', hx⟩; rw [HC.out] at he; have S4 := Lib.hid hx.swap; obtain rfl := he.nil rfl; clear he; clear hx S3)
            | (go_at_call 27; refine (gone_any p _ _ S4.out.pw).mono ?_; rintro x w7 ⟨hv, rfl⟩; rw [HG.out] at hv; subst hv))
          go_roundw
          case measure => simp [intOf]; omega
          case rel => exact ⟨k + 1, (k : Int) + 1, by omega, by go_num, rfl, by omega, D1, D', S4.out, ⟨q1.1, by omega⟩, ⟨hd', hk'⟩⟩
        · have hm : (k : Int) % 3 = 2 := by omega
          clear h3
          go_wp2_with (first
            | (go_at_call 18; refine (pick_any turns 80 _ b0 b1 (by omega) (by omega)).mono ?_; rintro x w3 ⟨hv, rfl⟩; rw [HT.out] at hv; subst hv)
            | (go_at_call 15; refine (fuse_stepf S2.out hla q1.1 q1.2).mono ?_; rintro x w6 ⟨ev, D', rfl, he, hd', hk', hx⟩; rw [HC.out] at he; have S4 := Lib.hid hx; obtain rfl := he.nil rfl; clear he; clear hx S2)
            | (go_at_call 27; refine (gone_any p _ _ S4.out.pw).mono ?_; rintro x w7 ⟨hv, rfl⟩; rw [HG.out] at hv; subst hv))
          go_roundw
          case measure => simp [intOf]; omega
          case rel => exact ⟨k + 1, (k : Int) + 1, by omega, by go_num, rfl, by omega, D', D2, S4.out, ⟨hd', hk'⟩, ⟨q2.1, by omega⟩⟩
      · have HC := Lib.hid (show fuseC A k = 10 by unfold fuseC; rw [if_neg (by omega)])
        have HG := Lib.hid (show (fuseP A (k + 1)).gone = true by rw [fuseP_ge (by omega)])
        rcases (by omega : k % 3 = 0 ∨ k % 3 = 1 ∨ k % 3 = 2) with h3 | h3 | h3
        · have hm : (k : Int) % 3 = 0 := by omega
          clear h3
          go_wp2_with (first
            | (go_at_call 18; refine (pick_any turns 80 _ b0 b1 (by omega) (by omega)).mono ?_; rintro x w3 ⟨hv, rfl⟩; rw [HT.out] at hv; subst hv)
            | (go_at_call 11; refine (lsector_any _ _ (by decide)).mono ?_; rintro x w5 ⟨rfl, hb⟩; have S3 := Lib.hid (S2.out.after hb); clear hb S2)
            | (go_at_call 12; refine (fuse_stepw S3.out hla ((k : Int) % 8) _ (by omega) (by omega) (secOf_size _) q1.1 q1.2 (by omega)).mono ?_; rintro x w6 ⟨ev, D', rfl, he, hd', hk', hx⟩; rw [HC.out] at he; have S4 := Lib.hid hx; obtain ⟨b1, rfl, hf⟩ := he.fault (by decide); clear he; clear hx S3)
            | (go_at_call 14; refine (S4.out.swap.read 0).mono ?_; rintro x w8 ⟨ev2, rfl, he2, hx2, hb2⟩; rw [fuse_r (by omega)] at he2; obtain ⟨b2, rfl, hf2⟩ := he2.fault (by decide); have hf1 := hf.after hb2; have cf1 := hf1.cell (j := 0) rfl; have cf2 := hf2.cell (j := 0) rfl; have S5 := Lib.hid hx2.swap; clear he2 hx2 S4 hf hf2)
            | (go_at_call 28; refine (errorsIs _ 10 _ cf1).mono ?_; rintro x w9 ⟨rfl, rfl⟩; clear cf1)
            | (go_at_call 27; refine (gone_any p _ _ S5.out.pw).mono ?_; rintro x w7 ⟨hv, rfl⟩; rw [HG.out] at hv; subst hv)
            | (go_at_call 28; refine (errorsIs _ 10 _ cf2).mono ?_; rintro x w9 ⟨rfl, rfl⟩))
          go_roundw
          case measure => simp [intOf]; omega
          case rel => exact ⟨k + 1, A, by omega, by go_num, rfl, Or.inr ⟨by omega, rfl⟩, D', D2, S5.out, ⟨hd', hk'⟩, ⟨q2.1, by omega⟩⟩
        · have hm : (k : Int) % 3 = 1 := by omega
          clear h3
          go_wp2_with (first
            | (go_at_call 18; refine (pick_any turns 80 _ b0 b1 (by omega) (by omega)).mono ?_; rintro x w3 ⟨hv, rfl⟩; rw [HT.out] at hv; subst hv)
            | (go_at_call 11; refine (lsector_any _ _ (by decide)).mono ?_; rintro x w5 ⟨rfl, hb⟩; have S3 := Lib.hid (S2.out.after hb); clear hb S2)
            | (go_at_call 12; refine (fuse_stepw S3.out.swap hla 1 _ (by omega) (by omega) (secOf_size _) q2.1 q2.2 (by omega)).mono ?_; rintro x w6 ⟨ev, D', rfl, he, hd', hk', hx⟩; rw [HC.out] at he; have S4 := Lib.hid hx.swap; obtain ⟨b1, rfl, hf⟩ := he.fault (by decide); clear he; clear hx S3)
            | (go_at_call 14; refine (S4.out.swap.read 0).mono ?_; rintro x w8 ⟨ev2, rfl, he2, hx2, hb2⟩; rw [fuse_r (by omega)] at he2; obtain ⟨b2, rfl, hf2⟩ := he2.fault (by decide); have hf1 := hf.after hb2; have cf1 := hf1.cell (j := 0) rfl; have cf2 := hf2.cell (j := 0) rfl; have S5 := Lib.hid hx2.swap; clear he2 hx2 S4 hf hf2)
            | (go_at_call 28; refine (errorsIs _ 10 _ cf1).mono ?_; rintro x w9 ⟨rfl, rfl⟩; clear cf1)
            | (go_at_call 27; refine (gone_any p _ _ S5.out.pw).mono ?_; rintro x w7 ⟨hv, rfl⟩; rw [HG.out] at hv; subst hv)
            | (go_at_call 28; refine (errorsIs _ 10 _ cf2).mono ?_; rintro x w9 ⟨rfl, rfl⟩))
          go_roundw
          case measure => simp [intOf]; omega
          case rel => exact ⟨k + 1, A, by omega, by go_num, rfl, Or.inr ⟨by omega, rfl⟩, D1, D', S5.out, ⟨q1.1, by omega⟩, ⟨hd', hk'⟩⟩
        · have hm : (k : Int) % 3 = 2 := by omega
          clear h3
          go_wp2_with (first
            | (go_at_call 18; refine (pick_any turns 80 _ b0 b1 (by omega) (by omega)).mono ?_; rintro x w3 ⟨hv, rfl⟩; rw [HT.out] at hv; subst hv)
            | (go_at_call 15; refine (fuse_stepf S2.out hla q1.1 q1.2).mono ?_; rintro x w6 ⟨ev, D', rfl, he, hd', hk', hx⟩; rw [HC.out] at he; have S4 := Lib.hid hx; obtain ⟨b1, rfl, hf⟩ := he.fault (by decide); clear he; clear hx S2)
            | (go_at_call 14; refine (S4.out.swap.read 0).mono ?_; rintro x w8 ⟨ev2, rfl, he2, hx2, hb2⟩; rw [fuse_r (by omega)] at he2; obtain ⟨b2, rfl, hf2⟩ := he2.fault (by decide); have hf1 := hf.after hb2; have cf1 := hf1.cell (j := 0) rfl; have cf2 := hf2.cell (j := 0) rfl; have S5 := Lib.hid hx2.swap; clear he2 hx2 S4 hf hf2)
            | (go_at_call 28; refine (errorsIs _ 10 _ cf1).mono ?_; rintro x w9 ⟨rfl, rfl⟩; clear cf1)
            | (go_at_call 27; refine (gone_any p _ _ S5.out.pw).mono ?_; rintro x w7 ⟨hv, rfl⟩; rw [HG.out] at hv; subst hv)
            | (go_at_call 28; refine (errorsIs _ 10 _ cf2).mono ?_; rintro x w9 ⟨rfl, rfl⟩))
          go_roundw
          case measure => simp [intOf]; omega
          case rel => exact ⟨k + 1, A, by omega, by go_num, rfl, Or.inr ⟨by omega, rfl⟩, D', D2, S5.out, ⟨hd', hk'⟩, ⟨q2.1, by omega⟩⟩
    · have hc : (fuseP A k).acts = c := by
        rcases hdn with ⟨h, rfl⟩ | ⟨h, rfl⟩
        · rw [fuseP_lt (by omega)]
        · rcases Nat.lt_or_ge A k with h2 | h2
          · rw [fuseP_ge h2]
          · rw [fuseP_lt h2]; show (k : Int) = (A : Int); omega
      have hc0 : 0 ≤ c := by omega
      have hc1 : c ≤ 60 := by omega
      have HC := Lib.hid hc
      clear hc hdn
      go_wp2_with (first
        | (go_at_call 18; refine (pick_any turns 80 _ b0 b1 (by omega) (by omega)).mono ?_; rintro x w3 ⟨hv, rfl⟩; rw [HT.out] at hv; subst hv)
        | (go_at_call 29; have h9 := S2.out; refine (acts_any p _ _ h9.pw).mono ?_; rintro x w4 ⟨hv, rfl⟩; rw [HC.out] at hv; subst hv; clear h9)
        | (go_at_call 30; refine (on_any p _ _ S2.out.pw).mono ?_; rintro x w5 ⟨rfl, hp', hf'⟩; have S3 := Lib.hid (S2.out.power (P' := ⟨false, -1, c⟩) (by rw [HC.out] at hp'; exact hp') (on_ok c hc0 hc1) hf'); clear hp' hf' S2)
        | (go_at_call 11; refine (lsector_any _ _ (by decide)).mono ?_; rintro x w5 ⟨rfl, hb⟩; have S4 := Lib.hid (S3.out.after hb); clear hb S3)
        | (go_at_call 12; refine (S4.out.swap.write 0 (secOf ⟨#[122]⟩) (by omega) (by show c < _; omega)).mono ?_; rintro x w6 ⟨ev, rfl, he, hx⟩; have ho := on_w c S4.out.ok2 q2.1 (secOf_size ⟨#[122]⟩); rw [ho.1] at he; rw [ho.2] at hx; obtain rfl := he.nil rfl; have S5 := Lib.hid hx; clear he hx ho S4)
        | (go_at_call 27; refine (gone_any p _ _ S5.out.pw).mono ?_; rintro x w7 ⟨rfl, rfl⟩)
        | (go_at_call 29; have h9 := S5.out; refine (acts_any p _ _ h9.pw).mono ?_; rintro x w8 ⟨rfl, rfl⟩; clear h9))
      go_ret
      have hbx := S5.out.bel
      exact ⟨rfl, HB1.out.trans (hbx.mono HB1.out.size)⟩
end Go.Proofs.Ythppnjmepeeejaa
