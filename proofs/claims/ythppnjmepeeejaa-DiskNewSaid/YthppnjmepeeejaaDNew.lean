/-
  The walk of the law DiskNew.
-/
import Derived.Test.YthppnjmepeeejaaKnown
namespace Go.Proofs.Ythppnjmepeeejaa
open Go.RowKit
theorem fresh_reads (n : Nat) (h1 : 1 ≤ n) : (Dk.fresh n).reads (n - 1) = secOf ⟨#[]⟩ := by
  unfold Dk.reads Dk.fresh
  simp only [List.foldl_nil]
  unfold Dk.lasts
  simp only [List.drop_replicate, List.take_replicate]
  rw [show min 64 (64 * n - (n - 1) * 64) = 64 from by omega]
  exact kS.symm
theorem fresh_image (n : Nat) : (Dk.fresh n).image.size = 64 * n := by
  unfold Dk.image Dk.fresh
  simp [ByteArray.size]
theorem St.readAt {w0 : World} {p d gh : Nat} {P : Pw} {n : Nat} {D : Dk} {w : World} (h : St w0 p d gh P n D w) (ai : Int) (a : Nat) (hai : ai = (a : Int)) (hg : P.gone = false) (hd : D.dead = false) (ha : a < n) :
    Calls Try.prog 14 #[.pointer (some ⟨d, 0, none⟩), .int .i64 ai] w fun e w' => e = .returned (.tuple #[.string (D.reads a), .nilIface]) ∧ St w0 p d gh P n D w' := by
  subst hai; exact h.read a hg hd ha
theorem new_rdy1 (n : Nat) : rdy ⟨false, -1, 0⟩ (Dk.fresh n) n = 1 := by
  rw [rdy_live (n := n) rfl rfl (by simp [Dk.fresh]), if_pos (by omega)]
theorem new_rdy (n : Nat) : rdy ⟨false, -1, 0⟩ (Dk.fresh n) n ≠ 0 := by rw [new_rdy1]; decide
set_option maxRecDepth 100000 in
set_option maxHeartbeats 1600000 in
theorem new_walk (sectors : Int) (h0 : -9223372036854775808 ≤ sectors) (h1 : sectors ≤ 9223372036854775807) (w : World) :
    Calls Try.prog 6 #[.int .i64 sectors] w fun e w' => e = .returned (.bool true) ∧ Below w.heap.size w w' := by
  by_cases hbad : sectors < 1 ∨ 8192 < sectors
  · have HBAD := Lib.hid hbad
    by_cases hneg : sectors < 1
    · clear hbad
      go_enter Try.func6, Try.ntmps6
      go_wp2_with (first
        | (go_at_call 9; refine (known_any _).mono ?_; rintro e w1 ⟨rfl, hb1⟩)
        | (go_at_call 21; refine (newPower_any _).mono ?_; rintro e w2 ⟨p, rfl, hp1, hp2, hb2⟩)
        | (go_at_call 20; refine (new_bad _ _ _ HBAD.out).mono ?_; rintro e w3 ⟨b, rfl, hc1, hc2, hb3⟩)
        | (go_at_call 22; refine (is_ok 0 _ 1 _ (ErrAt.err (by decide) (Nat.zero_le _) hc2)).mono ?_; rintro e w4 ⟨rfl, rfl⟩))
      go_ret
      exact ⟨rfl, hb1.trans ((hb2.trans (hb3.mono hb2.size)).mono hb1.size)⟩
    · have hbig : 8192 < sectors := by omega
      clear hbad
      go_enter Try.func6, Try.ntmps6
      go_wp2_with (first
        | (go_at_call 9; refine (known_any _).mono ?_; rintro e w1 ⟨rfl, hb1⟩)
        | (go_at_call 21; refine (newPower_any _).mono ?_; rintro e w2 ⟨p, rfl, hp1, hp2, hb2⟩)
        | (go_at_call 20; refine (new_bad _ _ _ HBAD.out).mono ?_; rintro e w3 ⟨b, rfl, hc1, hc2, hb3⟩)
        | (go_at_call 22; refine (is_ok 0 _ 1 _ (ErrAt.err (by decide) (Nat.zero_le _) hc2)).mono ?_; rintro e w4 ⟨rfl, rfl⟩))
      go_ret
      exact ⟨rfl, hb1.trans ((hb2.trans (hb3.mono hb2.size)).mono hb1.size)⟩
  · obtain ⟨n, rfl⟩ : ∃ n : Nat, sectors = (n : Int) := ⟨sectors.toNat, by omega⟩
    have n1 : 1 ≤ n := by omega
    have n2 : n ≤ 8192 := by omega
    have hr1 := Lib.hid (fresh_reads n n1)
    have hr2 := fresh_image n
    obtain ⟨SZ, hSZ⟩ : ∃ x, secOf ⟨#[]⟩ = x := ⟨_, rfl⟩
    have HSZ := Lib.hid hSZ
    obtain ⟨I, hI⟩ : ∃ x, (Dk.fresh n).image = x := ⟨_, rfl⟩
    rw [hI] at hr2
    have HI := Lib.hid hI
    clear hbad hSZ hI
    go_enter Try.func6, Try.ntmps6
    go_wp2_with (first
      | (go_at_call 9; refine (known_any _).mono ?_; rintro e w1 ⟨rfl, hb1⟩)
      | (go_at_call 21; refine (newPower_any _).mono ?_; rintro e w2 ⟨p, rfl, hp1, hp2, hb2⟩)
      | (go_at_call 20; refine (new_ok _ n _ n1 n2).mono ?_; rintro e w3 ⟨d, gh, rfl, hd1, hd2, hd3, hd4⟩; have S0 := Lib.hid (St.new (w0 := w1) (n := n) hp2 kP0_ok hp1 hb2 hd3 n1 n2 hd1 hd2 hd4 rfl); clear hp1 hp2 hb2 hd1 hd2 hd3 hd4)
      | (go_at_call 14; refine (S0.out.readAt ((n : Int) - 1) (n - 1) (by omega) rfl rfl (by omega)).mono ?_; rintro e w4 ⟨he, hx⟩; rw [hr1.out, HSZ.out] at he; subst he; have S1 := Lib.hid hx; clear hx S0)
      | (go_at_call 14; refine (S1.out.readBad n (new_rdy n)).mono ?_; rintro e w5 ⟨ev, rfl, herr, hx⟩; have S2 := Lib.hid hx; clear hx S1)
      | (go_at_call 22; refine (is_ok _ _ 1 _ (by rw [new_rdy1] at herr; exact herr)).mono ?_; rintro e w6 ⟨rfl, rfl⟩)
      | (go_at_call 23; refine S2.out.sectors.mono ?_; rintro e w7 ⟨rfl, rfl⟩)
      | (go_at_call 11; refine (lsector_any _ _ (by decide)).mono ?_; rintro e w8 ⟨he, hb⟩; rw [HSZ.out] at he; subst he; have S3 := Lib.hid (S2.out.after hb); clear hb S2)
      | (go_at_call 17; refine S3.out.image.mono ?_; rintro e w9 ⟨he, rfl⟩; rw [HI.out] at he; subst he)
      | (go_at_call 24; refine S3.out.dead.mono ?_; rintro e w9 ⟨he, rfl⟩; rw [show (Dk.fresh n).dead = false from rfl] at he; subst he)
      | (go_at_call 25; refine S3.out.life.mono ?_; rintro e w9 ⟨he, rfl⟩; rw [show (Dk.fresh n).life = 0 from rfl] at he; subst he))
    go_ret
    have hbx := S3.out.bel
    exact ⟨rfl, hb1.trans (hbx.mono hb1.size)⟩
end Go.Proofs.Ythppnjmepeeejaa
