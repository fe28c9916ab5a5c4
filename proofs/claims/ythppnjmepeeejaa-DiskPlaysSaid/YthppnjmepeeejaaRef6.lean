/-
  The reference disk's Lose.
-/
import Derived.Test.YthppnjmepeeejaaRef5
import Derived.Deep.QuietTactic
import Derived.BigQuiet
import Derived.Laws.Strings3
namespace Go.Proofs.Ythppnjmepeeejaa
open Go.RowKit
theorem rtorn_cases (t : Int) : (t < 0 ∧ tornOf t = 0) ∨ (64 < t ∧ tornOf t = 64) ∨ (0 ≤ t ∧ t ≤ 64 ∧ ∃ n : Nat, t = (n : Int) ∧ tornOf t = n) := by
  unfold tornOf
  rcases (by omega : t < 0 ∨ 64 < t ∨ (0 ≤ t ∧ t ≤ 64)) with h | h | ⟨h, h2⟩
  · exact Or.inl ⟨h, by omega⟩
  · exact Or.inr (Or.inl ⟨h, by omega⟩)
  · exact Or.inr (Or.inr ⟨h, h2, t.toNat, by omega, by omega⟩)
theorem cell_lt' {w : World} {p : Addr} {v : Value} (h : w.cell? p = some v) : p.block < w.heap.size := by
  unfold World.cell? at h
  by_cases h9 : p.block < w.heap.size
  · exact h9
  · rw [Array.getElem?_eq_none (by omega)] at h; cases h
theorem r_extract_mk (l : List UInt8) (a b : Nat) : (⟨l.toArray⟩ : ByteArray).extract a b = ⟨((l.drop a).take (b - a)).toArray⟩ := by
  apply ByteArray.ext
  simp [ByteArray.data_extract]
/-- the disk behind the k first pending writes of a loss, all still pending -/
def Dk.atLoss (D : Dk) (keep : List Bool) (t0 k : Nat) : Dk := { D with has := (D.losing keep t0 k).1 }
theorem losing_step (D : Dk) (keep : List Bool) (t0 k : Nat) (h : k < D.wait.length) : D.losing keep t0 (k + 1) = if keep[k]? = some true then (lay1 (D.losing keep t0 k).1 D.wait[k], (D.losing keep t0 k).2) else (laidAt (D.losing keep t0 k).1 (D.wait[k].1 * 64) (D.wait[k].2.data.toList.take (D.losing keep t0 k).2), 0) := by
  simp only [Dk.losing, List.getElem?_eq_getElem h]
theorem atLoss_none (D : Dk) (keep : List Bool) (t0 k : Nat) (h : k < D.wait.length) (hk : keep[k]? ≠ some true) (h0 : (D.losing keep t0 k).2 = 0) : D.atLoss keep t0 (k + 1) = D.atLoss keep t0 k := by
  unfold Dk.atLoss
  rw [losing_step D keep t0 k h, if_neg hk, h0]
  simp [laid_nil]
section
variable (D : Dk) (keep : List Bool) (t0 k n : Nat) (ok : D.ok n) (h : k < D.wait.length)
include ok h
theorem atLoss_kept (hk : keep[k]? = some true) (j : Nat) : (D.atLoss keep t0 (k + 1)).lasts j = if D.wait[k].1 = j then D.wait[k].2 else (D.atLoss keep t0 k).lasts j := by
  unfold Dk.atLoss
  rw [losing_step D keep t0 k h, if_pos hk]
  exact lay1_lasts D _ D.wait[k] n j (D.losing_length n ok keep t0 k) (ok.at_ _ (List.getElem_mem h)) (ok.size _ (List.getElem_mem h))
theorem atLoss_torn (hk : keep[k]? ≠ some true) (ht : t0 ≤ 64) (h0 : (D.losing keep t0 k).2 = t0) (j : Nat) : (D.atLoss keep t0 (k + 1)).lasts j = if D.wait[k].1 = j then D.wait[k].2.extract 0 t0 ++ ((D.atLoss keep t0 k).lasts D.wait[k].1).extract t0 64 else (D.atLoss keep t0 k).lasts j := by
  have hl := D.losing_length n ok keep t0 k
  have hx := ok.at_ _ (List.getElem_mem h)
  have hs : D.wait[k].2.data.toList.length = 64 := by simpa using ok.size _ (List.getElem_mem h)
  unfold Dk.atLoss
  rw [losing_step D keep t0 k h, if_neg hk, h0]
  simp only
  rw [lasts_eq, lasts_eq, lasts_eq]
  simp only
  by_cases e : D.wait[k].1 = j
  · subst e
    rw [if_pos rfl, sec_laid_self _ _ _ (by omega) (by rw [List.length_take]; omega), List.length_take, hs, Nat.min_eq_left ht]
    have h3 := sec_length _ n _ hl hx
    have e3 : ((sec (D.losing keep t0 k).1 D.wait[k].1).drop t0).take (64 - t0) = (sec (D.losing keep t0 k).1 D.wait[k].1).drop t0 := List.take_of_length_le (by rw [List.length_drop, h3]; exact Nat.le_refl _)
    rw [r_extract_mk (sec (D.losing keep t0 k).1 D.wait[k].1), e3]
    apply ByteArray.ext
    simp [ByteArray.data_extract]
  · rw [if_neg e, sec_laid_other _ _ _ _ (by omega) (by rw [List.length_take]; omega) e]
end
theorem run_str_from {P : Program} (T : TypeId) (h : P.underlying T = some .string) (s : ByteArray) (n : Nat) (hn : n ≤ s.size) (W : World) : (Instr.slice T (.string s) (some (.int .i64 (n : Int))) none none).run P W = .ok (.string (s.extract n s.size)) W := by
  rw [run_slice_string_from_if W T s .i64 n h, if_pos ⟨by omega, by omega⟩]; simp
theorem rround_end {q r hg hc n : Nat} {v : Value} {P : Pw} {D : Dk} {keep : List Bool} {t0 k k' : Nat} {w wr w2 : World} {sp : List Value} {at_ : Nat} {V V0 : ByteArray} (hfr : Fr [hg] w wr) (hf2 : Fr [] wr w2) (hpr : RPowAt wr q P) (hdr : RDiskAt wr q r hg hc v n (D.atLoss keep t0 k))
    (hsp2 : Row w2 hg 9 (hasL n (D.atLoss keep t0 k) ++ sp)) (hset : (hasL n (D.atLoss keep t0 k) ++ sp).set at_ (.string V0) = hasL n (D.atLoss keep t0 k') ++ sp) (hV : V = V0) :
    RPowAt (w2.setCell ⟨hg, at_, none⟩ (.string V)).drew q P ∧ RDiskAt (w2.setCell ⟨hg, at_, none⟩ (.string V)).drew q r hg hc v n (D.atLoss keep t0 k') ∧ Fr [hg] w (w2.setCell ⟨hg, at_, none⟩ (.string V)).drew := by
  subst hV
  have s1 := rsep hpr hdr
  have hF : Fr [hg] wr (w2.setCell ⟨hg, at_, none⟩ (.string V)).drew := ((hf2.mono (by simp)).setCell (Or.inl (by simp)) _).drew
  refine ⟨Row.fr hpr hF (by simpa using fun e => s1.pg e.symm), ⟨hdr.top.fr hF (by simpa using s1.dg), ⟨sp, ?_⟩, ownsRow_fr hdr.late hF (fun g' hg' => by
    simp only [List.mem_singleton]; rintro rfl; exact s1.gv hg')⟩, hfr.trans hF (fun i hi _ => hi)⟩
  rw [← hset]
  exact (hsp2.set at_ (.string V)).drew
set_option maxRecDepth 100000 in
set_option maxHeartbeats 1600000 in
theorem rlose_any (q r hg hc : Nat) (v : Value) (P : Pw) (D : Dk) (n : Nat) (ka : Option Addr) (kc : Nat) (keep : List Bool) (t : Int) (w : World) (hp : RPowAt w q P) (h : RDiskAt w q r hg hc v n D) (ok : D.ok n) (hk : BoolsAt w hg ka keep) :
    Calls Try.prog 45 #[.pointer (some ⟨r, 0, none⟩), .slice ka keep.length kc, .int .i64 t] w fun e w' => e = .returned (.tuple #[]) ∧ RLeft q r hg v n P (D.lost keep t) w w' := by
  have H := Lib.hid h
  have HP := Lib.hid hp
  have OK := Lib.hid ok
  have HK := Lib.hid hk
  have hfew := ok.few
  have c3 := h.top.cell (j := 3) rfl
  have hv : D.wait.length = 0 ∧ v = .slice none 0 0 ∨ ∃ g cap, v = .slice (some ⟨g, 0, none⟩) D.wait.length cap := by
    rcases h.late.2 with ⟨h1, h2⟩ | ⟨g, cap, cur, hv, _⟩
    · exact Or.inl ⟨h2, h1⟩
    · exact Or.inr ⟨g, cap, hv⟩
  clear h hp ok hk
  obtain ⟨D', hD'⟩ : ∃ D', D' = D.lost keep t := ⟨_, rfl⟩
  obtain ⟨t0, ht0⟩ : ∃ t0, tornOf t = t0 := ⟨_, rfl⟩
  have htle : t0 ≤ 64 := by rw [← ht0]; exact tornOf_le t
  have hfin : D' = { D with has := (D.losing keep t0 D.wait.length).1, wait := [] } := by rw [hD', ← ht0]; rfl
  rw [← hD']
  have HFIN := Lib.hid hfin
  clear hfin hD'
  rcases rtorn_cases t with ⟨h1, h3⟩ | ⟨h1, h3⟩ | ⟨h1, h2, tn, rfl, h3⟩
  all_goals rw [ht0] at h3
  all_goals clear ht0
  all_goals have H3 := Lib.hid h3
  all_goals clear h3
  all_goals rcases hv with ⟨h0, rfl⟩ | ⟨g, cap, rfl⟩
  all_goals go_enter Try.func45, Try.ntmps45
  all_goals go_wp2
  all_goals first
    | (refine wp_loop_rounds 1 ?_
       rw [rounds_succ]
       have k3f := H.out.top.free (j := 3) (by simp)
       have hw : D.wait = [] := List.length_eq_zero_iff.1 h0
       have HW := Lib.hid hw
       clear hw h0
       go_wp2
       go_end0
       have s1 := rsep HP.out H.out
       have hF : Fr [r] w (w.setCell ⟨r, 3, none⟩ (.slice none 0 0)) := (Fr.refl [r] w).setCell (Or.inl (by simp)) _
       obtain ⟨sp, hsp⟩ := H.out.has
       have e1 : D' = D := by have h2 := HW.out; rw [HFIN.out, h2]; rcases D with ⟨q1, q2, q3, q4⟩; simp only at h2; subst h2; rfl
       rw [e1]
       exact ⟨rfl, hg, hc, .slice none 0 0, Row.fr HP.out hF (by simpa using fun e => s1.pd e.symm), ⟨H.out.top.set 3 (.slice none 0 0), ⟨sp, hsp.fr hF (by simpa using fun e => s1.dg e.symm)⟩, by rw [HW.out]; exact World.ownsRow_nil _ _ _ _⟩, hF.mono (fun i hi _ => by simp at hi; simp [hi]), Or.inr (by simp [Value.ownBlock]), Or.inl rfl⟩)
    | skip
  all_goals go_loopw [6, 7] (fun fi i wr => ∃ (k : Nat) (f : Bool), k ≤ D.wait.length ∧ i = .int .i64 k ∧ fi = .bool f ∧ (D.losing keep t0 k).2 = (if f then t0 else 0) ∧ RPowAt wr q P ∧ RDiskAt wr q r hg hc (.slice (some ⟨g, 0, none⟩) D.wait.length cap) n (D.atLoss keep t0 k) ∧ Fr [hg] w wr) (fun _ i _ => D.wait.length - (intOf i).toNat)
  all_goals try exact ⟨0, true, by omega, rfl, rfl, rfl, HP.out, H.out, Fr.refl _ _⟩
  all_goals
    obtain ⟨k, f, hk, rfl, rfl, hfi, hpr, hdr, hfr⟩ := hrel
    have s1 := rsep hpr hdr
    have k2 := hdr.top.cell (j := 2) rfl
    have k3 := hdr.top.cell (j := 3) rfl
    by_cases hlt : k < D.wait.length
    · have c5 : wr.cell? ⟨g, k * 2, none⟩ = some (.int .i64 (D.wait[k].1 : Int)) := own_cell hdr.late rfl (by rw [Nat.mul_comm]; exact (wcells_get _ _ hlt).1)
      have c6 : wr.cell? ⟨g, k * 2 + 1, none⟩ = some (.string D.wait[k].2) := own_cell hdr.late rfl (by rw [Nat.mul_comm]; exact (wcells_get _ _ hlt).2)
      have hx1 := OK.out.at_ _ (List.getElem_mem hlt)
      have hx2 := OK.out.size _ (List.getElem_mem hlt)
      obtain ⟨sp, hsp⟩ := hdr.has
      obtain ⟨X, hX⟩ : ∃ X, (D.atLoss keep t0 k).lasts D.wait[k].1 = X := ⟨_, rfl⟩
      have hXs : X.size = 64 := by
        rw [← hX, lasts_eq]; show ((sec (D.losing keep t0 k).1 D.wait[k].1).toArray).size = 64
        rw [List.size_toArray, sec_length _ n _ (D.losing_length n OK.out keep t0 k) hx1]
      have hkept := fun (e : keep[k]? = some true) => hasL_set n (D.atLoss keep t0 k) (D.atLoss keep t0 (k + 1)) sp D.wait[k].1 D.wait[k].2 hx1 (fun j _ => atLoss_kept D keep t0 k n OK.out hlt e j)
      have hkept2 := fun (e : keep[k]? = some true) => show (D.losing keep t0 (k + 1)).2 = (D.losing keep t0 k).2 by rw [losing_step D keep t0 k hlt, if_pos e]
      have htorn := fun (e : keep[k]? ≠ some true) (e2 : (D.losing keep t0 k).2 = t0) => hasL_set n (D.atLoss keep t0 k) (D.atLoss keep t0 (k + 1)) sp D.wait[k].1 (D.wait[k].2.extract 0 t0 ++ X.extract t0 64) hx1 (fun j _ => by rw [← hX]; exact atLoss_torn D keep t0 k n OK.out hlt e htle e2 j)
      have htorn2 := fun (e : keep[k]? ≠ some true) => show (D.losing keep t0 (k + 1)).2 = 0 by rw [losing_step D keep t0 k hlt, if_neg e]
      have hnone := fun (e : keep[k]? ≠ some true) (e2 : (D.losing keep t0 k).2 = 0) => atLoss_none D keep t0 k hlt e e2
      have ha := hsp.cell (hasL_get n _ sp D.wait[k].1 hx1)
      rw [hX] at ha
      obtain ⟨at_, hat⟩ : ∃ x, D.wait[k].1 = x := ⟨_, rfl⟩
      obtain ⟨str, hstr⟩ : ∃ x, D.wait[k].2 = x := ⟨_, rfl⟩
      rw [hat] at hx1 c5 hkept htorn ha
      rw [hstr] at c6 hx2 hkept htorn
      have hfa := hsp.free (j := at_) (by simp [hasL]; omega)
      have hkeep : (k < keep.length ∧ ∃ kb ko, ka = some ⟨kb, ko, none⟩ ∧ ∃ b, keep[k]? = some b ∧ ∀ o, (wr.alloc o).cell? ⟨kb, ko + k, none⟩ = some (.bool b)) ∨ (¬ k < keep.length ∧ keep[k]? = none) := by
        by_cases hkk : k < keep.length
        · obtain ⟨kb, ko, e1, e2, e3⟩ := HK.out k hkk
          have hlk := cell_lt' e3
          exact Or.inl ⟨hkk, kb, ko, e1, keep[k], by rw [List.getElem?_eq_getElem hkk], fun o => ((hfr.alloc o).cell (a := ⟨kb, ko + k, none⟩) hlk (by simpa using e2)).trans e3⟩
        · exact Or.inr ⟨hkk, List.getElem?_eq_none (by omega)⟩
      have HPR := Lib.hid hpr
      have HDR := Lib.hid hdr
      have HFR := Lib.hid hfr
      have HSP := Lib.hid hsp
      have HKE := Lib.hid hkept
      have HKE2 := Lib.hid hkept2
      have HTO := Lib.hid htorn
      have HTO2 := Lib.hid htorn2
      have HNO := Lib.hid hnone
      have HFI := Lib.hid hfi
      clear hpr hdr hfr hsp hkept hkept2 htorn htorn2 hnone hfi hX hat hstr
      rcases hkeep with ⟨hkk, kb, ko, rfl, b2, hb1, hb2⟩ | ⟨hkk, hb1⟩
      · have HB := Lib.hid hb1
        clear hb1
        cases b2
        · have hne : keep[k]? ≠ some true := by rw [HB.out]; decide
          have HNE := Lib.hid hne
          clear hne
          cases f
          · go_wp2_with fail
            have hF : Fr [hg] wr (wr.alloc (.cells #[.int .i64 (at_ : Int), .string str] 108)) := (Fr.refl _ wr).alloc _
            have hF0 : Fr [] wr (wr.alloc (.cells #[.int .i64 (at_ : Int), .string str] 108)) := (Fr.refl _ wr).alloc _
            have hat2 := HDR.out.fr hF0 (by simp) (by simp) (by simp)
            rw [← HNO.out HNE.out HFI.out] at hat2
            exact ⟨⟨k + 1, false, by omega, by go_num, rfl, HTO2.out HNE.out, Row.fr HPR.out hF0 (by simp), hat2, HFR.out.trans hF (fun i hi _ => hi)⟩, by simp [intOf]; omega⟩
          · go_wp2_with fail
            have r5 := Row.new wr 108 [.int .i64 (at_ : Int), .string str]
            have c7 := r5.cell (j := 0) rfl
            have c8 := r5.cell (j := 1) rfl
            have hf2 := (Fr.refl [] wr).alloc (.cells #[.int .i64 (at_ : Int), .string str] 108)
            obtain ⟨w2, hw2⟩ : ∃ w2, w2 = wr.alloc (.cells #[.int .i64 (at_ : Int), .string str] 108) := ⟨_, rfl⟩
            simp only [List.toArray] at c7 c8
            rw [← hw2] at c7 c8 hf2 ⊢
            have hsp2 := HSP.out.fr hf2 (by simp)
            have htop2 := HDR.out.top.fr hf2 (by simp)
            have d2 := htop2.cell (j := 2) rfl
            have da : w2.cell? ⟨hg, at_, none⟩ = some (.string X) := (hf2.cell (a := ⟨hg, at_, none⟩) (cell_lt' ha) (by simp)).trans ha
            have dfa := hsp2.free (j := at_) (by simp [hasL]; omega)
            have HF2 := Lib.hid hf2
            have HSP2 := Lib.hid hsp2
            have HT2 := Lib.hid htop2
            clear r5 hf2 hw2 hsp2 htop2 ha hfa k2 k3 c5 c6
            first
              | (have hA1 : tn ≤ str.size := by omega
                 have hB1 : tn ≤ X.size := by omega
                 have hsl1 := fun W => run_str_to (P := Try.prog) 9 Try.underlying9 str tn hA1 W
                 have hsl2 := fun W => run_str_from (P := Try.prog) 9 Try.underlying9 X tn hB1 W
                 obtain ⟨A, hA⟩ : ∃ A, str.extract 0 tn = A := ⟨_, rfl⟩
                 obtain ⟨B, hB⟩ : ∃ B, X.extract tn X.size = B := ⟨_, rfl⟩
                 have hAs : A.size ≤ 64 := by rw [← hA]; simp; omega
                 have hBs : B.size ≤ 64 := by rw [← hB]; simp; omega
                 have hAB : ¬ 9223372036854775807 < A.size + B.size := by omega
                 have hV : A ++ B = str.extract 0 t0 ++ X.extract t0 64 := by rw [← hA, ← hB, H3.out, hXs]
                 simp only [hA] at hsl1
                 simp only [hB] at hsl2
                 have HV := Lib.hid hV
                 clear hA hB hV hA1 hB1)
              | skip
            go_still_tail 22, (by kernel_rfl)
            all_goals change wpList _ _ _ _ _ w2.drew
            all_goals go_wp2
            all_goals go_roundw
            all_goals first
              | (simp [intOf]; omega)
              | exact ⟨k + 1, false, by omega, by go_num, rfl, HTO2.out HNE.out, rround_end HFR.out HF2.out HPR.out HDR.out HSP2.out (HTO.out HNE.out HFI.out) HV.out⟩
              | exact ⟨k + 1, false, by omega, by go_num, rfl, HTO2.out HNE.out, rround_end HFR.out HF2.out HPR.out HDR.out HSP2.out (HTO.out HNE.out HFI.out) (by rw [H3.out]; first | rfl | (apply ByteArray.ext; simp))⟩
              | trace_state
        · go_wp2_with fail
          have r5 := Row.new wr 108 [.int .i64 (at_ : Int), .string str]
          have c7 := r5.cell (j := 0) rfl
          have c8 := r5.cell (j := 1) rfl
          have hf2 := (Fr.refl [] wr).alloc (.cells #[.int .i64 (at_ : Int), .string str] 108)
          obtain ⟨w2, hw2⟩ : ∃ w2, w2 = wr.alloc (.cells #[.int .i64 (at_ : Int), .string str] 108) := ⟨_, rfl⟩
          simp only [List.toArray] at c7 c8
          rw [← hw2] at c7 c8 hf2 ⊢
          have hsp2 := HSP.out.fr hf2 (by simp)
          have htop2 := HDR.out.top.fr hf2 (by simp)
          have d2 := htop2.cell (j := 2) rfl
          have da : w2.cell? ⟨hg, at_, none⟩ = some (.string X) := (hf2.cell (a := ⟨hg, at_, none⟩) (cell_lt' ha) (by simp)).trans ha
          have dfa := hsp2.free (j := at_) (by simp [hasL]; omega)
          have HF2 := Lib.hid hf2
          have HSP2 := Lib.hid hsp2
          have HT2 := Lib.hid htop2
          clear r5 hf2 hw2 hsp2 htop2 ha hfa k2 k3 c5 c6
          go_still_tail 8, (by kernel_rfl)
          change wpList _ _ _ _ _ w2.drew
          go_wp2
          go_roundw
          case measure => simp [intOf]; omega
          case rel => exact ⟨k + 1, f, by omega, by go_num, rfl, (HKE2.out HB.out).trans HFI.out, rround_end HFR.out HF2.out HPR.out HDR.out HSP2.out (HKE.out HB.out) rfl⟩
      · have HB := Lib.hid hb1
        clear hb1
        have hne : keep[k]? ≠ some true := by rw [HB.out]; decide
        have HNE := Lib.hid hne
        clear hne
        cases f
        · go_wp2_with fail
          have hF : Fr [hg] wr (wr.alloc (.cells #[.int .i64 (at_ : Int), .string str] 108)) := (Fr.refl _ wr).alloc _
          have hF0 : Fr [] wr (wr.alloc (.cells #[.int .i64 (at_ : Int), .string str] 108)) := (Fr.refl _ wr).alloc _
          have hat2 := HDR.out.fr hF0 (by simp) (by simp) (by simp)
          rw [← HNO.out HNE.out HFI.out] at hat2
          exact ⟨⟨k + 1, false, by omega, by go_num, rfl, HTO2.out HNE.out, Row.fr HPR.out hF0 (by simp), hat2, HFR.out.trans hF (fun i hi _ => hi)⟩, by simp [intOf]; omega⟩
        · go_wp2_with fail
          have r5 := Row.new wr 108 [.int .i64 (at_ : Int), .string str]
          have c7 := r5.cell (j := 0) rfl
          have c8 := r5.cell (j := 1) rfl
          have hf2 := (Fr.refl [] wr).alloc (.cells #[.int .i64 (at_ : Int), .string str] 108)
          obtain ⟨w2, hw2⟩ : ∃ w2, w2 = wr.alloc (.cells #[.int .i64 (at_ : Int), .string str] 108) := ⟨_, rfl⟩
          simp only [List.toArray] at c7 c8
          rw [← hw2] at c7 c8 hf2 ⊢
          have hsp2 := HSP.out.fr hf2 (by simp)
          have htop2 := HDR.out.top.fr hf2 (by simp)
          have d2 := htop2.cell (j := 2) rfl
          have da : w2.cell? ⟨hg, at_, none⟩ = some (.string X) := (hf2.cell (a := ⟨hg, at_, none⟩) (cell_lt' ha) (by simp)).trans ha
          have dfa := hsp2.free (j := at_) (by simp [hasL]; omega)
          have HF2 := Lib.hid hf2
          have HSP2 := Lib.hid hsp2
          have HT2 := Lib.hid htop2
          clear r5 hf2 hw2 hsp2 htop2 ha hfa k2 k3 c5 c6
          first
            | (have hA1 : tn ≤ str.size := by omega
               have hB1 : tn ≤ X.size := by omega
               have hsl1 := fun W => run_str_to (P := Try.prog) 9 Try.underlying9 str tn hA1 W
               have hsl2 := fun W => run_str_from (P := Try.prog) 9 Try.underlying9 X tn hB1 W
               obtain ⟨A, hA⟩ : ∃ A, str.extract 0 tn = A := ⟨_, rfl⟩
               obtain ⟨B, hB⟩ : ∃ B, X.extract tn X.size = B := ⟨_, rfl⟩
               have hAs : A.size ≤ 64 := by rw [← hA]; simp; omega
               have hBs : B.size ≤ 64 := by rw [← hB]; simp; omega
               have hAB : ¬ 9223372036854775807 < A.size + B.size := by omega
               have hV : A ++ B = str.extract 0 t0 ++ X.extract t0 64 := by rw [← hA, ← hB, H3.out, hXs]
               simp only [hA] at hsl1
               simp only [hB] at hsl2
               have HV := Lib.hid hV
               clear hA hB hV hA1 hB1)
            | skip
          go_still_tail 22, (by kernel_rfl)
          all_goals change wpList _ _ _ _ _ w2.drew
          all_goals go_wp2
          all_goals go_roundw
          all_goals first
            | (simp [intOf]; omega)
            | exact ⟨k + 1, false, by omega, by go_num, rfl, HTO2.out HNE.out, rround_end HFR.out HF2.out HPR.out HDR.out HSP2.out (HTO.out HNE.out HFI.out) HV.out⟩
            | exact ⟨k + 1, false, by omega, by go_num, rfl, HTO2.out HNE.out, rround_end HFR.out HF2.out HPR.out HDR.out HSP2.out (HTO.out HNE.out HFI.out) (by rw [H3.out]; first | rfl | (apply ByteArray.ext; simp))⟩
            | trace_state
    · have k3f := hdr.top.free (j := 3) (by simp)
      have hkl : k = D.wait.length := by omega
      have HKL := Lib.hid hkl
      have HPR := Lib.hid hpr
      have HDR := Lib.hid hdr
      have HFR := Lib.hid hfr
      clear hpr hdr hfr hkl
      go_wp2
      go_end0
      have hF : Fr [r] wr (wr.setCell ⟨r, 3, none⟩ (.slice none 0 0)) := (Fr.refl [r] wr).setCell (Or.inl (by simp)) _
      have hd := HDR.out
      rw [HKL.out] at hd
      obtain ⟨sp, hsp⟩ := hd.has
      rw [HFIN.out]
      exact ⟨rfl, hg, hc, .slice none 0 0, Row.fr HPR.out hF (by simpa using fun e => s1.pd e.symm), ⟨hd.top.set 3 (.slice none 0 0), ⟨sp, hsp.fr hF (by simpa using fun e => s1.dg e.symm)⟩, World.ownsRow_nil _ _ _ _⟩, (HFR.out.mono (L' := q :: r :: hg :: ownL (.slice (some ⟨g, 0, none⟩) D.wait.length cap)) (fun i hi _ => by simp at hi; simp [hi])).trans hF (fun i hi _ => by simp at hi; simp [hi]), Or.inr (by simp [Value.ownBlock]), Or.inl rfl⟩
end Go.Proofs.Ythppnjmepeeejaa
