/-
  The reference disk's Flush.
-/
import Derived.Test.YthppnjmepeeejaaRef4
namespace Go.Proofs.Ythppnjmepeeejaa
open Go.RowKit
theorem lay1_lasts (D : Dk) (has : List UInt8) (x : Nat × ByteArray) (n j : Nat) (h : has.length = 64 * n) (hx : x.1 < n) (hs : x.2.size = 64) : Dk.lasts { D with has := lay1 has x } j = if x.1 = j then x.2 else Dk.lasts { D with has := has } j := by
  rw [lasts_eq, lasts_eq]
  exact lay1_sec has x n j h hx hs
set_option maxRecDepth 100000 in
set_option maxHeartbeats 1600000 in
theorem rflush_ok (q r hg hc : Nat) (v : Value) (P : Pw) (D : Dk) (n : Nat) (w : World) (hp : RPowAt w q P) (pok : P.ok) (h : RDiskAt w q r hg hc v n D) (ok : D.ok n) (hr : rdy P D 0 = 0) (hcan : P.can = true) :
    Calls Try.prog 44 #[.pointer (some ⟨r, 0, none⟩)] w fun e w' => e = .returned (.int .i64 0) ∧ RLeft q r hg v n P.act D.flushed w w' := by
  have H := Lib.hid h
  have HP := Lib.hid hp
  have OK := Lib.hid ok
  have HR := Lib.hid hr
  have c0 := h.top.cell (j := 0) rfl
  have hfew := ok.few
  have hv : D.wait.length = 0 ∧ v = .slice none 0 0 ∨ ∃ g cap, v = .slice (some ⟨g, 0, none⟩) D.wait.length cap := by
    rcases h.late.2 with ⟨h1, h2⟩ | ⟨g, cap, cur, hv, _⟩
    · exact Or.inl ⟨h2, h1⟩
    · exact Or.inr ⟨g, cap, hv⟩
  clear h hp ok hr
  rcases hv with ⟨h0, rfl⟩ | ⟨g, cap, rfl⟩
  · have hw : D.wait = [] := List.length_eq_zero_iff.1 h0
    have hw1 := Lib.hid hw
    clear hw h0
    go_enter Try.func44, Try.ntmps44
    go_wp2_with (first
      | (go_at_call 54; refine (rbad_any q r hg hc _ P D n _ _ HP.out H.out OK.out.len).mono ?_; rintro e w' ⟨he, rfl⟩; rw [HR.out] at he; subst he)
      | (go_at_call 55; refine (ract_any q P _ HP.out pok).mono ?_; rw [hcan]; rintro e w1 ⟨rfl, hp1, hf1⟩; have hd1 := RDiskAt.power HP.out H.out hf1; have k3 := hd1.top.cell (j := 3) rfl; have k3f := hd1.top.free (j := 3) (by simp); have HD1 := Lib.hid hd1; have HP1 := Lib.hid hp1; have HF1 := Lib.hid hf1; clear hd1 hp1 hf1))
    refine wp_loop_rounds 1 ?_
    rw [rounds_succ]
    go_wp2
    go_ret
    have s1 := rsep HP1.out HD1.out
    have hF : Fr [r] w1 (w1.setCell ⟨r, 3, none⟩ (.slice none 0 0)) := (Fr.refl [r] w1).setCell (Or.inl (by simp)) _
    have e1 : D.flushed = D := by have h2 := hw1.out; unfold Dk.flushed; rw [h2]; rcases D with ⟨q1, q2, q3, q4⟩; simp only at h2; subst h2; rfl
    rw [e1]
    obtain ⟨sp, hsp⟩ := HD1.out.has
    refine ⟨rfl, hg, hc, .slice none 0 0, Row.fr HP1.out hF (by simpa using fun e => s1.pd e.symm), ⟨HD1.out.top.set 3 (.slice none 0 0), ⟨sp, hsp.fr hF (by simpa using fun e => s1.dg e.symm)⟩, by rw [hw1.out]; exact World.ownsRow_nil _ _ _ _⟩, (HF1.out.mono (fun i hi _ => by simp at hi; simp [hi])).trans hF (fun i hi _ => by simp at hi; simp [hi]), Or.inr (by simp [Value.ownBlock]), Or.inl rfl⟩
  · go_enter Try.func44, Try.ntmps44
    go_wp2_with (first
      | (go_at_call 54; refine (rbad_any q r hg hc _ P D n _ _ HP.out H.out OK.out.len).mono ?_; rintro e w' ⟨he, rfl⟩; rw [HR.out] at he; subst he)
      | (go_at_call 55; refine (ract_any q P _ HP.out pok).mono ?_; rw [hcan]; rintro e w1 ⟨rfl, hp1, hf1⟩; have HD1 := Lib.hid (RDiskAt.power HP.out H.out hf1); have HP1 := Lib.hid hp1; have HF1 := Lib.hid hf1; clear hp1 hf1))
    go_loopw [5] (fun i wr => ∃ k : Nat, k ≤ D.wait.length ∧ i = .int .i64 k ∧ RPowAt wr q P.act ∧ RDiskAt wr q r hg hc (.slice (some ⟨g, 0, none⟩) D.wait.length cap) n { D with has := (D.wait.take k).foldl lay1 D.has } ∧ Fr [q, hg] w wr) (fun i _ => D.wait.length - (intOf i).toNat)
    case atStart => exact ⟨0, by omega, rfl, HP1.out, HD1.out, HF1.out.mono (fun i hi _ => by simp at hi; simp [hi])⟩
    case round =>
      obtain ⟨k, hk, rfl, hpr, hdr, hfr⟩ := hrel
      have s1 := rsep hpr hdr
      have k2 := hdr.top.cell (j := 2) rfl
      have k3 := hdr.top.cell (j := 3) rfl
      by_cases hlt : k < D.wait.length
      · have c3 : wr.cell? ⟨g, k * 2, none⟩ = some (.int .i64 (D.wait[k].1 : Int)) := own_cell hdr.late rfl (by rw [Nat.mul_comm]; exact (wcells_get _ _ hlt).1)
        have c4 : wr.cell? ⟨g, k * 2 + 1, none⟩ = some (.string D.wait[k].2) := own_cell hdr.late rfl (by rw [Nat.mul_comm]; exact (wcells_get _ _ hlt).2)
        have hx1 := OK.out.at_ _ (List.getElem_mem hlt)
        have hx2 := OK.out.size _ (List.getElem_mem hlt)
        have hlen : ((D.wait.take k).foldl lay1 D.has).length = 64 * n := fold_lay1_length _ _ n OK.out.len (fun x hx => ⟨OK.out.at_ x (List.mem_of_mem_take hx), OK.out.size x (List.mem_of_mem_take hx)⟩)
        have hnext : (D.wait.take (k + 1)).foldl lay1 D.has = lay1 ((D.wait.take k).foldl lay1 D.has) D.wait[k] := by
          rw [List.take_succ_eq_append_getElem hlt, List.foldl_append, List.foldl_cons, List.foldl_nil]
        have hl1 := fun j => lay1_lasts D _ D.wait[k] n j hlen hx1 hx2
        rw [← hnext] at hl1
        obtain ⟨sp, hsp⟩ := hdr.has
        obtain ⟨at_, hat⟩ : ∃ x, D.wait[k].1 = x := ⟨_, rfl⟩
        obtain ⟨str, hstr⟩ : ∃ x, D.wait[k].2 = x := ⟨_, rfl⟩
        rw [hat] at hx1 c3
        rw [hstr] at c4
        have hset := hasL_set n { D with has := (D.wait.take k).foldl lay1 D.has } { D with has := (D.wait.take (k + 1)).foldl lay1 D.has } sp at_ str hx1 (fun j _ => by rw [hl1 j, hat, hstr])
        have ha := hsp.cell (hasL_get n _ sp at_ hx1)
        have hfa := hsp.free (j := at_) (by simp [hasL]; omega)
        have HPR := Lib.hid hpr
        have HDR := Lib.hid hdr
        have HFR := Lib.hid hfr
        have HSP := Lib.hid hsp
        have HSET := Lib.hid hset
        clear hpr hdr hfr hsp hset hl1 hnext hlen hx2 hat hstr
        go_wp2_with fail
        go_still_tail 21, (by kernel_rfl)
        change wpList _ _ _ _ _ wr.drew
        go_wp2
        go_roundw
        case measure => simp [intOf]; omega
        case rel =>
          have hF : Fr [hg] wr (wr.setCell ⟨hg, at_, none⟩ (.string str)).drew := ((Fr.refl _ wr).setCell (Or.inl (by simp)) _).drew
          refine ⟨k + 1, by omega, by go_num, Row.fr HPR.out hF (by simpa using fun e => s1.pg e.symm), ⟨HDR.out.top.fr hF (by simpa using s1.dg), ⟨sp, ?_⟩, ownsRow_fr HDR.out.late hF (fun g' hg' => by
            simp only [List.mem_singleton]; rintro rfl; exact s1.gv hg')⟩, HFR.out.trans hF (fun i hi _ => by simp at hi; simp [hi])⟩
          rw [← HSET.out]
          exact (HSP.out.set at_ (.string str)).drew
      · have k3f := hdr.top.free (j := 3) (by simp)
        have hkl : k = D.wait.length := by omega
        have HKL := Lib.hid hkl
        have HPR := Lib.hid hpr
        have HDR := Lib.hid hdr
        have HFR := Lib.hid hfr
        clear hpr hdr hfr hkl
        go_wp2
        go_ret
        have hF : Fr [r] wr (wr.setCell ⟨r, 3, none⟩ (.slice none 0 0)) := (Fr.refl [r] wr).setCell (Or.inl (by simp)) _
        have hfl : (D.wait.take k).foldl lay1 D.has = D.wait.foldl lay1 D.has := by rw [HKL.out, List.take_length]
        have hd := HDR.out
        rw [hfl] at hd
        obtain ⟨sp, hsp⟩ := hd.has
        exact ⟨rfl, hg, hc, .slice none 0 0, Row.fr HPR.out hF (by simpa using fun e => s1.pd e.symm), ⟨hd.top.set 3 (.slice none 0 0), ⟨sp, hsp.fr hF (by simpa using fun e => s1.dg e.symm)⟩, World.ownsRow_nil _ _ _ _⟩, (HFR.out.mono (fun i hi _ => by simp at hi; rcases hi with h | h <;> simp [h])).trans hF (fun i hi _ => by simp at hi; simp [hi]), Or.inr (by simp [Value.ownBlock]), Or.inl rfl⟩
theorem rflush_all (q r hg hc : Nat) (v : Value) (P : Pw) (D : Dk) (n : Nat) (w : World) (hp : RPowAt w q P) (pok : P.ok) (h : RDiskAt w q r hg hc v n D) (ok : D.ok n) :
    Calls Try.prog 44 #[.pointer (some ⟨r, 0, none⟩)] w fun e w' => e = .returned (.int .i64 (fcode P D)) ∧ RLeft q r hg v n (fpow P D) (fdk P D) w w' := by
  by_cases hr : rdy P D 0 = 0
  · cases hcan : P.can
    · have e1 : fcode P D = 10 := by unfold fcode; rw [if_pos hr, hcan]; rfl
      have e2 : fpow P D = P.act := by unfold fpow; rw [if_pos hr]
      have e3 : fdk P D = D := by unfold fdk; rw [e1]; rfl
      rw [e1, e2, e3]
      have H := Lib.hid h
      have HP := Lib.hid hp
      have OK := Lib.hid ok
      have HR := Lib.hid hr
      have c0 := h.top.cell (j := 0) rfl
      clear h hp ok hr e1 e2 e3
      go_enter Try.func44, Try.ntmps44
      go_wp2_with (first
        | (go_at_call 54; refine (rbad_any q r hg hc v P D n _ _ HP.out H.out OK.out.len).mono ?_; rintro e w' ⟨he, rfl⟩; rw [HR.out] at he; subst he)
        | (go_at_call 55; refine (ract_any q P _ HP.out pok).mono ?_; rw [hcan]; rintro e w1 ⟨rfl, hp1, hf1⟩))
      go_ret
      exact ⟨rfl, hg, hc, v, hp1, RDiskAt.power HP.out H.out hf1, hf1.mono (fun i hi _ => by simp at hi; simp [hi]), Or.inl rfl, Or.inl rfl⟩
    · have e1 : fcode P D = 0 := by unfold fcode; rw [if_pos hr, hcan]; rfl
      have e2 : fpow P D = P.act := by unfold fpow; rw [if_pos hr]
      have e3 : fdk P D = D.flushed := by unfold fdk; rw [e1]; rfl
      rw [e1, e2, e3]
      exact rflush_ok q r hg hc v P D n w hp pok h ok hr hcan
  · have e1 : fcode P D = rdy P D 0 := by unfold fcode; rw [if_neg hr]
    have e2 : fpow P D = P := by unfold fpow; rw [if_neg hr]
    have e3 : fdk P D = D := by unfold fdk; rw [e1, if_neg hr]
    rw [e1, e2, e3]
    obtain ⟨c, hcc⟩ : ∃ c, rdy P D 0 = c := ⟨_, rfl⟩
    rw [hcc] at hr ⊢
    have hcb : (c != 0) = true := by simpa using hr
    have HC := Lib.hid hcc
    have H := Lib.hid h
    have HP := Lib.hid hp
    have OK := Lib.hid ok
    clear h hp ok hr e1 e2 e3 hcc
    go_enter Try.func44, Try.ntmps44
    go_wp2_with (go_at_call 54; refine (rbad_any q r hg hc v P D n _ _ HP.out H.out OK.out.len).mono ?_; rintro e w' ⟨he, rfl⟩; rw [HC.out] at he; subst he)
    go_ret
    exact ⟨rfl, RLeft.same HP.out H.out⟩
end Go.Proofs.Ythppnjmepeeejaa
