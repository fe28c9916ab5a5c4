/-
  The walk of a disk's Flush.
-/
import Derived.Test.YthppnjmepeeejaaDiskWrite
import Derived.Test.YthppnjmepeeejaaCopy
import Derived.StillTailTactics
namespace Go.Proofs.Ythppnjmepeeejaa
open Go.RowKit
theorem still_of {P : Program} {f : FuncId} {args : Array Value} {w : World} {v : Value} (h : Calls P f args w fun e w' => e = .returned v ∧ w = w') : Calls P f args w fun e w' => e = .returned v ∧ w' = w :=
  h.mono fun _ _ ⟨he, hw⟩ => ⟨he, hw.symm⟩
/-- a pending write laid where it belongs -/
def lay1 (has : List UInt8) (x : Nat × ByteArray) : List UInt8 := laidAt has (x.1 * 64) x.2.data.toList
def Dk.flushed (D : Dk) : Dk := { D with has := D.wait.foldl lay1 D.has, wait := [] }
theorem lay1_length (has : List UInt8) (x : Nat × ByteArray) (n : Nat) (h : has.length = 64 * n) (hx : x.1 < n) (hs : x.2.size = 64) : (lay1 has x).length = 64 * n := by
  have : x.2.data.toList.length = 64 := by simpa using hs
  unfold lay1
  rw [laidAt_length _ _ _ (by omega), h]
theorem fold_lay1_length (l : List (Nat × ByteArray)) (has : List UInt8) (n : Nat) (h : has.length = 64 * n) (hx : ∀ x, x ∈ l → x.1 < n ∧ x.2.size = 64) : (l.foldl lay1 has).length = 64 * n := by
  induction l generalizing has with
  | nil => exact h
  | cons x l ih =>
    rw [List.foldl_cons]
    exact ih _ (lay1_length has x n h (hx x (by simp)).1 (hx x (by simp)).2) (fun y hy => hx y (by simp [hy]))
set_option maxRecDepth 100000 in
set_option maxHeartbeats 1600000 in
theorem flush_ok (p d gh : Nat) (v : Value) (P : Pw) (D : Dk) (n : Nat) (w : World) (hp : PowerAt w p P) (pok : P.ok) (h : DiskAt w p d gh v D) (ok : D.ok n) (hr : rdy P D 0 = 0) (hc : P.can = true) :
    Calls Try.prog 15 #[.pointer (some ⟨d, 0, none⟩)] w fun e w' => e = .returned .nilIface ∧ PowerAt w' p P.act ∧ DiskAt w' p d gh (.slice none 0 0) D.flushed ∧ Fr [p, d, gh] w w' := by
  have H := Lib.hid h
  have HP := Lib.hid hp
  have OK := Lib.hid ok
  have HR := Lib.hid hr
  have c0 := h.top.cell (j := 0) rfl
  have hv : D.wait.length = 0 ∧ v = .slice none 0 0 ∨ ∃ g cap, v = .slice (some ⟨g, 0, none⟩) D.wait.length cap := by
    rcases h.late.2 with ⟨h1, h2⟩ | ⟨g, cap, cur, hv, _⟩
    · exact Or.inl ⟨h2, h1⟩
    · exact Or.inr ⟨g, cap, hv⟩
  have hfew := ok.few
  clear h hp ok hr
  rcases hv with ⟨h0, rfl⟩ | ⟨g, cap, rfl⟩
  · have hw : D.wait = [] := List.length_eq_zero_iff.1 h0
    have hw1 := Lib.hid hw
    clear hw h0
    go_enter Try.func15, Try.ntmps15
    go_wp2_with (first | (go_at_call 34; refine (ready_ok p d gh _ P D n _ _ HP.out H.out OK.out.len OK.out.n2 HR.out).mono ?_; rintro e w' ⟨rfl, rfl⟩) | (go_at_call 36; refine (act_any p P _ HP.out pok).mono ?_; rw [hc]; rintro e w1 ⟨rfl, hp1, hf1⟩; have hd1 := DiskAt.power HP.out H.out hf1; have k2 := hd1.top.cell (j := 2) rfl; have k2f := hd1.top.free (j := 2) (by simp)))
    refine wp_loop_rounds 1 ?_
    rw [rounds_succ]
    go_wp2
    go_ret
    have s1 := sep hp1 hd1
    have hF : Fr [d] w1 (w1.setCell ⟨d, 2, none⟩ (.slice none 0 0)) := (Fr.refl [d] w1).setCell (Or.inl (by simp)) _
    have np : p ∉ [d] := by simp only [List.mem_singleton]; exact fun e => s1.pd e.symm
    have ng : gh ∉ [d] := by simp only [List.mem_singleton]; exact fun e => s1.dg e.symm
    refine ⟨rfl, PowerAt.fr hp1 hF np, ?_, (hf1.mono (fun i hi _ => by simp at hi; simp [hi])).trans hF (fun i hi _ => by simp at hi; simp [hi])⟩
    have e1 : D.flushed = D := by have h2 := hw1.out; unfold Dk.flushed; rw [h2]; rcases D with ⟨q1, q2, q3, q4⟩; simp only at h2; subst h2; rfl
    rw [e1]
    exact ⟨hd1.top.set 2 (.slice none 0 0), hd1.bytes.fr hF ng, by rw [hw1.out]; exact World.ownsRow_nil _ _ _ _⟩
  · go_enter Try.func15, Try.ntmps15
    go_wp2_with (first | (go_at_call 34; refine (ready_ok p d gh _ P D n _ _ HP.out H.out OK.out.len OK.out.n2 HR.out).mono ?_; rintro e w' ⟨rfl, rfl⟩) | (go_at_call 36; refine (act_any p P _ HP.out pok).mono ?_; rw [hc]; rintro e w1 ⟨rfl, hp1, hf1⟩; have hd1 := DiskAt.power HP.out H.out hf1; have k2 := hd1.top.cell (j := 2) rfl))
    have s1 := sep hp1 hd1
    have HD1 := Lib.hid hd1
    have HP1 := Lib.hid hp1
    have HF1 := Lib.hid hf1
    clear hd1 hp1 hf1
    go_loopw [23] (fun i wr => ∃ k : Nat, k ≤ D.wait.length ∧ i = .int .i64 k ∧ PowerAt wr p P.act ∧ DiskAt wr p d gh (.slice (some ⟨g, 0, none⟩) D.wait.length cap) { D with has := (D.wait.take k).foldl lay1 D.has } ∧ Fr [p, d, gh] w wr) (fun i _ => D.wait.length - (intOf i).toNat)
    case atStart => exact ⟨0, by omega, rfl, HP1.out, HD1.out, HF1.out.mono (fun i hi _ => by simp at hi; simp [hi])⟩
    case round =>
      obtain ⟨k, hk, rfl, hpr, hdr, hfr⟩ := hrel
      have HPR := Lib.hid hpr
      have HDR := Lib.hid hdr
      have HFR := Lib.hid hfr
      by_cases hlt : k < D.wait.length
      · have c3 : wr.cell? ⟨g, k * 2, none⟩ = some (.int .i64 (D.wait[k].1 : Int)) := own_cell hdr.late rfl (by rw [Nat.mul_comm]; exact (wcells_get _ _ hlt).1)
        have c4 : wr.cell? ⟨g, k * 2 + 1, none⟩ = some (.string D.wait[k].2) := own_cell hdr.late rfl (by rw [Nat.mul_comm]; exact (wcells_get _ _ hlt).2)
        have hx1 := OK.out.at_ _ (List.getElem_mem hlt)
        have hx2 := OK.out.size _ (List.getElem_mem hlt)
        have hlen : ((D.wait.take k).foldl lay1 D.has).length = 64 * n := fold_lay1_length _ _ n OK.out.len (fun x hx => ⟨OK.out.at_ x (List.mem_of_mem_take hx), OK.out.size x (List.mem_of_mem_take hx)⟩)
        have hda : ∀ o, DiskAt (wr.alloc o).drew p d gh (.slice (some ⟨g, 0, none⟩) D.wait.length cap) { D with has := (D.wait.take k).foldl lay1 D.has } := fun o => hdr.fr (L := []) (((Fr.refl [] wr).alloc o).drew) (by simp) (by simp) (by simp)
        have n2 := OK.out.n2
        obtain ⟨at_, hat⟩ : ∃ q, q = D.wait[k].1 := ⟨_, rfl⟩
        obtain ⟨str, hstr⟩ : ∃ q, q = D.wait[k].2 := ⟨_, rfl⟩
        rw [← hat] at hx1 c3
        rw [← hstr] at hx2 c4
        have HDA := Lib.hid hda
        have HLEN := Lib.hid hlen
        have HAT := Lib.hid hat
        have HSTR := Lib.hid hstr
        have HX2 := Lib.hid hx2
        clear hpr hdr hfr hda hlen hat hstr hx2
        go_wp2_with fail
        have r5 := Row.new wr 77 [.int .i64 (at_ : Int), .string str]
        have c5 := r5.cell (j := 0) rfl
        have c6 := r5.cell (j := 1) rfl
        have hda2 := HDA.out (.cells #[.int .i64 (at_ : Int), .string str] 77)
        have hf2 := (Fr.refl [] wr).alloc (.cells #[.int .i64 (at_ : Int), .string str] 77)
        obtain ⟨w2, hw2⟩ : ∃ w2, w2 = wr.alloc (.cells #[.int .i64 (at_ : Int), .string str] 77) := ⟨_, rfl⟩
        simp only [List.toArray] at c5 c6
        rw [← hw2] at c5 c6 hda2 hf2 ⊢
        have HD2 := Lib.hid hda2
        have HF2 := Lib.hid hf2
        clear r5 hda2 hf2 hw2
        go_still_tail 6, (by kernel_rfl)
        still_call (still_of (sector_any p d gh _ _ n at_ _ HD2.out HLEN.out n2 hx1))
        repeat still_step
        refine wpStill_nil ?_
        change wpList _ _ _ _ _ w2.drew
        go_wp2_with (refine wpList_copy_str rfl (.tmp 30) (.tmp 32) 70 9 rfl 5 Try.underlying70 u8size gh (at_ * 64) 64 _ rfl str rfl ((D.wait.take k).foldl lay1 D.has) HD2.out.bytes (by rw [HX2.out]; omega) (by rw [HX2.out, HLEN.out]; omega) ?_; intro hrow')
        have HRW := Lib.hid hrow'
        clear hrow'
        go_roundw
        case measure => simp [intOf]; omega
        case rel =>
          have hF : Fr [gh] wr (w2.drew.setRow gh (bcells (laidAt ((D.wait.take k).foldl lay1 D.has) (at_ * 64) str.data.toList)).toArray) := ((HF2.out.mono (by simp)).drew).setRow (Or.inl (by simp)) _
          have np : p ∉ [gh] := by simp only [List.mem_singleton]; exact fun e => s1.pg e.symm
          have hnext : (D.wait.take (k + 1)).foldl lay1 D.has = laidAt ((D.wait.take k).foldl lay1 D.has) (at_ * 64) str.data.toList := by
            rw [List.take_succ_eq_append_getElem hlt, List.foldl_append, List.foldl_cons, List.foldl_nil, lay1, HAT.out, HSTR.out]
          refine ⟨k + 1, by omega, by go_num, PowerAt.fr HPR.out hF np, ?_, ?_⟩
          · rw [hnext]
            have hl2 : (laidAt ((D.wait.take k).foldl lay1 D.has) (at_ * 64) str.data.toList).length = ((D.wait.take k).foldl lay1 D.has).length := laidAt_length _ _ _ (by
              have : str.data.toList.length = 64 := by simpa using HX2.out
              rw [HLEN.out]; omega)
            refine ⟨?_, HRW.out, ownsRow_fr HDR.out.late hF (fun g' hg' => by
              have := s1.gv
              simp only [List.mem_singleton]; rintro rfl; exact this hg')⟩
            have ht := HDR.out.top.fr hF (by simpa using s1.dg)
            simp only at ht ⊢
            rw [hl2]; exact ht
          · exact HFR.out.trans hF (fun i hi _ => by simp at hi; simp [hi])
      · have k2' := hdr.top.cell (j := 2) rfl
        have k2f := hdr.top.free (j := 2) (by simp)
        clear hpr hdr hfr
        go_wp2
        go_ret
        have hkl : k = D.wait.length := by omega
        have hF : Fr [d] wr (wr.setCell ⟨d, 2, none⟩ (.slice none 0 0)) := (Fr.refl [d] wr).setCell (Or.inl (by simp)) _
        have np : p ∉ [d] := by simp only [List.mem_singleton]; exact fun e => s1.pd e.symm
        have ng : gh ∉ [d] := by simp only [List.mem_singleton]; exact fun e => s1.dg e.symm
        refine ⟨rfl, PowerAt.fr HPR.out hF np, ?_, HFR.out.trans hF (fun i hi _ => by simp at hi; simp [hi])⟩
        have hfl : (D.wait.take k).foldl lay1 D.has = D.wait.foldl lay1 D.has := by rw [hkl, List.take_length]
        have hd := HDR.out
        rw [hfl] at hd
        exact ⟨hd.top.set 2 (.slice none 0 0), hd.bytes.fr hF ng, World.ownsRow_nil _ _ _ _⟩
end Go.Proofs.Ythppnjmepeeejaa
