/-
  The walk of a disk's Lose.
-/
import Derived.Test.YthppnjmepeeejaaDiskRep
import Derived.Laws.Strings3
namespace Go.Proofs.Ythppnjmepeeejaa
open Go.RowKit
theorem Fr.cell {L : List Nat} {w w' : World} (h : Fr L w w') {a : Addr} (ha : a.block < w.heap.size) (hn : a.block ∉ L) : w'.cell? a = w.cell? a := by
  unfold World.cell?
  rw [h.block a.block ha hn]
/-- bools that lie behind a slice, not in the block gh -/
def BoolsAt (w : World) (gh : Nat) (ka : Option Addr) (keep : List Bool) : Prop := ∀ i (h : i < keep.length), ∃ kb ko, ka = some ⟨kb, ko, none⟩ ∧ kb ≠ gh ∧ w.cell? ⟨kb, ko + i, none⟩ = some (.bool keep[i])
/-- what lasts behind the k first pending writes of a loss, and how many bytes of the next one that is not kept -/
def Dk.losing (D : Dk) (keep : List Bool) (t0 : Nat) : Nat → List UInt8 × Nat
  | 0 => (D.has, t0)
  | k + 1 =>
    let r := D.losing keep t0 k
    match D.wait[k]? with
    | none => r
    | some x => if keep[k]? = some true then (lay1 r.1 x, r.2) else (laidAt r.1 (x.1 * 64) (x.2.data.toList.take r.2), 0)
/-- how many bytes are torn, for a raw number -/
def tornOf (t : Int) : Nat := (min (max t 0) 64).toNat
def Dk.lost (D : Dk) (keep : List Bool) (t : Int) : Dk := { D with has := (D.losing keep (tornOf t) D.wait.length).1, wait := [] }
theorem run_str_to {P : Program} (T : TypeId) (h : P.underlying T = some .string) (s : ByteArray) (n : Nat) (hn : n ≤ s.size) (W : World) : (Instr.slice T (.string s) none (some (.int .i64 (n : Int))) none).run P W = .ok (.string (s.extract 0 n)) W := by
  rw [run_slice_string_to_if W T s .i64 n h, if_pos ⟨by omega, by omega⟩]; simp
theorem extract_size (s : ByteArray) (n : Nat) (hn : n ≤ s.size) : (s.extract 0 n).size = n := by simp; omega
theorem extract_list (s : ByteArray) (n : Nat) : (s.extract 0 n).data.toList = s.data.toList.take n := by simp [ByteArray.data_extract]
theorem ret_num {k : IntKind} {a b : Int} (h : a = b) : Value.int k a = .int k b := by rw [h]
theorem tornOf_le (t : Int) : tornOf t ≤ 64 := by unfold tornOf; omega
theorem Dk.losing_le (D : Dk) (keep : List Bool) (t0 : Nat) (h : t0 ≤ 64) (k : Nat) : (D.losing keep t0 k).2 ≤ 64 := by
  induction k with
  | zero => exact h
  | succ k ih =>
    simp only [Dk.losing]
    split
    · exact ih
    · split
      · exact ih
      · simp
theorem Dk.losing_length (D : Dk) (n : Nat) (ok : D.ok n) (keep : List Bool) (t0 : Nat) (k : Nat) : (D.losing keep t0 k).1.length = 64 * n := by
  induction k with
  | zero => exact ok.len
  | succ k ih =>
    simp only [Dk.losing]
    split
    · exact ih
    · rename_i x hx
      have hm := List.mem_of_getElem? hx
      have h1 := ok.at_ x hm
      have h2 : x.2.data.toList.length = 64 := by simpa using ok.size x hm
      split
      · exact lay1_length _ _ _ ih h1 (ok.size x hm)
      · rw [laidAt_length _ _ _ (by rw [List.length_take, ih]; omega), ih]
theorem lose_end0 {w : World} {p d gh : Nat} {D : Dk} (h : DiskAt w p d gh (.slice none 0 0) D) (hw : D.wait = []) (keep : List Bool) (t : Int) :
    Ending.returned (.tuple #[]) = Ending.returned (.tuple #[]) ∧ DiskAt (w.setCell ⟨d, 2, none⟩ (.slice none 0 0)) p d gh (.slice none 0 0) (D.lost keep t) ∧ Fr [d, gh] w (w.setCell ⟨d, 2, none⟩ (.slice none 0 0)) := by
  have hF : Fr [d] w (w.setCell ⟨d, 2, none⟩ (.slice none 0 0)) := (Fr.refl [d] w).setCell (Or.inl (by simp)) _
  have dg := h.top.ne h.bytes.row (by decide)
  have e1 : D.lost keep t = D := by unfold Dk.lost; rw [hw]; rcases D with ⟨q1, q2, q3, q4⟩; simp only at hw; subst hw; rfl
  rw [e1]
  exact ⟨rfl, ⟨h.top.set 2 (.slice none 0 0), h.bytes.fr hF (by simpa using fun e => dg e.symm), by rw [hw]; exact World.ownsRow_nil _ _ _ _⟩, hF.mono (fun i hi _ => by simp at hi; simp [hi])⟩
set_option maxRecDepth 100000 in
set_option maxHeartbeats 1600000 in
theorem lose_any (p d gh : Nat) (v : Value) (P : Pw) (D : Dk) (n : Nat) (ka : Option Addr) (kc : Nat) (keep : List Bool) (t : Int) (w : World) (hp : PowerAt w p P) (h : DiskAt w p d gh v D) (ok : D.ok n) (hk : BoolsAt w gh ka keep) :
    Calls Try.prog 13 #[.pointer (some ⟨d, 0, none⟩), .slice ka keep.length kc, .int .i64 t] w fun e w' => e = .returned (.tuple #[]) ∧ DiskAt w' p d gh (.slice none 0 0) (D.lost keep t) ∧ Fr [d, gh] w w' := by
  have k2 := h.top.cell (j := 2) rfl
  have H := Lib.hid h
  have HP := Lib.hid hp
  have OK := Lib.hid ok
  have HK := Lib.hid hk
  have hv : D.wait.length = 0 ∧ v = .slice none 0 0 ∨ ∃ g cap, v = .slice (some ⟨g, 0, none⟩) D.wait.length cap := by
    rcases h.late.2 with ⟨h1, h2⟩ | ⟨g, cap, cur, hv, _⟩
    · exact Or.inl ⟨h2, h1⟩
    · exact Or.inr ⟨g, cap, hv⟩
  have hfew := ok.few
  clear h hp ok hk
  rcases hv with ⟨h0, rfl⟩ | ⟨g, cap, rfl⟩
  · have hw : D.wait = [] := List.length_eq_zero_iff.1 h0
    have hw1 := Lib.hid hw
    clear hw h0
    have k2f := H.out.top.free (j := 2) (by simp)
    go_enter Try.func13, Try.ntmps13
    go_wp2
    all_goals refine wp_loop_rounds 1 ?_
    all_goals rw [rounds_succ]
    all_goals go_wp2
    all_goals go_end0
    all_goals exact lose_end0 H.out hw1.out keep t
  · go_enter Try.func13, Try.ntmps13
    go_wp2
    all_goals go_loopw [2, 16] (fun tn i wr => ∃ k : Nat, k ≤ D.wait.length ∧ i = .int .i64 k ∧ tn = .int .i64 (D.losing keep (tornOf t) k).2 ∧ PowerAt wr p P ∧ DiskAt wr p d gh (.slice (some ⟨g, 0, none⟩) D.wait.length cap) { D with has := (D.losing keep (tornOf t) k).1 } ∧ Fr [gh] w wr) (fun _ i _ => D.wait.length - (intOf i).toNat)
    all_goals try exact ⟨0, by omega, rfl, ret_num (by show _ = ((tornOf t : Nat) : Int); unfold tornOf; omega), HP.out, H.out, Fr.refl _ _⟩
    all_goals
      obtain ⟨k, hk, rfl, rfl, hpr, hdr, hfr⟩ := hrel
      have HPR := Lib.hid hpr
      have HDR := Lib.hid hdr
      have HFR := Lib.hid hfr
      have hsp := sep HP.out H.out
      by_cases hlt : k < D.wait.length
      · have c3 : wr.cell? ⟨g, k * 2, none⟩ = some (.int .i64 (D.wait[k].1 : Int)) := own_cell hdr.late rfl (by rw [Nat.mul_comm]; exact (wcells_get _ _ hlt).1)
        have c4 : wr.cell? ⟨g, k * 2 + 1, none⟩ = some (.string D.wait[k].2) := own_cell hdr.late rfl (by rw [Nat.mul_comm]; exact (wcells_get _ _ hlt).2)
        have hx1 := OK.out.at_ _ (List.getElem_mem hlt)
        have hx2 := OK.out.size _ (List.getElem_mem hlt)
        have hlen := D.losing_length n OK.out keep (tornOf t) k
        have htl := D.losing_le keep (tornOf t) (tornOf_le t) k
        have hnext : D.losing keep (tornOf t) (k + 1) = if keep[k]? = some true then (lay1 (D.losing keep (tornOf t) k).1 D.wait[k], (D.losing keep (tornOf t) k).2) else (laidAt (D.losing keep (tornOf t) k).1 (D.wait[k].1 * 64) (D.wait[k].2.data.toList.take (D.losing keep (tornOf t) k).2), 0) := by
          simp only [Dk.losing, List.getElem?_eq_getElem hlt]
        obtain ⟨has, hhas⟩ : ∃ q, q = (D.losing keep (tornOf t) k).1 := ⟨_, rfl⟩
        obtain ⟨tn, htn⟩ : ∃ q, q = (D.losing keep (tornOf t) k).2 := ⟨_, rfl⟩
        rw [← hhas, ← htn] at hnext
        rw [← hhas] at hlen hdr HDR
        rw [← htn] at htl ⊢
        have hda : ∀ o, DiskAt (wr.alloc o).drew p d gh (.slice (some ⟨g, 0, none⟩) D.wait.length cap) { D with has := has } := fun o => hdr.fr (L := []) (((Fr.refl [] wr).alloc o).drew) (by simp) (by simp) (by simp)
        have n2 := OK.out.n2
        obtain ⟨at_, hat⟩ : ∃ q, q = D.wait[k].1 := ⟨_, rfl⟩
        obtain ⟨str, hstr⟩ : ∃ q, q = D.wait[k].2 := ⟨_, rfl⟩
        rw [← hat] at hx1 c3
        rw [← hstr] at hx2 c4
        have hnext2 : D.losing keep (tornOf t) (k + 1) = if keep[k]? = some true then (laidAt has (at_ * 64) str.data.toList, tn) else (laidAt has (at_ * 64) (str.data.toList.take tn), 0) := by rw [hnext, hat, hstr]; rfl
        have HDA := Lib.hid hda
        have HLEN := Lib.hid hlen
        have HX2 := Lib.hid hx2
        have HN := Lib.hid hnext2
        have hkeep : (k < keep.length ∧ ∃ kb ko, ka = some ⟨kb, ko, none⟩ ∧ ∃ b, keep[k]? = some b ∧ ∀ o, (wr.alloc o).cell? ⟨kb, ko + k, none⟩ = some (.bool b)) ∨ (¬ k < keep.length ∧ keep[k]? = none) := by
          by_cases hkk : k < keep.length
          · obtain ⟨kb, ko, e1, e2, e3⟩ := HK.out k hkk
            have hlk : kb < w.heap.size := by
              unfold World.cell? at e3
              by_cases h9 : kb < w.heap.size
              · exact h9
              · rw [Array.getElem?_eq_none (by show w.heap.size ≤ kb; omega)] at e3; cases e3
            exact Or.inl ⟨hkk, kb, ko, e1, keep[k], by rw [List.getElem?_eq_getElem hkk], fun o => ((hfr.alloc o).cell (a := ⟨kb, ko + k, none⟩) hlk (by simpa using e2)).trans e3⟩
          · exact Or.inr ⟨hkk, List.getElem?_eq_none (by omega)⟩
        clear hpr hdr hfr hda hlen hat hstr hx2 hnext hnext2 hhas htn
        rcases hkeep with ⟨hkk, kb, ko, rfl, b, hb1, hb2⟩ | ⟨hkk, hb1⟩
        · have HB := Lib.hid hb1; clear hb1
          cases b
          · go_wp2_with fail
            have r5 := Row.new wr 77 [.int .i64 (at_ : Int), .string str]
            have c5 := r5.cell (j := 0) rfl
            have c6 := r5.cell (j := 1) rfl
            have hda2 := HDA.out (.cells #[.int .i64 (at_ : Int), .string str] 77)
            have hf2 := (Fr.refl [] wr).alloc (.cells #[.int .i64 (at_ : Int), .string str] 77)
            obtain ⟨w2, hw2⟩ : ∃ w2, w2 = wr.alloc (.cells #[.int .i64 (at_ : Int), .string str] 77) := ⟨_, rfl⟩
            simp only [List.toArray] at c5 c6
            rw [← hw2] at c5 c6 hda2 hf2 ⊢
            have HD2 := Lib.hid hda2
            have HF2 := Lib.hid hf2
            clear r5 hda2 hf2 hw2
            go_still_tail 8, (by kernel_rfl)
            have hsl := fun W => run_str_to (P := Try.prog) 9 Try.underlying9 str tn (by rw [HX2.out]; exact htl) W
            have hsz := And.intro (extract_size str tn (by rw [HX2.out]; exact htl)) (extract_list str tn)
            have HSZ := Lib.hid hsz
            clear hsz
            still_call (still_of (sector_any p d gh _ _ n at_ _ HD2.out HLEN.out n2 hx1))
            repeat still_step
            refine wpStill_nil ?_
            change wpList _ _ _ _ _ w2.drew
            go_wp2_with (refine wpList_copy_str rfl (.tmp 41) (.tmp 45) 70 9 rfl 5 Try.underlying70 u8size gh (at_ * 64) 64 _ rfl (str.extract 0 tn) rfl has HD2.out.bytes (by rw [HSZ.out.1]; exact htl) (by rw [HSZ.out.1, HLEN.out]; omega) ?_; intro hrow'; rw [extract_list] at hrow')
            have HRW := Lib.hid hrow'
            clear hrow'
            go_wp2
            go_roundw
            case measure => simp [intOf]; omega
            case rel =>
              have hlt2 : ((str.data.toList.take tn)).length = tn := by rw [List.length_take, show str.data.toList.length = 64 from by simpa using HX2.out]; omega
              have hF : Fr [gh] wr (w2.drew.setRow gh (bcells (laidAt has (at_ * 64) ((str.data.toList.take tn)))).toArray) := ((HF2.out.mono (by simp)).drew).setRow (Or.inl (by simp)) _
              have np : p ∉ [gh] := by simp only [List.mem_singleton]; exact fun e => hsp.pg e.symm
              have hnx := HN.out
              rw [HB.out] at hnx
              simp at hnx
              refine ⟨k + 1, by omega, by go_num, by rw [hnx]; rfl, PowerAt.fr HPR.out hF np, ?_, ?_⟩
              · rw [hnx]; simp only []
                have hl2 : (laidAt has (at_ * 64) ((str.data.toList.take tn))).length = has.length := laidAt_length _ _ _ (by
                  rw [HLEN.out]; omega)
                refine ⟨?_, HRW.out, ownsRow_fr HDR.out.late hF (fun g' hg' => by
                  have := hsp.gv
                  simp only [List.mem_singleton]; rintro rfl; exact this hg')⟩
                have ht := HDR.out.top.fr hF (by simpa using hsp.dg)
                simp only at ht ⊢
                rw [hl2]; exact ht
              · exact HFR.out.trans hF (fun i hi _ => by simp at hi; simp [hi])
          · go_wp2_with fail
            have r5 := Row.new wr 77 [.int .i64 (at_ : Int), .string str]
            have c5 := r5.cell (j := 0) rfl
            have c6 := r5.cell (j := 1) rfl
            have hda2 := HDA.out (.cells #[.int .i64 (at_ : Int), .string str] 77)
            have hf2 := (Fr.refl [] wr).alloc (.cells #[.int .i64 (at_ : Int), .string str] 77)
            obtain ⟨w2, hw2⟩ : ∃ w2, w2 = wr.alloc (.cells #[.int .i64 (at_ : Int), .string str] 77) := ⟨_, rfl⟩
            simp only [List.toArray] at c5 c6
            rw [← hw2] at c5 c6 hda2 hf2 ⊢
            have HD2 := Lib.hid hda2
            have HF2 := Lib.hid hf2
            clear r5 hda2 hf2 hw2
            go_still_tail 6, (by kernel_rfl)
            still_call (still_of (sector_any p d gh _ _ n at_ _ HD2.out HLEN.out n2 hx1))
            repeat still_step
            refine wpStill_nil ?_
            change wpList _ _ _ _ _ w2.drew
            go_wp2_with (refine wpList_copy_str rfl (.tmp 34) (.tmp 36) 70 9 rfl 5 Try.underlying70 u8size gh (at_ * 64) 64 _ rfl str rfl has HD2.out.bytes (by rw [HX2.out]; omega) (by rw [HX2.out, HLEN.out]; omega) ?_; intro hrow')
            have HRW := Lib.hid hrow'
            clear hrow'
            go_wp2
            go_roundw
            case measure => simp [intOf]; omega
            case rel =>
              have hlt2 : (str.data.toList).length = 64 := by simpa using HX2.out
              have hF : Fr [gh] wr (w2.drew.setRow gh (bcells (laidAt has (at_ * 64) (str.data.toList))).toArray) := ((HF2.out.mono (by simp)).drew).setRow (Or.inl (by simp)) _
              have np : p ∉ [gh] := by simp only [List.mem_singleton]; exact fun e => hsp.pg e.symm
              have hnx := HN.out
              rw [HB.out] at hnx
              simp at hnx
              refine ⟨k + 1, by omega, by go_num, by rw [hnx], PowerAt.fr HPR.out hF np, ?_, ?_⟩
              · rw [hnx]
                have hl2 : (laidAt has (at_ * 64) (str.data.toList)).length = has.length := laidAt_length _ _ _ (by
                  rw [HLEN.out]; omega)
                refine ⟨?_, HRW.out, ownsRow_fr HDR.out.late hF (fun g' hg' => by
                  have := hsp.gv
                  simp only [List.mem_singleton]; rintro rfl; exact this hg')⟩
                have ht := HDR.out.top.fr hF (by simpa using hsp.dg)
                simp only at ht ⊢
                rw [hl2]; exact ht
              · exact HFR.out.trans hF (fun i hi _ => by simp at hi; simp [hi])
        · have HB := Lib.hid hb1; clear hb1
          go_wp2_with fail
          have r5 := Row.new wr 77 [.int .i64 (at_ : Int), .string str]
          have c5 := r5.cell (j := 0) rfl
          have c6 := r5.cell (j := 1) rfl
          have hda2 := HDA.out (.cells #[.int .i64 (at_ : Int), .string str] 77)
          have hf2 := (Fr.refl [] wr).alloc (.cells #[.int .i64 (at_ : Int), .string str] 77)
          obtain ⟨w2, hw2⟩ : ∃ w2, w2 = wr.alloc (.cells #[.int .i64 (at_ : Int), .string str] 77) := ⟨_, rfl⟩
          simp only [List.toArray] at c5 c6
          rw [← hw2] at c5 c6 hda2 hf2 ⊢
          have HD2 := Lib.hid hda2
          have HF2 := Lib.hid hf2
          clear r5 hda2 hf2 hw2
          go_still_tail 8, (by kernel_rfl)
          have hsl := fun W => run_str_to (P := Try.prog) 9 Try.underlying9 str tn (by rw [HX2.out]; exact htl) W
          have hsz := And.intro (extract_size str tn (by rw [HX2.out]; exact htl)) (extract_list str tn)
          have HSZ := Lib.hid hsz
          clear hsz
          still_call (still_of (sector_any p d gh _ _ n at_ _ HD2.out HLEN.out n2 hx1))
          repeat still_step
          refine wpStill_nil ?_
          change wpList _ _ _ _ _ w2.drew
          go_wp2_with (refine wpList_copy_str rfl (.tmp 41) (.tmp 45) 70 9 rfl 5 Try.underlying70 u8size gh (at_ * 64) 64 _ rfl (str.extract 0 tn) rfl has HD2.out.bytes (by rw [HSZ.out.1]; exact htl) (by rw [HSZ.out.1, HLEN.out]; omega) ?_; intro hrow'; rw [extract_list] at hrow')
          have HRW := Lib.hid hrow'
          clear hrow'
          go_wp2
          go_roundw
          case measure => simp [intOf]; omega
          case rel =>
            have hlt2 : ((str.data.toList.take tn)).length = tn := by rw [List.length_take, show str.data.toList.length = 64 from by simpa using HX2.out]; omega
            have hF : Fr [gh] wr (w2.drew.setRow gh (bcells (laidAt has (at_ * 64) ((str.data.toList.take tn)))).toArray) := ((HF2.out.mono (by simp)).drew).setRow (Or.inl (by simp)) _
            have np : p ∉ [gh] := by simp only [List.mem_singleton]; exact fun e => hsp.pg e.symm
            have hnx := HN.out
            rw [HB.out] at hnx
            simp at hnx
            refine ⟨k + 1, by omega, by go_num, by rw [hnx]; rfl, PowerAt.fr HPR.out hF np, ?_, ?_⟩
            · rw [hnx]; simp only []
              have hl2 : (laidAt has (at_ * 64) ((str.data.toList.take tn))).length = has.length := laidAt_length _ _ _ (by
                rw [HLEN.out]; omega)
              refine ⟨?_, HRW.out, ownsRow_fr HDR.out.late hF (fun g' hg' => by
                have := hsp.gv
                simp only [List.mem_singleton]; rintro rfl; exact this hg')⟩
              have ht := HDR.out.top.fr hF (by simpa using hsp.dg)
              simp only at ht ⊢
              rw [hl2]; exact ht
            · exact HFR.out.trans hF (fun i hi _ => by simp at hi; simp [hi])
      · have k2' := hdr.top.cell (j := 2) rfl
        have k2f := hdr.top.free (j := 2) (by simp)
        clear hpr hdr hfr
        go_wp2
        go_end0
        have hkl : k = D.wait.length := by omega
        have hF : Fr [d] wr (wr.setCell ⟨d, 2, none⟩ (.slice none 0 0)) := (Fr.refl [d] wr).setCell (Or.inl (by simp)) _
        have ng : gh ∉ [d] := by simp only [List.mem_singleton]; exact fun e => hsp.dg e.symm
        refine ⟨rfl, ?_, (HFR.out.mono (fun i hi _ => by simp at hi; simp [hi])).trans hF (fun i hi _ => by simp at hi; simp [hi])⟩
        have hd := HDR.out
        rw [hkl] at hd
        exact ⟨hd.top.set 2 (.slice none 0 0), hd.bytes.fr hF ng, World.ownsRow_nil _ _ _ _⟩
end Go.Proofs.Ythppnjmepeeejaa
