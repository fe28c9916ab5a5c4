/-
  The reference disk's Replace, Rot and Image.
-/
import Derived.Test.YthppnjmepeeejaaRef2
namespace Go.Proofs.Ythppnjmepeeejaa
open Go.RowKit
set_option maxHeartbeats 800000 in
theorem rreplace_any (q r hg hc : Nat) (v : Value) (P : Pw) (D : Dk) (n : Nat) (w : World) (hp : RPowAt w q P) (h : RDiskAt w q r hg hc v n D) (ok : D.ok n) :
    Calls Try.prog 48 #[.pointer (some ⟨r, 0, none⟩)] w fun e w' => e = .returned (.tuple #[]) ∧ RLeft q r hg v n P D.replaced w w' := by
  have c1 := h.top.cell (j := 1) rfl
  have c2 := h.top.cell (j := 2) rfl
  have r2 := h.top.free (j := 2) (by simp)
  have c3 := h.top.cell (j := 3) rfl
  have r3 := h.top.free (j := 3) (by simp)
  have c4 := h.top.cell (j := 4) rfl
  have r4 := h.top.free (j := 4) (by simp)
  have l0 := ok.life0
  have l1 := ok.life1
  have n1 := ok.n1
  have n2 := ok.n2
  have s1 := rsep hp h
  have htop2 : Row ((w.setCell ⟨r, 4, none⟩ (.bool false)).setCell ⟨r, 3, none⟩ (.slice none 0 0)) r 92 [.pointer (some ⟨q, 0, none⟩), .int .i64 n, .slice (some ⟨hg, 0, none⟩) n hc, .slice none 0 0, .bool false, .int .i64 D.life] := (h.top.set 4 (.bool false)).set 3 (.slice none 0 0)
  have hF2 : Fr [r] w ((w.setCell ⟨r, 4, none⟩ (.bool false)).setCell ⟨r, 3, none⟩ (.slice none 0 0)) := ((Fr.refl _ _).setCell (Or.inl (by simp)) _).setCell (Or.inl (by simp)) _
  have HT2 := Lib.hid htop2
  have HF2 := Lib.hid hF2
  have H := Lib.hid h
  have HP := Lib.hid hp
  have OK := Lib.hid ok
  clear h ok hp htop2 hF2
  go_enter Try.func48, Try.ntmps48
  go_wp2_with (go_at_call 41; refine (blanks_any n _ n2).mono ?_; rintro e w1 ⟨v', rfl, hown, hb⟩; obtain ⟨g', c', sp, rfl, hge, hrow⟩ := own_row hown n1; have hrow1 := HT2.out.after hb; have k2 := hrow1.cell (j := 2) rfl; have k2f := hrow1.free (j := 2) (by simp); have k5 := hrow1.cell (j := 5) rfl; have k5f := hrow1.free (j := 5) (by simp); have HT1 := Lib.hid hrow1; have HRW := Lib.hid hrow; have HB := Lib.hid hb; clear hrow1 hown hb hrow)
  go_end0
  have hrow := HRW.out
  have hne : r ≠ g' := HT1.out.ne hrow (by decide)
  have hF1 : Fr [r] w w1 := HF2.out.trans (Fr.of_below (L := []) HB.out) (by simp)
  have hF3 : Fr [r] w1 ((w1.setCell ⟨r, 2, none⟩ (.slice (some ⟨g', 0, none⟩) n c')).setCell ⟨r, 5, none⟩ (.int .i64 (D.life + 1))) := ((Fr.refl _ _).setCell (Or.inl (by simp)) _).setCell (Or.inl (by simp)) _
  have hF := hF1.trans hF3 (fun i hi _ => hi)
  have hl : (D.replaced).has = List.replicate (64 * n) 0 := by show List.replicate D.has.length 0 = _; rw [OK.out.len]
  have hsz : w.heap.size ≤ g' := by
    have h9 := HF2.out.size
    omega
  refine ⟨rfl, g', c', .slice none 0 0, Row.fr HP.out hF (by simpa using fun e => s1.pd e.symm), ⟨(HT1.out.set 2 (.slice (some ⟨g', 0, none⟩) n c')).set 5 (.int .i64 (D.life + 1)), ⟨sp, ?_⟩, World.ownsRow_nil _ _ _ _⟩, hF.mono (fun i hi _ => by simp at hi; simp [hi]), Or.inr (by simp [Value.ownBlock]), Or.inr hsz⟩
  rw [hasL_zeros n _ hl]
  exact hrow.fr hF3 (by simpa using fun e => hne e.symm)
/-- one byte of one sector -/
theorem sec_set (l : List UInt8) (a i j : Nat) (u : UInt8) (hi : i < 64) : sec (l.set (a * 64 + i) u) j = if a = j then (sec l a).set i u else sec l j := by
  apply List.ext_getElem?
  intro k
  rw [sec_get]
  by_cases e : a = j
  · subst e
    rw [if_pos rfl, List.getElem?_set, List.getElem?_set, sec_get]
    by_cases hk : k < 64
    · rw [if_pos hk, if_pos hk]
      by_cases e2 : i = k
      · subst e2
        rw [if_pos rfl, if_pos rfl]
        unfold sec
        rw [List.length_take, List.length_drop]
        by_cases h3 : a * 64 + i < l.length
        · rw [if_pos h3, if_pos (by omega)]
        · rw [if_neg h3, if_neg (by omega)]
      · rw [if_neg (by omega), if_neg e2]
    · rw [if_neg hk]
      by_cases e2 : i = k
      · omega
      · rw [if_neg e2, if_neg hk]
  · rw [if_neg e, sec_get, List.getElem?_set]
    by_cases hk : k < 64
    · rw [if_pos hk, if_pos hk, if_neg (by omega)]
    · rw [if_neg hk, if_neg hk]
theorem rotted_lasts (D : Dk) (a b j : Nat) (hb : b < 512) : (D.rotted a b).lasts j = if a = j then ⟨((sec D.has a).set (b / 8) (turned ((sec D.has a).getD (b / 8) 0) (b % 8))).toArray⟩ else D.lasts j := by
  rw [lasts_eq]
  unfold Dk.rotted
  simp only
  rw [sec_set _ _ _ _ _ (by omega)]
  have hg : D.has.getD (a * 64 + b / 8) 0 = (sec D.has a).getD (b / 8) 0 := by
    rw [List.getD_eq_getElem?_getD, List.getD_eq_getElem?_getD, sec_get, if_pos (by omega)]
  rw [hg]
  by_cases e : a = j
  · rw [if_pos e, if_pos e]
  · rw [if_neg e, if_neg e]; rfl
theorem hasL_set (n : Nat) (D D' : Dk) (sp : List Value) (a : Nat) (s : ByteArray) (ha : a < n) (h : ∀ j, j < n → D'.lasts j = if a = j then s else D.lasts j) : (hasL n D ++ sp).set a (.string s) = hasL n D' ++ sp := by
  rw [List.set_append_left _ _ (by simp [hasL]; exact ha)]
  congr 1
  apply List.ext_getElem
  · simp [hasL]
  · intro i h1 h2
    have hi : i < n := by simpa [hasL] using h2
    rw [List.getElem_set]
    simp only [hasL, List.getElem_map, List.getElem_range]
    rw [h i hi]
    by_cases e : a = i
    · rw [if_pos e, if_pos e]
    · rw [if_neg e, if_neg e]
theorem bcells_get? (l : List UInt8) (j : Nat) : (bcells l)[j]? = (l[j]?).map fun u => .int .u8 (u.toNat : Int) := by simp [bcells]
set_option maxRecDepth 100000 in
set_option maxHeartbeats 1600000 in
theorem rrot_ok (q r hg hc : Nat) (v : Value) (P : Pw) (D : Dk) (n a b : Nat) (w : World) (hp : RPowAt w q P) (h : RDiskAt w q r hg hc v n D) (ok : D.ok n) (hd : D.dead = false) (ha : a < n) (hb : b < 512) :
    Calls Try.prog 50 #[.pointer (some ⟨r, 0, none⟩), .int .i64 (a : Int), .int .i64 (b : Int)] w fun e w' => e = .returned (.int .i64 0) ∧ RLeft q r hg v n P (D.rotted a b) w w' := by
  have c1 := h.top.cell (j := 1) rfl
  have c2 := h.top.cell (j := 2) rfl
  have c4 := h.top.cell (j := 4) rfl
  rw [hd] at c4
  obtain ⟨sp, hsp⟩ := h.has
  have ca := hsp.cell (hasL_get n D sp a ha)
  have fa := hsp.free (j := a) (by simp [hasL]; omega)
  obtain ⟨X, hX⟩ : ∃ X, D.lasts a = X := ⟨_, rfl⟩
  have hxs : X.size = 64 := by
    rw [← hX]; show ((sec D.has a).toArray).size = 64
    rw [List.size_toArray, sec_length D.has n a ok.len ha]
  rw [hX] at ca
  have s1 := rsep hp h
  have HX := Lib.hid hX
  have HSP := Lib.hid hsp
  have H := Lib.hid h
  have HP := Lib.hid hp
  clear h hp hd hsp hX
  go_enter Try.func50, Try.ntmps50
  have hlen : X.data.toList.length = 64 := by simpa using hxs
  have hlb : b / 8 < X.data.toList.length := by omega
  obtain ⟨u, hu⟩ : ∃ u, X.data.toList[b / 8]? = some u := ⟨_, List.getElem?_eq_getElem hlb⟩
  have HU := Lib.hid hu
  have HL := Lib.hid hlen
  have HLB := Lib.hid hlb
  clear hlen hlb hu
  go_wp2_with (refine wpList_bytes rfl 9 70 5 (.tmp 36) rfl X rfl Try.underlying9 Try.underlying70 Try.underlying5 ?_; intro g cap rr w1 hge hrow hlen hbel; have hcb := hrow.cell (j := b / 8) (v := .int .u8 (u.toNat : Int)) (by rw [List.getElem?_append_left (by rw [bcells_length]; exact HLB.out), bcells_get?, HU.out]; rfl); have hfb := hrow.free (j := b / 8) (by rw [List.length_append, bcells_length]; have := HLB.out; omega); have HRW := Lib.hid hrow; have HBL := Lib.hid hbel; clear hrow hbel)
  go_still_tail 13, (by kernel_rfl)
  repeat still_step
  rw [IntWalk.i64_in ((b : Int) / 8) (by omega)]
  refine wpStill_step (fun K hK => ?_)
  go_simp
  rw [if_pos (by omega), show ((b : Int) / 8).toNat = b / 8 from by omega]
  refine ⟨rfl, hK _ ?_⟩
  clear hK K
  repeat still_step
  rw [Int.tmod_eq_emod_of_nonneg (by omega : (0 : Int) ≤ b), show ((b : Int) % 8) = ((b % 8 : Nat) : Int) from by omega]
  repeat still_step
  refine wpStill_step (fun K hK => ?_)
  go_simp
  rw [if_pos (by omega), show ((b : Int) / 8).toNat = b / 8 from by omega]
  refine ⟨rfl, hK _ ?_⟩
  clear hK K
  refine wpStill_nil ?_
  rw [turned_bits]
  change wpList _ _ _ _ _ w1.drew
  obtain ⟨w2, hw2⟩ : ∃ w2, w2 = (w1.setCell ⟨g, b / 8, none⟩ (.int .u8 ((turned u (b % 8)).toNat : Int))).drew := ⟨_, rfl⟩
  have hf1 : Fr [] w w1 := Fr.of_below HBL.out
  have hf2 : Fr [] w w2 := by rw [hw2]; exact (hf1.setCell (Or.inr hge) _).drew
  have htop2 := H.out.top.fr hf2 (by simp)
  have hsp2 := HSP.out.fr hf2 (by simp)
  have d2 := htop2.cell (j := 2) rfl
  have da := hsp2.cell (hasL_get n D sp a ha)
  have dfa := hsp2.free (j := a) (by simp [hasL]; omega)
  rw [HX.out] at da
  have hrw2 : Row w2 g 5 (bcells (X.data.toList.set (b / 8) (turned u (b % 8))) ++ rr) := by
    rw [hw2, ← bcells_set, ← List.set_append_left _ _ (by rw [bcells_length]; exact HLB.out)]
    exact (HRW.out.set _ _).drew
  have hconv := run_string_of_row (P := Try.prog) w2.drew 70 9 5 Try.underlying70 Try.underlying5 Try.underlying9 hrw2.drew 0 64 cap (X.data.toList.set (b / 8) (turned u (b % 8))) (by rw [List.length_set]; exact HL.out) (by rw [List.drop_zero, List.take_append_of_le_length (by rw [bcells_length, List.length_set, HL.out]; exact Nat.le_refl _)]; exact List.take_of_length_le (by rw [bcells_length, List.length_set, HL.out]; exact Nat.le_refl _))
  obtain ⟨Y, hY⟩ : ∃ Y : List UInt8, Y = X.data.toList.set (b / 8) (turned u (b % 8)) := ⟨_, rfl⟩
  rw [← hY] at hconv
  have HY := Lib.hid hY
  have HF2 := Lib.hid hf2
  have HT2 := Lib.hid htop2
  have HSP2 := Lib.hid hsp2
  clear hf1 hf2 htop2 hsp2 hrw2 hY c2 ca fa
  go_wp2_with fail
  rw [← hw2]
  clear hw2 hcb hfb
  go_still_tail 8, (by kernel_rfl)
  change wpList _ _ _ _ _ w2.drew
  go_wp2
  go_ret
  have hF : Fr [hg] w (w2.drew.setCell ⟨hg, a, none⟩ (.string ⟨Y.toArray⟩)) := (HF2.out.drew.mono (by simp)).setCell (Or.inl (by simp)) _
  have hF9 : Fr [hg] w2 (w2.drew.setCell ⟨hg, a, none⟩ (.string ⟨Y.toArray⟩)) := ((Fr.refl _ w2).drew).setCell (Or.inl (by simp)) _
  refine ⟨rfl, hg, hc, v, Row.fr HP.out hF (by simpa using fun e => s1.pg e.symm), ⟨HT2.out.fr hF9 (by simpa using s1.dg), ⟨sp, ?_⟩, ownsRow_fr H.out.late hF (fun g' hg' => by
    simp only [List.mem_singleton]; rintro rfl; exact s1.gv hg')⟩, hF.mono (fun i hi _ => by simp at hi; simp [hi]), Or.inl rfl, Or.inl rfl⟩
  have hX : X.data.toList = sec D.has a := by
    have := HX.out
    rw [lasts_eq] at this
    rw [← this]
  have hu : (sec D.has a).getD (b / 8) 0 = u := by
    rw [← hX, List.getD_eq_getElem?_getD, HU.out]; rfl
  have hfin := hasL_set n D (D.rotted a b) sp a ⟨Y.toArray⟩ ha (fun j hj => by
    rw [rotted_lasts D a b j hb]
    by_cases e : a = j
    · rw [if_pos e, if_pos e, HY.out, hX, hu]
    · rw [if_neg e, if_neg e])
  rw [← hfin]
  exact HSP2.out.drew.set a (.string ⟨Y.toArray⟩)
end Go.Proofs.Ythppnjmepeeejaa
