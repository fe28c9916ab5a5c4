/-
  The walk of the law DiskTears.
-/
import Derived.Test.YthppnjmepeeejaaKnown
import Derived.Test.YthppnjmepeeejaaDstK
import Derived.Test.YthppnjmepeeejaaDArgs
import Derived.Deep.QuietTactic
import Derived.BigQuiet
namespace Go.Proofs.Ythppnjmepeeejaa
open Go.RowKit
theorem StrsAt.after {w w' : World} {a : Option Addr} {ss : List ByteArray} (h : StrsAt w a ss) (hb : Below w.heap.size w w') : StrsAt w' a ss := fun i hi => by
  obtain ⟨hs, b, o, ha, hc⟩ := h i hi
  exact ⟨hs, b, o, ha, (hb.cell (p := ⟨b, o + i, none⟩) (cell_lt hc)).trans hc⟩
theorem St.arg {w w1 wx : World} {p d gh n : Nat} {P : Pw} {D : Dk} (S : St w1 p d gh P n D wx) (hb : Below w.heap.size w w1) {a : Addr} {v : Value} (hc : w.cell? a = some v) : wx.cell? a = some v :=
  ((hb.trans (S.bel.mono hb.size)).cell (cell_lt hc)).trans hc
theorem St.drewN {w1 wx : World} {p d gh n : Nat} {P : Pw} {D : Dk} (S : St w1 p d gh P n D wx) (q : Nat) : St w1 p d gh P n D (wx.drewN q) := S.after ⟨rfl, rfl, rfl, Nat.le_refl _, fun _ _ => rfl⟩
theorem StrsAt.take {w : World} {a : Option Addr} {ss : List ByteArray} (h : StrsAt w a ss) (n : Nat) : StrsAt w a (ss.take n) := fun i hi => by
  have h2 : i < ss.length := by rw [List.length_take] at hi; omega
  obtain ⟨hs, b, o, ha, hc⟩ := h i h2
  rw [List.getElem_take]
  exact ⟨hs, b, o, ha, hc⟩
theorem torn_cases (t : Int) : (t < 0 ∧ tornOf t = 0) ∨ (64 < t ∧ tornOf t = 64) ∨ (0 ≤ t ∧ t ≤ 64 ∧ ∃ n : Nat, t = (n : Int) ∧ tornOf t = n) := by
  unfold tornOf
  rcases (by omega : t < 0 ∨ 64 < t ∨ (0 ≤ t ∧ t ≤ 64)) with h | h | ⟨h, h2⟩
  · exact Or.inl ⟨h, by omega⟩
  · exact Or.inr (Or.inl ⟨h, by omega⟩)
  · exact Or.inr (Or.inr ⟨h, h2, t.toNat, by omega, by omega⟩)
/-- the pending writes of the law: one sector, again and again -/
def tWaits (ts : List ByteArray) : List (Nat × ByteArray) := ts.map fun t => (5, secOf t)
def tDk (ts : List ByteArray) (k : Nat) : Dk := { Dk.fresh 8 with wait := (tWaits ts).take k }
def tFin (ts : List ByteArray) : Dk := { Dk.fresh 8 with wait := tWaits ts }
theorem tDk_all (ts : List ByteArray) : tDk ts ts.length = tFin ts := by
  unfold tDk tFin
  rw [List.take_of_length_le (by simp [tWaits])]
theorem tDk_succ (ts : List ByteArray) (k : Nat) (h : k < ts.length) : { tDk ts k with wait := (tDk ts k).wait ++ [(5, secOf ts[k])] } = tDk ts (k + 1) := by
  have h2 : k < (tWaits ts).length := by simpa [tWaits] using h
  unfold tDk
  simp only [List.take_succ_eq_append_getElem h2]
  simp [tWaits]
theorem tWaits_mem (ts : List ByteArray) (x : Nat × ByteArray) (hx : x ∈ tWaits ts) : x.1 = 5 ∧ x.2.size = 64 := by
  unfold tWaits at hx
  rw [List.mem_map] at hx
  obtain ⟨t, _, rfl⟩ := hx
  exact ⟨rfl, secOf_size t⟩
theorem tWaits_length (ts : List ByteArray) : (tWaits ts).length = ts.length := by simp [tWaits]
theorem tFin_ok (ts : List ByteArray) (h : ts.length ≤ 60) : (tFin ts).ok 8 := by
  have h8 := Dk.fresh_ok (n := 8) (by omega) (by omega)
  refine ⟨h8.len, h8.n1, h8.n2, fun x hx => ?_, fun x hx => (tWaits_mem ts x hx).2, ?_, h8.life0, h8.life1⟩
  · rw [(tWaits_mem ts x hx).1]; decide
  · show (tWaits ts).length ≤ _
    rw [tWaits_length]; omega
theorem tDk_len (ts : List ByteArray) (k : Nat) : (tDk ts k).wait.length ≤ k := by
  show ((tWaits ts).take k).length ≤ k
  rw [List.length_take]; omega
section
variable (ts : List ByteArray) (keep : List Bool) (t0 : Nat)
theorem tears_step (k : Nat) (h : k < ts.length) : (tFin ts).losing keep t0 (k + 1) = if keep[k]? = some true then (lay1 ((tFin ts).losing keep t0 k).1 (5, secOf ts[k]), ((tFin ts).losing keep t0 k).2) else (laidAt ((tFin ts).losing keep t0 k).1 (5 * 64) ((secOf ts[k]).data.toList.take ((tFin ts).losing keep t0 k).2), 0) := by
  have h2 : (tFin ts).wait[k]? = some (5, secOf ts[k]) := by
    show (tWaits ts)[k]? = _
    simp [tWaits, h]
  simp only [Dk.losing, h2]
theorem tears_kept (h60 : ts.length ≤ 60) (k : Nat) (h : k < ts.length) (hk : keep[k]? = some true) : (⟨(sec ((tFin ts).losing keep t0 (k + 1)).1 5).toArray⟩ : ByteArray) = secOf ts[k] ∧ ((tFin ts).losing keep t0 (k + 1)).2 = ((tFin ts).losing keep t0 k).2 := by
  rw [tears_step ts keep t0 k h, if_pos hk]
  refine ⟨?_, rfl⟩
  rw [lay1_sec _ _ 8 5 (Dk.losing_length _ 8 (tFin_ok ts h60) keep t0 k) (by show 5 < 8; omega) (secOf_size _), if_pos rfl]
theorem tears_torn (h60 : ts.length ≤ 60) (k : Nat) (h : k < ts.length) (hk : keep[k]? ≠ some true) (ht : t0 ≤ 64) : sec ((tFin ts).losing keep t0 (k + 1)).1 5 = (secOf ts[k]).data.toList.take ((tFin ts).losing keep t0 k).2 ++ (sec ((tFin ts).losing keep t0 k).1 5).drop ((tFin ts).losing keep t0 k).2 ∧ ((tFin ts).losing keep t0 (k + 1)).2 = 0 := by
  have hle := Dk.losing_le (tFin ts) keep t0 ht k
  have hl : (secOf ts[k]).data.toList.length = 64 := by simpa using secOf_size ts[k]
  have hlen := Dk.losing_length _ 8 (tFin_ok ts h60) keep t0 k
  rw [tears_step ts keep t0 k h, if_neg hk]
  refine ⟨?_, rfl⟩
  simp only
  rw [sec_laid_self _ 5 _ (by omega) (by rw [List.length_take]; omega), List.length_take, hl, Nat.min_eq_left hle]
theorem tears_other (h60 : ts.length ≤ 60) (k : Nat) (hk : k ≤ ts.length) : sec ((tFin ts).losing keep t0 k).1 4 = sec (Dk.fresh 8).has 4 := by
  induction k with
  | zero => rfl
  | succ k ih =>
    have hl : (secOf (ts[k]'(by omega))).data.toList.length = 64 := by simpa using secOf_size (ts[k]'(by omega))
    have hlen := Dk.losing_length _ 8 (tFin_ok ts h60) keep t0 k
    rw [tears_step ts keep t0 k (by omega), ← ih (by omega)]
    split
    · unfold lay1
      exact sec_laid_other _ 5 4 _ (by omega) (by simp only; omega) (by decide)
    · exact sec_laid_other _ 5 4 _ (by omega) (by rw [List.length_take]; omega) (by decide)
end
/-- what is wanted behind k writes -/
def tWant (ts : List ByteArray) (keep : List Bool) (t0 k : Nat) : ByteArray := ⟨(sec ((tFin ts).losing keep t0 k).1 5).toArray⟩
theorem tWant_size (ts : List ByteArray) (keep : List Bool) (t0 k : Nat) (h60 : ts.length ≤ 60) : (tWant ts keep t0 k).size = 64 := by
  show ((sec ((tFin ts).losing keep t0 k).1 5).toArray).size = 64
  rw [List.size_toArray, sec_length _ 8 5 (Dk.losing_length _ 8 (tFin_ok ts h60) keep t0 k) (by decide)]
theorem tWant_zero (ts : List ByteArray) (keep : List Bool) (t0 : Nat) : tWant ts keep t0 0 = secOf ⟨#[]⟩ := by
  show (⟨(sec (List.replicate 512 0) 5).toArray⟩ : ByteArray) = _
  rw [kS]
  unfold sec
  rw [List.drop_replicate, List.take_replicate]
  rfl
theorem extract_mk (l : List UInt8) (a b : Nat) : (⟨l.toArray⟩ : ByteArray).extract a b = ⟨((l.drop a).take (b - a)).toArray⟩ := by
  apply ByteArray.ext
  simp [ByteArray.data_extract]
theorem tWant_torn (ts : List ByteArray) (keep : List Bool) (t0 k : Nat) (h60 : ts.length ≤ 60) (h : k < ts.length) (hk : keep[k]? ≠ some true) (ht : t0 ≤ 64) (h2 : ((tFin ts).losing keep t0 k).2 = t0) :
    (secOf ts[k]).extract 0 t0 ++ (tWant ts keep t0 k).extract t0 64 = tWant ts keep t0 (k + 1) := by
  obtain ⟨e1, _⟩ := tears_torn ts keep t0 h60 k h hk ht
  rw [h2] at e1
  unfold tWant
  rw [e1, extract_mk (sec ((tFin ts).losing keep t0 k).1 5)]
  have hl := sec_length _ 8 5 (Dk.losing_length _ 8 (tFin_ok ts h60) keep t0 k) (by decide)
  have e3 : ((sec ((tFin ts).losing keep t0 k).1 5).drop t0).take (64 - t0) = (sec ((tFin ts).losing keep t0 k).1 5).drop t0 := List.take_of_length_le (by rw [List.length_drop, hl]; exact Nat.le_refl _)
  rw [e3]
  apply ByteArray.ext
  simp [ByteArray.data_extract]
theorem tWant_none (ts : List ByteArray) (keep : List Bool) (t0 k : Nat) (h60 : ts.length ≤ 60) (h : k < ts.length) (hk : keep[k]? ≠ some true) (ht : t0 ≤ 64) (h2 : ((tFin ts).losing keep t0 k).2 = 0) :
    tWant ts keep t0 (k + 1) = tWant ts keep t0 k := by
  obtain ⟨e1, _⟩ := tears_torn ts keep t0 h60 k h hk ht
  rw [h2] at e1
  unfold tWant
  rw [e1]
  simp
theorem tears_reads5 (ts : List ByteArray) (keep : List Bool) (torn : Int) (k : Nat) (hk : k = ts.length) : ((tFin ts).lost keep torn).reads 5 = tWant ts keep (tornOf torn) k := by
  subst hk
  rw [reads_eq]
  show ((tFin ts).lost keep torn).lasts 5 = _
  rw [lasts_eq]
  show (⟨(sec ((tFin ts).losing keep (tornOf torn) (tWaits ts).length).1 5).toArray⟩ : ByteArray) = _
  rw [tWaits_length]; rfl
theorem tears_reads4 (ts : List ByteArray) (keep : List Bool) (torn : Int) (h60 : ts.length ≤ 60) : ((tFin ts).lost keep torn).reads 4 = secOf ⟨#[]⟩ := by
  rw [reads_eq]
  show ((tFin ts).lost keep torn).lasts 4 = _
  rw [lasts_eq]
  show (⟨(sec ((tFin ts).losing keep (tornOf torn) (tWaits ts).length).1 4).toArray⟩ : ByteArray) = _
  rw [tears_other ts keep (tornOf torn) h60 _ (by rw [tWaits_length]; exact Nat.le_refl _), kS]
  show (⟨(sec (List.replicate 512 0) 4).toArray⟩ : ByteArray) = _
  unfold sec
  rw [List.drop_replicate, List.take_replicate]
  rfl
set_option maxRecDepth 100000 in
set_option maxHeartbeats 1600000 in
theorem tears_walk (ta : Option Addr) (tc : Nat) (texts : List ByteArray) (ka : Option Addr) (kc : Nat) (keep : List Bool) (torn : Int) (t0 : -9223372036854775808 ≤ torn) (t1 : torn ≤ 9223372036854775807) (w : World) (htx : StrsAt w ta texts) (htc : texts.length ≤ tc) (hkp : BoolsArg w ka keep) :
    Calls Try.prog 3 #[.slice ta texts.length tc, .slice ka keep.length kc, .int .i64 torn] w fun e w' => e = .returned (.bool true) ∧ Below w.heap.size w w' := by
  have HTX := Lib.hid htx
  have HKP := Lib.hid hkp
  clear htx hkp
  rcases (by omega : texts.length ≤ 60 ∨ 60 < texts.length) with hle | hgt
  · obtain ⟨ts, hts⟩ : ∃ ts, ts = texts := ⟨_, rfl⟩
    subst hts
    have HTS := HTX
    go_enter Try.func3, Try.ntmps3
    go_wp2_with (first
      | (go_at_call 9; refine (known_any _).mono ?_; rintro e w1 ⟨rfl, hb1⟩)
      | (go_at_call 10; refine (rack_any _).mono ?_; rintro e w2 ⟨p, d, gh, rfl, hp1, hp2, hp3, hp4, hp5, hp6⟩; have S0 := Lib.hid (show St w1 p d gh (onP 0) 8 (Dk.fresh 8) w2 from ⟨hp4, kP0_ok, ⟨_, hp5, by simp [Value.ownBlock]⟩, Dk.fresh_ok (by omega) (by omega), hp6, hp1, hp2, hp3⟩); clear hp1 hp2 hp3 hp4 hp5 hp6)
      | (go_at_call 11; refine (lsector_any _ _ (by decide)).mono ?_; rintro e w3 ⟨he, hb⟩; have S1 := Lib.hid (S0.out.after hb); rw [← tWant_zero ts keep (tornOf torn)] at he; subst he; clear hb S0))
    go_loopw [10, 11, 12] (fun wn fi i wr => ∃ (k : Nat) (f : Bool), k ≤ ts.length ∧ i = .int .i64 k ∧ wn = .string (tWant ts keep (tornOf torn) k) ∧ fi = .bool f ∧ ((tFin ts).losing keep (tornOf torn) k).2 = (if f then tornOf torn else 0) ∧ St w1 p d gh (onP k) 8 (tDk ts k) wr) (fun _ _ i _ => 60 - (intOf i).toNat)
    case atStart => exact ⟨0, true, by omega, rfl, rfl, rfl, rfl, S1.out⟩
    case round =>
      clear S1
      obtain ⟨k, f, hk, rfl, rfl, rfl, hfi, hs⟩ := hrel
      have HS := Lib.hid hs
      have HFI := Lib.hid hfi
      clear hs hfi
      by_cases hlt : k < ts.length
      · obtain ⟨hsz, b, o, hao, hcell⟩ := HTS.out k hlt
        subst hao
        obtain ⟨t, htt⟩ : ∃ t, t = ts[k] := ⟨_, rfl⟩
        have htd := tDk_succ ts k hlt
        rw [← htt] at hsz hcell htd
        have hc1 := HS.out.arg hb1 hcell
        have HTT := Lib.hid htt
        obtain ⟨X, hX⟩ : ∃ X, secOf t = X := ⟨_, rfl⟩
        have hXs : X.size = 64 := by rw [← hX]; exact secOf_size t
        rw [hX] at htd
        have HDK := Lib.hid htd
        have HXS := Lib.hid hXs
        have HX := Lib.hid hX
        obtain ⟨WA, hWA⟩ : ∃ W, tWant ts keep (tornOf torn) k = W := ⟨_, rfl⟩
        have hWs : WA.size = 64 := by rw [← hWA]; exact tWant_size ts keep _ k (by omega)
        rw [hWA]
        have HWA := Lib.hid hWA
        clear hcell htt hX htd hWA
        have hkeep : (k < keep.length ∧ ∃ kb ko, ka = some ⟨kb, ko, none⟩ ∧ ∃ b, keep[k]? = some b ∧ w.cell? ⟨kb, ko + k, none⟩ = some (.bool b)) ∨ (¬ k < keep.length ∧ keep[k]? = none) := by
          by_cases hkk : k < keep.length
          · obtain ⟨kb, ko, e1, e3⟩ := HKP.out k hkk
            exact Or.inl ⟨hkk, kb, ko, e1, keep[k], by rw [List.getElem?_eq_getElem hkk], e3⟩
          · exact Or.inr ⟨hkk, List.getElem?_eq_none (by omega)⟩
        have htle := tornOf_le torn
        have h60 : ts.length ≤ 60 := by omega
        rcases hkeep with ⟨hkk, kb, ko, rfl, b2, hb2, hb3⟩ | ⟨hkk, hb2⟩
        · have HB := Lib.hid hb2
          have HKC : ∀ wx, St w1 p d gh (onP ((k : Int) + 1)) 8 (tDk ts (k + 1)) wx → wx.cell? ⟨kb, ko + k, none⟩ = some (.bool b2) := fun wx hx => hx.arg hb1 hb3
          have HKC2 := Lib.hid HKC
          clear hb2 hb3 HKC
          cases b2
          · skip
            have hne : keep[k]? ≠ some true := by rw [HB.out]; decide
            cases f
            · have hfi0 : ((tFin ts).losing keep (tornOf torn) k).2 = 0 := HFI.out
              have hw2 := tWant_none ts keep (tornOf torn) k h60 hlt hne htle hfi0
              rw [HWA.out] at hw2
              have hz2 := (tears_torn ts keep (tornOf torn) h60 k hlt hne htle).2
              have HW2 := Lib.hid hw2
              have HZ2 := Lib.hid hz2
              clear hfi0 hw2 hz2 hne
              go_wp2_with (first
            | (go_at_call 11; have h9 := HS.out; clear HS hc1; refine (lsector_any _ _ hsz).mono ?_; rintro e w4 ⟨he, hb⟩; rw [HX.out] at he; subst he; have HS4 := Lib.hid (h9.after hb); clear hb h9)
            | (go_at_call 12; refine (HS4.out.writeK 5 5 rfl X rfl (by omega) HXS.out (by have := tDk_len ts k; omega) (by omega)).mono ?_; rintro e w5 ⟨rfl, hx, _⟩; rw [HDK.out] at hx; have HS5 := Lib.hid hx; have hck := HKC2.out w5 HS5.out; clear hx HS4))
              all_goals go_roundw
              all_goals first
                | (simp [intOf]; omega)
                | exact ⟨k + 1, false, by omega, by go_num, congrArg Value.string HW2.out.symm, rfl, HZ2.out, HS5.out⟩
            · have hfi0 : ((tFin ts).losing keep (tornOf torn) k).2 = tornOf torn := HFI.out
              have hw2 := tWant_torn ts keep (tornOf torn) k h60 hlt hne htle hfi0
              rw [HWA.out, ← HTT.out, HX.out] at hw2
              have hz2 := (tears_torn ts keep (tornOf torn) h60 k hlt hne htle).2
              have HW2 := Lib.hid hw2
              have HZ2 := Lib.hid hz2
              clear hfi0 hw2 hz2 hne
              rcases torn_cases torn with ⟨h1, h3⟩ | ⟨h1, h3⟩ | ⟨h1, h2, h3⟩
              · have H3 := Lib.hid h3
                clear h3
                go_wp2_with (first
            | (go_at_call 11; have h9 := HS.out; clear HS hc1; refine (lsector_any _ _ hsz).mono ?_; rintro e w4 ⟨he, hb⟩; rw [HX.out] at he; subst he; have HS4 := Lib.hid (h9.after hb); clear hb h9)
            | (go_at_call 12; refine (HS4.out.writeK 5 5 rfl X rfl (by omega) HXS.out (by have := tDk_len ts k; omega) (by omega)).mono ?_; rintro e w5 ⟨rfl, hx, _⟩; rw [HDK.out] at hx; have HS5 := Lib.hid hx; have hck := HKC2.out w5 HS5.out; clear hx HS4))
                all_goals go_quiet (fail)
                all_goals go_wp2
                all_goals go_roundw
                all_goals first
                  | (simp [intOf]; omega)
                  | exact ⟨k + 1, false, by omega, by go_num, (by rw [← HW2.out, H3.out]; try (first | rfl | (congr 1; apply ByteArray.ext; simp))), rfl, HZ2.out, HS5.out.drewN _⟩
              · have H3 := Lib.hid h3
                clear h3
                go_wp2_with (first
            | (go_at_call 11; have h9 := HS.out; clear HS hc1; refine (lsector_any _ _ hsz).mono ?_; rintro e w4 ⟨he, hb⟩; rw [HX.out] at he; subst he; have HS4 := Lib.hid (h9.after hb); clear hb h9)
            | (go_at_call 12; refine (HS4.out.writeK 5 5 rfl X rfl (by omega) HXS.out (by have := tDk_len ts k; omega) (by omega)).mono ?_; rintro e w5 ⟨rfl, hx, _⟩; rw [HDK.out] at hx; have HS5 := Lib.hid hx; have hck := HKC2.out w5 HS5.out; clear hx HS4))
                all_goals go_quiet (fail)
                all_goals go_wp2
                all_goals go_roundw
                all_goals first
                  | (simp [intOf]; omega)
                  | exact ⟨k + 1, false, by omega, by go_num, (by rw [← HW2.out, H3.out]; try (first | rfl | (congr 1; apply ByteArray.ext; simp))), rfl, HZ2.out, HS5.out.drewN _⟩
              · obtain ⟨tn, rfl, h4⟩ := h3
                have h3 := h4
                have H3 := Lib.hid h3
                clear h3 h4
                go_wp2_with (first
            | (go_at_call 11; have h9 := HS.out; clear HS hc1; refine (lsector_any _ _ hsz).mono ?_; rintro e w4 ⟨he, hb⟩; rw [HX.out] at he; subst he; have HS4 := Lib.hid (h9.after hb); clear hb h9)
            | (go_at_call 12; refine (HS4.out.writeK 5 5 rfl X rfl (by omega) HXS.out (by have := tDk_len ts k; omega) (by omega)).mono ?_; rintro e w5 ⟨rfl, hx, _⟩; rw [HDK.out] at hx; have HS5 := Lib.hid hx; have hck := HKC2.out w5 HS5.out; clear hx HS4))
                all_goals go_quiet (fail)
                all_goals go_wp2
                all_goals go_roundw
                all_goals first
                  | (simp [intOf]; omega)
                  | exact ⟨k + 1, false, by omega, by go_num, (by rw [← HW2.out, H3.out]; try (first | rfl | (congr 1; apply ByteArray.ext; simp))), rfl, HZ2.out, HS5.out.drewN _⟩
          · have hkt := tears_kept ts keep (tornOf torn) h60 k hlt HB.out
            have HW2 := Lib.hid (show tWant ts keep (tornOf torn) (k + 1) = X by rw [← HX.out, HTT.out]; exact hkt.1)
            have HZ2 := Lib.hid (hkt.2.trans HFI.out)
            clear hkt
            go_wp2_with (first
            | (go_at_call 11; have h9 := HS.out; clear HS hc1; refine (lsector_any _ _ hsz).mono ?_; rintro e w4 ⟨he, hb⟩; rw [HX.out] at he; subst he; have HS4 := Lib.hid (h9.after hb); clear hb h9)
            | (go_at_call 12; refine (HS4.out.writeK 5 5 rfl X rfl (by omega) HXS.out (by have := tDk_len ts k; omega) (by omega)).mono ?_; rintro e w5 ⟨rfl, hx, _⟩; rw [HDK.out] at hx; have HS5 := Lib.hid hx; have hck := HKC2.out w5 HS5.out; clear hx HS4))
            all_goals go_roundw
            all_goals first
              | (simp [intOf]; omega)
              | exact ⟨k + 1, f, by omega, by go_num, congrArg Value.string HW2.out.symm, rfl, HZ2.out, HS5.out⟩
        · have HB := Lib.hid hb2
          have HKC2 := Lib.hid (show ∀ wx, St w1 p d gh (onP ((k : Int) + 1)) 8 (tDk ts (k + 1)) wx → True from fun _ _ => trivial)
          clear hb2
          have hne : keep[k]? ≠ some true := by rw [HB.out]; decide
          cases f
          · have hfi0 : ((tFin ts).losing keep (tornOf torn) k).2 = 0 := HFI.out
            have hw2 := tWant_none ts keep (tornOf torn) k h60 hlt hne htle hfi0
            rw [HWA.out] at hw2
            have hz2 := (tears_torn ts keep (tornOf torn) h60 k hlt hne htle).2
            have HW2 := Lib.hid hw2
            have HZ2 := Lib.hid hz2
            clear hfi0 hw2 hz2 hne
            go_wp2_with (first
            | (go_at_call 11; have h9 := HS.out; clear HS hc1; refine (lsector_any _ _ hsz).mono ?_; rintro e w4 ⟨he, hb⟩; rw [HX.out] at he; subst he; have HS4 := Lib.hid (h9.after hb); clear hb h9)
            | (go_at_call 12; refine (HS4.out.writeK 5 5 rfl X rfl (by omega) HXS.out (by have := tDk_len ts k; omega) (by omega)).mono ?_; rintro e w5 ⟨rfl, hx, _⟩; rw [HDK.out] at hx; have HS5 := Lib.hid hx; have hck := HKC2.out w5 HS5.out; clear hx HS4))
            all_goals go_roundw
            all_goals first
              | (simp [intOf]; omega)
              | exact ⟨k + 1, false, by omega, by go_num, congrArg Value.string HW2.out.symm, rfl, HZ2.out, HS5.out⟩
          · have hfi0 : ((tFin ts).losing keep (tornOf torn) k).2 = tornOf torn := HFI.out
            have hw2 := tWant_torn ts keep (tornOf torn) k h60 hlt hne htle hfi0
            rw [HWA.out, ← HTT.out, HX.out] at hw2
            have hz2 := (tears_torn ts keep (tornOf torn) h60 k hlt hne htle).2
            have HW2 := Lib.hid hw2
            have HZ2 := Lib.hid hz2
            clear hfi0 hw2 hz2 hne
            rcases torn_cases torn with ⟨h1, h3⟩ | ⟨h1, h3⟩ | ⟨h1, h2, h3⟩
            · have H3 := Lib.hid h3
              clear h3
              go_wp2_with (first
            | (go_at_call 11; have h9 := HS.out; clear HS hc1; refine (lsector_any _ _ hsz).mono ?_; rintro e w4 ⟨he, hb⟩; rw [HX.out] at he; subst he; have HS4 := Lib.hid (h9.after hb); clear hb h9)
            | (go_at_call 12; refine (HS4.out.writeK 5 5 rfl X rfl (by omega) HXS.out (by have := tDk_len ts k; omega) (by omega)).mono ?_; rintro e w5 ⟨rfl, hx, _⟩; rw [HDK.out] at hx; have HS5 := Lib.hid hx; have hck := HKC2.out w5 HS5.out; clear hx HS4))
              all_goals go_quiet (fail)
              all_goals go_wp2
              all_goals go_roundw
              all_goals first
                | (simp [intOf]; omega)
                | exact ⟨k + 1, false, by omega, by go_num, (by rw [← HW2.out, H3.out]; try (first | rfl | (congr 1; apply ByteArray.ext; simp))), rfl, HZ2.out, HS5.out.drewN _⟩
            · have H3 := Lib.hid h3
              clear h3
              go_wp2_with (first
            | (go_at_call 11; have h9 := HS.out; clear HS hc1; refine (lsector_any _ _ hsz).mono ?_; rintro e w4 ⟨he, hb⟩; rw [HX.out] at he; subst he; have HS4 := Lib.hid (h9.after hb); clear hb h9)
            | (go_at_call 12; refine (HS4.out.writeK 5 5 rfl X rfl (by omega) HXS.out (by have := tDk_len ts k; omega) (by omega)).mono ?_; rintro e w5 ⟨rfl, hx, _⟩; rw [HDK.out] at hx; have HS5 := Lib.hid hx; have hck := HKC2.out w5 HS5.out; clear hx HS4))
              all_goals go_quiet (fail)
              all_goals go_wp2
              all_goals go_roundw
              all_goals first
                | (simp [intOf]; omega)
                | exact ⟨k + 1, false, by omega, by go_num, (by rw [← HW2.out, H3.out]; try (first | rfl | (congr 1; apply ByteArray.ext; simp))), rfl, HZ2.out, HS5.out.drewN _⟩
            · obtain ⟨tn, rfl, h4⟩ := h3
              have h3 := h4
              have H3 := Lib.hid h3
              clear h3 h4
              go_wp2_with (first
            | (go_at_call 11; have h9 := HS.out; clear HS hc1; refine (lsector_any _ _ hsz).mono ?_; rintro e w4 ⟨he, hb⟩; rw [HX.out] at he; subst he; have HS4 := Lib.hid (h9.after hb); clear hb h9)
            | (go_at_call 12; refine (HS4.out.writeK 5 5 rfl X rfl (by omega) HXS.out (by have := tDk_len ts k; omega) (by omega)).mono ?_; rintro e w5 ⟨rfl, hx, _⟩; rw [HDK.out] at hx; have HS5 := Lib.hid hx; have hck := HKC2.out w5 HS5.out; clear hx HS4))
              all_goals go_quiet (fail)
              all_goals go_wp2
              all_goals go_roundw
              all_goals first
                | (simp [intOf]; omega)
                | exact ⟨k + 1, false, by omega, by go_num, (by rw [← HW2.out, H3.out]; try (first | rfl | (congr 1; apply ByteArray.ext; simp))), rfl, HZ2.out, HS5.out.drewN _⟩
      · have hkn : k = ts.length := by omega
        have hd : tDk ts k = tFin ts := by rw [hkn, tDk_all]
        have h60 : ts.length ≤ 60 := by omega
        have hs2 := HS.out
        rw [hd] at hs2
        have HS2 := Lib.hid hs2
        have hx5 := tears_reads5 ts keep torn k hkn
        have hx4 := tears_reads4 ts keep torn h60
        have HX5 := Lib.hid hx5
        have HX4 := Lib.hid hx4
        obtain ⟨WA, hWA⟩ : ∃ W, tWant ts keep (tornOf torn) k = W := ⟨_, rfl⟩
        rw [hWA]
        have HWA := Lib.hid hWA
        obtain ⟨SZ, hSZ⟩ : ∃ x, secOf ⟨#[]⟩ = x := ⟨_, rfl⟩
        have HSZ := Lib.hid hSZ
        clear hs2 hd hx5 hx4 hWA hSZ HS
        go_wp2_with (first
          | (go_at_call 13; have h9 := HS2.out; clear HS2; refine (h9.loseK ka keep.length kc keep rfl torn ((HKP.out.at_ (Nat.le_trans hb1.size h9.g0) (hb1.trans (h9.bel.mono hb1.size))))).mono ?_; rintro e w6 ⟨rfl, hx, _⟩; have HS3 := Lib.hid hx; clear hx h9)
          | (go_at_call 14; have h9 := HS3.out; clear HS3; refine (h9.readK 5 5 rfl rfl (by omega)).mono ?_; rintro e w7 ⟨he, hx, _⟩; rw [HX5.out, HWA.out] at he; subst he; have HS4 := Lib.hid hx; clear hx h9)
          | (go_at_call 14; have h9 := HS4.out; clear HS4; refine (h9.readK 4 4 rfl rfl (by omega)).mono ?_; rintro e w8 ⟨he, hx, _⟩; rw [HX4.out, HSZ.out] at he; subst he; have HS5 := Lib.hid hx; clear hx h9)
          | (go_at_call 11; have h9 := HS5.out; clear HS5; refine (lsector_any _ _ (by decide)).mono ?_; rintro e w9 ⟨he, hb⟩; rw [HSZ.out] at he; subst he; have HS6 := Lib.hid (h9.after hb); clear hb h9))
        go_ret
        have hbx := HS6.out.bel
        exact ⟨rfl, hb1.trans (hbx.mono hb1.size)⟩
  · obtain ⟨_, b0, o0, hta, _⟩ := HTX.out 0 (by omega)
    subst hta
    obtain ⟨ts, hts⟩ : ∃ ts, ts = texts.take 60 := ⟨_, rfl⟩
    have htl : ts.length = 60 := by rw [hts, List.length_take]; omega
    have HTS := Lib.hid (show StrsAt w (some ⟨b0, o0, none⟩) ts by rw [hts]; exact HTX.out.take 60)
    have h60c : (60 : Int) ≤ (tc : Int) := by omega
    clear hts
    go_enter Try.func3, Try.ntmps3
    go_wp2_with (first
      | (go_at_call 9; refine (known_any _).mono ?_; rintro e w1 ⟨rfl, hb1⟩)
      | (go_at_call 10; refine (rack_any _).mono ?_; rintro e w2 ⟨p, d, gh, rfl, hp1, hp2, hp3, hp4, hp5, hp6⟩; have S0 := Lib.hid (show St w1 p d gh (onP 0) 8 (Dk.fresh 8) w2 from ⟨hp4, kP0_ok, ⟨_, hp5, by simp [Value.ownBlock]⟩, Dk.fresh_ok (by omega) (by omega), hp6, hp1, hp2, hp3⟩); clear hp1 hp2 hp3 hp4 hp5 hp6)
      | (go_at_call 11; refine (lsector_any _ _ (by decide)).mono ?_; rintro e w3 ⟨he, hb⟩; have S1 := Lib.hid (S0.out.after hb); rw [← tWant_zero ts keep (tornOf torn)] at he; subst he; clear hb S0))
    go_loopw [10, 11, 12] (fun wn fi i wr => ∃ (k : Nat) (f : Bool), k ≤ ts.length ∧ i = .int .i64 k ∧ wn = .string (tWant ts keep (tornOf torn) k) ∧ fi = .bool f ∧ ((tFin ts).losing keep (tornOf torn) k).2 = (if f then tornOf torn else 0) ∧ St w1 p d gh (onP k) 8 (tDk ts k) wr) (fun _ _ i _ => 60 - (intOf i).toNat)
    case atStart => exact ⟨0, true, by omega, rfl, rfl, rfl, rfl, S1.out⟩
    case round =>
      clear S1
      obtain ⟨k, f, hk, rfl, rfl, rfl, hfi, hs⟩ := hrel
      have HS := Lib.hid hs
      have HFI := Lib.hid hfi
      clear hs hfi
      by_cases hlt : k < ts.length
      · obtain ⟨hsz, b, o, hao, hcell⟩ := HTS.out k hlt
        cases hao
        obtain ⟨t, htt⟩ : ∃ t, t = ts[k] := ⟨_, rfl⟩
        have htd := tDk_succ ts k hlt
        rw [← htt] at hsz hcell htd
        have hc1 := HS.out.arg hb1 hcell
        have HTT := Lib.hid htt
        obtain ⟨X, hX⟩ : ∃ X, secOf t = X := ⟨_, rfl⟩
        have hXs : X.size = 64 := by rw [← hX]; exact secOf_size t
        rw [hX] at htd
        have HDK := Lib.hid htd
        have HXS := Lib.hid hXs
        have HX := Lib.hid hX
        obtain ⟨WA, hWA⟩ : ∃ W, tWant ts keep (tornOf torn) k = W := ⟨_, rfl⟩
        have hWs : WA.size = 64 := by rw [← hWA]; exact tWant_size ts keep _ k (by omega)
        rw [hWA]
        have HWA := Lib.hid hWA
        clear hcell htt hX htd hWA
        have hkeep : (k < keep.length ∧ ∃ kb ko, ka = some ⟨kb, ko, none⟩ ∧ ∃ b, keep[k]? = some b ∧ w.cell? ⟨kb, ko + k, none⟩ = some (.bool b)) ∨ (¬ k < keep.length ∧ keep[k]? = none) := by
          by_cases hkk : k < keep.length
          · obtain ⟨kb, ko, e1, e3⟩ := HKP.out k hkk
            exact Or.inl ⟨hkk, kb, ko, e1, keep[k], by rw [List.getElem?_eq_getElem hkk], e3⟩
          · exact Or.inr ⟨hkk, List.getElem?_eq_none (by omega)⟩
        have htle := tornOf_le torn
        have h60 : ts.length ≤ 60 := by omega
        rcases hkeep with ⟨hkk, kb, ko, rfl, b2, hb2, hb3⟩ | ⟨hkk, hb2⟩
        · have HB := Lib.hid hb2
          have HKC : ∀ wx, St w1 p d gh (onP ((k : Int) + 1)) 8 (tDk ts (k + 1)) wx → wx.cell? ⟨kb, ko + k, none⟩ = some (.bool b2) := fun wx hx => hx.arg hb1 hb3
          have HKC2 := Lib.hid HKC
          clear hb2 hb3 HKC
          cases b2
          · skip
            have hne : keep[k]? ≠ some true := by rw [HB.out]; decide
            cases f
            · have hfi0 : ((tFin ts).losing keep (tornOf torn) k).2 = 0 := HFI.out
              have hw2 := tWant_none ts keep (tornOf torn) k h60 hlt hne htle hfi0
              rw [HWA.out] at hw2
              have hz2 := (tears_torn ts keep (tornOf torn) h60 k hlt hne htle).2
              have HW2 := Lib.hid hw2
              have HZ2 := Lib.hid hz2
              clear hfi0 hw2 hz2 hne
              go_wp2_with (first
            | (go_at_call 11; have h9 := HS.out; clear HS hc1; refine (lsector_any _ _ hsz).mono ?_; rintro e w4 ⟨he, hb⟩; rw [HX.out] at he; subst he; have HS4 := Lib.hid (h9.after hb); clear hb h9)
            | (go_at_call 12; refine (HS4.out.writeK 5 5 rfl X rfl (by omega) HXS.out (by have := tDk_len ts k; omega) (by omega)).mono ?_; rintro e w5 ⟨rfl, hx, _⟩; rw [HDK.out] at hx; have HS5 := Lib.hid hx; have hck := HKC2.out w5 HS5.out; clear hx HS4))
              all_goals go_roundw
              all_goals first
                | (simp [intOf]; omega)
                | exact ⟨k + 1, false, by omega, by go_num, congrArg Value.string HW2.out.symm, rfl, HZ2.out, HS5.out⟩
            · have hfi0 : ((tFin ts).losing keep (tornOf torn) k).2 = tornOf torn := HFI.out
              have hw2 := tWant_torn ts keep (tornOf torn) k h60 hlt hne htle hfi0
              rw [HWA.out, ← HTT.out, HX.out] at hw2
              have hz2 := (tears_torn ts keep (tornOf torn) h60 k hlt hne htle).2
              have HW2 := Lib.hid hw2
              have HZ2 := Lib.hid hz2
              clear hfi0 hw2 hz2 hne
              rcases torn_cases torn with ⟨h1, h3⟩ | ⟨h1, h3⟩ | ⟨h1, h2, h3⟩
              · have H3 := Lib.hid h3
                clear h3
                go_wp2_with (first
            | (go_at_call 11; have h9 := HS.out; clear HS hc1; refine (lsector_any _ _ hsz).mono ?_; rintro e w4 ⟨he, hb⟩; rw [HX.out] at he; subst he; have HS4 := Lib.hid (h9.after hb); clear hb h9)
            | (go_at_call 12; refine (HS4.out.writeK 5 5 rfl X rfl (by omega) HXS.out (by have := tDk_len ts k; omega) (by omega)).mono ?_; rintro e w5 ⟨rfl, hx, _⟩; rw [HDK.out] at hx; have HS5 := Lib.hid hx; have hck := HKC2.out w5 HS5.out; clear hx HS4))
                all_goals go_quiet (fail)
                all_goals go_wp2
                all_goals go_roundw
                all_goals first
                  | (simp [intOf]; omega)
                  | exact ⟨k + 1, false, by omega, by go_num, (by rw [← HW2.out, H3.out]; try (first | rfl | (congr 1; apply ByteArray.ext; simp))), rfl, HZ2.out, HS5.out.drewN _⟩
              · have H3 := Lib.hid h3
                clear h3
                go_wp2_with (first
            | (go_at_call 11; have h9 := HS.out; clear HS hc1; refine (lsector_any _ _ hsz).mono ?_; rintro e w4 ⟨he, hb⟩; rw [HX.out] at he; subst he; have HS4 := Lib.hid (h9.after hb); clear hb h9)
            | (go_at_call 12; refine (HS4.out.writeK 5 5 rfl X rfl (by omega) HXS.out (by have := tDk_len ts k; omega) (by omega)).mono ?_; rintro e w5 ⟨rfl, hx, _⟩; rw [HDK.out] at hx; have HS5 := Lib.hid hx; have hck := HKC2.out w5 HS5.out; clear hx HS4))
                all_goals go_quiet (fail)
                all_goals go_wp2
                all_goals go_roundw
                all_goals first
                  | (simp [intOf]; omega)
                  | exact ⟨k + 1, false, by omega, by go_num, (by rw [← HW2.out, H3.out]; try (first | rfl | (congr 1; apply ByteArray.ext; simp))), rfl, HZ2.out, HS5.out.drewN _⟩
              · obtain ⟨tn, rfl, h4⟩ := h3
                have h3 := h4
                have H3 := Lib.hid h3
                clear h3 h4
                go_wp2_with (first
            | (go_at_call 11; have h9 := HS.out; clear HS hc1; refine (lsector_any _ _ hsz).mono ?_; rintro e w4 ⟨he, hb⟩; rw [HX.out] at he; subst he; have HS4 := Lib.hid (h9.after hb); clear hb h9)
            | (go_at_call 12; refine (HS4.out.writeK 5 5 rfl X rfl (by omega) HXS.out (by have := tDk_len ts k; omega) (by omega)).mono ?_; rintro e w5 ⟨rfl, hx, _⟩; rw [HDK.out] at hx; have HS5 := Lib.hid hx; have hck := HKC2.out w5 HS5.out; clear hx HS4))
                all_goals go_quiet (fail)
                all_goals go_wp2
                all_goals go_roundw
                all_goals first
                  | (simp [intOf]; omega)
                  | exact ⟨k + 1, false, by omega, by go_num, (by rw [← HW2.out, H3.out]; try (first | rfl | (congr 1; apply ByteArray.ext; simp))), rfl, HZ2.out, HS5.out.drewN _⟩
          · have hkt := tears_kept ts keep (tornOf torn) h60 k hlt HB.out
            have HW2 := Lib.hid (show tWant ts keep (tornOf torn) (k + 1) = X by rw [← HX.out, HTT.out]; exact hkt.1)
            have HZ2 := Lib.hid (hkt.2.trans HFI.out)
            clear hkt
            go_wp2_with (first
            | (go_at_call 11; have h9 := HS.out; clear HS hc1; refine (lsector_any _ _ hsz).mono ?_; rintro e w4 ⟨he, hb⟩; rw [HX.out] at he; subst he; have HS4 := Lib.hid (h9.after hb); clear hb h9)
            | (go_at_call 12; refine (HS4.out.writeK 5 5 rfl X rfl (by omega) HXS.out (by have := tDk_len ts k; omega) (by omega)).mono ?_; rintro e w5 ⟨rfl, hx, _⟩; rw [HDK.out] at hx; have HS5 := Lib.hid hx; have hck := HKC2.out w5 HS5.out; clear hx HS4))
            all_goals go_roundw
            all_goals first
              | (simp [intOf]; omega)
              | exact ⟨k + 1, f, by omega, by go_num, congrArg Value.string HW2.out.symm, rfl, HZ2.out, HS5.out⟩
        · have HB := Lib.hid hb2
          have HKC2 := Lib.hid (show ∀ wx, St w1 p d gh (onP ((k : Int) + 1)) 8 (tDk ts (k + 1)) wx → True from fun _ _ => trivial)
          clear hb2
          have hne : keep[k]? ≠ some true := by rw [HB.out]; decide
          cases f
          · have hfi0 : ((tFin ts).losing keep (tornOf torn) k).2 = 0 := HFI.out
            have hw2 := tWant_none ts keep (tornOf torn) k h60 hlt hne htle hfi0
            rw [HWA.out] at hw2
            have hz2 := (tears_torn ts keep (tornOf torn) h60 k hlt hne htle).2
            have HW2 := Lib.hid hw2
            have HZ2 := Lib.hid hz2
            clear hfi0 hw2 hz2 hne
            go_wp2_with (first
            | (go_at_call 11; have h9 := HS.out; clear HS hc1; refine (lsector_any _ _ hsz).mono ?_; rintro e w4 ⟨he, hb⟩; rw [HX.out] at he; subst he; have HS4 := Lib.hid (h9.after hb); clear hb h9)
            | (go_at_call 12; refine (HS4.out.writeK 5 5 rfl X rfl (by omega) HXS.out (by have := tDk_len ts k; omega) (by omega)).mono ?_; rintro e w5 ⟨rfl, hx, _⟩; rw [HDK.out] at hx; have HS5 := Lib.hid hx; have hck := HKC2.out w5 HS5.out; clear hx HS4))
            all_goals go_roundw
            all_goals first
              | (simp [intOf]; omega)
              | exact ⟨k + 1, false, by omega, by go_num, congrArg Value.string HW2.out.symm, rfl, HZ2.out, HS5.out⟩
          · have hfi0 : ((tFin ts).losing keep (tornOf torn) k).2 = tornOf torn := HFI.out
            have hw2 := tWant_torn ts keep (tornOf torn) k h60 hlt hne htle hfi0
            rw [HWA.out, ← HTT.out, HX.out] at hw2
            have hz2 := (tears_torn ts keep (tornOf torn) h60 k hlt hne htle).2
            have HW2 := Lib.hid hw2
            have HZ2 := Lib.hid hz2
            clear hfi0 hw2 hz2 hne
            rcases torn_cases torn with ⟨h1, h3⟩ | ⟨h1, h3⟩ | ⟨h1, h2, h3⟩
            · have H3 := Lib.hid h3
              clear h3
              go_wp2_with (first
            | (go_at_call 11; have h9 := HS.out; clear HS hc1; refine (lsector_any _ _ hsz).mono ?_; rintro e w4 ⟨he, hb⟩; rw [HX.out] at he; subst he; have HS4 := Lib.hid (h9.after hb); clear hb h9)
            | (go_at_call 12; refine (HS4.out.writeK 5 5 rfl X rfl (by omega) HXS.out (by have := tDk_len ts k; omega) (by omega)).mono ?_; rintro e w5 ⟨rfl, hx, _⟩; rw [HDK.out] at hx; have HS5 := Lib.hid hx; have hck := HKC2.out w5 HS5.out; clear hx HS4))
              all_goals go_quiet (fail)
              all_goals go_wp2
              all_goals go_roundw
              all_goals first
                | (simp [intOf]; omega)
                | exact ⟨k + 1, false, by omega, by go_num, (by rw [← HW2.out, H3.out]; try (first | rfl | (congr 1; apply ByteArray.ext; simp))), rfl, HZ2.out, HS5.out.drewN _⟩
            · have H3 := Lib.hid h3
              clear h3
              go_wp2_with (first
            | (go_at_call 11; have h9 := HS.out; clear HS hc1; refine (lsector_any _ _ hsz).mono ?_; rintro e w4 ⟨he, hb⟩; rw [HX.out] at he; subst he; have HS4 := Lib.hid (h9.after hb); clear hb h9)
            | (go_at_call 12; refine (HS4.out.writeK 5 5 rfl X rfl (by omega) HXS.out (by have := tDk_len ts k; omega) (by omega)).mono ?_; rintro e w5 ⟨rfl, hx, _⟩; rw [HDK.out] at hx; have HS5 := Lib.hid hx; have hck := HKC2.out w5 HS5.out; clear hx HS4))
              all_goals go_quiet (fail)
              all_goals go_wp2
              all_goals go_roundw
              all_goals first
                | (simp [intOf]; omega)
                | exact ⟨k + 1, false, by omega, by go_num, (by rw [← HW2.out, H3.out]; try (first | rfl | (congr 1; apply ByteArray.ext; simp))), rfl, HZ2.out, HS5.out.drewN _⟩
            · obtain ⟨tn, rfl, h4⟩ := h3
              have h3 := h4
              have H3 := Lib.hid h3
              clear h3 h4
              go_wp2_with (first
            | (go_at_call 11; have h9 := HS.out; clear HS hc1; refine (lsector_any _ _ hsz).mono ?_; rintro e w4 ⟨he, hb⟩; rw [HX.out] at he; subst he; have HS4 := Lib.hid (h9.after hb); clear hb h9)
            | (go_at_call 12; refine (HS4.out.writeK 5 5 rfl X rfl (by omega) HXS.out (by have := tDk_len ts k; omega) (by omega)).mono ?_; rintro e w5 ⟨rfl, hx, _⟩; rw [HDK.out] at hx; have HS5 := Lib.hid hx; have hck := HKC2.out w5 HS5.out; clear hx HS4))
              all_goals go_quiet (fail)
              all_goals go_wp2
              all_goals go_roundw
              all_goals first
                | (simp [intOf]; omega)
                | exact ⟨k + 1, false, by omega, by go_num, (by rw [← HW2.out, H3.out]; try (first | rfl | (congr 1; apply ByteArray.ext; simp))), rfl, HZ2.out, HS5.out.drewN _⟩
      · have hkn : k = ts.length := by omega
        have hd : tDk ts k = tFin ts := by rw [hkn, tDk_all]
        have h60 : ts.length ≤ 60 := by omega
        have hs2 := HS.out
        rw [hd] at hs2
        have HS2 := Lib.hid hs2
        have hx5 := tears_reads5 ts keep torn k hkn
        have hx4 := tears_reads4 ts keep torn h60
        have HX5 := Lib.hid hx5
        have HX4 := Lib.hid hx4
        obtain ⟨WA, hWA⟩ : ∃ W, tWant ts keep (tornOf torn) k = W := ⟨_, rfl⟩
        rw [hWA]
        have HWA := Lib.hid hWA
        obtain ⟨SZ, hSZ⟩ : ∃ x, secOf ⟨#[]⟩ = x := ⟨_, rfl⟩
        have HSZ := Lib.hid hSZ
        clear hs2 hd hx5 hx4 hWA hSZ HS
        go_wp2_with (first
          | (go_at_call 13; have h9 := HS2.out; clear HS2; refine (h9.loseK ka keep.length kc keep rfl torn ((HKP.out.at_ (Nat.le_trans hb1.size h9.g0) (hb1.trans (h9.bel.mono hb1.size))))).mono ?_; rintro e w6 ⟨rfl, hx, _⟩; have HS3 := Lib.hid hx; clear hx h9)
          | (go_at_call 14; have h9 := HS3.out; clear HS3; refine (h9.readK 5 5 rfl rfl (by omega)).mono ?_; rintro e w7 ⟨he, hx, _⟩; rw [HX5.out, HWA.out] at he; subst he; have HS4 := Lib.hid hx; clear hx h9)
          | (go_at_call 14; have h9 := HS4.out; clear HS4; refine (h9.readK 4 4 rfl rfl (by omega)).mono ?_; rintro e w8 ⟨he, hx, _⟩; rw [HX4.out, HSZ.out] at he; subst he; have HS5 := Lib.hid hx; clear hx h9)
          | (go_at_call 11; have h9 := HS5.out; clear HS5; refine (lsector_any _ _ (by decide)).mono ?_; rintro e w9 ⟨he, hb⟩; rw [HSZ.out] at he; subst he; have HS6 := Lib.hid (h9.after hb); clear hb h9))
        go_ret
        have hbx := HS6.out.bel
        exact ⟨rfl, hb1.trans (hbx.mono hb1.size)⟩
end Go.Proofs.Ythppnjmepeeejaa
