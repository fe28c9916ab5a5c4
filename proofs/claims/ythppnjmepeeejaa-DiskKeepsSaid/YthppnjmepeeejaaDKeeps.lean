/-
  The walk of the law DiskKeeps.
-/
import Derived.Test.YthppnjmepeeejaaKnown
import Derived.Test.YthppnjmepeeejaaDstK
import Derived.Test.YthppnjmepeeejaaDArgs
namespace Go.Proofs.Ythppnjmepeeejaa
open Go.RowKit
theorem StrsAt.after {w w' : World} {a : Option Addr} {ss : List ByteArray} (h : StrsAt w a ss) (hb : Below w.heap.size w w') : StrsAt w' a ss := fun i hi => by
  obtain ⟨hs, b, o, ha, hc⟩ := h i hi
  exact ⟨hs, b, o, ha, (hb.cell (p := ⟨b, o + i, none⟩) (cell_lt hc)).trans hc⟩
/-- the array of what is wanted -/
def wantL (W : List ByteArray) : List Value := W.map Value.string
theorem wantL_set (W : List ByteArray) (j : Nat) (s : ByteArray) : (wantL W).set j (.string s) = wantL (W.set j s) := by simp [wantL, List.map_set]
theorem wantL_get (W : List ByteArray) (j : Nat) (h : j < W.length) : (wantL W)[j]? = some (.string W[j]) := by simp [wantL, h]
theorem St.arg {w w1 wx : World} {p d gh n : Nat} {P : Pw} {D : Dk} (S : St w1 p d gh P n D wx) (hb : Below w.heap.size w w1) {a : Addr} {v : Value} (hc : w.cell? a = some v) : wx.cell? a = some v :=
  ((hb.trans (S.bel.mono hb.size)).cell (cell_lt hc)).trans hc
def initW (k : Nat) : List ByteArray := (List.range 8).map fun j => if j < k then secOf ⟨#[]⟩ else ⟨#[]⟩
theorem initW_length (k : Nat) : (initW k).length = 8 := by simp [initW]
theorem initW_get (k j : Nat) (h : j < 8) : (initW k)[j]'(by rw [initW_length]; exact h) = if j < k then secOf ⟨#[]⟩ else ⟨#[]⟩ := by simp [initW]
theorem initW_succ (k : Nat) (_h : k < 8) : (initW k).set k (secOf ⟨#[]⟩) = initW (k + 1) := by
  apply List.ext_getElem
  · simp [initW_length]
  · intro i h1 h2
    have hi : i < 8 := by rw [initW_length] at h2; exact h2
    rw [List.getElem_set, initW_get (k + 1) i hi]
    by_cases e : k = i
    · subst e; simp
    · rw [if_neg e, initW_get k i hi]
      by_cases e2 : i < k
      · rw [if_pos e2, if_pos (by omega)]
      · rw [if_neg e2, if_neg (by omega)]
/-- what the sectors read as is what is wanted -/
def Wants (D : Dk) (W : List ByteArray) : Prop := W.length = 8 ∧ ∀ j (h : j < W.length), D.reads j = W[j]
theorem Wants.fresh : Wants (Dk.fresh 8) (initW 8) := by
  refine ⟨initW_length 8, fun j h => ?_⟩
  have hj : j < 8 := by rw [initW_length] at h; exact h
  rw [initW_get 8 j hj, if_pos hj]
  unfold Dk.reads Dk.fresh
  simp only [List.foldl_nil]
  unfold Dk.lasts
  simp only [List.drop_replicate, List.take_replicate]
  rw [show min 64 (64 * 8 - j * 64) = 64 from by omega]
  exact kS.symm
theorem Wants.write {D : Dk} {W : List ByteArray} (h : Wants D W) (a : Nat) (s : ByteArray) : Wants { D with wait := D.wait ++ [(a, s)] } (W.set a s) := by
  obtain ⟨h1, h2⟩ := h
  refine ⟨by simp [h1], fun j hj => ?_⟩
  have hj2 : j < W.length := by simpa using hj
  have := h2 j hj2
  rw [List.getElem_set, reads_eq]
  show readsOf (D.wait ++ [(a, s)]) j (D.lasts j) = _
  rw [readsOf_snoc]
  by_cases e : a = j
  · rw [if_pos e, if_pos e]
  · rw [if_neg e, if_neg e, ← reads_eq, this]
theorem Wants.flush {D : Dk} {W : List ByteArray} (h : Wants D W) {n : Nat} (ok : D.ok n) : Wants D.flushed W := ⟨h.1, fun j hj => by rw [flushed_reads ok]; exact h.2 j hj⟩
theorem Wants.lose {D D' : Dk} {W : List ByteArray} (h : Wants D W) (hw : D.wait = []) (hh : D'.has = D.has) : Wants (D'.lost [] 0) W := by
  refine ⟨h.1, fun j hj => ?_⟩
  rw [lost_none, ← h.2 j hj, reads_eq, reads_eq, hw]
  show D'.lasts j = D.lasts j
  rw [lasts_eq, lasts_eq, hh]
theorem St.flushW {w0 : World} {p d gh : Nat} {c : Int} {D : Dk} {w : World} (h : St w0 p d gh (onP c) 8 D w) (hd : D.dead = false) (hacts : c < 4611686018427387904) {W : List ByteArray} (hw : Wants D W) {r : Nat} {L : List Value} (hr : Row w r 37 L) :
    Calls Try.prog 15 #[.pointer (some ⟨d, 0, none⟩)] w fun e w' => ∃ D' : Dk, e = .returned .nilIface ∧ D'.wait = [] ∧ D'.dead = false ∧ Wants D' W ∧ St w0 p d gh (onP (c + 1)) 8 D' w' ∧ Row w' r 37 L := by
  refine (h.flushK hd hacts).mono ?_
  rintro e w' ⟨D', rfl, rfl, hx, hk⟩
  exact ⟨D.flushed, rfl, rfl, hd, hw.flush h.ok, hx, hk _ _ hr⟩
theorem reads_wrote (D : Dk) (a : Nat) (s : ByteArray) : Dk.reads { D with wait := D.wait ++ [(a, s)] } a = s := by
  rw [reads_eq]
  show readsOf (D.wait ++ [(a, s)]) a _ = s
  rw [readsOf_snoc, if_pos rfl]
theorem St.loseW {w0 : World} {p d gh : Nat} {c : Int} {D D0 : Dk} {w : World} (h : St w0 p d gh (onP c) 8 D w) (hd : D.dead = false) {W : List ByteArray} (hw : Wants D0 W) (hw0 : D0.wait = []) (hh : D.has = D0.has) {r : Nat} {L : List Value} (hr : Row w r 37 L) :
    Calls Try.prog 13 #[.pointer (some ⟨d, 0, none⟩), .slice none 0 0, .int .i64 0] w fun e w' => ∃ D' : Dk, e = .returned (.tuple #[]) ∧ D'.wait = [] ∧ D'.dead = false ∧ Wants D' W ∧ St w0 p d gh (onP c) 8 D' w' ∧ Row w' r 37 L := by
  refine (h.loseK none 0 0 [] rfl 0 (fun i hi => by simp at hi)).mono ?_
  rintro e w' ⟨rfl, hx, hk⟩
  exact ⟨D.lost [] 0, rfl, rfl, hd, hw.lose hw0 hh, hx, hk _ _ hr⟩
theorem join_sec (l : List UInt8) (k : Nat) : (⟨(l.take (64 * k)).toArray⟩ : ByteArray) ++ ⟨(sec l k).toArray⟩ = ⟨(l.take (64 * (k + 1))).toArray⟩ := by
  rw [take_sec]
  apply ByteArray.ext
  simp
set_option maxRecDepth 100000 in
set_option maxHeartbeats 1600000 in
theorem keeps_walk (fa : Option Addr) (fc : Nat) (first : List ByteArray) (la : Option Addr) (lc : Nat) (lost : List ByteArray) (w : World) (hf : StrsAt w fa first) (hl : StrsAt w la lost) :
    Calls Try.prog 4 #[.slice fa first.length fc, .slice la lost.length lc] w fun e w' => e = .returned (.bool true) ∧ Below w.heap.size w w' := by
  have HFI := Lib.hid hf
  have HLO := Lib.hid hl
  clear hf hl
  go_enter Try.func4, Try.ntmps4
  go_wp2_with (first
    | (go_at_call 9; refine (known_any _).mono ?_; rintro e w1 ⟨rfl, hb1⟩)
    | (go_at_call 10; refine (rack_any _).mono ?_; rintro e w2 ⟨p, d, gh, rfl, hp1, hp2, hp3, hp4, hp5, hp6⟩; have S0 := Lib.hid (show St w1 p d gh kP0 8 (Dk.fresh 8) w2 from ⟨hp4, kP0_ok, ⟨_, hp5, by simp [Value.ownBlock]⟩, Dk.fresh_ok (by omega) (by omega), hp6, hp1, hp2, hp3⟩); clear hp1 hp2 hp3 hp4 hp5 hp6))
  obtain ⟨r, hrr⟩ : ∃ r, r = w2.heap.size := ⟨_, rfl⟩
  have hrow0 := Row.new w2 37 (wantL (initW 0))
  have S1 := S0.out.after ((Below.refl _ w2).alloc (Nat.le_refl _) (.cells (wantL (initW 0)).toArray 37))
  have hr0 : w1.heap.size ≤ r := by rw [hrr]; exact S0.out.bel.size
  obtain ⟨w3, hw3⟩ : ∃ w3, w3 = w2.alloc (.cells (wantL (initW 0)).toArray 37) := ⟨_, rfl⟩
  have hw3' : w2.alloc (.cells #[.string ⟨#[]⟩, .string ⟨#[]⟩, .string ⟨#[]⟩, .string ⟨#[]⟩, .string ⟨#[]⟩, .string ⟨#[]⟩, .string ⟨#[]⟩, .string ⟨#[]⟩] 37) = w3 := by rw [hw3]; rfl
  rw [hw3', ← hrr]
  rw [← hw3, ← hrr] at hrow0
  rw [← hw3] at S1
  have HW0 := Lib.hid hrow0
  have HS1 := Lib.hid S1
  clear hw3' hw3 hrow0 S1 S0 hrr
  go_loopw [9] (fun i wr => ∃ k : Nat, k ≤ 8 ∧ i = .int .i64 k ∧ St w1 p d gh (onP 0) 8 (Dk.fresh 8) wr ∧ Row wr r 37 (wantL (initW k))) (fun i _ => 8 - (intOf i).toNat)
  case atStart => exact ⟨0, by omega, rfl, HS1.out, HW0.out⟩
  case round =>
    obtain ⟨k, hk, rfl, hs, hrow⟩ := hrel
    have HS := Lib.hid hs
    have HR := Lib.hid hrow
    clear hs hrow
    by_cases hlt : k < 8
    · go_wp2_with (go_at_call 11; refine (lsector_any _ _ (by decide)).mono ?_; rintro e w4 ⟨rfl, hb⟩; have HS4 := Lib.hid (HS.out.after hb); have HR4 := Lib.hid (HR.out.after hb); have hfz := HR4.out.free (j := k) (by simp [wantL, initW]; exact hlt); have hc := HR4.out.cell (wantL_get (initW k) k (by rw [initW_length]; exact hlt)); clear hb)
      go_roundw
      case measure => simp [intOf]; omega
      case rel =>
        refine ⟨k + 1, by omega, by go_num, HS4.out.set HR4.out hr0 _ _, ?_⟩
        rw [← initW_succ k hlt, ← wantL_set]
        exact HR4.out.set _ _
    · have hk8 : k = 8 := by omega
      have HR8 := Lib.hid (show Row wr r 37 (wantL (initW 8)) from hk8 ▸ HR.out)
      clear HR hk8
      go_wp2
      go_loopw [10] (fun i wr => ∃ (k : Nat) (D : Dk) (W : List ByteArray), k ≤ first.length ∧ k ≤ 100 ∧ i = .int .i64 k ∧ St w1 p d gh (onP k) 8 D wr ∧ D.dead = false ∧ D.wait.length = k ∧ Wants D W ∧ Row wr r 37 (wantL W)) (fun i _ => 100 - (intOf i).toNat)
      case atStart => exact ⟨0, Dk.fresh 8, initW 8, by omega, by omega, rfl, HS.out, rfl, rfl, Wants.fresh, HR8.out⟩
      case round =>
        clear HS HR8 HS1 HW0
        obtain ⟨m, D, W, hm1, hm2, rfl, hs, hd, hwl, hwa, hrow⟩ := hrel
        have HS := Lib.hid hs
        have HR := Lib.hid hrow
        have HWA := Lib.hid hwa
        have HD := Lib.hid hd
        have HWL := Lib.hid hwl
        clear hs hrow hwa hd hwl
        by_cases hlt : m < first.length ∧ m < 100
        · obtain ⟨hlt1, hlt2⟩ := hlt
          obtain ⟨hsz, b, o, rfl, hcell⟩ := HFI.out m hlt1
          obtain ⟨t, htt⟩ : ∃ t, t = first[m] := ⟨_, rfl⟩
          rw [← htt] at hsz hcell
          have hc1 := HS.out.arg hb1 hcell
          have HCELL := Lib.hid hcell
          have h8 : m % 8 < 8 := Nat.mod_lt _ (by omega)
          clear hcell htt
          go_wp2_with (first
            | (go_at_call 11; have h9 := HS.out; clear HS hc1; refine (lsector_any _ _ hsz).mono ?_; rintro e w4 ⟨rfl, hb⟩; have HS4 := Lib.hid (h9.after hb); have HR4 := Lib.hid (HR.out.after hb); clear hb h9 HR)
            | (go_at_call 12; refine (HS4.out.writeK ((m : Int) % 8) (m % 8) (by omega) _ HD.out h8 (secOf_size _) (by rw [HWL.out]; omega) (by omega)).mono ?_; rintro e w5 ⟨rfl, hx, hk⟩; have HS5 := Lib.hid hx; have HR5 := Lib.hid (hk _ _ HR4.out); have hc5 := HS5.out.arg hb1 HCELL.out; clear hx hk HS4 HR4)
            | (go_at_call 11; have h9 := HS5.out; clear HS5 hc5; refine (lsector_any _ _ hsz).mono ?_; rintro e w6 ⟨rfl, hb⟩; have HS6 := Lib.hid (h9.after hb); have HR6 := Lib.hid (HR5.out.after hb); have hfz := HR6.out.free (j := m % 8) (by simp [wantL, HWA.out.1]; exact h8); have hcz := HR6.out.cell (wantL_get W (m % 8) (by rw [HWA.out.1]; exact h8)); clear hb h9 HR5))
          go_roundw
          case measure => simp [intOf]; omega
          case rel =>
            refine ⟨m + 1, { D with wait := D.wait ++ [(m % 8, secOf t)] }, W.set (m % 8) (secOf t), by omega, by omega, by go_num, HS6.out.set HR6.out hr0 _ _, HD.out, by simp [HWL.out], HWA.out.write _ _, ?_⟩
            rw [← wantL_set]
            exact HR6.out.set _ _
        · have hlt3 : ¬ m < first.length ∨ (m < first.length ∧ ¬ m < 100) := by omega
          clear hlt
          rcases hlt3 with hx1 | ⟨hx1, hx2⟩
          all_goals
            go_wp2_with (go_at_call 15; refine (HS.out.flushW HD.out (by omega) HWA.out HR.out).mono ?_; rintro e w7 ⟨DF, rfl, f1, f2, f3, f4, f5⟩; have HF1 := Lib.hid f1; have HF2 := Lib.hid f2; have HF3 := Lib.hid f3; have HSF := Lib.hid f4; have HRF := Lib.hid f5; clear f1 f2 f3 f4 f5 HS HR HD HWA)
            go_loopw [11] (fun i wr => ∃ (j : Nat) (D : Dk), j ≤ lost.length ∧ j ≤ 100 ∧ i = .int .i64 j ∧ St w1 p d gh (onP ((m : Int) + 1 + j)) 8 D wr ∧ D.dead = false ∧ D.wait.length = j ∧ D.has = DF.has ∧ Row wr r 37 (wantL W)) (fun i _ => 100 - (intOf i).toNat)
            case atStart => exact ⟨0, DF, by omega, by omega, rfl, by rw [show (m : Int) + 1 + (0 : Nat) = m + 1 from by omega]; exact HSF.out, HF2.out, by rw [HF1.out]; rfl, rfl, HRF.out⟩
            case round =>
              clear HSF HRF
              obtain ⟨j, D, hj1, hj2, rfl, hs, hd, hwl, hhas, hrow⟩ := hrel
              have HS := Lib.hid hs
              have HR := Lib.hid hrow
              have HD := Lib.hid hd
              have HWL := Lib.hid hwl
              have HH := Lib.hid hhas
              clear hs hrow hhas hd hwl
              by_cases hlt : j < lost.length ∧ j < 100
              · obtain ⟨hlt1, hlt2⟩ := hlt
                obtain ⟨hsz, b, o, rfl, hcell⟩ := HLO.out j hlt1
                obtain ⟨t, htt⟩ : ∃ t, t = lost[j] := ⟨_, rfl⟩
                rw [← htt] at hsz hcell
                have hc1 := HS.out.arg hb1 hcell
                have HCELL := Lib.hid hcell
                have h8 : j * 3 % 8 < 8 := Nat.mod_lt _ (by omega)
                obtain ⟨X, hX⟩ : ∃ X, secOf t = X := ⟨_, rfl⟩
                have hXs : X.size = 64 := by rw [← hX]; exact secOf_size t
                have HXS := Lib.hid hXs
                have HX := Lib.hid hX
                clear hcell htt hX hXs
                go_wp2_with (first
                  | (go_at_call 11; have h9 := HS.out; clear HS hc1; refine (lsector_any _ _ hsz).mono ?_; rintro e w4 ⟨he, hb⟩; rw [HX.out] at he; subst he; have HS4 := Lib.hid (h9.after hb); have HR4 := Lib.hid (HR.out.after hb); clear hb h9 HR)
                  | (go_at_call 12; refine (HS4.out.writeK ((j : Int) * 3 % 8) (j * 3 % 8) (by omega) X HD.out h8 HXS.out (by rw [HWL.out]; omega) (by omega)).mono ?_; rintro e w5 ⟨rfl, hx, hk⟩; have HS5 := Lib.hid hx; have HR5 := Lib.hid (hk _ _ HR4.out); have hc5 := HS5.out.arg hb1 HCELL.out; clear hx hk HS4 HR4)
                  | (go_at_call 14; have h9 := HS5.out; clear HS5 hc5; refine (h9.readK ((j : Int) * 3 % 8) (j * 3 % 8) (by omega) HD.out h8).mono ?_; rintro e w6 ⟨he, hx, hk⟩; rw [reads_wrote] at he; subst he; have HS6 := Lib.hid hx; have HR6 := Lib.hid (hk _ _ HR5.out); have hc6 := HS6.out.arg hb1 HCELL.out; clear hx hk HR5 h9)
                  | (go_at_call 11; have h9 := HS6.out; clear HS6 hc6; refine (lsector_any _ _ hsz).mono ?_; rintro e w7 ⟨he, hb⟩; rw [HX.out] at he; subst he; have HS7 := Lib.hid (h9.after hb); have HR7 := Lib.hid (HR6.out.after hb); clear hb h9 HR6)
                  | (go_at_call 16; refine HS7.out.pending.mono ?_; rintro e w8 ⟨he, rfl⟩; rw [show (Dk.wait { D with wait := D.wait ++ [(j * 3 % 8, X)] }).length = j + 1 from by simp [HWL.out]] at he; subst he))
                go_roundw
                case measure => simp [intOf]; omega
                case rel =>
                  refine ⟨j + 1, { D with wait := D.wait ++ [(j * 3 % 8, X)] }, by omega, by omega, by go_num, ?_, HD.out, by simp [HWL.out], HH.out, HR7.out⟩
                  rw [show (m : Int) + 1 + ((j + 1 : Nat) : Int) = m + 1 + j + 1 from by omega]
                  exact HS7.out
              · have hlt3 : ¬ j < lost.length ∨ (j < lost.length ∧ ¬ j < 100) := by omega
                clear hlt
                rcases hlt3 with hy1 | ⟨hy1, hy2⟩
                all_goals
                  go_wp2_with (go_at_call 13; refine (HS.out.loseW HD.out HF3.out HF1.out HH.out HR.out).mono ?_; rintro e w9 ⟨DL, rfl, f1, f2, f3, f4, f5⟩; have HL1 := Lib.hid f1; have HL2 := Lib.hid f2; have HL3 := Lib.hid f3; have HSL := Lib.hid f4; have HRL := Lib.hid f5; clear f1 f2 f3 f4 f5 HS HR HD)
                  go_loopw [14, 15] (fun al i wr => ∃ (q : Nat), q ≤ 8 ∧ i = .int .i64 q ∧ al = .string ⟨(DL.has.take (64 * q)).toArray⟩ ∧ St w1 p d gh (onP ((m : Int) + 1 + j)) 8 DL wr ∧ Row wr r 37 (wantL W)) (fun _ i _ => 8 - (intOf i).toNat)
                  case atStart => exact ⟨0, by omega, rfl, rfl, HSL.out, HRL.out⟩
                  case round =>
                    clear HSL HRL
                    obtain ⟨q, hq, rfl, rfl, hs, hrow⟩ := hrel
                    have HS := Lib.hid hs
                    have HR := Lib.hid hrow
                    clear hs hrow
                    by_cases hlt : q < 8
                    · have hWl := HL3.out.1
                      have hWq := HL3.out.2 q (by omega)
                      obtain ⟨AQ, hAQ⟩ : ∃ A : ByteArray, (⟨(DL.has.take (64 * q)).toArray⟩ : ByteArray) = A := ⟨_, rfl⟩
                      obtain ⟨X, hX⟩ : ∃ X, DL.reads q = X := ⟨_, rfl⟩
                      have hnext : AQ ++ X = ⟨(DL.has.take (64 * (q + 1))).toArray⟩ := by
                        rw [← hAQ, ← hX, ← join_sec, reads_eq, HL1.out]; rfl
                      have hlen : DL.has.length = 512 := HS.out.ok.len
                      have hsA : AQ.size ≤ 512 := by
                        rw [← hAQ]
                        show ((DL.has.take (64 * q)).toArray).size ≤ 512
                        rw [List.size_toArray, List.length_take]; omega
                      have hsX : X.size ≤ 64 := by
                        rw [← hX, reads_eq, HL1.out]
                        show ((sec DL.has q).toArray).size ≤ 64
                        rw [List.size_toArray]; unfold sec; rw [List.length_take]; omega
                      rw [hX] at hWq
                      have hc1 := HR.out.cell (wantL_get W q (by omega))
                      rw [← hWq] at hc1
                      rw [hAQ]
                      have HX := Lib.hid hX
                      have HN := Lib.hid hnext
                      have HC := Lib.hid hc1
                      clear hX hnext hAQ hWq hWl hc1
                      go_wp2_with (go_at_call 14; have h9 := HS.out; clear HS; refine (h9.readK q q rfl HL2.out hlt).mono ?_; rintro e w10 ⟨he, hx, hk⟩; rw [HX.out] at he; subst he; have HS2 := Lib.hid hx; have HR2 := Lib.hid (hk _ _ HR.out); have hc2 := HR2.out.cell (wantL_get W q (by have := HL3.out.1; omega)); rw [show W[q]'(by have := HL3.out.1; omega) = X from by have := HL3.out.2 q (by have := HL3.out.1; omega); rw [← this]; exact HX.out] at hc2; clear hx hk h9 HR)
                      go_roundw
                      case measure => simp [intOf]; omega
                      case rel => exact ⟨q + 1, by omega, by go_num, congrArg Value.string HN.out, HS2.out, HR2.out⟩
                    · have hq8 : q = 8 := by omega
                      have himg : DL.image = ⟨(DL.has.take (64 * q)).toArray⟩ := by
                        rw [image_eq HL2.out, hq8, List.take_of_length_le (by rw [HS.out.ok.len]; exact Nat.le_refl _)]
                      obtain ⟨AQ, hAQ⟩ : ∃ A : ByteArray, (⟨(DL.has.take (64 * q)).toArray⟩ : ByteArray) = A := ⟨_, rfl⟩
                      rw [hAQ] at himg ⊢
                      have HI := Lib.hid himg
                      clear himg hAQ
                      go_wp2_with (first
                        | (go_at_call 17; refine HS.out.image.mono ?_; rintro e w11 ⟨he, rfl⟩; rw [HI.out] at he; subst he)
                        | (go_at_call 16; refine HS.out.pending.mono ?_; rintro e w12 ⟨he, rfl⟩; rw [show DL.wait.length = 0 from by rw [HL1.out]; rfl] at he; subst he))
                      go_ret
                      have hbx := HS.out.bel
                      exact ⟨rfl, hb1.trans (hbx.mono hb1.size)⟩
end Go.Proofs.Ythppnjmepeeejaa
