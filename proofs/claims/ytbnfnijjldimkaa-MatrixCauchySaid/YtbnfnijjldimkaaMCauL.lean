/-
  The walk of MatrixCauchy.
-/
import Derived.Test.YtbnfnijjldimkaaMapp2
import Derived.Test.YtbnfnijjldimkaaMArgs
import Derived.Deep.RegionHeld3
import Derived.Deep.DeepCutAuto
namespace Go.Proofs.Ytbnfnijjldimkaa
open Go.RowKit
set_option linter.unusedVariables false
set_option linter.unusedSimpArgs false
theorem intparts : (Try.prog.info? 3).map (fun i => (i.zero, i.size, i.bytes)) = some (some (.int .i64 0), 1, 8) := by kernel_rfl
theorem range_succ_cells (j : Nat) : icells (List.range j) ++ [.int .i64 (j : Int)] = icells (List.range (j + 1)) := by
  rw [List.range_succ, icells_append]; rfl
/-- what the second loop holds: what is left, what has been taken -/
structure CauS (W0 : World) (K n gl cl : Nat) (Lf Rw : List Nat) (rv : Value) (w : World) : Prop where
  len : Lf.length + n = K
  lenr : Rw.length = n
  nd : (Rw ++ Lf).Nodup
  lt : ∀ x, x ∈ Rw ++ Lf → x < K
  ints : IntsAt w gl 0 Lf
  own : w.ownsRow W0.heap.size 3 1 rv n (icells Rw)
  apart : rv.ownBlock ≠ some gl
  glt : gl < w.heap.size
  cap : Lf.length ≤ cl
  capm : cl ≤ maxLen
  bel : Below W0.heap.size W0 w
theorem CauS.next {W0 w w8 w9 : World} {K n gl cl q g2 c2 : Nat} {Lf Rw : List Nat} {rv rv' : Value} (h : CauS W0 K n gl cl Lf Rw rv w) (hq : q < Lf.length)
    (hown : w8.ownsRow W0.heap.size 3 1 rv' (n + 1) (icells Rw ++ [.int .i64 (Lf.getD q 0 : Int)])) (hb8 : Below W0.heap.size W0 w8)
    (hl : w9.ownsRow w8.heap.size 3 1 (.slice (some ⟨g2, 0, none⟩) (Lf.length - 1) c2) (Lf.length - 1) (icells (Lf.take q ++ Lf.drop (q + 1)))) (hb9 : Below w8.heap.size w8 w9) (h2 : 2 ≤ Lf.length) : CauS W0 K (n + 1) g2 c2 (Lf.take q ++ Lf.drop (q + 1)) (Rw ++ [Lf[q]]) rv' w9 := by
  have hll : (Lf.take q ++ Lf.drop (q + 1)).length = Lf.length - 1 := by rw [List.length_append, List.length_take, List.length_drop]; omega
  have hlen := h.len
  have hp := perm_pick Rw Lf q hq
  obtain ⟨g, hge, hgb, hc1, hc2⟩ := own_some hl (by omega)
  simp only [Option.some.injEq, Addr.mk.injEq] at hge
  obtain ⟨rfl, _, _⟩ := hge
  have hx : (Lf.getD q 0) = Lf[q] := by rw [List.getD_eq_getElem?_getD, List.getElem?_eq_getElem hq, Option.getD_some]
  refine ⟨by omega, by rw [List.length_append, h.lenr]; rfl, hp.nodup_iff.2 h.nd, fun x hx => h.lt x (hp.mem_iff.1 hx), IntsAt.own hl, ?_, ?_, ?_, by omega, hc2, hb8.trans (hb9.mono hb8.size)⟩
  · rw [icells_append]
    have e1 : icells [Lf[q]] = [.int .i64 (Lf.getD q 0 : Int)] := by rw [hx]; rfl
    rw [e1]
    exact ownsRow_fr hown (Fr.of_below (L := []) hb9) (by simp)
  · intro e
    rcases hown.2 with ⟨hv, _⟩ | ⟨g', cap, cur, hv, hbb, hh, _⟩
    · rw [hv] at e; cases e
    · rw [hv] at e
      simp only [Value.ownBlock, Option.some.injEq] at e
      have := (Array.getElem?_eq_some_iff.1 hh).1
      omega
  · rcases hl.2 with ⟨hv, h0⟩ | ⟨g', cap, cur, hv, hbb, hh, _⟩
    · omega
    · simp only [Value.slice.injEq, Option.some.injEq, Addr.mk.injEq] at hv
      rw [hv.1.1]
      exact (Array.getElem?_eq_some_iff.1 hh).1
/-- behind the first append of a round -/
structure CauR (W0 w : World) (gl : Nat) (Lf Rw : List Nat) (n y : Nat) (rv : Value) (w8 : World) : Prop where
  own : w8.ownsRow W0.heap.size 3 1 rv (n + 1) (icells Rw ++ [.int .i64 (y : Int)])
  ints : IntsAt w8 gl 0 Lf
  apart : rv.ownBlock ≠ some gl
  bel : Below W0.heap.size W0 w8
theorem CauR.mk' {W0 w w8 : World} {K n gl cl y : Nat} {Lf Rw : List Nat} {rv rv' : Value} {o : Obj} (h : CauS W0 K n gl cl Lf Rw rv w) (hown : w8.ownsRow W0.heap.size 3 1 rv' (n + 1) (icells Rw ++ [.int .i64 (y : Int)])) (hgr : (w.alloc o).grownBy w8 rv.ownBlock) (hat : rv'.ownBlock = rv.ownBlock ∨ rv'.ownBlock = some (w.alloc o).heap.size) : CauR W0 w gl Lf Rw n y rv' w8 := by
  have hz : (w.alloc o).heap.size = w.heap.size + 1 := by simp
  have hg := h.glt
  refine ⟨hown, fun j hj => ?_, ?_, own_grown_below (h.own.alloc o) (h.bel.alloc h.bel.size o) (Nat.le_trans h.bel.size (by omega)) hgr⟩
  · have h1 := IntsAt.fr h.ints ((Fr.refl [] w).alloc o) (by simp) j hj
    rw [hgr.cell_far ⟨gl, 0 + j, none⟩ (by show gl < _; omega) (fun e => h.apart e.symm)]
    exact h1
  · rcases hat with e | e
    · rw [e]; exact h.apart
    · rw [e, hz]
      intro e2
      simp only [Option.some.injEq] at e2
      omega
theorem pick_good {w w' : World} {r c : Nat} {A : Nat → Nat → BitVec 8} {L : List Int} {e : Ending} (hx : PickAns w r c A L e w') (h : ∀ i, i < L.length → 0 ≤ L.getD i 0 ∧ L.getD i 0 < r) : ∃ g, e = .returned (.tuple #[mval L.length c g, .nilIface]) ∧ MatRd w' g 0 L.length c (fun i j => A (L.getD i 0).toNat j) ∧ Below w.heap.size w w' := by
  obtain ⟨hx, hb⟩ := hx
  rcases hx with ⟨⟨i, hi, hn⟩, _⟩ | ⟨_, g, he, _, hrow⟩
  · exact absurd (h i hi) hn
  · exact ⟨g, he, MatRd.of_row0 hrow, hb⟩
theorem gen_und (k : Nat) : (fun i j => gen k i j) = undM k idm (cau k) := rfl
set_option maxRecDepth 100000 in
set_option maxHeartbeats 6400000 in
theorem cauchyl_any (kc mc : Int) (ca : Option Addr) (ccap : Nat) (Ch : List Int) (w : World) (k0 : -9223372036854775808 ≤ kc) (k1 : kc ≤ 9223372036854775807) (m0 : -9223372036854775808 ≤ mc) (m1 : mc ≤ 9223372036854775807)
    (hCh : RdI w ca Ch ∧ Ch.length ≤ maxLen ∧ ∀ x ∈ Ch, -9223372036854775808 ≤ x ∧ x ≤ 9223372036854775807) :
    Calls Try.prog 8 #[.int .i64 kc, .int .i64 mc, .slice ca Ch.length ccap] w fun e w' => e = .returned (.bool true) ∧ Below w.heap.size w w' := by
  obtain ⟨pk, hpk, hpk2⟩ := pick_nat kc 12 (by omega)
  obtain ⟨pm, hpm, hpm2⟩ := pick_nat mc 12 (by omega)
  obtain ⟨k, hk⟩ : ∃ N, N = pk + 1 := ⟨_, rfl⟩
  obtain ⟨m, hm⟩ : ∃ N, N = pm + 1 := ⟨_, rfl⟩
  obtain ⟨K, hK⟩ : ∃ N, N = k + m := ⟨_, rfl⟩
  have e1 : (1 : Int) + (pk : Int) = (k : Int) := by omega
  have e2 : (1 : Int) + (pm : Int) = (m : Int) := by omega
  have e3 : (k : Int) + (m : Int) = (K : Int) := by omega
  have a1 : 1 ≤ k := by omega
  have a2 : k ≤ 12 := by omega
  have a3 : 1 ≤ m := by omega
  have a4 : m ≤ 12 := by omega
  have a5 : K ≤ 24 := by omega
  have a6 : k < K := by omega
  obtain ⟨qi, hqi⟩ : ∃ q, q = k * k := ⟨_, rfl⟩
  obtain ⟨qc, hqc⟩ : ∃ q, q = m * k := ⟨_, rfl⟩
  obtain ⟨qa, hqa⟩ : ∃ q, q = K * k := ⟨_, rfl⟩
  have l1 : qi ≤ 12 * 12 := by rw [hqi]; exact Nat.mul_le_mul a2 a2
  have l2 : qc ≤ 12 * 12 := by rw [hqc]; exact Nat.mul_le_mul a4 a2
  have l3 : qa ≤ 24 * 12 := by rw [hqa]; exact Nat.mul_le_mul a5 a2
  obtain ⟨lc, hlc⟩ : ∃ n, n = Ch.length := ⟨_, rfl⟩
  obtain ⟨i9, hi0, hz0, hz1, hz2⟩ := info_parts intparts
  have lcm : lc ≤ 9223372036854775807 := by have := hCh.2.1; unfold maxLen at this; rw [hlc]; omega
  rw [← hlc]
  have S0 := Lib.hid (Bun.start w)
  have HPK := Lib.hid hpk
  have HPM := Lib.hid hpm
  have HK := Lib.hid hK
  have HQI := Lib.hid hqi
  have HQC := Lib.hid hqc
  have HQA := Lib.hid hqa
  have HLC := Lib.hid hlc
  have HCH := Lib.hid hCh
  clear hpk hpm hpk2 hpm2 hk hm hK hqi hqc hqa hlc hCh
  go_enter Try.func8, Try.ntmps8
  go_wp2_with (first
    | (go_at_call 9; have h9 := S0.out; clear S0; refine (known_any _).mono ?_; rintro e w1 ⟨rfl, hb⟩; have S1 := Lib.hid (h9.after hb); clear h9 hb)
    | (go_at_call 15; have h9 := S1.out; clear S1; refine (pick_any kc 12 _ k0 k1 (by omega) (by omega)).mono ?_; rintro e w2 ⟨rfl, rfl⟩; rw [show pickOf kc 12 = (pk : Int) from HPK.out]; have S2 := Lib.hid h9; clear h9)
    | (go_at_call 15; have h9 := S2.out; clear S2; refine (pick_any mc 12 _ m0 m1 (by omega) (by omega)).mono ?_; rintro e w2 ⟨rfl, rfl⟩; rw [show pickOf mc 12 = (pm : Int) from HPM.out]; have S3 := Lib.hid h9; clear h9)
    | (go_at_call 19; have h9 := S3.out; clear S3; refine (identity_ok k _ (by omega) (by omega)).mono ?_; rintro e w4 ⟨gi, he, hg, hrow, hb⟩; have he2 : e = .returned (.tuple #[.agg #[.int .i64 k, .int .i64 k, .slice (some ⟨gi, 0, none⟩) qi qi], .nilIface]) := (by rw [he, HQI.out]; rfl); subst he2; clear he; have hmm := ((h9.after hb).add (fun _ h => (MatRd.of_row0 hrow).after h)).box 24 [.int .i64 k, .int .i64 k, .slice (some ⟨gi, 0, none⟩) qi qi]; have S4 := Lib.hid hmm; clear h9 hb hrow hg hmm)
    | (go_at_call 22; have h9 := S4.out; clear S4; refine (cauchy_ok m k _ (by omega) (by omega) (by omega) (by omega) (by omega)).mono ?_; rintro e w5 ⟨gc, he, hg, hrow, hb⟩; have he2 : e = .returned (.tuple #[.agg #[.int .i64 m, .int .i64 k, .slice (some ⟨gc, 0, none⟩) qc qc], .nilIface]) := (by rw [he, HQC.out]; rfl); subst he2; clear he; have hmm := ((h9.after hb).add (fun _ h => (MatRd.of_row0 hrow).after h)).box 24 [.int .i64 m, .int .i64 k, .slice (some ⟨gc, 0, none⟩) qc qc]; obtain ⟨x0, x1, x2⟩ := box3 hmm.here.1.1.2; obtain ⟨y0, y1, y2⟩ := box3 hmm.here.2; have S5 := Lib.hid hmm; clear h9 hb hrow hg hmm)
    | (go_at_call 26; have h9 := S5.out; clear S5; refine (under_ok k m k gi 0 gc 0 qi qc qi qc idm (cau k) _ (by omega) (by omega) (by omega) (by omega) (by omega) HQI.out HQC.out h9.here.1.1.1.2 h9.here.1.2).mono ?_; rintro e w6 ⟨ga, he, hg, hrow, hb⟩; have he2 : e = .returned (.tuple #[.agg #[.int .i64 K, .int .i64 k, .slice (some ⟨ga, 0, none⟩) qa qa], .nilIface]) := (by rw [he, HQA.out, HK.out]; rfl); subst he2; clear he; rw [← HK.out] at hrow; have hmm := ((h9.after hb).add (fun _ h => (MatRd.of_row0 hrow).after h)).box 24 [.int .i64 K, .int .i64 k, .slice (some ⟨ga, 0, none⟩) qa qa]; have S6 := Lib.hid (hmm.map (fun x h => And.intro h.1.2 h.2)); clear h9 hb hrow hg hmm))
  obtain ⟨W0, hW0⟩ : ∃ W, W = w6.alloc (.cells #[.int .i64 K, .int .i64 k, .slice (some ⟨ga, 0, none⟩) qa qa] 24) := ⟨_, rfl⟩
  rw [← hW0]
  have S7 : Hid (Bun w (fun x => MatRd x ga 0 K k (undM k idm (cau k)) ∧ Row x w6.heap.size 24 [.int .i64 K, .int .i64 k, .slice (some ⟨ga, 0, none⟩) qa qa]) W0) := by rw [hW0]; exact S6
  clear S6 hW0
  go_loopw [14, 15] (fun lf ii wr => ∃ j : Nat, j ≤ K ∧ ii = .int .i64 j ∧ wr.ownsRow W0.heap.size 3 1 lf j (icells (List.range j)) ∧ Below W0.heap.size W0 wr) (fun _ ii _ => K - (intOf ii).toNat)
  case atStart => exact ⟨0, by omega, rfl, World.ownsRow_nil _ _ _ _, Below.refl _ _⟩
  case round =>
    obtain ⟨j, hj, rfl, hown, hbel⟩ := hrel
    by_cases hlt : j < K
    · have T1 := Lib.hid (And.intro hown hbel)
      have hz := hbel.size
      clear hown hbel
      go_wp2_with (at_builtin; refine wpList_append_own _ rfl (.tmp 68) (.tmp 70) 54 rfl W0.heap.size 3 i9 _ 1 8 Try.underlying54 hi0 hz0 hz1 hz2 rfl (by omega) _ j (icells (List.range j)) rfl (T1.out.1.alloc _) ⟨wr.heap.size, 0, none⟩ 1 1 [.int .i64 (j : Int)] rfl rfl (World.news_of_block (cs := #[.int .i64 (j : Int)]) (t := 3) (fr := (0, 0)) (heap_alloc_new wr _)) (by simp [Value.oneCell']) (by unfold maxLen; omega) (by omega) (Nat.le_trans hz (by simp)) ?_; intro v' w7 hown2 hgr2 hnil2; clear hnil2; have T2 := Lib.hid (And.intro hown2 (own_grown_below (T1.out.1.alloc _) (T1.out.2.alloc hz _) (Nat.le_trans hz (by simp)) hgr2)); clear hown2 hgr2)
      go_roundw
      case measure => simp [intOf]; omega
      case rel => exact ⟨j + 1, by omega, by go_num, by rw [← range_succ_cells]; exact T2.out.1, T2.out.2⟩
    · obtain rfl : K = j := by omega
      clear hlt hj
      obtain ⟨gl0, cl0, spl, rfl, g0, g1, g2, g3⟩ := own_row1 hown (by omega)
      have C0 : Hid (CauS W0 K 0 gl0 cl0 (List.range K) [] (.slice none 0 0) wr) := Lib.hid ⟨by simp, rfl, by simpa using List.nodup_range, fun x hx => by simpa using hx, IntsAt.own hown, World.ownsRow_nil _ _ _ _, by simp [Value.ownBlock], g3.lt, by simpa using g1, g2, hbel⟩
      clear hown hbel g0 g1 g2 g3
      go_wp2
      go_loopw [14, 16, 17] (fun lf rv nn wr => ∃ (n gl cl : Nat) (Lf Rw : List Nat), n ≤ k ∧ nn = .int .i64 n ∧ lf = .slice (some ⟨gl, 0, none⟩) Lf.length cl ∧ CauS W0 K n gl cl Lf Rw rv wr) (fun _ _ nn _ => k - (intOf nn).toNat)
      case atStart => exact ⟨0, gl0, cl0, List.range K, [], by omega, rfl, by rw [List.length_range], C0.out⟩
      case round =>
        clear C0
        obtain ⟨n, gl, cl, Lf, Rw, hn, rfl, rfl, hc⟩ := hrel
        obtain ⟨lL, hlL⟩ : ∃ l, l = Lf.length := ⟨_, rfl⟩
        rw [← hlL]
        by_cases hnk : n < k
        · have l24 : lL ≤ 24 := by have := hc.len; omega
          have l22 : 2 ≤ lL := by have := hc.len; omega
          have lcl : lL ≤ cl := by have := hc.cap; omega
          have lcm2 : cl ≤ 9223372036854775807 := by have := hc.capm; unfold maxLen at this; omega
          have hbz := hc.bel.size
          have S := Lib.hid hc
          have HLL := Lib.hid hlL
          clear hc hlL
          go_upto_if 80 with fail
          go_cut [18] (fun at9 wx => ∃ q : Nat, q < lL ∧ at9 = .int .i64 q ∧ wx = wr)
          case first =>
            by_cases hch : n < lc
            · obtain ⟨gch, och, rfl, gcl, hcell⟩ := HCH.out.1.open (by rw [← HLC.out]; omega)
              obtain ⟨x, hx⟩ : ∃ x, x = Ch.getD n 0 := ⟨_, rfl⟩
              have hxb := HCH.out.2.2 x (by rw [hx, List.getD_eq_getElem?_getD, List.getElem?_eq_getElem (by rw [← HLC.out]; exact hch), Option.getD_some]; exact List.getElem_mem _)
              have cc : World.cell? wr ⟨gch, och + n, none⟩ = some (.int .i64 x) := ((S7.out.bel.trans (S.out.bel.mono S7.out.bel.size)).cell (p := ⟨gch, och + n, none⟩) gcl).trans (by rw [hcell n (by rw [← HLC.out]; exact hch), hx])
              obtain ⟨q, hq, hq2⟩ := pick_nat x lL (by omega)
              have HQ := Lib.hid hq
              clear hx hcell hq
              go_wp2_with (go_at_call 15; refine (pick_any x lL _ hxb.1 hxb.2 (by omega) (by omega)).mono ?_; rintro e w8 ⟨rfl, rfl⟩; rw [show pickOf x (lL : Int) = (q : Int) from HQ.out])
              go_meet
              exact ⟨q, hq2, rfl, rfl⟩
            · go_wp2_with fail
              go_meet
              exact ⟨0, by omega, rfl, rfl⟩
          case rest =>
            obtain ⟨q, hq, rfl, rfl⟩ := hcut
            obtain ⟨y, hy⟩ : ∃ y, y = Lf.getD q 0 := ⟨_, rfl⟩
            have cy : World.cell? wc ⟨gl, q, none⟩ = some (.int .i64 (y : Int)) := by
              have := S.out.ints q (by rw [← HLL.out]; exact hq)
              rw [Nat.zero_add] at this
              rw [this, hy]
            have HY := Lib.hid hy
            have HT1 : Hid ((icells (Lf.take q)).length = q * 1) := Lib.hid (by rw [icells_length, List.length_take, ← HLL.out]; omega)
            have HT2 : Hid ((icells (Lf.drop (q + 1))).length = (lL - (q + 1)) * 1) := Lib.hid (by rw [icells_length, List.length_drop, ← HLL.out]; omega)
            have HRD : Hid (∀ w', IntsAt w' gl 0 Lf → ∀ j u, (icells (Lf.drop (q + 1)))[j]? = some u → w'.cell? ((⟨gl, q + 1, none⟩ : Addr).add j) = some u) := Lib.hid (fun w' h => IntsAt.news (by have := IntsAt.drop h (q + 1); rw [Nat.zero_add] at this; exact this))
            clear hy
            go_wp2_with (at_builtin; refine wpList_append_own_at _ rfl (.tmp 88) (.tmp 93) 54 rfl W0.heap.size 3 i9 _ 1 8 Try.underlying54 hi0 hz0 hz1 hz2 rfl (by omega) _ n (icells Rw) rfl (S.out.own.alloc _) ⟨wc.heap.size, 0, none⟩ 1 1 [.int .i64 (y : Int)] rfl rfl (World.news_of_block (cs := #[.int .i64 (y : Int)]) (t := 3) (fr := (0, 0)) (heap_alloc_new wc _)) (by simp [Value.oneCell']) (by unfold maxLen; omega) (by omega) (Nat.le_trans hbz (by simp)) ?_; intro v' w8 hown8 hgr8 hnil8 hat8; clear hnil8; have U1 : Hid (CauR W0 wc gl Lf Rw n y v' w8) := Lib.hid (CauR.mk' S.out hown8 hgr8 hat8); clear hown8 hgr8 hat8)
            by_cases hce : cl = q + 1
            · have HCE := Lib.hid hce
              have HT2 : Hid ((icells (Lf.drop (q + 1))).length = 0 * 1) := Lib.hid (by rw [icells_length, List.length_drop, ← HLL.out]; omega)
              have HRD : Hid (∀ w', IntsAt w' gl 0 Lf → ∀ j u, (icells (Lf.drop (q + 1)))[j]? = some u → w'.cell? ((⟨gl, 0, none⟩ : Addr).add j) = some u) := Lib.hid (fun w' h j u hj => by
                have h1 := (List.getElem?_eq_some_iff.1 hj).1
                rw [icells_length, List.length_drop, ← HLL.out] at h1
                omega)
              have w3 : ((q : Int) + 1).toNat = cl := by omega
              have w8e : 0 = lL - (q + 1) := by omega
              have W8 := Lib.hid w8e
              have w9e : q + 0 = lL - 1 := by omega
              have W9 := Lib.hid w9e
              clear hce w8e w9e
              have w1 : 0 ≤ (q : Int) + 1 := by omega
              have w2 : (q : Int) + 1 ≤ (lL : Int) := by omega
              have w4 := IntWalk.i64_in ((q : Int) + 1) (by omega)
              have w5 : (q : Int) ≤ (cl : Int) := by omega
              have w6 : 0 ≤ (q : Int) := by omega
              have w7 : ((q : Int)).toNat = q := by omega
              go_region_held3 (fun x : World => True) (first | exact True.intro)
                (first
                | (refine step_append_copy _ (by rfl) _ (.tmp 97) 54 (by rfl) 3 i9 _ 1 8 Try.underlying54 hi0 hz0 hz1 hz2 (by rfl) (by omega) (by rfl) ⟨gl, 0, none⟩ q cl (icells (Lf.take q)) (by rfl) HT1.out (IntsAt.news (IntsAt.take U1.out.ints q)) (icells_one _) (by unfold maxLen; omega) (by omega) ?_; intro a10 c10 w9 hown9 hb9; have hown9' : w9.ownsRow w8.heap.size 3 1 (.slice a10 q c10) q (icells (Lf.take q)) := hown9; have hb9' : Below w8.heap.size w8 w9 := ((Below.refl w8.heap.size w8).drew).trans hb9; have U2 := Lib.hid (And.intro hown9' hb9'); clear hown9 hb9 hown9' hb9')
                | (refine step_append_more _ (by rfl) (.tmp 98) (.tmp 102) 54 (by rfl) w8.heap.size 3 i9 _ 1 8 Try.underlying54 hi0 hz0 hz1 hz2 (by rfl) (by omega) _ q (icells (Lf.take q)) (by rfl) U2.out.1 ⟨gl, 0, none⟩ 0 0 (icells (Lf.drop (q + 1))) (by rfl) HT2.out (HRD.out _ (IntsAt.after U1.out.ints U2.out.2)) (icells_one _) (by unfold maxLen; omega) (by omega) U2.out.2.size ?_; intro a11 c11 w10 hown10 hgr10; have hb10 := own_grown_below U2.out.1 U2.out.2 U2.out.2.size hgr10; rw [← icells_append, W9.out] at hown10; rw [W9.out]; obtain ⟨g11, rfl, gg1, gg2, gg3⟩ := own_some hown10 (by omega); have U3 := Lib.hid (And.intro hown10 hb10); clear hown10 hgr10 hb10))
              clear w1 w2 w3 w4 w5 w6 w7
              go_wp2
              go_roundw
              case measure => simp [intOf]; omega
              case rel =>
                have hnx := CauS.next S.out (by rw [← HLL.out]; exact hq) (by rw [← HY.out]; exact U1.out.own) U1.out.bel (by rw [← HLL.out]; exact U3.out.1) U3.out.2 (by rw [← HLL.out]; omega)
                refine ⟨n + 1, g11, c11, _, _, by omega, by go_num, ?_, hnx⟩
                rw [List.length_append, List.length_take, List.length_drop, ← HLL.out, show min q lL + (lL - (q + 1)) = lL - 1 from by omega]
            ·
              have w1 : 0 ≤ (q : Int) + 1 := by omega
              have w2 : (q : Int) + 1 ≤ (lL : Int) := by omega
              have w3 : ((q : Int) + 1).toNat = q + 1 := by omega
              have w4 := IntWalk.i64_in ((q : Int) + 1) (by omega)
              have w5 : (q : Int) ≤ (cl : Int) := by omega
              have w6 : 0 ≤ (q : Int) := by omega
              have w7 : ((q : Int)).toNat = q := by omega
              go_region_held3 (fun x : World => True) (first | exact True.intro)
                (first
                | (refine step_append_copy _ (by rfl) _ (.tmp 97) 54 (by rfl) 3 i9 _ 1 8 Try.underlying54 hi0 hz0 hz1 hz2 (by rfl) (by omega) (by rfl) ⟨gl, 0, none⟩ q cl (icells (Lf.take q)) (by rfl) HT1.out (IntsAt.news (IntsAt.take U1.out.ints q)) (icells_one _) (by unfold maxLen; omega) (by omega) ?_; intro a10 c10 w9 hown9 hb9; have hown9' : w9.ownsRow w8.heap.size 3 1 (.slice a10 q c10) q (icells (Lf.take q)) := hown9; have hb9' : Below w8.heap.size w8 w9 := ((Below.refl w8.heap.size w8).drew).trans hb9; have U2 := Lib.hid (And.intro hown9' hb9'); clear hown9 hb9 hown9' hb9')
                | (refine step_append_more _ (by rfl) (.tmp 98) (.tmp 102) 54 (by rfl) w8.heap.size 3 i9 _ 1 8 Try.underlying54 hi0 hz0 hz1 hz2 (by rfl) (by omega) _ q (icells (Lf.take q)) (by rfl) U2.out.1 ⟨gl, q + 1, none⟩ (lL - (q + 1)) (cl - (q + 1)) (icells (Lf.drop (q + 1))) (by rfl) HT2.out (HRD.out _ (IntsAt.after U1.out.ints U2.out.2)) (icells_one _) (by unfold maxLen; omega) (by omega) U2.out.2.size ?_; intro a11 c11 w10 hown10 hgr10; have hb10 := own_grown_below U2.out.1 U2.out.2 U2.out.2.size hgr10; rw [← icells_append, show q + (lL - (q + 1)) = lL - 1 from by omega] at hown10; rw [show q + (lL - (q + 1)) = lL - 1 from by omega]; obtain ⟨g11, rfl, gg1, gg2, gg3⟩ := own_some hown10 (by omega); have U3 := Lib.hid (And.intro hown10 hb10); clear hown10 hgr10 hb10))
              clear w1 w2 w3 w4 w5 w6 w7
              go_wp2
              go_roundw
              case measure => simp [intOf]; omega
              case rel =>
                have hnx := CauS.next S.out (by rw [← HLL.out]; exact hq) (by rw [← HY.out]; exact U1.out.own) U1.out.bel (by rw [← HLL.out]; exact U3.out.1) U3.out.2 (by rw [← HLL.out]; omega)
                refine ⟨n + 1, g11, c11, _, _, by omega, by go_num, ?_, hnx⟩
                rw [List.length_append, List.length_take, List.length_drop, ← HLL.out, show min q lL + (lL - (q + 1)) = lL - 1 from by omega]
        · obtain rfl : k = n := by omega
          clear hnk hn
          obtain ⟨gr, capr, spr, rfl, r0, r1, r2, r3⟩ := own_row1 hc.own (by omega)
          obtain ⟨R, hR⟩ : ∃ R : List Int, R = Rw.map fun (x : Nat) => (x : Int) := ⟨_, rfl⟩
          have hRl : R.length = k := by rw [hR, List.length_map]; exact hc.lenr
          have hRD : ∀ j, R.getD j 0 = (Rw.getD j 0 : Int) := fun j => by
            rw [hR, List.getD_eq_getElem?_getD, List.getElem?_map, List.getD_eq_getElem?_getD]
            cases Rw[j]? <;> rfl
          have hRi : ∀ j, j < R.length → World.cell? wr ⟨gr, 0 + j, none⟩ = some (.int .i64 (R.getD j 0)) := fun j hj => by
            rw [hRD]
            exact IntsAt.own hc.own j (by rw [hc.lenr]; omega)
          have hAll : ∀ i, i < R.length → 0 ≤ R.getD i 0 ∧ R.getD i 0 < K := fun i hi => by
            rw [hRD]
            have h1 := hc.lt (Rw.getD i 0) (List.mem_append_left _ (by rw [List.getD_eq_getElem?_getD, List.getElem?_eq_getElem (by rw [hc.lenr]; omega), Option.getD_some]; exact List.getElem_mem _))
            omega
          have hI : Inj k (fun i j => undM k idm (cau k) (R.getD i 0).toNat j) := by
            have h1 := inj_gen k m (by omega) Rw hc.lenr (List.nodup_append.1 hc.nd).1 (fun a ha => by have := hc.lt a (List.mem_append_left _ ha); rw [HK.out] at this; exact this)
            have h2 : (fun i j => undM k idm (cau k) (R.getD i 0).toNat j) = fun i j => gen k (Rw.getD i 0) j := by
              funext i j
              rw [hRD, Int.toNat_natCast]
              rfl
            rw [h2]; exact h1
          have S8 := S7.out.after hc.bel
          obtain ⟨x0, x1, x2⟩ := box3 S8.here.2
          have S8 := Lib.hid (And.intro S8 hRi)
          have HRL := Lib.hid hRl
          have HALL := Lib.hid hAll
          have HI := Lib.hid hI
          clear hc hR hRl hRD hRi hAll hI S7 r0 r1 r2 r3 hlL
          go_wp2_with (first
            | (go_at_call 28; have h9 := S8.out; clear S8; have hp := pick_ok K k ga 0 qa qa gr 0 capr (undM k idm (cau k)) R _ (by omega) (by omega) (by omega) (by omega) HQA.out (Nat.le_refl _) (by omega) (by rw [HRL.out]; omega) (by rw [HRL.out]; omega) h9.1.here.1 h9.2; rw [HRL.out] at hp; refine hp.mono ?_; rintro e w11 hx; obtain ⟨gp, he, hmp, hb⟩ := pick_good hx HALL.out; have he2 : e = .returned (.tuple #[.agg #[.int .i64 k, .int .i64 k, .slice (some ⟨gp, 0, none⟩) qi qi], .nilIface]) := (by rw [he, HRL.out, HQI.out]; rfl); subst he2; clear he; rw [HRL.out] at hmp; have hmm := ((h9.1.after hb).add (fun _ h => hmp.after h)).box 24 [.int .i64 k, .int .i64 k, .slice (some ⟨gp, 0, none⟩) qi qi]; obtain ⟨z0, z1, z2⟩ := box3 hmm.here.2; have S9 := Lib.hid hmm; clear h9 hp hx hmp hb hmm)
            | (go_at_call 18; have h9 := S9.out; clear S9; refine (invert_ok k gp 0 qi qi _ _ (by omega) (by omega) HQI.out (by omega) (by omega) h9.here.1.2).mono ?_; intro e w12 hx; obtain ⟨gz, Bz, hR2, he, hmB, hb⟩ := inv_good hx HI.out; have he2 : e = .returned (.tuple #[.agg #[.int .i64 k, .int .i64 k, .slice (some ⟨gz, 0, none⟩) qi qi], .nilIface]) := (by rw [he, HQI.out]; rfl); subst he2; clear he; have S10 := Lib.hid ((h9.after hb).box 24 [.int .i64 k, .int .i64 k, .slice (some ⟨gz, 0, none⟩) qi qi]); clear h9 hb hx hmB hR2))
          go_ret
          exact ⟨rfl, S10.out.bel⟩
theorem cauchyl_walk (kc mc : Int) (ca : Option Addr) (ccap : Nat) (Ch : List Int) (k0 : -9223372036854775808 ≤ kc) (k1 : kc ≤ 9223372036854775807) (m0 : -9223372036854775808 ≤ mc) (m1 : mc ≤ 9223372036854775807) (w : World)
    (hCh : RdI w ca Ch ∧ Ch.length ≤ maxLen ∧ ∀ x ∈ Ch, -9223372036854775808 ≤ x ∧ x ≤ 9223372036854775807) :
    Calls Try.prog 8 #[.int .i64 kc, .int .i64 mc, .slice ca Ch.length ccap] w fun e w' => e = .returned (.bool true) ∧ Below w.heap.size w w' :=
  cauchyl_any kc mc ca ccap Ch w k0 k1 m0 m1 hCh
end Go.Proofs.Ytbnfnijjldimkaa
