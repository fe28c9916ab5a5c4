/-
  The walks of erasure's rows and all; the document's rows and apply.
-/
import Derived.Test.YtbnfnijjldimkabEbun
namespace Go.Proofs.Ytbnfnijjldimkab
open Go.RowKit
set_option linter.unusedVariables false
set_option linter.unusedSimpArgs false
theorem Row0.after {w w' : World} {g : Nat} {e : TypeId} {l : List Value} (h : Row0 w g e l) (hb : Below w.heap.size w w') : Row0 w' g e l := h.fr (Fr.of_below (L := []) hb) (by simp)
theorem MatRd.of_row {w : World} {g r c : Nat} {M : Nat → Nat → BitVec 8} {sp : List Value} (h : Row w g 5 (ncells (mat r c M).cells ++ sp)) : MatRd w g 0 r c M := fun i j hi hj => by
  refine h.cell ?_
  rw [Nat.zero_add]
  have h1 := idx_lt hi hj
  rw [List.getElem?_append_left (by rw [ncells_length, tb_cells, tab_length]; exact h1), ncells_get _ _ (by rw [tb_cells, tab_length]; exact h1)]
  simp only [tb_cells]
  rw [tab_get _ _ _ h1, tb_at _ _ _ hj]
theorem MatRd.of_row0 {w : World} {g r c : Nat} {M : Nat → Nat → BitVec 8} (h : Row0 w g 5 (ncells (mat r c M).cells)) : MatRd w g 0 r c M := MatRd.of_row (sp := []) (by rw [List.append_nil]; exact h.row)
theorem gen_low (k : Nat) : mat k k idm = mat k k (gen k) := mat_congr fun i j hi _ => by unfold gen; rw [if_pos hi]
set_option maxRecDepth 100000 in
set_option maxHeartbeats 1600000 in
theorem rows_ok (k m : Nat) (w : World) (h1 : 1 ≤ k) (h2 : k + m ≤ 255) :
    Calls Try.prog 31 #[.int .i64 k, .int .i64 m] w fun e w' => ∃ g, e = .returned (.tuple #[mval (k + m) k g, .nilIface]) ∧ w.heap.size ≤ g ∧ Row0 w' g 5 (ncells (mat (k + m) k (gen k)).cells) ∧ Below w.heap.size w w' := by
  obtain ⟨qi, hqi⟩ : ∃ q, q = k * k := ⟨_, rfl⟩
  have S0 := Lib.hid ((Bun.start w).box 71 [.int .i64 0, .int .i64 0, .slice none 0 0])
  have HQI := Lib.hid hqi
  clear hqi
  by_cases hm : m = 0
  · subst hm
    go_enter Try.func31, Try.ntmps31
    go_wp2_with (go_at_call 48; have h9 := S0.out; clear S0; refine (identity_ok k _ (by omega) (by omega)).mono ?_; rintro e w4 ⟨gi, he, hg, hrow, hb⟩; have he2 : e = .returned (.tuple #[.agg #[.int .i64 k, .int .i64 k, .slice (some ⟨gi, 0, none⟩) qi qi], .nilIface]) := (by rw [he, HQI.out]; rfl); subst he2; clear he; have hg2 : w.heap.size ≤ gi := Nat.le_trans h9.bel.size hg; have hmm := ((h9.after hb).add (fun _ h => hrow.after h)).box 71 [.int .i64 k, .int .i64 k, .slice (some ⟨gi, 0, none⟩) qi qi]; obtain ⟨x0, x1, x2⟩ := box3 hmm.here.2; obtain ⟨z0, z1, z2⟩ := box3 hmm.here.1.1.2; obtain ⟨f0, f1, f2⟩ := box3f hmm.here.1.1.2; have S4 := Lib.hid hmm; clear h9 hb hrow hg hmm)
    have hy := set3_row (a := .int .i64 k) (b := .int .i64 k) (c := .slice (some ⟨gi, 0, none⟩) qi qi) S4.out.here.1.1.2
    obtain ⟨y0, y1, y2⟩ := box3 hy
    exact bodyPost_ret (v := .tuple #[.agg #[.int .i64 k, .int .i64 k, .slice (some ⟨gi, 0, none⟩) qi qi], .nilIface]) (by simp [results, Try.results31, go_sem, y0, y1, y2]) rfl ⟨gi, by rw [HQI.out]; rfl, hg2, by
      have h9 := S4.out.here.1.2
      rw [gen_low] at h9
      exact h9.fr ((((Fr.refl [w.heap.size] _).setCell (Or.inl (by simp)) _).setCell (Or.inl (by simp)) _).setCell (Or.inl (by simp)) _) (by simp only [List.mem_singleton]; exact fun e => S4.out.here.1.1.2.ne h9.row (by decide) e.symm), set3_below S4.out.bel (Nat.le_refl _)⟩
  · obtain ⟨qc, hqc⟩ : ∃ q, q = m * k := ⟨_, rfl⟩
    obtain ⟨K, hK⟩ : ∃ q, q = k + m := ⟨_, rfl⟩
    obtain ⟨qa, hqa⟩ : ∃ q, q = K * k := ⟨_, rfl⟩
    have hmb : ((m : Int) == 0) = false := by simp; omega
    have HQC := Lib.hid hqc
    have HK := Lib.hid hK
    have HQA := Lib.hid hqa
    have HM := Lib.hid hm
    clear hqc hK hqa hm
    go_enter Try.func31, Try.ntmps31
    go_wp2_with (first
      | (go_at_call 48; have h9 := S0.out; clear S0; refine (identity_ok k _ (by omega) (by omega)).mono ?_; rintro e w4 ⟨gi, he, hg, hrow, hb⟩; have he2 : e = .returned (.tuple #[.agg #[.int .i64 k, .int .i64 k, .slice (some ⟨gi, 0, none⟩) qi qi], .nilIface]) := (by rw [he, HQI.out]; rfl); subst he2; clear he; have hmm := ((h9.after hb).add (fun _ h => hrow.after h)).box 71 [.int .i64 k, .int .i64 k, .slice (some ⟨gi, 0, none⟩) qi qi]; have S4 := Lib.hid hmm; clear h9 hb hrow hg hmm)
      | (go_at_call 49; have h9 := S4.out; clear S4; refine (cauchy_ok m k _ (by have := HM.out; omega) (by omega) (by omega) (by omega) (by omega)).mono ?_; rintro e w5 ⟨gc, he, hg, hrow, hb⟩; have he2 : e = .returned (.tuple #[.agg #[.int .i64 m, .int .i64 k, .slice (some ⟨gc, 0, none⟩) qc qc], .nilIface]) := (by rw [he, HQC.out]; rfl); subst he2; clear he; have hmm := ((h9.after hb).add (fun _ h => hrow.after h)).box 71 [.int .i64 m, .int .i64 k, .slice (some ⟨gc, 0, none⟩) qc qc]; obtain ⟨x0, x1, x2⟩ := box3 hmm.here.1.1.2; obtain ⟨y0, y1, y2⟩ := box3 hmm.here.2; have S5 := Lib.hid hmm; clear h9 hb hrow hg hmm)
      | (go_at_call 50; have h9 := S5.out; clear S5; refine (under_ok k m k gi 0 gc 0 qi qc qi qc idm (cau k) _ (by omega) (by omega) (by omega) (by have := HM.out; omega) (by omega) HQI.out HQC.out (MatRd.of_row0 h9.here.1.1.1.2) (MatRd.of_row0 h9.here.1.2)).mono ?_; rintro e w6 ⟨ga, he, hg, hrow, hb⟩; have he2 : e = .returned (.tuple #[.agg #[.int .i64 K, .int .i64 k, .slice (some ⟨ga, 0, none⟩) qa qa], .nilIface]) := (by rw [he, HQA.out, HK.out]; rfl); subst he2; clear he; have hg2 : w.heap.size ≤ ga := Nat.le_trans h9.bel.size hg; have hmm := (h9.after hb).add (fun _ h => hrow.after h); obtain ⟨z0, z1, z2⟩ := box3 hmm.here.1.1.1.1.1.2; obtain ⟨f0, f1, f2⟩ := box3f hmm.here.1.1.1.1.1.2; have S6 := Lib.hid (hmm.map (fun x h => And.intro h.1.1.1.1.1.2 h.2)); clear h9 hb hrow hg hmm))
    have hy := set3_row (a := .int .i64 K) (b := .int .i64 k) (c := .slice (some ⟨ga, 0, none⟩) qa qa) S6.out.here.1
    obtain ⟨y0, y1, y2⟩ := box3 hy
    exact bodyPost_ret (v := .tuple #[.agg #[.int .i64 K, .int .i64 k, .slice (some ⟨ga, 0, none⟩) qa qa], .nilIface]) (by simp [results, Try.results31, go_sem, y0, y1, y2]) rfl ⟨ga, by rw [HQA.out, HK.out]; rfl, hg2, by
      have h9 := S6.out.here.2
      exact h9.fr ((((Fr.refl [w.heap.size] _).setCell (Or.inl (by simp)) _).setCell (Or.inl (by simp)) _).setCell (Or.inl (by simp)) _) (by simp only [List.mem_singleton]; exact fun e => S6.out.here.1.ne h9.row (by decide) e.symm), set3_below S6.out.bel (Nat.le_refl _)⟩
set_option maxRecDepth 100000 in
set_option maxHeartbeats 1600000 in
theorem rrows_ok (k m : Nat) (w : World) (h1 : 1 ≤ k) (h2 : k + m ≤ 255) :
    Calls Try.prog 36 #[.int .i64 k, .int .i64 m] w fun e w' => ∃ g cap, e = .returned (.agg #[.int .i64 (k + m : Nat), .int .i64 k, .slice (some ⟨g, 0, none⟩) ((k + m) * k) cap]) ∧ (k + m) * k ≤ cap ∧ MatRd w' g 0 (k + m) k (gen k) ∧ Below w.heap.size w w' := by
  obtain ⟨qi, hqi⟩ : ∃ q, q = k * k := ⟨_, rfl⟩
  have S0 := Lib.hid ((Bun.start w).box 71 [.int .i64 0, .int .i64 0, .slice none 0 0])
  have HQI := Lib.hid hqi
  clear hqi
  by_cases hm : m = 0
  · subst hm
    go_enter Try.func36, Try.ntmps36
    go_wp2_with (go_at_call 58; have h9 := S0.out; clear S0; refine (ridentity_ok k _ (by omega) (by omega)).mono ?_; rintro e w4 ⟨gi, he, hg, hrow, hb⟩; have he2 : e = .returned (.tuple #[.agg #[.int .i64 k, .int .i64 k, .slice (some ⟨gi, 0, none⟩) qi qi], .int .i64 0]) := (by rw [he, HQI.out]; rfl); subst he2; clear he; have hg2 : w.heap.size ≤ gi := Nat.le_trans h9.bel.size hg; have hmm := ((h9.after hb).add (fun _ h => hrow.after h)).box 71 [.int .i64 k, .int .i64 k, .slice (some ⟨gi, 0, none⟩) qi qi]; obtain ⟨x0, x1, x2⟩ := box3 hmm.here.2; obtain ⟨z0, z1, z2⟩ := box3 hmm.here.1.1.2; obtain ⟨f0, f1, f2⟩ := box3f hmm.here.1.1.2; have S4 := Lib.hid hmm; clear h9 hb hrow hg hmm)
    have hy := set3_row (a := .int .i64 k) (b := .int .i64 k) (c := .slice (some ⟨gi, 0, none⟩) qi qi) S4.out.here.1.1.2
    obtain ⟨y0, y1, y2⟩ := box3 hy
    exact bodyPost_ret (v := .agg #[.int .i64 k, .int .i64 k, .slice (some ⟨gi, 0, none⟩) qi qi]) (by simp [results, Try.results36, go_sem, y0, y1, y2]) rfl ⟨gi, qi, by rw [HQI.out]; rfl, by rw [HQI.out]; exact Nat.le_refl _, by
      have h9 := S4.out.here.1.2
      rw [gen_low] at h9
      exact MatRd.of_row0 (h9.fr ((((Fr.refl [w.heap.size] _).setCell (Or.inl (by simp)) _).setCell (Or.inl (by simp)) _).setCell (Or.inl (by simp)) _) (by simp only [List.mem_singleton]; exact fun e => S4.out.here.1.1.2.ne h9.row (by decide) e.symm)), set3_below S4.out.bel (Nat.le_refl _)⟩
  · obtain ⟨qc, hqc⟩ : ∃ q, q = m * k := ⟨_, rfl⟩
    obtain ⟨K, hK⟩ : ∃ q, q = k + m := ⟨_, rfl⟩
    obtain ⟨qa, hqa⟩ : ∃ q, q = K * k := ⟨_, rfl⟩
    have hmb : ((m : Int) == 0) = false := by simp; omega
    have HQC := Lib.hid hqc
    have HK := Lib.hid hK
    have HQA := Lib.hid hqa
    have HM := Lib.hid hm
    clear hqc hK hqa hm
    go_enter Try.func36, Try.ntmps36
    go_wp2_with (first
      | (go_at_call 58; have h9 := S0.out; clear S0; refine (ridentity_ok k _ (by omega) (by omega)).mono ?_; rintro e w4 ⟨gi, he, hg, hrow, hb⟩; have he2 : e = .returned (.tuple #[.agg #[.int .i64 k, .int .i64 k, .slice (some ⟨gi, 0, none⟩) qi qi], .int .i64 0]) := (by rw [he, HQI.out]; rfl); subst he2; clear he; have hmm := ((h9.after hb).add (fun _ h => hrow.after h)).box 71 [.int .i64 k, .int .i64 k, .slice (some ⟨gi, 0, none⟩) qi qi]; have S4 := Lib.hid hmm; clear h9 hb hrow hg hmm)
      | (go_at_call 59; have h9 := S4.out; clear S4; refine (rcauchy_ok m k _ (by have := HM.out; omega) (by omega) (by omega) (by omega) (by omega)).mono ?_; rintro e w5 ⟨gc, he, hg, hrow, hb⟩; have he2 : e = .returned (.tuple #[.agg #[.int .i64 m, .int .i64 k, .slice (some ⟨gc, 0, none⟩) qc qc], .int .i64 0]) := (by rw [he, HQC.out]; rfl); subst he2; clear he; have hmm := ((h9.after hb).add (fun _ h => hrow.after h)).box 71 [.int .i64 m, .int .i64 k, .slice (some ⟨gc, 0, none⟩) qc qc]; obtain ⟨x0, x1, x2⟩ := box3 hmm.here.1.1.2; obtain ⟨y0, y1, y2⟩ := box3 hmm.here.2; have S5 := Lib.hid hmm; clear h9 hb hrow hg hmm)
      | (go_at_call 60; have h9 := S5.out; clear S5; refine (runder_ok k m k gi 0 gc 0 qi qc qi qc idm (cau k) _ (by omega) (by omega) (by omega) (by have := HM.out; omega) (by omega) HQI.out HQC.out (MatRd.of_row0 h9.here.1.1.1.2) (MatRd.of_row0 h9.here.1.2)).mono ?_; rintro e w6 ⟨ga, ca, spa, he, hg, hca, hrow, hb⟩; have he2 : e = .returned (.tuple #[.agg #[.int .i64 K, .int .i64 k, .slice (some ⟨ga, 0, none⟩) qa ca], .int .i64 0]) := (by rw [he, HQA.out, HK.out]); subst he2; clear he; rw [← HK.out] at hca hrow; have hmm := ((h9.after hb).add (fun _ h => Row.after hrow h)).box 71 [.int .i64 K, .int .i64 k, .slice (some ⟨ga, 0, none⟩) qa ca]; obtain ⟨x0, x1, x2⟩ := box3 hmm.here.2; obtain ⟨z0, z1, z2⟩ := box3 hmm.here.1.1.1.1.1.1.2; obtain ⟨f0, f1, f2⟩ := box3f hmm.here.1.1.1.1.1.1.2; have S6 := Lib.hid (hmm.map (fun x h => And.intro h.1.1.1.1.1.1.2 h.1.2)); clear h9 hb hrow hg hmm))
    have hy := set3_row (a := .int .i64 K) (b := .int .i64 k) (c := .slice (some ⟨ga, 0, none⟩) qa ca) S6.out.here.1
    obtain ⟨y0, y1, y2⟩ := box3 hy
    exact bodyPost_ret (v := .agg #[.int .i64 K, .int .i64 k, .slice (some ⟨ga, 0, none⟩) qa ca]) (by simp [results, Try.results36, go_sem, y0, y1, y2]) rfl ⟨ga, ca, by rw [HQA.out, HK.out], by rw [← HK.out]; exact hca, by
      have h9 := S6.out.here.2
      rw [← HK.out]
      exact MatRd.of_row (set3_other h9 (fun e => S6.out.here.1.ne h9 (by decide) e.symm)), set3_below S6.out.bel (Nat.le_refl _)⟩
/-- all shards of the first k -/
theorem all_ok (k m lcap len : Nat) (la : Option Addr) (cols : List ByteArray) (w : World) (h1 : 1 ≤ k) (h2 : k + m ≤ 255) (hlen : cols.length = k) (hsz : ∀ i, i < cols.length → (cols.getD i ⟨#[]⟩).size = len) (hl : len ≤ 100000) (hL : StrsRd w la cols) :
    Calls Try.prog 29 #[.int .i64 k, .int .i64 m, .slice la k lcap] w fun e w' => ∃ g cap', e = .returned (.tuple #[.slice (some ⟨g, 0, none⟩) (k + m) cap', .nilIface]) ∧ (StrsRd w' (some ⟨g, 0, none⟩) (rowStrs (gen k) cols len k (k + m)) ∧ k + m ≤ cap' ∧ cap' ≤ 9223372036854775807) ∧ Below w.heap.size w w' := by
  obtain ⟨K, hK⟩ : ∃ q, q = k + m := ⟨_, rfl⟩
  obtain ⟨qa, hqa⟩ : ∃ q, q = K * k := ⟨_, rfl⟩
  have hqa2 : qa ≤ 255 * 255 := by rw [hqa]; exact Nat.mul_le_mul (by omega) (by omega)
  have S0 := Lib.hid (Bun.start w)
  have HK := Lib.hid hK
  have HQA := Lib.hid hqa
  have HLEN := Lib.hid hlen
  have HSZ := Lib.hid hsz
  have HL := Lib.hid hL
  have hK1 : k ≤ K := by omega
  have hK2 : K ≤ 255 := by omega
  rw [← hK]
  clear hK hqa hlen hsz hL
  go_enter Try.func29, Try.ntmps29
  go_wp2_with (first
    | (go_at_call 31; have h9 := S0.out; clear S0; refine (rows_ok k m _ h1 h2).mono ?_; rintro e w1 ⟨ga, he, hg, hrow, hb⟩; have he2 : e = .returned (.tuple #[.agg #[.int .i64 K, .int .i64 k, .slice (some ⟨ga, 0, none⟩) qa qa], .nilIface]) := (by rw [he, HQA.out, HK.out]; rfl); subst he2; clear he; rw [← HK.out] at hrow; have hmm := ((h9.after hb).add (fun _ h => (MatRd.of_row0 hrow).after h)).box 71 [.int .i64 K, .int .i64 k, .slice (some ⟨ga, 0, none⟩) qa qa]; obtain ⟨x0, x1, x2⟩ := box3 hmm.here.2; have S1 := Lib.hid hmm; clear h9 hb hrow hg hmm)
    | (go_at_call 34; have h9 := S1.out; clear S1; refine (apply_caps K k ga 0 qa qa lcap len la (gen k) cols _ (by omega) (by omega) (by omega) (by omega) HQA.out (Nat.le_refl _) (by omega) HLEN.out HSZ.out hl h9.here.1.2 (HL.out.after h9.bel)).mono ?_; rintro e w2 ⟨g5, cap5, rfl, ht, hb⟩; have S2 := Lib.hid (And.intro ht (h9.after hb).bel); clear h9 hb ht))
  go_ret2
  exact ⟨g5, cap5, rfl, S2.out.1, S2.out.2⟩
theorem rall_ok (k m lcap len : Nat) (la : Option Addr) (cols : List ByteArray) (w : World) (h1 : 1 ≤ k) (h2 : k + m ≤ 255) (hlen : cols.length = k) (hsz : ∀ i, i < cols.length → (cols.getD i ⟨#[]⟩).size = len) (hl : len ≤ 100000) (hL : StrsRd w la cols) :
    Calls Try.prog 30 #[.int .i64 k, .int .i64 m, .slice la k lcap] w fun e w' => ∃ g cap', e = .returned (.slice (some ⟨g, 0, none⟩) (k + m) cap') ∧ StrsRd w' (some ⟨g, 0, none⟩) (rowStrs (gen k) cols len k (k + m)) ∧ Below w.heap.size w w' := by
  obtain ⟨K, hK⟩ : ∃ q, q = k + m := ⟨_, rfl⟩
  obtain ⟨qa, hqa⟩ : ∃ q, q = K * k := ⟨_, rfl⟩
  have hqa2 : qa ≤ 255 * 255 := by rw [hqa]; exact Nat.mul_le_mul (by omega) (by omega)
  have S0 := Lib.hid (Bun.start w)
  have HK := Lib.hid hK
  have HQA := Lib.hid hqa
  have HLEN := Lib.hid hlen
  have HSZ := Lib.hid hsz
  have HL := Lib.hid hL
  have hK1 : k ≤ K := by omega
  have hK2 : K ≤ 255 := by omega
  rw [← hK]
  clear hK hqa hlen hsz hL
  go_enter Try.func30, Try.ntmps30
  go_wp2_with (first
    | (go_at_call 36; have h9 := S0.out; clear S0; refine (rrows_ok k m _ h1 h2).mono ?_; rintro e w1 ⟨ga, ca, he, hca, hrow, hb⟩; have he2 : e = .returned (.agg #[.int .i64 K, .int .i64 k, .slice (some ⟨ga, 0, none⟩) qa ca]) := (by rw [he, HQA.out, HK.out]); subst he2; clear he; rw [← HK.out] at hrow; have hmm := (h9.after hb).add (fun _ h => hrow.after h); have S1 := Lib.hid hmm; clear h9 hb hrow hmm)
    | (go_at_call 38; have h9 := S1.out; clear S1; refine (rapply_fine K k ga 0 qa ca lcap len la (gen k) cols _ (by omega) (by omega) (by omega) (by omega) HQA.out HLEN.out HSZ.out hl h9.here.2 (HL.out.after h9.bel)).mono ?_; rintro e w2 ⟨g5, cap5, rfl, ht, hb⟩; have S2 := Lib.hid (And.intro ht (h9.after hb).bel); clear h9 hb ht))
  go_ret
  exact ⟨g5, cap5, rfl, S2.out.1, S2.out.2⟩
end Go.Proofs.Ytbnfnijjldimkab
