/-
  The reference disk's calls that change it: Write, Kill, Replace, Rot.
-/
import Derived.Test.YthppnjmepeeejaaRef
namespace Go.Proofs.Ythppnjmepeeejaa
open Go.RowKit
/-- what one call on a reference disk leaves -/
def RLeft (q r hg : Nat) (v : Value) (n : Nat) (P' : Pw) (D' : Dk) (w w' : World) : Prop :=
  ∃ hg' hc' v', RPowAt w' q P' ∧ RDiskAt w' q r hg' hc' v' n D' ∧ Fr (q :: r :: hg :: ownL v) w w' ∧ (v'.ownBlock = v.ownBlock ∨ ∀ g, v'.ownBlock = some g → w.heap.size ≤ g) ∧ (hg' = hg ∨ w.heap.size ≤ hg')
structure RSep (q r hg : Nat) (v : Value) : Prop where
  pd : r ≠ q
  pg : hg ≠ q
  pv : v.ownBlock ≠ some q
  dg : r ≠ hg
  dv : v.ownBlock ≠ some r
  gv : v.ownBlock ≠ some hg
theorem rsep {w : World} {q r hg hc : Nat} {v : Value} {n : Nat} {P : Pw} {D : Dk} (hp : RPowAt w q P) (h : RDiskAt w q r hg hc v n D) : RSep q r hg v := by
  obtain ⟨sp, hs⟩ := h.has
  exact ⟨h.top.ne hp (by decide), hs.ne hp (by decide), Row.ne_own hp h.late (by decide), h.top.ne hs (by decide), h.top.ne_own h.late (by decide), hs.ne_own h.late (by decide)⟩
theorem RDiskAt.fr {w w' : World} {q r hg hc : Nat} {v : Value} {n : Nat} {D : Dk} (h : RDiskAt w q r hg hc v n D) {L : List Nat} (hf : Fr L w w') (h1 : r ∉ L) (h2 : hg ∉ L) (h3 : ∀ g, v.ownBlock = some g → g ∉ L) : RDiskAt w' q r hg hc v n D := by
  obtain ⟨sp, hs⟩ := h.has
  exact ⟨h.top.fr hf h1, ⟨sp, hs.fr hf h2⟩, ownsRow_fr h.late hf h3⟩
theorem RDiskAt.power {w w' : World} {q r hg hc : Nat} {v : Value} {n : Nat} {P : Pw} {D : Dk} (hp : RPowAt w q P) (h : RDiskAt w q r hg hc v n D) (hf : Fr [q] w w') : RDiskAt w' q r hg hc v n D := by
  have s := rsep hp h
  exact h.fr hf (by simpa using s.pd) (by simpa using s.pg) (fun g hg => by
    have := s.pv
    simp only [List.mem_singleton]
    rintro rfl
    exact this hg)
theorem RLeft.same {q r hg hc : Nat} {v : Value} {n : Nat} {P : Pw} {D : Dk} {w : World} (hp : RPowAt w q P) (h : RDiskAt w q r hg hc v n D) : RLeft q r hg v n P D w w :=
  ⟨hg, hc, v, hp, h, Fr.refl _ _, Or.inl rfl, Or.inl rfl⟩
theorem rlateparts : (Try.prog.info? 108).map (fun i => (i.zero, i.size, i.bytes)) = some (some (.agg #[.int .i64 0, .string ⟨#[]⟩]), 2, 24) := by kernel_rfl
theorem hasL_wait (n : Nat) (D : Dk) (l : List (Nat × ByteArray)) : hasL n { D with wait := l } = hasL n D := rfl
theorem rwrite_end {q r hg hc n : Nat} {v : Value} {Q : Pw} {D : Dk} {a : Nat} {s : ByteArray} {w w1 w3 : World} {o : Obj} {gg cap : Nat} (hf1 : Fr [q] w w1) (hp1 : RPowAt w1 q Q) (hd1 : RDiskAt w1 q r hg hc v n D)
    (hown3 : w3.ownsRow 0 108 2 (.slice (some ⟨gg, 0, none⟩) (D.wait.length + 1) cap) (D.wait.length + 1) (wcells D.wait ++ [.int .i64 (a : Int), .string s]))
    (hgrow3 : (w1.alloc o).grownBy w3 v.ownBlock) (hat3 : v.ownBlock = some gg ∨ gg = w1.heap.size + 1) :
    RLeft q r hg v n Q { D with wait := D.wait ++ [(a, s)] } w (w3.setCell ⟨r, 3, none⟩ (.slice (some ⟨gg, 0, none⟩) (D.wait.length + 1) cap)) := by
  have s1 := rsep hp1 hd1
  have hdl := hd1.top.lt
  have f3 : Fr (ownL v) w1 w3 := (((Fr.refl [] w1).alloc o).mono (by simp)).grown hgrow3 (fun k hk => Or.inl (mem_ownL.2 hk))
  have f4 : Fr (r :: ownL v) w1 (w3.setCell ⟨r, 3, none⟩ (.slice (some ⟨gg, 0, none⟩) (D.wait.length + 1) cap)) := (f3.mono (fun i hi _ => by simp [hi])).setCell (Or.inl (by simp)) _
  have hgd : gg ≠ r := by
    rintro rfl
    rcases hat3 with h | h
    · exact s1.dv h
    · omega
  have hnp : q ∉ r :: ownL v := by
    simp only [List.mem_cons, mem_ownL, not_or]
    exact ⟨fun e => s1.pd e.symm, s1.pv⟩
  have hng : hg ∉ r :: ownL v := by
    simp only [List.mem_cons, mem_ownL, not_or]
    exact ⟨fun e => s1.dg e.symm, s1.gv⟩
  have hnd : r ∉ ownL v := by
    simp only [mem_ownL]; exact s1.dv
  obtain ⟨sp, hs⟩ := hd1.has
  refine ⟨hg, hc, .slice (some ⟨gg, 0, none⟩) (D.wait.length + 1) cap, Row.fr hp1 f4 hnp, ⟨?_, ⟨sp, hs.fr f4 hng⟩, ?_⟩, ?_, ?_, Or.inl rfl⟩
  · exact (hd1.top.fr f3 hnd).set 3 (.slice (some ⟨gg, 0, none⟩) (D.wait.length + 1) cap)
  · have h := ownsRow_fr hown3 (L := [r]) ((Fr.refl [r] w3).setCell (p := ⟨r, 3, none⟩) (Or.inl (by simp)) (.slice (some ⟨gg, 0, none⟩) (D.wait.length + 1) cap)) (fun g hg => by
      simp only [Value.ownBlock, Option.some.injEq] at hg
      subst hg
      simpa using hgd)
    simp only [List.length_append, List.length_singleton, wcells_snoc]
    exact h
  · exact (hf1.mono (L' := q :: r :: hg :: ownL v) (fun i hi _ => by simp at hi; simp [hi])).trans f4 (fun i hi _ => by simp at hi ⊢; rcases hi with h | h <;> simp [h])
  · rcases hat3 with h | h
    · exact Or.inl h.symm
    · right
      intro g hg
      simp only [Value.ownBlock, Option.some.injEq] at hg
      have := hf1.size
      omega
set_option maxRecDepth 100000 in
set_option maxHeartbeats 1600000 in
theorem rwrite_ok (q r hg hc : Nat) (v : Value) (P : Pw) (D : Dk) (n a : Nat) (s : ByteArray) (w : World) (hp : RPowAt w q P) (pok : P.ok) (h : RDiskAt w q r hg hc v n D) (ok : D.ok n) (hr : rdy P D a = 0) (hs : s.size = 64) (hcan : P.can = true) (hfew : D.wait.length < 1099511627776) :
    Calls Try.prog 43 #[.pointer (some ⟨r, 0, none⟩), .int .i64 (a : Int), .string s] w fun e w' => e = .returned (.int .i64 0) ∧ RLeft q r hg v n P.act { D with wait := D.wait ++ [(a, s)] } w w' := by
  have H := Lib.hid h
  have HP := Lib.hid hp
  have OK := Lib.hid ok
  have HR := Lib.hid hr
  have c0 := h.top.cell (j := 0) rfl
  have hb : ((s.size : Int) != 64) = false := by rw [hs]; rfl
  obtain ⟨i0, hi0, hz0, hz1, hz2⟩ := info_parts rlateparts
  clear h hp ok hr hs
  go_enter Try.func43, Try.ntmps43
  go_wp2_with (first
    | (go_at_call 54; refine (rbad_any q r hg hc v P D n _ _ HP.out H.out OK.out.len).mono ?_; rintro e w' ⟨he, rfl⟩; rw [HR.out] at he; subst he)
    | (go_at_call 55; refine (ract_any q P _ HP.out pok).mono ?_; rw [hcan]; rintro e w1 ⟨rfl, hp1, hf1⟩; have hd1 := RDiskAt.power HP.out H.out hf1; have s1 := rsep hp1 hd1; have k2 : w1.cell? ⟨r, 3, none⟩ = some v := hd1.top.cell (j := 3) rfl; have k2f : w1.frozen? ⟨r, 3, none⟩ = false := hd1.top.free (by simp); have hdl := hd1.top.lt; have HD1 := Lib.hid hd1; have HP1 := Lib.hid hp1; have HF1 := Lib.hid hf1; clear hd1 hp1 hf1)
    | (at_builtin; refine wpList_append_lies _ rfl (.tmp 33) (.tmp 37) 90 rfl 0 108 i0 _ 2 24 Try.underlying90 hi0 hz0 hz1 hz2 rfl (by omega) v D.wait.length (wcells D.wait) rfl (HD1.out.late.alloc _) ⟨w1.heap.size, 0, none⟩ 1 1 [.int .i64 (a : Int), .string s] rfl rfl (World.news_of_block (cs := #[.int .i64 (a : Int), .string s]) (t := 108) (fr := (0, 0)) (heap_alloc_new w1 _)) (by simp [Value.oneCell']) (by omega) (by unfold maxLen; omega) (by omega) (by omega) (w1.heap.size + 1) (by simp) ?_; intro gg cap w3 hown3 hgrow3 hat3 hlt3; have k3 : w3.cell? ⟨r, 3, none⟩ = some v := (hgrow3.cell_far _ (Nat.lt_of_lt_of_le hdl (by simp)) (Ne.symm s1.dv)).trans ((((Below.refl w1.heap.size w1).alloc (Nat.le_refl _) _).cell (p := ⟨r, 3, none⟩) hdl).trans k2); have k3f : w3.frozen? ⟨r, 3, none⟩ = false := (hgrow3.frozen_far _ (Nat.lt_of_lt_of_le hdl (by simp)) (Ne.symm s1.dv)).trans ((((Below.refl w1.heap.size w1).alloc (Nat.le_refl _) _).frozen (p := ⟨r, 3, none⟩) hdl).trans k2f)))
  go_ret
  exact ⟨rfl, rwrite_end HF1.out HP1.out HD1.out hown3 hgrow3 hat3⟩
/-- what a reference disk's Write answers, and what is behind it -/
theorem rwrite_all (q r hg hc : Nat) (v : Value) (P : Pw) (D : Dk) (n : Nat) (a : Int) (s : ByteArray) (w : World) (hp : RPowAt w q P) (pok : P.ok) (h : RDiskAt w q r hg hc v n D) (ok : D.ok n) (hfew : D.wait.length < 1099511627776) :
    Calls Try.prog 43 #[.pointer (some ⟨r, 0, none⟩), .int .i64 a, .string s] w fun e w' => e = .returned (.int .i64 (wcode P D a s)) ∧ RLeft q r hg v n (wpow P D a s) (wdk P D a s) w w' := by
  by_cases hr : rdy P D a = 0
  · obtain ⟨hgo, hd, ha0, ha1⟩ := rdy_bounds ok hr
    obtain ⟨m, rfl⟩ : ∃ m : Nat, a = (m : Int) := ⟨a.toNat, by omega⟩
    by_cases hs : s.size = 64
    · cases hcan : P.can
      · have e1 : wcode P D m s = 10 := by unfold wcode; rw [if_pos hr, if_pos hs, hcan]; rfl
        have e2 : wpow P D m s = P.act := by unfold wpow; rw [if_pos ⟨hr, hs⟩]
        have e3 : wdk P D m s = D := by unfold wdk; rw [e1]; rfl
        rw [e1, e2, e3]
        have H := Lib.hid h
        have HP := Lib.hid hp
        have OK := Lib.hid ok
        have HR := Lib.hid hr
        have c0 := h.top.cell (j := 0) rfl
        have hb : ((s.size : Int) != 64) = false := by rw [hs]; rfl
        clear h hp ok hr hs e1 e2 e3
        go_enter Try.func43, Try.ntmps43
        go_wp2_with (first
          | (go_at_call 54; refine (rbad_any q r hg hc v P D n _ _ HP.out H.out OK.out.len).mono ?_; rintro e w' ⟨he, rfl⟩; rw [HR.out] at he; subst he)
          | (go_at_call 55; refine (ract_any q P _ HP.out pok).mono ?_; rw [hcan]; rintro e w1 ⟨rfl, hp1, hf1⟩))
        go_ret
        exact ⟨rfl, hg, hc, v, hp1, RDiskAt.power HP.out H.out hf1, hf1.mono (fun i hi _ => by simp at hi; simp [hi]), Or.inl rfl, Or.inl rfl⟩
      · have e1 : wcode P D m s = 0 := by unfold wcode; rw [if_pos hr, if_pos hs, hcan]; rfl
        have e2 : wpow P D m s = P.act := by unfold wpow; rw [if_pos ⟨hr, hs⟩]
        have e3 : wdk P D m s = { D with wait := D.wait ++ [((m : Int).toNat, s)] } := by unfold wdk; rw [e1]; rfl
        rw [e1, e2, e3]
        exact rwrite_ok q r hg hc v P D n m s w hp pok h ok hr hs hcan hfew
    · have e1 : wcode P D m s = 1 := by unfold wcode; rw [if_pos hr, if_neg hs]
      have e2 : wpow P D m s = P := by unfold wpow; rw [if_neg (fun h => hs h.2)]
      have e3 : wdk P D m s = D := by unfold wdk; rw [e1]; rfl
      rw [e1, e2, e3]
      have H := Lib.hid h
      have HP := Lib.hid hp
      have OK := Lib.hid ok
      have HR := Lib.hid hr
      have hb : ((s.size : Int) != 64) = true := by rw [bne_iff_ne]; omega
      clear h hp ok hr hs e1 e2 e3
      go_enter Try.func43, Try.ntmps43
      go_wp2_with (go_at_call 54; refine (rbad_any q r hg hc v P D n _ _ HP.out H.out OK.out.len).mono ?_; rintro e w' ⟨he, rfl⟩; rw [HR.out] at he; subst he)
      go_ret
      exact ⟨rfl, RLeft.same HP.out H.out⟩
  · have e1 : wcode P D a s = rdy P D a := by unfold wcode; rw [if_neg hr]
    have e2 : wpow P D a s = P := by unfold wpow; rw [if_neg (fun h => hr h.1)]
    have e3 : wdk P D a s = D := by unfold wdk; rw [e1, if_neg hr]
    rw [e1, e2, e3]
    obtain ⟨c, hcc⟩ : ∃ c, rdy P D a = c := ⟨_, rfl⟩
    rw [hcc] at hr ⊢
    have hcb : (c != 0) = true := by simpa using hr
    have hcb2 : (c == 0) = false := by simpa using hr
    have HC := Lib.hid hcc
    have H := Lib.hid h
    have HP := Lib.hid hp
    have OK := Lib.hid ok
    clear h hp ok hr e1 e2 e3 hcc
    go_enter Try.func43, Try.ntmps43
    go_wp2_with (go_at_call 54; refine (rbad_any q r hg hc v P D n _ _ HP.out H.out OK.out.len).mono ?_; rintro e w' ⟨he, rfl⟩; rw [HC.out] at he; subst he)
    go_ret
    exact ⟨rfl, RLeft.same HP.out H.out⟩
set_option maxHeartbeats 800000 in
theorem rkill_any (q r hg hc : Nat) (v : Value) (P : Pw) (D : Dk) (n : Nat) (w : World) (hp : RPowAt w q P) (h : RDiskAt w q r hg hc v n D) (ok : D.ok n) :
    Calls Try.prog 46 #[.pointer (some ⟨r, 0, none⟩)] w fun e w' => e = .returned (.tuple #[]) ∧ RLeft q r hg v n P D.killed w w' := by
  have c3 := h.top.cell (j := 3) rfl
  have r3 := h.top.free (j := 3) (by simp)
  have c4 := h.top.cell (j := 4) rfl
  have r4 := h.top.free (j := 4) (by simp)
  have c5 := h.top.cell (j := 5) rfl
  have r5 := h.top.free (j := 5) (by simp)
  have l0 := ok.life0
  have l1 := ok.life1
  have s1 := rsep hp h
  have H := Lib.hid h
  have HP := Lib.hid hp
  clear h ok hp
  go_enter Try.func46, Try.ntmps46
  go_wp2
  go_end0
  have hF : Fr [r] w (((w.setCell ⟨r, 4, none⟩ (.bool true)).setCell ⟨r, 3, none⟩ (.slice none 0 0)).setCell ⟨r, 5, none⟩ (.int .i64 (D.life + 1))) := (((Fr.refl _ _).setCell (Or.inl (by simp)) _).setCell (Or.inl (by simp)) _).setCell (Or.inl (by simp)) _
  obtain ⟨sp, hs⟩ := H.out.has
  refine ⟨rfl, hg, hc, .slice none 0 0, Row.fr HP.out hF (by simpa using fun e => s1.pd e.symm), ⟨?_, ⟨sp, hs.fr hF (by simpa using fun e => s1.dg e.symm)⟩, World.ownsRow_nil _ _ _ _⟩, hF.mono (fun i hi _ => by simp at hi; simp [hi]), Or.inr (by simp [Value.ownBlock]), Or.inl rfl⟩
  exact ((H.out.top.set 4 (.bool true)).set 3 (.slice none 0 0)).set 5 (.int .i64 (D.life + 1))
end Go.Proofs.Ythppnjmepeeejaa
