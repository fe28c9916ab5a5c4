/-
  The walk of a disk's Write.
-/
import Derived.Test.YthppnjmepeeejaaDiskRead
import Derived.Test.YthppnjmepeeejaaClone
import Derived.StillTactics
import Derived.Laws.Pointers
import Derived.Deep.RegionLaw
import Derived.Deep.AppendLies
namespace Go.Proofs.Ythppnjmepeeejaa
open Go.RowKit
structure Sep (p d gh : Nat) (v : Value) : Prop where
  pd : d ≠ p
  pg : gh ≠ p
  pv : v.ownBlock ≠ some p
  dg : d ≠ gh
  dv : v.ownBlock ≠ some d
  gv : v.ownBlock ≠ some gh
theorem sep {w : World} {p d gh : Nat} {v : Value} {P : Pw} {D : Dk} (hp : PowerAt w p P) (h : DiskAt w p d gh v D) : Sep p d gh v :=
  ⟨h.top.ne hp (by decide), h.bytes.row.ne hp (by decide), Row.ne_own hp h.late (by decide), h.top.ne h.bytes.row (by decide), h.top.ne_own h.late (by decide), h.bytes.row.ne_own h.late (by decide)⟩
/-- the block that a slice owns -/
def ownL (v : Value) : List Nat := match v.ownBlock with | some g => [g] | none => []
theorem mem_ownL {v : Value} {g : Nat} : g ∈ ownL v ↔ v.ownBlock = some g := by
  unfold ownL
  cases h : v.ownBlock with
  | none => simp
  | some x => simp; exact eq_comm
theorem DiskAt.power {w w' : World} {p d gh : Nat} {v : Value} {P : Pw} {D : Dk} (hp : PowerAt w p P) (h : DiskAt w p d gh v D) (hf : Fr [p] w w') : DiskAt w' p d gh v D := by
  have s := sep hp h
  exact h.fr hf (by simpa using s.pd) (by simpa using s.pg) (fun g hg => by
    have := s.pv
    simp only [List.mem_singleton]
    rintro rfl
    exact this hg)
set_option maxHeartbeats 400000 in
theorem write_bad1 (p d gh : Nat) (v : Value) (P : Pw) (D : Dk) (n : Nat) (a : Int) (s : ByteArray) (w : World) (hp : PowerAt w p P) (h : DiskAt w p d gh v D) (ok : D.ok n) (hr : rdy P D a ≠ 0) :
    Calls Try.prog 12 #[.pointer (some ⟨d, 0, none⟩), .int .i64 a, .string s] w fun e w' => ∃ b, e = .returned (.iface 81 (.pointer (some ⟨b, 0, none⟩))) ∧ w.heap.size ≤ b ∧ FaultAt w' b (rdy P D a) ∧ Below w.heap.size w w' := by
  have H := Lib.hid h
  have HP := Lib.hid hp
  have OK := Lib.hid ok
  have HR := Lib.hid hr
  clear h hp ok hr
  go_enter Try.func12, Try.ntmps12
  go_wp2_with (go_at_call 34; refine (ready_bad p d gh _ P D n _ _ HP.out H.out OK.out.len OK.out.n2 HR.out).mono ?_; rintro e w' ⟨b, rfl, hb1, hb2, hb3⟩)
  go_ret
  exact ⟨b, rfl, hb1, hb2, hb3⟩
set_option maxHeartbeats 400000 in
theorem write_bad2 (p d gh : Nat) (v : Value) (P : Pw) (D : Dk) (n : Nat) (a : Int) (s : ByteArray) (w : World) (hp : PowerAt w p P) (h : DiskAt w p d gh v D) (ok : D.ok n) (hr : rdy P D a = 0) (hs : s.size ≠ 64) :
    Calls Try.prog 12 #[.pointer (some ⟨d, 0, none⟩), .int .i64 a, .string s] w fun e w' => ∃ b, e = .returned (.iface 81 (.pointer (some ⟨b, 0, none⟩))) ∧ w.heap.size ≤ b ∧ FaultAt w' b 1 ∧ Below w.heap.size w w' := by
  have H := Lib.hid h
  have HP := Lib.hid hp
  have OK := Lib.hid ok
  have HR := Lib.hid hr
  have hb : ((s.size : Int) != 64) = true := by rw [bne_iff_ne]; omega
  clear h hp ok hr hs
  go_enter Try.func12, Try.ntmps12
  go_wp2_with (first | (go_at_call 34; refine (ready_ok p d gh _ P D n _ _ HP.out H.out OK.out.len OK.out.n2 HR.out).mono ?_; rintro e w' ⟨rfl, rfl⟩) | (go_at_call 35; refine (fault_any _ _).mono ?_; rintro e w' ⟨b, rfl, hb1, hb2, hb3⟩))
  go_ret
  exact ⟨b, rfl, hb1, hb2, hb3⟩
set_option maxHeartbeats 400000 in
theorem write_bad3 (p d gh : Nat) (v : Value) (P : Pw) (D : Dk) (n : Nat) (a : Int) (s : ByteArray) (w : World) (hp : PowerAt w p P) (pok : P.ok) (h : DiskAt w p d gh v D) (ok : D.ok n) (hr : rdy P D a = 0) (hs : s.size = 64) (hc : P.can = false) :
    Calls Try.prog 12 #[.pointer (some ⟨d, 0, none⟩), .int .i64 a, .string s] w fun e w' => ∃ b, e = .returned (.iface 81 (.pointer (some ⟨b, 0, none⟩))) ∧ w.heap.size ≤ b ∧ FaultAt w' b 10 ∧ PowerAt w' p P.act ∧ DiskAt w' p d gh v D ∧ Fr [p] w w' := by
  have H := Lib.hid h
  have HP := Lib.hid hp
  have OK := Lib.hid ok
  have HR := Lib.hid hr
  have hb : ((s.size : Int) != 64) = false := by rw [hs]; rfl
  have c0 := h.top.cell (j := 0) rfl
  clear h hp ok hr hs
  go_enter Try.func12, Try.ntmps12
  go_wp2_with (first | (go_at_call 34; refine (ready_ok p d gh _ P D n _ _ HP.out H.out OK.out.len OK.out.n2 HR.out).mono ?_; rintro e w' ⟨rfl, rfl⟩) | (go_at_call 36; refine (act_any p P _ HP.out pok).mono ?_; rw [hc]; rintro e w1 ⟨rfl, hp1, hf1⟩) | (go_at_call 35; refine (fault_any _ _).mono ?_; rintro e w' ⟨b, rfl, hb1, hb2, hb3⟩))
  go_ret
  have hf : Fr [p] w _ := hf1.trans (Fr.of_below (L := []) hb3) (by simp)
  exact ⟨b, rfl, Nat.le_trans hf1.size hb1, hb2, PowerAt.fr hp1 (Fr.of_below (L := []) hb3) (by simp), DiskAt.power HP.out H.out hf, hf⟩
theorem lateparts : (Try.prog.info? 77).map (fun i => (i.zero, i.size, i.bytes)) = some (some (.agg #[.int .i64 0, .string ⟨#[]⟩]), 2, 24) := by kernel_rfl
theorem wcells_snoc (l : List (Nat × ByteArray)) (a : Nat) (s : ByteArray) : wcells (l ++ [(a, s)]) = wcells l ++ [.int .i64 (a : Int), .string s] := by
  induction l with
  | nil => rfl
  | cons x l ih => simp [wcells, ih]
/-- what a Write leaves, out of what its steps leave -/
theorem write_end {p d gh : Nat} {v : Value} {P Q : Pw} {D : Dk} {a : Nat} {s : ByteArray} {w w1 w2 w3 : World} {o : Obj} {gg cap : Nat} (_hp : PowerAt w p P) (hf1 : Fr [p] w w1) (hp1 : PowerAt w1 p Q) (hd1 : DiskAt w1 p d gh v D)
    (hb2 : Below w1.heap.size w1.drew w2) (hown3 : w3.ownsRow 0 77 2 (.slice (some ⟨gg, 0, none⟩) (D.wait.length + 1) cap) (D.wait.length + 1) (wcells D.wait ++ [.int .i64 (a : Int), .string s]))
    (hgrow3 : (w2.alloc o).grownBy w3 v.ownBlock) (hat3 : v.ownBlock = some gg ∨ gg = w2.heap.size + 1) :
    PowerAt (w3.setCell ⟨d, 2, none⟩ (.slice (some ⟨gg, 0, none⟩) (D.wait.length + 1) cap)) p Q ∧
    DiskAt (w3.setCell ⟨d, 2, none⟩ (.slice (some ⟨gg, 0, none⟩) (D.wait.length + 1) cap)) p d gh (.slice (some ⟨gg, 0, none⟩) (D.wait.length + 1) cap) { D with wait := D.wait ++ [(a, s)] } ∧
    Fr (p :: d :: ownL v) w (w3.setCell ⟨d, 2, none⟩ (.slice (some ⟨gg, 0, none⟩) (D.wait.length + 1) cap)) ∧
    ((Value.slice (some ⟨gg, 0, none⟩) (D.wait.length + 1) cap).ownBlock = v.ownBlock ∨ ∀ g, (Value.slice (some ⟨gg, 0, none⟩) (D.wait.length + 1) cap).ownBlock = some g → w.heap.size ≤ g) := by
  have s1 := sep hp1 hd1
  have hdl := hd1.top.lt
  have hz2 : w1.heap.size ≤ w2.heap.size := hb2.size
  have f2 : Fr [] w1 w2 := ⟨hb2.os, hb2.tape, hb2.output, hb2.size, fun k hk _ => hb2.block k hk⟩
  have f3 : Fr (ownL v) w1 w3 := ((f2.alloc o).mono (by simp)).grown hgrow3 (fun k hk => Or.inl (mem_ownL.2 hk))
  have f4 : Fr (d :: ownL v) w1 (w3.setCell ⟨d, 2, none⟩ (.slice (some ⟨gg, 0, none⟩) (D.wait.length + 1) cap)) := (f3.mono (fun i hi _ => by simp [hi])).setCell (Or.inl (by simp)) _
  have hgd : gg ≠ d := by
    rintro rfl
    rcases hat3 with h | h
    · exact s1.dv h
    · omega
  have hnp : p ∉ d :: ownL v := by
    simp only [List.mem_cons, mem_ownL, not_or]
    exact ⟨fun e => s1.pd e.symm, s1.pv⟩
  have hng : gh ∉ d :: ownL v := by
    simp only [List.mem_cons, mem_ownL, not_or]
    exact ⟨fun e => s1.dg e.symm, s1.gv⟩
  have hnd : d ∉ ownL v := by
    simp only [mem_ownL]; exact s1.dv
  refine ⟨PowerAt.fr hp1 f4 hnp, ⟨?_, hd1.bytes.fr f4 hng, ?_⟩, ?_, ?_⟩
  · exact (hd1.top.fr f3 hnd).set 2 (.slice (some ⟨gg, 0, none⟩) (D.wait.length + 1) cap)
  · have h := ownsRow_fr hown3 (L := [d]) ((Fr.refl [d] w3).setCell (p := ⟨d, 2, none⟩) (Or.inl (by simp)) (.slice (some ⟨gg, 0, none⟩) (D.wait.length + 1) cap)) (fun g hg => by
      simp only [Value.ownBlock, Option.some.injEq] at hg
      subst hg
      simpa using hgd)
    simp only [List.length_append, List.length_singleton, wcells_snoc]
    exact h
  · exact (hf1.mono (fun i hi _ => by simp at hi; simp [hi])).trans f4 (fun i hi _ => by simp at hi ⊢; exact Or.inr hi)
  · rcases hat3 with h | h
    · exact Or.inl h.symm
    · right
      intro g hg
      simp only [Value.ownBlock, Option.some.injEq] at hg
      have := hf1.size
      omega
set_option maxRecDepth 100000 in
set_option maxHeartbeats 1600000 in
theorem write_ok (p d gh : Nat) (v : Value) (P : Pw) (D : Dk) (n : Nat) (a : Nat) (s : ByteArray) (w : World) (hp : PowerAt w p P) (pok : P.ok) (h : DiskAt w p d gh v D) (ok : D.ok n) (hr : rdy P D a = 0) (hs : s.size = 64) (hc : P.can = true) (hfew : D.wait.length < 1099511627776) :
    Calls Try.prog 12 #[.pointer (some ⟨d, 0, none⟩), .int .i64 a, .string s] w fun e w' => ∃ v', e = .returned .nilIface ∧ PowerAt w' p P.act ∧ DiskAt w' p d gh v' { D with wait := D.wait ++ [(a, s)] } ∧ Fr (p :: d :: ownL v) w w' ∧ (v'.ownBlock = v.ownBlock ∨ ∀ g, v'.ownBlock = some g → w.heap.size ≤ g) := by
  have H := Lib.hid h
  have HP := Lib.hid hp
  have OK := Lib.hid ok
  have HR := Lib.hid hr
  have hs2 : s.size ≤ 140737488355328 := by omega
  have hb : ((s.size : Int) != 64) = false := by rw [hs]; rfl
  have c0 := h.top.cell (j := 0) rfl
  obtain ⟨i0, hi0, hz0, hz1, hz2⟩ := info_parts lateparts
  clear h hp ok hr hs
  go_enter Try.func12, Try.ntmps12
  go_wp2_with (first | (go_at_call 34; refine (ready_ok p d gh _ P D n _ _ HP.out H.out OK.out.len OK.out.n2 HR.out).mono ?_; rintro e w' ⟨rfl, rfl⟩) | (go_at_call 36; refine (act_any p P _ HP.out pok).mono ?_; rw [hc]; rintro e w1 ⟨rfl, hp1, hf1⟩))
  have hd1 := DiskAt.power HP.out H.out hf1
  have s1 := sep hp1 hd1
  have k2 : w1.cell? ⟨d, 2, none⟩ = some v := hd1.top.cell (j := 2) rfl
  have k2f : w1.frozen? ⟨d, 2, none⟩ = false := hd1.top.free (by simp)
  have hdl := hd1.top.lt
  have HD1 := Lib.hid hd1
  have HP1 := Lib.hid hp1
  have HF1 := Lib.hid hf1
  clear hd1 hp1 hf1
  go_region_law (first
    | (go_simp; go_at_call 37; refine (clone_any _ _ hs2).mono ?_; rintro e w2 ⟨rfl, hb2⟩; have hd2 : d < w2.heap.size := Nat.lt_of_lt_of_le hdl hb2.size; have k4 : w2.cell? ⟨d, 2, none⟩ = some v := (hb2.cell (p := ⟨d, 2, none⟩) hdl).trans k2)
    | (refine step_append_lies _ (by rfl) _ _ _ (by rfl) 0 77 i0 _ 2 24 Try.underlying73 hi0 hz0 hz1 hz2 rfl (by omega) v D.wait.length (wcells D.wait) (by rfl) ((ownsRow_fr (w := w1.drew) (L := []) HD1.out.late (Fr.of_below hb2) (by simp)).alloc _) ⟨w2.heap.size, 0, none⟩ 1 1 [.int .i64 (a : Int), .string s] (by rfl) (by rfl) (World.news_of_block (cs := #[.int .i64 (a : Int), .string s]) (t := 77) (fr := (0, 0)) (heap_alloc_new w2 _)) (by simp [Value.oneCell']) (by omega) (by unfold maxLen; omega) (by omega) (by omega) (w2.heap.size + 1) (by simp) ?_; intro gg cap w3 hown3 hgrow3 hat3 hlt3; have k3 : w3.cell? ⟨d, 2, none⟩ = some v := (hgrow3.cell_far _ (Nat.lt_of_lt_of_le hd2 (by simp)) (Ne.symm s1.dv)).trans ((((Below.refl w2.heap.size w2).alloc (Nat.le_refl _) _).cell (p := ⟨d, 2, none⟩) hd2).trans ((hb2.cell (p := ⟨d, 2, none⟩) hdl).trans k2)); have k3f : w3.frozen? ⟨d, 2, none⟩ = false := (hgrow3.frozen_far _ (Nat.lt_of_lt_of_le hd2 (by simp)) (Ne.symm s1.dv)).trans ((((Below.refl w2.heap.size w2).alloc (Nat.le_refl _) _).frozen (p := ⟨d, 2, none⟩) hd2).trans ((hb2.frozen (p := ⟨d, 2, none⟩) hdl).trans k2f))))
  all_goals go_wp2
  all_goals go_ret
  all_goals exact ⟨_, rfl, write_end HP.out HF1.out HP1.out HD1.out hb2 hown3 hgrow3 hat3⟩
end Go.Proofs.Ythppnjmepeeejaa
