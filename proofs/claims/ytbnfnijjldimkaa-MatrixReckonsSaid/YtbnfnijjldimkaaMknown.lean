/-
  The walk of the matrix laws' known: the chapter's examples are so.
-/
import Derived.Test.YtbnfnijjldimkaaMlaw
import Derived.Deep.RegionHeld3
namespace Go.Proofs.Ytbnfnijjldimkaa
open Go.RowKit
set_option linter.unusedVariables false
set_option linter.unusedSimpArgs false
/-- what lasts, from a world on -/
structure Bun (w0 : World) (F : World → Prop) (w : World) : Prop where
  all : ∀ w', Below w.heap.size w w' → F w'
  bel : Below w0.heap.size w0 w
theorem Bun.start (w : World) : Bun w (fun _ => True) w := ⟨fun _ _ => trivial, Below.refl _ _⟩
theorem Bun.here {w0 w : World} {F : World → Prop} (h : Bun w0 F w) : F w := h.all w (Below.refl _ _)
theorem Bun.after {w0 w w' : World} {F : World → Prop} (h : Bun w0 F w) (hb : Below w.heap.size w w') : Bun w0 F w' := ⟨fun w'' h'' => h.all w'' (hb.trans (h''.mono hb.size)), h.bel.trans (hb.mono h.bel.size)⟩
theorem Bun.add {w0 w : World} {F G : World → Prop} (h : Bun w0 F w) (hG : ∀ w', Below w.heap.size w w' → G w') : Bun w0 (fun x => F x ∧ G x) w := ⟨fun w' hb => ⟨h.all w' hb, hG w' hb⟩, h.bel⟩
theorem Bun.box {w0 w : World} {F : World → Prop} (h : Bun w0 F w) (T : TypeId) (L : List Value) : Bun w0 (fun x => F x ∧ Row x w.heap.size T L) (w.alloc (.cells L.toArray T)) :=
  (h.after ((Below.refl _ _).alloc (Nat.le_refl _) _)).add (fun _ hb => (Row.new w T L).after hb)
/-- a matrix out of written numbers -/
def litM (L : List Nat) (c i j : Nat) : BitVec 8 := BitVec.ofNat 8 (L.getD (i * c + j) 0)
theorem lit_new (w : World) (L : List Nat) (r c g : Nat) (hg : g = w.heap.size) (hl : L.length = r * c) (hb : ∀ x ∈ L, x < 256) : MatRd (w.alloc (.cells (L.map fun (x : Nat) => Value.int .u8 (x : Int)).toArray 5)) g 0 r c (litM L c) := fun i j hi hj => by
  subst hg
  have h1 := idx_lt hi hj
  refine (Row.new w 5 (L.map fun (x : Nat) => Value.int .u8 (x : Int))).cell ?_
  rw [Nat.zero_add, List.getElem?_map, List.getElem?_eq_getElem (by omega)]
  unfold litM
  rw [List.getD_eq_getElem?_getD, List.getElem?_eq_getElem (by omega), Option.getD_some, nv_of (hb _ (List.getElem_mem _))]
  rfl
theorem Bun.lit {w0 w : World} {F : World → Prop} (h : Bun w0 F w) (L : List Nat) (r c g : Nat) (hg : g = w.heap.size) (hl : L.length = r * c) (hb : ∀ x ∈ L, x < 256) : Bun w0 (fun x => F x ∧ MatRd x g 0 r c (litM L c)) (w.alloc (.cells (L.map fun (x : Nat) => Value.int .u8 (x : Int)).toArray 5)) :=
  (h.after ((Below.refl _ _).alloc (Nat.le_refl _) _)).add (fun _ hb' => (lit_new w L r c g hg hl hb).after hb')
theorem strs_new (w : World) (cols : List ByteArray) (T : TypeId) : ∀ j, j < cols.length → (w.alloc (.cells (cols.map Value.string).toArray T)).cell? ⟨w.heap.size, 0 + j, none⟩ = some (.string (cols.getD j ⟨#[]⟩)) := fun j hj => by
  refine (Row.new w T (cols.map Value.string)).cell ?_
  rw [Nat.zero_add, List.getElem?_map, List.getElem?_eq_getElem hj, List.getD_eq_getElem?_getD, List.getElem?_eq_getElem hj]
  rfl
theorem kn_notinj : ¬ Inj 2 (litM [1, 2, 2, 4] 2) := by
  intro h
  have hk : ∀ i, i < 2 → sm 2 (fun j => gm (litM [1, 2, 2, 4] 2 i j) (if j = 0 then 2#8 else 1#8)) = 0#8 := by decide +kernel
  have := h (fun j => if j = 0 then 2#8 else 1#8) hk 0 (by omega)
  exact absurd this (by decide)
theorem kn_rank {M' : Nat → Nat → BitVec 8} {j k : Nat} {p : Nat → Nat} (g : Good 2 M' j k p) (hj : j ≤ 2) (hend : j = 2 ∨ k = 2) (hker : ∀ x, Ker 2 2 M' x ↔ Ker 2 2 (litM [1, 2, 2, 4] 2) x) : k = 1 := by
  have h2 := g.le
  have a1 : k ≠ 2 := fun e => kn_notinj (good_inj (e ▸ g) hj hker)
  have a2 : k ≠ 0 := fun e => by
    subst e
    obtain rfl : j = 2 := by omega
    have hk : Ker 2 2 M' (fun j => if j = 0 then 1#8 else 0#8) := fun i hi => sm_zero fun l hl => by rw [g.below i l (by omega) hi hl, gm_zero_left]
    have := (hker _).1 hk 0 (by omega)
    exact absurd this (by decide +kernel)
  omega
theorem kn_i : ∀ i j, i < 2 → j < 2 → idm i j = litM [1, 0, 0, 1] 2 i j := by
  have h : ∀ i, i < 2 → ∀ j, j < 2 → idm i j = litM [1, 0, 0, 1] 2 i j := by decide +kernel
  exact fun i j hi hj => h i hi j hj
theorem kn_c : ∀ i j, i < 1 → j < 2 → cau 2 i j = litM [142, 244] 2 i j := by
  have h : ∀ i, i < 1 → ∀ j, j < 2 → cau 2 i j = litM [142, 244] 2 i j := by decide +kernel
  exact fun i j hi hj => h i hi j hj
theorem kn_p : ∀ i j, i < 2 → j < 1 → mmul 2 (litM [1, 2, 3, 4] 2) (litM [1, 1] 1) i j = litM [3, 7] 1 i j := by
  have h : ∀ i, i < 2 → ∀ j, j < 1 → mmul 2 (litM [1, 2, 3, 4] 2) (litM [1, 1] 1) i j = litM [3, 7] 1 i j := by decide +kernel
  exact fun i j hi hj => h i hi j hj
theorem kn_l : appCells (litM [1, 2] 2) [⟨#[5]⟩, ⟨#[3]⟩] 1 2 1 = [.string ⟨#[3]⟩] := by kernel_rfl
theorem Bun.map {w0 w : World} {F G : World → Prop} (h : Bun w0 F w) (hG : ∀ x, F x → G x) : Bun w0 G w := ⟨fun w' hb => hG _ (h.all w' hb), h.bel⟩
/-- what known holds when all is made -/
structure KnF (b1 b3 b5 g1 g2 g3 g5 B : Nat) (ev : Value) (sp : List Value) (x : World) : Prop where
  r1 : Row x b1 24 [.int .i64 2, .int .i64 2, .slice (some ⟨g1, 0, none⟩) 4 4]
  r3 : Row x b3 24 [.int .i64 1, .int .i64 2, .slice (some ⟨g2, 0, none⟩) 2 2]
  r5 : Row x b5 24 [.int .i64 2, .int .i64 1, .slice (some ⟨g3, 0, none⟩) 2 2]
  m1 : MatRd x g1 0 2 2 idm
  m2 : MatRd x g2 0 1 2 (cau 2)
  m3 : MatRd x g3 0 2 1 (mmul 2 (litM [1, 2, 3, 4] 2) (litM [1, 1] 1))
  er : ErrAt B x ev 18
  rs : Row x g5 9 (.string ⟨#[3]⟩ :: sp)
theorem kn_inv {w w' : World} {e : Ending} (hx : (¬ Inj 2 (litM [1, 2, 2, 4] 2) ∧ ∃ ev, e = .returned (.tuple #[nilMat, ev]) ∧ ErrAt w.heap.size w' ev 18) ∨ (Inj 2 (litM [1, 2, 2, 4] 2) ∧ ∃ g B, RInv 2 (litM [1, 2, 2, 4] 2) B ∧ e = .returned (.tuple #[mval 2 2 g, .nilIface]) ∧ w.heap.size ≤ g ∧ Row0 w' g 5 (ncells (mat 2 2 B).cells))) : ∃ ev, e = .returned (.tuple #[.agg #[.int .i64 0, .int .i64 0, .slice none 0 0], ev]) ∧ ErrAt w.heap.size w' ev 18 := by
  rcases hx with ⟨_, h⟩ | ⟨h, _⟩
  · exact h
  · exact absurd h kn_notinj
theorem kn_app {w w' : World} {e : Ending} (hx : ((∃ i, i < 2 ∧ (([⟨#[5]⟩, ⟨#[3]⟩] : List ByteArray).getD i ⟨#[]⟩).size ≠ (([⟨#[5]⟩, ⟨#[3]⟩] : List ByteArray).getD 0 ⟨#[]⟩).size) ∧ ∃ ev, e = .returned (.tuple #[.slice none 0 0, ev]) ∧ ErrAt w.heap.size w' ev 19) ∨ ((∀ i, i < 2 → (([⟨#[5]⟩, ⟨#[3]⟩] : List ByteArray).getD i ⟨#[]⟩).size = (([⟨#[5]⟩, ⟨#[3]⟩] : List ByteArray).getD 0 ⟨#[]⟩).size) ∧ ∃ v, e = .returned (.tuple #[v, .nilIface]) ∧ w'.ownsRow w.heap.size 9 1 v 1 (appCells (litM [1, 2] 2) [⟨#[5]⟩, ⟨#[3]⟩] (([⟨#[5]⟩, ⟨#[3]⟩] : List ByteArray).getD 0 ⟨#[]⟩).size 2 1))) : ∃ g cap sp, e = .returned (.tuple #[.slice (some ⟨g, 0, none⟩) 1 cap, .nilIface]) ∧ Row w' g 9 (.string ⟨#[3]⟩ :: sp) := by
  rcases hx with ⟨⟨i, hi, h⟩, _⟩ | ⟨_, v, he, hv⟩
  · exact absurd ((by decide : ∀ i, i < 2 → (([⟨#[5]⟩, ⟨#[3]⟩] : List ByteArray).getD i ⟨#[]⟩).size = (([⟨#[5]⟩, ⟨#[3]⟩] : List ByteArray).getD 0 ⟨#[]⟩).size) i hi) h
  · obtain ⟨g, cap, sp, rfl, _, _, _, hrow⟩ := own_row1 hv (by omega)
    refine ⟨g, cap, sp, he, ?_⟩
    have e1 : appCells (litM [1, 2] 2) [⟨#[5]⟩, ⟨#[3]⟩] (([⟨#[5]⟩, ⟨#[3]⟩] : List ByteArray).getD 0 ⟨#[]⟩).size 2 1 = [.string ⟨#[3]⟩] := kn_l
    rw [e1] at hrow
    exact hrow
set_option maxRecDepth 100000 in
set_option maxHeartbeats 3200000 in
theorem known_any (w : World) :
    Calls Try.prog 9 #[] w fun e w' => e = .returned (.bool true) ∧ Below w.heap.size w w' := by
  have S0 := Lib.hid (Bun.start w)
  go_enter Try.func9, Try.ntmps9
  go_wp2_with (first
    | (go_at_call 19; have h9 := S0.out; clear S0; refine (identity_ok 2 _ (by omega) (by omega)).mono ?_; rintro e w1 ⟨g1, he, hg, hrow, hb⟩; have he2 : e = .returned (.tuple #[.agg #[.int .i64 2, .int .i64 2, .slice (some ⟨g1, 0, none⟩) 4 4], .nilIface]) := he; subst he2; have S1 := Lib.hid ((h9.after hb).add (fun _ h => (MatRd.of_row0 hrow).after h)); clear h9 hb hrow hg he)
    | (go_at_call 22; have h9 := S1.out; clear S1; refine (cauchy_ok 1 2 _ (by omega) (by omega) (by omega) (by omega) (by omega)).mono ?_; rintro e w2 ⟨g2, he, hg, hrow, hb⟩; have he2 : e = .returned (.tuple #[.agg #[.int .i64 1, .int .i64 2, .slice (some ⟨g2, 0, none⟩) 2 2], .nilIface]) := he; subst he2; have S2 := Lib.hid (((h9.box 24 [.int .i64 2, .int .i64 2, .slice (some ⟨g1, 0, none⟩) 4 4]).after hb).add (fun _ h => (MatRd.of_row0 hrow).after h)); clear h9 hb hrow hg he)
    | (go_at_call 35; have h9 := S2.out; clear S2; refine (of_any 2 2 _ 4 4 _).mono ?_; rintro e w3 ⟨rfl, hb⟩; have S3 := Lib.hid (((h9.box 24 [.int .i64 1, .int .i64 2, .slice (some ⟨g2, 0, none⟩) 2 2]).lit [1, 2, 3, 4] 2 2 (w2.heap.size + 1) (by simp) rfl (by decide)).after hb); clear h9 hb)
    | (go_at_call 35; have h9 := S3.out; clear S3; refine (of_any 2 1 _ 2 2 _).mono ?_; rintro e w4 ⟨rfl, hb⟩; have S4 := Lib.hid ((h9.lit [1, 1] 2 1 w3.heap.size rfl rfl (by decide)).after hb); clear h9 hb)
    | (go_at_call 20; have h9 := S4.out; clear S4; refine (mul_ok 2 2 1 (w2.heap.size + 1) 0 4 4 w3.heap.size 0 2 2 _ _ _ (by omega) (by omega) (by omega) (by omega) (by omega) (by omega) rfl rfl (by omega) (by omega) (by omega) (by omega) h9.here.1.2 h9.here.2).mono ?_; rintro e w5 ⟨g3, he, hg, hrow, hb⟩; have he2 : e = .returned (.tuple #[.agg #[.int .i64 2, .int .i64 1, .slice (some ⟨g3, 0, none⟩) 2 2], .nilIface]) := he; subst he2; have hm3 := MatRd.of_row (r := 2) (c := 1) (sp := []) (by rw [List.append_nil]; exact hrow); have S5 := Lib.hid ((h9.after hb).add (fun _ h => hm3.after h)); clear h9 hb hrow hg he hm3)
    | (go_at_call 35; have h9 := S5.out; clear S5; refine (of_any 2 2 _ 4 4 _).mono ?_; rintro e w6 ⟨rfl, hb⟩; have S6 := Lib.hid (((h9.box 24 [.int .i64 2, .int .i64 1, .slice (some ⟨g3, 0, none⟩) 2 2]).lit [1, 2, 2, 4] 2 2 (w5.heap.size + 1) (by simp) rfl (by decide)).after hb); clear h9 hb)
    | (go_at_call 18; have h9 := S6.out; clear S6; refine (invert_ok 2 (w5.heap.size + 1) 0 4 4 _ _ (by omega) (by omega) rfl (by omega) (by omega) h9.here.2).mono ?_; rintro e w7 ⟨hx, hb⟩; obtain ⟨ev, he, hE⟩ := kn_inv hx; subst he; have S7 := Lib.hid ((h9.after hb).add (fun _ h => hE.after h)); clear h9 hb hx hE)
    | (go_at_call 35; have h9 := S7.out; clear S7; refine (of_any 2 2 _ 4 4 _).mono ?_; rintro e w8 ⟨rfl, hb⟩; have S8 := Lib.hid (((h9.box 24 [.int .i64 0, .int .i64 0, .slice none 0 0]).lit [1, 2, 2, 4] 2 2 (w7.heap.size + 1) (by simp) rfl (by decide)).after hb); clear h9 hb)
    | (go_at_call 17; have h9 := S8.out; clear S8; refine (rank_ok 2 2 (w7.heap.size + 1) 0 4 4 _ _ (by omega) (by omega) (by omega) (by omega) rfl (by omega) h9.here.2).mono ?_; rintro e w9 ⟨k, M', j, p, he, hG, hj, hjr, hker, hb⟩; have hk := kn_rank hG hj hjr hker; subst hk; have he2 : e = .returned (.tuple #[.int .i64 1, .nilIface]) := he; subst he2; have S9 := Lib.hid (h9.after hb); clear h9 hb hG hj hjr hker he)
    | (go_at_call 35; have h9 := S9.out; clear S9; refine (of_any 1 2 _ 2 2 _).mono ?_; rintro e w10 ⟨rfl, hb⟩; have S10 := Lib.hid ((h9.lit [1, 2] 1 2 w9.heap.size rfl rfl (by decide)).after hb); clear h9 hb)
    | (go_at_call 11; have h9 := S10.out; clear S10; have hal := (Below.refl w10.heap.size w10).alloc (Nat.le_refl _) (.cells ([⟨#[5]⟩, ⟨#[3]⟩].map Value.string).toArray 9); refine (apply_ok 1 2 w9.heap.size 0 2 2 w10.heap.size 0 2 _ [⟨#[5]⟩, ⟨#[3]⟩] _ (by omega) (by omega) (by omega) (by omega) rfl (by omega) (by omega) rfl (by decide) (h9.here.2.after hal) (strs_new w10 [⟨#[5]⟩, ⟨#[3]⟩] 9)).mono ?_; rintro e w11 ⟨hx, hb⟩; obtain ⟨g5, cap, sp, he, hrow⟩ := kn_app hx; subst he; have S11 := Lib.hid (((h9.after hal).after hb).add (fun _ h => hrow.after h)); clear h9 hb hal hx hrow))
  have hB : Bun w (KnF w1.heap.size w2.heap.size w5.heap.size g1 g2 g3 g5 w6.heap.size ev sp) w11 := S11.out.map (fun x h => by
    obtain ⟨⟨⟨⟨⟨⟨⟨⟨⟨⟨⟨⟨⟨⟨_, m1⟩, r1⟩, m2⟩, r3⟩, _⟩, _⟩, m3⟩, r5⟩, _⟩, er⟩, _⟩, _⟩, _⟩, rs⟩ := h
    exact ⟨r1, r3, r5, m1, m2, m3, er, rs⟩)
  clear S11
  have hA : ∀ x : World, Bun w (KnF w1.heap.size w2.heap.size w5.heap.size g1 g2 g3 g5 w6.heap.size ev sp) x → (fun x : World => Bun w (KnF w1.heap.size w2.heap.size w5.heap.size g1 g2 g3 g5 w6.heap.size ev sp) x ∧ x.cell? ⟨w1.heap.size, 0, none⟩ = some (.int .i64 2) ∧ x.cell? ⟨w1.heap.size, 1, none⟩ = some (.int .i64 2) ∧ x.cell? ⟨w1.heap.size, 2, none⟩ = some (.slice (some ⟨g1, 0, none⟩) 4 4) ∧ x.cell? ⟨w2.heap.size, 0, none⟩ = some (.int .i64 1) ∧ x.cell? ⟨w2.heap.size, 1, none⟩ = some (.int .i64 2) ∧ x.cell? ⟨w2.heap.size, 2, none⟩ = some (.slice (some ⟨g2, 0, none⟩) 2 2) ∧ x.cell? ⟨w5.heap.size, 0, none⟩ = some (.int .i64 2) ∧ x.cell? ⟨w5.heap.size, 1, none⟩ = some (.int .i64 1) ∧ x.cell? ⟨w5.heap.size, 2, none⟩ = some (.slice (some ⟨g3, 0, none⟩) 2 2)) x := fun x h => ⟨h, h.here.r1.cell rfl, h.here.r1.cell rfl, h.here.r1.cell rfl, h.here.r3.cell rfl, h.here.r3.cell rfl, h.here.r3.cell rfl, h.here.r5.cell rfl, h.here.r5.cell rfl, h.here.r5.cell rfl⟩
  have hK : ∀ x y : World, (fun x : World => Bun w (KnF w1.heap.size w2.heap.size w5.heap.size g1 g2 g3 g5 w6.heap.size ev sp) x ∧ x.cell? ⟨w1.heap.size, 0, none⟩ = some (.int .i64 2) ∧ x.cell? ⟨w1.heap.size, 1, none⟩ = some (.int .i64 2) ∧ x.cell? ⟨w1.heap.size, 2, none⟩ = some (.slice (some ⟨g1, 0, none⟩) 4 4) ∧ x.cell? ⟨w2.heap.size, 0, none⟩ = some (.int .i64 1) ∧ x.cell? ⟨w2.heap.size, 1, none⟩ = some (.int .i64 2) ∧ x.cell? ⟨w2.heap.size, 2, none⟩ = some (.slice (some ⟨g2, 0, none⟩) 2 2) ∧ x.cell? ⟨w5.heap.size, 0, none⟩ = some (.int .i64 2) ∧ x.cell? ⟨w5.heap.size, 1, none⟩ = some (.int .i64 1) ∧ x.cell? ⟨w5.heap.size, 2, none⟩ = some (.slice (some ⟨g3, 0, none⟩) 2 2)) x → Below x.heap.size x y → (fun x : World => Bun w (KnF w1.heap.size w2.heap.size w5.heap.size g1 g2 g3 g5 w6.heap.size ev sp) x ∧ x.cell? ⟨w1.heap.size, 0, none⟩ = some (.int .i64 2) ∧ x.cell? ⟨w1.heap.size, 1, none⟩ = some (.int .i64 2) ∧ x.cell? ⟨w1.heap.size, 2, none⟩ = some (.slice (some ⟨g1, 0, none⟩) 4 4) ∧ x.cell? ⟨w2.heap.size, 0, none⟩ = some (.int .i64 1) ∧ x.cell? ⟨w2.heap.size, 1, none⟩ = some (.int .i64 2) ∧ x.cell? ⟨w2.heap.size, 2, none⟩ = some (.slice (some ⟨g2, 0, none⟩) 2 2) ∧ x.cell? ⟨w5.heap.size, 0, none⟩ = some (.int .i64 2) ∧ x.cell? ⟨w5.heap.size, 1, none⟩ = some (.int .i64 1) ∧ x.cell? ⟨w5.heap.size, 2, none⟩ = some (.slice (some ⟨g3, 0, none⟩) 2 2)) y := fun x y h hb => hA y (h.1.after hb)
  have hS := hA _ hB
  clear hA hB
  go_region_held3 (fun x : World => Bun w (KnF w1.heap.size w2.heap.size w5.heap.size g1 g2 g3 g5 w6.heap.size ev sp) x ∧ x.cell? ⟨w1.heap.size, 0, none⟩ = some (.int .i64 2) ∧ x.cell? ⟨w1.heap.size, 1, none⟩ = some (.int .i64 2) ∧ x.cell? ⟨w1.heap.size, 2, none⟩ = some (.slice (some ⟨g1, 0, none⟩) 4 4) ∧ x.cell? ⟨w2.heap.size, 0, none⟩ = some (.int .i64 1) ∧ x.cell? ⟨w2.heap.size, 1, none⟩ = some (.int .i64 2) ∧ x.cell? ⟨w2.heap.size, 2, none⟩ = some (.slice (some ⟨g2, 0, none⟩) 2 2) ∧ x.cell? ⟨w5.heap.size, 0, none⟩ = some (.int .i64 2) ∧ x.cell? ⟨w5.heap.size, 1, none⟩ = some (.int .i64 1) ∧ x.cell? ⟨w5.heap.size, 2, none⟩ = some (.slice (some ⟨g3, 0, none⟩) 2 2)) (first | assumption | exact hK _ _ (by assumption) ((Below.refl _ _).drew) | exact hK _ _ (by assumption) ((Below.refl _ _).alloc (Nat.le_refl _) _))
    (first
    | (go_at_call 35; refine (of_any 2 2 _ 4 4 _).mono ?_; rintro e v1 ⟨rfl, hb⟩; have hT1 := hK _ _ (by assumption) hb; have hL1 := ((lit_new _ [1, 0, 0, 1] 2 2 _ rfl rfl (by decide)).after ((Below.refl _ _).drew)).after hb; clear hb)
    | (go_at_call 21; refine (same_mat 2 2 g1 _ 4 4 idm _ _ (by omega) (by omega) (by omega) hT1.1.here.m1 hL1 kn_i).mono ?_; rintro e u1 ⟨rfl, hb⟩; have hS1 := hK _ _ hT1 hb; clear hb))
  clear hT1 hL1 hS
  go_wp2_with fail
  go_region_held3 (fun x : World => Bun w (KnF w1.heap.size w2.heap.size w5.heap.size g1 g2 g3 g5 w6.heap.size ev sp) x ∧ x.cell? ⟨w1.heap.size, 0, none⟩ = some (.int .i64 2) ∧ x.cell? ⟨w1.heap.size, 1, none⟩ = some (.int .i64 2) ∧ x.cell? ⟨w1.heap.size, 2, none⟩ = some (.slice (some ⟨g1, 0, none⟩) 4 4) ∧ x.cell? ⟨w2.heap.size, 0, none⟩ = some (.int .i64 1) ∧ x.cell? ⟨w2.heap.size, 1, none⟩ = some (.int .i64 2) ∧ x.cell? ⟨w2.heap.size, 2, none⟩ = some (.slice (some ⟨g2, 0, none⟩) 2 2) ∧ x.cell? ⟨w5.heap.size, 0, none⟩ = some (.int .i64 2) ∧ x.cell? ⟨w5.heap.size, 1, none⟩ = some (.int .i64 1) ∧ x.cell? ⟨w5.heap.size, 2, none⟩ = some (.slice (some ⟨g3, 0, none⟩) 2 2)) (first | assumption | exact hK _ _ (by assumption) ((Below.refl _ _).drew) | exact hK _ _ (by assumption) ((Below.refl _ _).alloc (Nat.le_refl _) _))
    (first
    | (go_at_call 35; refine (of_any 1 2 _ 2 2 _).mono ?_; rintro e v2 ⟨rfl, hb⟩; have hT2 := hK _ _ (by assumption) hb; have hL2 := ((lit_new _ [142, 244] 1 2 _ rfl rfl (by decide)).after ((Below.refl _ _).drew)).after hb; clear hb)
    | (go_at_call 21; refine (same_mat 1 2 g2 _ 2 2 (cau 2) _ _ (by omega) (by omega) (by omega) hT2.1.here.m2 hL2 kn_c).mono ?_; rintro e u2 ⟨rfl, hb⟩; have hS2 := hK _ _ hT2 hb; clear hb))
  clear hT2 hL2 hS1
  go_wp2_with fail
  go_region_held3 (fun x : World => Bun w (KnF w1.heap.size w2.heap.size w5.heap.size g1 g2 g3 g5 w6.heap.size ev sp) x ∧ x.cell? ⟨w1.heap.size, 0, none⟩ = some (.int .i64 2) ∧ x.cell? ⟨w1.heap.size, 1, none⟩ = some (.int .i64 2) ∧ x.cell? ⟨w1.heap.size, 2, none⟩ = some (.slice (some ⟨g1, 0, none⟩) 4 4) ∧ x.cell? ⟨w2.heap.size, 0, none⟩ = some (.int .i64 1) ∧ x.cell? ⟨w2.heap.size, 1, none⟩ = some (.int .i64 2) ∧ x.cell? ⟨w2.heap.size, 2, none⟩ = some (.slice (some ⟨g2, 0, none⟩) 2 2) ∧ x.cell? ⟨w5.heap.size, 0, none⟩ = some (.int .i64 2) ∧ x.cell? ⟨w5.heap.size, 1, none⟩ = some (.int .i64 1) ∧ x.cell? ⟨w5.heap.size, 2, none⟩ = some (.slice (some ⟨g3, 0, none⟩) 2 2)) (first | assumption | exact hK _ _ (by assumption) ((Below.refl _ _).drew) | exact hK _ _ (by assumption) ((Below.refl _ _).alloc (Nat.le_refl _) _))
    (first
    | (go_at_call 35; refine (of_any 2 1 _ 2 2 _).mono ?_; rintro e v3 ⟨rfl, hb⟩; have hT3 := hK _ _ (by assumption) hb; have hL3 := ((lit_new _ [3, 7] 2 1 _ rfl rfl (by decide)).after ((Below.refl _ _).drew)).after hb; clear hb)
    | (go_at_call 21; refine (same_mat 2 1 g3 _ 2 2 (mmul 2 (litM [1, 2, 3, 4] 2) (litM [1, 1] 1)) _ _ (by omega) (by omega) (by omega) hT3.1.here.m3 hL3 kn_p).mono ?_; rintro e u3 ⟨rfl, hb⟩; have hS3 := hK _ _ hT3 hb; clear hb))
  clear hT3 hL3 hS2
  have hstr := hS3.1.here.rs.cell (j := 0) rfl
  have HS := Lib.hid (And.intro hS3.1.here.er hS3.1.bel)
  clear hS3 hK
  go_wp2_with (go_at_call 14; refine (is_ok _ ev 18 _ HS.out.1).mono ?_; rintro e w' ⟨rfl, rfl⟩)
  go_ret
  exact ⟨rfl, HS.out.2⟩
end Go.Proofs.Ytbnfnijjldimkaa
