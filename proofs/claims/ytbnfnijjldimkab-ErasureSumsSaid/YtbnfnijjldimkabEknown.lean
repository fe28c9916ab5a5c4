/-
  The walk of the erasure laws' known.
-/
import Derived.Test.YtbnfnijjldimkabElaw
import Derived.Test.YtbnfnijjldimkabEmath
import Derived.Deep.RegionHeld3
namespace Go.Proofs.Ytbnfnijjldimkab
open Go.RowKit
set_option linter.unusedVariables false
set_option linter.unusedSimpArgs false
theorem ErrAt.nil {B : Nat} {w : World} {v : Value} (h : ErrAt B w v 0) : v = .nilIface := by
  rcases h with ⟨h, _⟩ | ⟨h, _⟩
  · exact h
  · exact absurd rfl h
/-- a list of pieces as cells -/
def pcells : List (Bool × ByteArray) → List Value
  | [] => []
  | p :: l => .bool p.1 :: .string p.2 :: pcells l
theorem pcells_length : ∀ L : List (Bool × ByteArray), (pcells L).length = L.length * 2
  | [] => rfl
  | p :: l => by simp [pcells, pcells_length l]; omega
theorem pcells_get : ∀ (L : List (Bool × ByteArray)) (j : Nat) (h : j < L.length), (pcells L)[j * 2]? = some (.bool L[j].1) ∧ (pcells L)[j * 2 + 1]? = some (.string L[j].2)
  | p :: l, 0, _ => ⟨rfl, rfl⟩
  | p :: l, j + 1, h => by
    have := pcells_get l j (by simpa using h)
    have e : (j + 1) * 2 = j * 2 + 1 + 1 := by omega
    rw [e]
    exact this
theorem pc_of {w : World} {g o : Nat} {L : List (Bool × ByteArray)} (h : ∀ j u, (pcells L)[j]? = some u → w.cell? ⟨g, o + j, none⟩ = some u) : PcRd w (some ⟨g, o, none⟩) L := fun j hj => by
  have := pcells_get L j hj
  exact ⟨g, o, rfl, h _ _ this.1, h _ _ this.2⟩
theorem pc_new (W : World) (T : TypeId) (L : List (Bool × ByteArray)) (cs : Array Value) (h : cs = (pcells L).toArray) : PcRd (W.alloc (.cells cs T)) (some ⟨W.heap.size, 0, none⟩) L := by
  subst h
  refine pc_of fun j u hj => ?_
  have h2 := (Row.new W T (pcells L)).cell hj
  rw [Nat.zero_add]
  exact h2
def knT : ByteArray := ⟨#[97, 98, 99]⟩
def knS : List ByteArray := [⟨#[97, 98]⟩, ⟨#[99, 0]⟩, ⟨#[159, 49]⟩]
def knL : List (Bool × ByteArray) := [(false, ⟨#[]⟩), (true, ⟨#[99, 0]⟩), (true, ⟨#[159, 49]⟩)]
def knM : List (Bool × ByteArray) := [(false, ⟨#[]⟩), (false, ⟨#[]⟩), (true, ⟨#[159, 49]⟩)]
theorem kn_shards : shards 2 1 knT = knS := by kernel_rfl
theorem kn_rest (pa : Option Addr) (pc : Nat) (w : World) (h : PcRd w pa knL) :
    Calls Try.prog 17 #[.int .i64 2, .int .i64 1, .int .i64 3, .slice pa 3 pc] w fun e w' => ∃ a' cap', e = .returned (.tuple #[.slice a' 3 cap', .nilIface]) ∧ StrsRd w' a' knS ∧ Below w.heap.size w w' := by
  refine (restore_main 2 1 3 pa pc knL w (by omega) (by omega) (by omega) rfl h (by decide)).mono ?_
  rintro e w' ⟨code, T, a', cap', ev, hR, rfl, hE, ⟨hS, _, _⟩, hb⟩
  have hx := rest_shards (k := 2) (m := 1) (t := knT) (L := knL) (by omega) (by omega) (by rw [kn_shards]; decide) (by decide) hR
  rw [kn_shards] at hx
  obtain ⟨rfl, rfl⟩ := hx
  exact ⟨a', cap', by rw [hE.nil]; rfl, hS, hb⟩
theorem kn_rest2 (pa : Option Addr) (pc : Nat) (w : World) (h : PcRd w pa knM) :
    Calls Try.prog 17 #[.int .i64 2, .int .i64 1, .int .i64 3, .slice pa 3 pc] w fun e w' => ∃ a' cap' ev, e = .returned (.tuple #[.slice a' 0 cap', ev]) ∧ ErrAt w.heap.size w' ev 17 ∧ Below w.heap.size w w' := by
  refine (restore_main 2 1 3 pa pc knM w (by omega) (by omega) (by omega) rfl h (by decide)).mono ?_
  rintro e w' ⟨code, T, a', cap', ev, hR, rfl, hE, ⟨hS, _, _⟩, hb⟩
  have hx := rest_one (by omega) hR (Or.inr (Or.inl ⟨by decide, by decide, rfl, rfl⟩))
  obtain ⟨rfl, rfl⟩ := hx
  exact ⟨a', cap', ev, rfl, hE, hb⟩
theorem kn_join (a : Option Addr) (c : Nat) (w : World) (h : StrsRd w a knS) (hc : 3 ≤ c) (hc2 : c ≤ 9223372036854775807) :
    Calls Try.prog 19 #[.int .i64 2, .int .i64 3, .slice a 3 c] w fun e w' => e = .returned (.tuple #[.string ⟨#[97, 98, 99]⟩, .nilIface]) ∧ Below w.heap.size w w' := by
  refine (join_gen 2 3 a 3 c knS w (by omega) (by omega) h rfl hc hc2 (by decide)).mono ?_
  rintro e w' ⟨ev, rfl, hE, hb⟩
  have hx := join_shards (k := 2) (m := 1) (t := knT) (by omega) (by omega)
  rw [kn_shards] at hx
  have h1 : joinCode 2 3 knS = 0 := hx.1
  have h2 : joinText 2 3 knS = knT := hx.2
  rw [h1] at hE
  rw [h2, hE.nil]
  exact ⟨rfl, hb⟩
theorem kn_check (a : Option Addr) (c : Nat) (w : World) (h : StrsRd w a knS) (hc : 3 ≤ c) (hc2 : c ≤ 9223372036854775807) :
    Calls Try.prog 21 #[.int .i64 2, .int .i64 1, .slice a 3 c] w fun e w' => e = .returned (.tuple #[.bool true, .nilIface]) ∧ Below w.heap.size w w' := by
  refine (check_gen 2 1 a 3 c knS w h rfl hc hc2 (by decide)).mono ?_
  rintro e w' ⟨ev, rfl, hE, hb⟩
  have hx := check_shards (k := 2) (m := 1) (t := knT) (by omega) (by omega)
  rw [kn_shards] at hx
  have h1 : checkCode 2 1 knS = 0 := hx.1
  have h2 : checkOk 2 1 knS = true := hx.2
  rw [h1] at hE
  rw [h2, hE.nil]
  exact ⟨rfl, hb⟩
theorem kn_enc (w : World) :
    Calls Try.prog 14 #[.int .i64 2, .int .i64 1, .string ⟨#[97, 98, 99]⟩] w fun e w' => ∃ g cap', e = .returned (.tuple #[.slice (some ⟨g, 0, none⟩) 3 cap', .nilIface]) ∧ (StrsRd w' (some ⟨g, 0, none⟩) knS ∧ 3 ≤ cap' ∧ cap' ≤ 9223372036854775807) ∧ Below w.heap.size w w' := by
  refine (encode_ok 2 1 knT w (by omega) (by omega) (by decide)).mono ?_
  rintro e w' ⟨g, cap', rfl, hS, hb⟩
  rw [kn_shards] at hS
  exact ⟨g, cap', rfl, hS, hb⟩
theorem kn_size (w : World) :
    Calls Try.prog 10 #[.int .i64 3, .int .i64 10] w fun e w' => e = .returned (.tuple #[.int .i64 4, .nilIface]) ∧ w = w' :=
  (size_ok 3 10 w (by omega) (by omega) (by omega)).mono fun e w' h => ⟨h.1, h.2⟩
set_option maxRecDepth 100000 in
set_option maxHeartbeats 3200000 in
theorem known_any (w : World) :
    Calls Try.prog 9 #[] w fun e w' => e = .returned (.bool true) ∧ Below w.heap.size w w' := by
  go_enter Try.func9, Try.ntmps9
  go_wp2_with (first
    | (go_at_call 10; refine (kn_size _).mono ?_; rintro e w0 ⟨rfl, rfl⟩)
    | (go_at_call 14; refine (kn_enc _).mono ?_; rintro e w1 ⟨g, cap, rfl, ⟨hs, hc1, hc2⟩, hb⟩; have c0 := strs_cells hs 0 (by decide); have c1 := strs_cells hs 1 (by decide); have c2 := strs_cells hs 2 (by decide); change World.cell? w1 ⟨g, 0, none⟩ = some (.string ⟨#[97, 98]⟩) at c0; change World.cell? w1 ⟨g, 1, none⟩ = some (.string ⟨#[99, 0]⟩) at c1; change World.cell? w1 ⟨g, 2, none⟩ = some (.string ⟨#[159, 49]⟩) at c2; have S1 := Lib.hid (And.intro hs hb); clear hs hb))
  have hK : ∀ x y : World, (fun x : World => Bun w (fun x => StrsRd x (some ⟨g, 0, none⟩) knS) x ∧ x.cell? ⟨g, 1, none⟩ = some (.string ⟨#[99, 0]⟩) ∧ x.cell? ⟨g, 2, none⟩ = some (.string ⟨#[159, 49]⟩)) x → Below x.heap.size x y → (fun x : World => Bun w (fun x => StrsRd x (some ⟨g, 0, none⟩) knS) x ∧ x.cell? ⟨g, 1, none⟩ = some (.string ⟨#[99, 0]⟩) ∧ x.cell? ⟨g, 2, none⟩ = some (.string ⟨#[159, 49]⟩)) y := fun x y h hb => ⟨h.1.after hb, (hb.cell (p := ⟨g, 1, none⟩) (rd_cell_lt h.2.1)).trans h.2.1, (hb.cell (p := ⟨g, 2, none⟩) (rd_cell_lt h.2.2)).trans h.2.2⟩
  have hS : (fun x : World => Bun w (fun x => StrsRd x (some ⟨g, 0, none⟩) knS) x ∧ x.cell? ⟨g, 1, none⟩ = some (.string ⟨#[99, 0]⟩) ∧ x.cell? ⟨g, 2, none⟩ = some (.string ⟨#[159, 49]⟩)) w1 := ⟨⟨fun w' hb => S1.out.1.after hb, S1.out.2⟩, c1, c2⟩
  clear S1 c0 c1 c2
  go_region_held3 (fun x : World => Bun w (fun x => StrsRd x (some ⟨g, 0, none⟩) knS) x ∧ x.cell? ⟨g, 1, none⟩ = some (.string ⟨#[99, 0]⟩) ∧ x.cell? ⟨g, 2, none⟩ = some (.string ⟨#[159, 49]⟩)) (first | assumption | exact hK _ _ (by assumption) ((Below.refl _ _).drew) | exact hK _ _ (by assumption) ((Below.refl _ _).alloc (Nat.le_refl _) _))
    (first | (go_at_call 17; refine (kn_rest _ _ _ (PcRd.after (pc_new _ _ knL _ rfl) ((Below.refl _ _).drew))).mono ?_; rintro e v1 ⟨a1, cap1, rfl, hr1, hb⟩; have hS1 := hK _ _ (by assumption) hb; clear hb))
  have S2 := Lib.hid (show Bun w (fun x => StrsRd x (some ⟨g, 0, none⟩) knS ∧ StrsRd x a1 knS) v1 from ⟨fun w' hb => ⟨hS1.1.here.after hb, hr1.after hb⟩, hS1.1.bel⟩)
  have c2 := hS1.2.2
  clear hS hS1 hr1 hK
  go_wp2_with (first
    | (go_at_call 17; have h9 := S2.out; clear S2; have hal := (Below.refl v1.heap.size v1).alloc (Nat.le_refl _) (.cells #[.bool false, .string ⟨#[]⟩, .bool false, .string ⟨#[]⟩, .bool true, .string ⟨#[159, 49]⟩] 40); refine (kn_rest2 _ _ _ (pc_new _ _ knM _ rfl)).mono ?_; rintro e v2 ⟨a2, cap2, ev, rfl, hE, hb⟩; have hE2 := hE.mono (B' := 0) (Nat.zero_le _); have S3 := Lib.hid (((h9.after hal).after hb).add (fun _ h => hE2.after h)); clear h9 hal hE hE2 hb)
    | (go_at_call 19; have h9 := S3.out; clear S3; refine (kn_join _ _ _ h9.here.1.1 hc1 hc2).mono ?_; rintro e v3 ⟨rfl, hb⟩; have S4 := Lib.hid (h9.after hb); clear h9 hb)
    | (go_at_call 21; have h9 := S4.out; clear S4; refine (kn_check _ _ _ h9.here.1.1 hc1 hc2).mono ?_; rintro e v4 ⟨rfl, hb⟩; have S5 := Lib.hid (h9.after hb); clear h9 hb)
    | (go_at_call 16; have h9 := S5.out; clear S5; refine (same_any a1 _ 3 _ 3 _ knS knS _ h9.here.1.2 h9.here.1.1 rfl rfl (by decide) (by decide)).mono ?_; rw [show decide (knS = knS) = true from decide_eq_true rfl]; rintro e v5 ⟨rfl, hb⟩; have S6 := Lib.hid (h9.after hb); clear h9 hb)
    | (go_at_call 12; have h9 := S6.out; clear S6; refine (is_ok 0 ev 17 _ h9.here.2).mono ?_; rintro e v6 ⟨rfl, rfl⟩; have S7 := Lib.hid h9.bel; clear h9))
  go_ret
  exact ⟨rfl, S7.out⟩
end Go.Proofs.Ytbnfnijjldimkab
