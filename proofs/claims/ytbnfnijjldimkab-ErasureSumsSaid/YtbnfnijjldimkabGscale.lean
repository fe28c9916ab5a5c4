/-
  The walks of the two Scale functions.
-/
import Derived.Test.YtbnfnijjldimkabGref
import Derived.Test.YtbnfnijjldimkabMem
import Derived.StillTailTactics
import Derived.RegionTactic
import Derived.BigRegion
import Derived.ChangeAlike
namespace Go.Proofs.Ytbnfnijjldimkab
open Go.RowKit
/-- a text's bytes, each with another's, taken some times, added -/
def scl (t : BitVec 8) (a b : List UInt8) : List UInt8 := List.zipWith (fun x y => UInt8.ofBitVec (x.toBitVec ^^^ gm t y.toBitVec)) a b
theorem scl_length (t : BitVec 8) (a b : List UInt8) (h : a.length = b.length) : (scl t a b).length = a.length := by simp [scl, h]
/-- what a loop that turns the list a into a' has made of it after k rounds -/
def mixl {α : Type} (k : Nat) (a a' : List α) : List α := a'.take k ++ a.drop k
theorem mixl_length {α : Type} (k : Nat) (a a' : List α) (h : a'.length = a.length) : (mixl k a a').length = a.length := by
  simp [mixl, h]; omega
theorem mixl_zero {α : Type} (a a' : List α) : mixl 0 a a' = a := by simp [mixl]
theorem mixl_all {α : Type} (a a' : List α) (k : Nat) (h : a'.length = a.length) (hk : a.length ≤ k) : mixl k a a' = a' := by
  unfold mixl
  rw [List.take_of_length_le (by omega), List.drop_of_length_le (by omega), List.append_nil]
theorem mixl_set {α : Type} (k : Nat) (a a' : List α) (h : a'.length = a.length) (hk : k < a'.length) : (mixl k a a').set k a'[k] = mixl (k + 1) a a' := by
  unfold mixl
  apply List.ext_getElem?
  intro j
  rw [List.getElem?_set]
  have hl : k < (List.take k a' ++ List.drop k a).length := by simp; omega
  by_cases e : k = j
  · subst e
    rw [if_pos rfl, if_pos hl, List.getElem?_append_left (by simp; omega), List.getElem?_take, if_pos (by omega)]
    simp
  · rw [if_neg e]
    by_cases hj : j < k
    · rw [List.getElem?_append_left (by simp; omega), List.getElem?_append_left (by simp; omega), List.getElem?_take, List.getElem?_take, if_pos hj, if_pos (by omega)]
    · rw [List.getElem?_append_right (by simp; omega), List.getElem?_append_right (by simp; omega), List.getElem?_drop, List.getElem?_drop]
      congr 1
      simp
      omega
theorem mixl_get {α : Type} (k : Nat) (a a' : List α) (h : a'.length = a.length) (hk : k < a.length) : (mixl k a a')[k]? = some a[k] := by
  unfold mixl
  rw [List.getElem?_append_right (by simp; omega), List.getElem?_drop]
  simp
  rw [show k + (k - min k a'.length) = k by omega]
  simp [hk]

/-- a contract that leaves the world alone, as a region asks for it -/
theorem still_of {P : Program} {f : FuncId} {args : Array Value} {w : World} {v : Value} (h : Calls P f args w fun e w' => e = .returned v ∧ w = w') : Calls P f args w fun e w' => e = .returned v ∧ w' = w :=
  h.mono fun _ _ ⟨he, hw⟩ => ⟨he, hw.symm⟩
theorem scl_get (t : BitVec 8) (a b : List UInt8) (k : Nat) (h1 : k < a.length) (h2 : k < b.length) : (scl t a b)[k]'(by simp [scl]; omega) = UInt8.ofBitVec (a[k].toBitVec ^^^ gm t b[k].toBitVec) := by
  simp [scl]
set_option maxRecDepth 100000 in
set_option maxHeartbeats 400000 in
theorem rscale_yes (s t : ByteArray) (c : Int) (w : World) (h : s.size = t.size) (hs : s.size ≤ 9223372036854775807) (h0 : 0 ≤ c) (h1 : c < 256) :
    Calls Try.prog 63 #[.string s, .string t, .int .u8 c] w fun e w' => e = .returned (.tuple #[.string ⟨(scl (bv c) s.data.toList t.data.toList).toArray⟩, .bool true]) ∧ Below w.heap.size w w' := by
  have hne : ((s.size : Int) != (t.size : Int)) = false := by simp [h]
  have hl : s.data.toList.length = s.size := by simp
  have hlt : t.data.toList.length = t.size := by simp
  have HL := Lib.hid hl
  have HT := Lib.hid hlt
  have H := Lib.hid h; clear h hl hlt
  go_enter Try.func63, Try.ntmps63
  go_wp2_with (refine wpList_bytes rfl 9 56 5 _ rfl s rfl Try.underlying9 Try.underlying56 Try.underlying5 ?_; intro g cap r w1 hg hrow hcap hbel)
  obtain ⟨S, hS⟩ : ∃ S, S = s.data.toList := ⟨_, rfl⟩
  obtain ⟨T, hT⟩ : ∃ S, S = t.data.toList := ⟨_, rfl⟩
  obtain ⟨S', hS'⟩ : ∃ S', S' = scl (bv c) S T := ⟨_, rfl⟩
  rw [← hS] at hrow
  have hlS : S.length = s.size := by rw [hS]; exact HL.out
  have hlT : T.length = s.size := by rw [hT, H.out]; exact HT.out
  have hlS' : S'.length = s.size := by rw [hS', scl_length _ _ _ (by omega), hlS]
  have HS := Lib.hid hS
  have HTT := Lib.hid hT
  have HS' := Lib.hid hS'
  have HlS := Lib.hid hlS
  have HlT := Lib.hid hlT
  have HlS' := Lib.hid hlS'
  have HR := Lib.hid hrow
  clear hS hT hS' hlS hlT hlS' hrow
  go_loopw [9] (fun i wr => ∃ k : Nat, k ≤ s.size ∧ i = .int .i64 k ∧ Row wr g 5 (bcells (mixl k S S') ++ r) ∧ Below w.heap.size w wr) (fun i _ => s.size - (intOf i).toNat)
  case atStart => exact ⟨0, by omega, rfl, by rw [mixl_zero]; exact HR.out, hbel⟩
  case round =>
    obtain ⟨k, hk, rfl, hrow, hnx⟩ := hrel
    by_cases hlt : k < s.size
    · have hk1 : k < S.length := by rw [HlS.out]; exact hlt
      have hk2 : k < T.length := by rw [HlT.out]; exact hlt
      have hlt2 : k < t.size := by rw [← H.out]; exact hlt
      have hcell : wr.cell? ⟨g, k, none⟩ = some (.int .u8 (nv S[k].toBitVec)) := by
        refine hrow.cell ?_
        have hm := mixl_length k S S' (by rw [HlS.out, HlS'.out])
        rw [List.getElem?_append_left (by rw [bcells_length]; omega), bcells_get _ _ (by omega), nv_u8]
        have := mixl_get k S S' (by rw [HlS.out, HlS'.out]) hk1
        rw [List.getElem?_eq_getElem (by omega)] at this
        simp only [Option.some.injEq] at this
        rw [this]
      have hfree : wr.frozen? ⟨g, k, none⟩ = false := hrow.free (by
        have hm := mixl_length k S S' (by rw [HlS.out, HlS'.out])
        simp [bcells_length, hm]; omega)
      have htk : bv ((t[k]'hlt2).toNat : Int) = (T[k]'hk2).toBitVec := by
        rw [← nv_u8, bv_nv]
        congr 1
        simp only [HTT.out]
        exact (getElem_data t k hlt2 _).symm
      have hb1 : ((t[k]'hlt2).toNat : Int) < 256 := by have := (t[k]'hlt2).toNat_lt; omega
      have HTK := Lib.hid htk
      have HROW := Lib.hid hrow
      clear hrow htk
      go_wp2_with fail
      go_still_tail 13, (by kernel_rfl)
      still_call (still_of (rmul_any _ _ h0 h1 (by omega) (by omega) _))
      repeat still_step
      refine wpStill_nil ?_
      change wpList _ _ _ _ _ wr.drew
      go_wp2
      go_roundw
      case measure => simp [intOf]; omega
      case rel =>
        refine ⟨k + 1, by omega, by go_num, ?_, (hnx.setCell hg _).drew⟩
        rw [HTK.out, u8_xor_nv]
        have hm := HROW.out.set k (.int .u8 (nv ((S[k]'hk1).toBitVec ^^^ gm (bv c) (T[k]'hk2).toBitVec)))
        have hml := mixl_length k S S' (by rw [HlS.out, HlS'.out])
        have hk3 : k < S'.length := by rw [HlS'.out]; exact hlt
        have hS'k : nv ((S[k]'hk1).toBitVec ^^^ gm (bv c) (T[k]'hk2).toBitVec) = ((S'[k]'hk3).toNat : Int) := by
          rw [← nv_u8]
          congr 1
          have e := scl_get (bv c) S T k hk1 hk2
          have e2 : S'[k]'hk3 = (scl (bv c) S T)[k]'(by simp [scl]; omega) := by simp only [HS'.out]
          rw [e2, e]
        rw [hS'k] at hm ⊢
        rw [List.set_append_left _ _ (by rw [bcells_length]; omega), bcells_set, mixl_set k S S' (by rw [HlS.out, HlS'.out]) hk3] at hm
        exact hm.drew
    · obtain rfl : k = s.size := by omega
      rw [mixl_all S S' _ (by rw [HlS.out, HlS'.out]) (by rw [HlS.out]; omega)] at hrow
      have hconv := run_string_of_row (P := Try.prog) wr 56 9 5 Try.underlying56 Try.underlying5 Try.underlying9 hrow 0 s.size cap S' HlS'.out (by rw [List.drop_zero, ← HlS'.out, List.take_left' (by rw [bcells_length])])
      clear hrow
      go_wp2
      go_ret2
      exact ⟨by rw [HS'.out, HS.out, HTT.out]; rfl, hnx⟩
set_option maxHeartbeats 400000 in
theorem rscale_no (s t : ByteArray) (c : Int) (w : World) (h : s.size ≠ t.size) :
    Calls Try.prog 63 #[.string s, .string t, .int .u8 c] w fun e w' => e = .returned (.tuple #[.string ⟨#[]⟩, .bool false]) ∧ Below w.heap.size w w' := by
  have hne : ((s.size : Int) != (t.size : Int)) = true := by simp; omega
  clear h
  go_enter Try.func63, Try.ntmps63
  go_wp2
  go_ret2
  exact ⟨rfl, Below.refl _ _⟩
set_option maxHeartbeats 400000 in
theorem scale_no (s t : ByteArray) (c : Int) (w : World) (h : s.size ≠ t.size) :
    Calls Try.prog 56 #[.string s, .string t, .int .u8 c] w fun e w' => e = .returned (.tuple #[.string ⟨#[]⟩, .bool false]) ∧ Below w.heap.size w w' := by
  have hne : ((s.size : Int) != (t.size : Int)) = true := by simp; omega
  clear h
  go_enter Try.func56, Try.ntmps56
  go_wp2
  go_ret2
  exact ⟨rfl, Below.refl _ _⟩

/-- the products of t with all numbers -/
def prods (t : BitVec 8) : List Value := (List.range 256).map fun j => .int .u8 (nv (gm t (BitVec.ofNat 8 j)))
theorem prods_length (t : BitVec 8) : (prods t).length = 256 := by simp [prods]
theorem prods_get (t : BitVec 8) (j : Nat) (h : j < 256) : (prods t)[j]'(by rw [prods_length]; exact h) = .int .u8 (nv (gm t (BitVec.ofNat 8 j))) := by simp [prods]
def noughts : List Value := List.replicate 256 (.int .u8 0)
theorem noughts_length : noughts.length = 256 := by unfold noughts; exact List.length_replicate
theorem zc256 : Try.zeroCells131 = noughts.toArray := by kernel_rfl

attribute [local irreducible] noughts prods mixl
set_option maxRecDepth 100000 in
set_option maxHeartbeats 800000 in
theorem scale_yes (s t : ByteArray) (c : Int) (w : World) (h : s.size = t.size) (hs : s.size ≤ 9223372036854775807) (h0 : 0 ≤ c) (h1 : c < 256) :
    Calls Try.prog 56 #[.string s, .string t, .int .u8 c] w fun e w' => e = .returned (.tuple #[.string ⟨(scl (bv c) s.data.toList t.data.toList).toArray⟩, .bool true]) ∧ Below w.heap.size w w' := by
  have hne : ((s.size : Int) != (t.size : Int)) = false := by simp [h]
  have hl : s.data.toList.length = s.size := by simp
  have hlt : t.data.toList.length = t.size := by simp
  have HL := Lib.hid hl
  have HT := Lib.hid hlt
  have H := Lib.hid h; clear h hl hlt
  go_enter Try.func56, Try.ntmps56
  go_wp2
  go_loopw [17] (fun i wr => ∃ k : Nat, k ≤ 256 ∧ i = .int .i64 k ∧ Row wr w.heap.size 131 (mixl k noughts (prods (bv c))) ∧ Below w.heap.size w wr) (fun i _ => 256 - (intOf i).toNat)
  case atStart => exact ⟨0, by omega, rfl, by rw [mixl_zero, zc256]; exact Row.new _ _ _, (Below.refl _ _).alloc (Nat.le_refl _) _⟩
  case round =>
    obtain ⟨k, hk, rfl, hrow, hnx⟩ := hrel
    by_cases hlt : k < 256
    · have hcell : ∃ v, wr.cell? ⟨w.heap.size, k, none⟩ = some v := ⟨_, hrow.cell (mixl_get k noughts (prods (bv c)) (by rw [prods_length, noughts_length]) (by rw [noughts_length]; exact hlt))⟩
      obtain ⟨v, hcell⟩ := hcell
      have hfree : wr.frozen? ⟨w.heap.size, k, none⟩ = false := hrow.free (by rw [mixl_length _ _ _ (by rw [prods_length, noughts_length]), noughts_length]; exact hlt)
      have HROW := Lib.hid hrow
      clear hrow
      go_wp2_with (go_at_call 72; refine (mul_any _ _ h0 h1 (by omega) (by omega) _).mono ?_; rintro e w' ⟨rfl, rfl⟩)
      go_roundw
      case measure => simp [intOf]; omega
      case rel =>
        refine ⟨k + 1, by omega, by go_num, ?_, hnx.setCell (Nat.le_refl _) _⟩
        have hm := HROW.out.set k (.int .u8 (nv (gm (bv c) (bv (k : Int)))))
        rw [bv_ofNat hlt, ← prods_get _ _ hlt, mixl_set k _ _ (by rw [prods_length, noughts_length]) (by rw [prods_length]; exact hlt), prods_get _ _ hlt, ← bv_ofNat hlt] at hm
        exact hm
    · obtain rfl : k = 256 := by omega
      rw [mixl_all _ _ _ (by rw [prods_length, noughts_length]) (by rw [noughts_length]; omega)] at hrow
      have HP := Lib.hid hrow
      have hB := hrow.lt
      clear hrow
      go_wp2_with (refine wpList_bytes rfl 9 56 5 _ rfl s rfl Try.underlying9 Try.underlying56 Try.underlying5 ?_; intro g cap r w1 hg hrow hcap hbel)
      obtain ⟨S, hS⟩ : ∃ S, S = s.data.toList := ⟨_, rfl⟩
      obtain ⟨T, hT⟩ : ∃ S, S = t.data.toList := ⟨_, rfl⟩
      obtain ⟨S', hS'⟩ : ∃ S', S' = scl (bv c) S T := ⟨_, rfl⟩
      rw [← hS] at hrow
      have hlS : S.length = s.size := by rw [hS]; exact HL.out
      have hlT : T.length = s.size := by rw [hT, H.out]; exact HT.out
      have hlS' : S'.length = s.size := by rw [hS', scl_length _ _ _ (by omega), hlS]
      have HS := Lib.hid hS
      have HTT := Lib.hid hT
      have HS' := Lib.hid hS'
      have HlS := Lib.hid hlS
      have HlT := Lib.hid hlT
      have HlS' := Lib.hid hlS'
      have HR := Lib.hid hrow
      have hP1 := HP.out.after hbel
      have HP1 := Lib.hid hP1
      have hb1 := hnx.trans (hbel.mono (by omega))
      clear hS hT hS' hlS hlT hlS' hrow hP1 hnx hbel
      obtain ⟨wo, rfl⟩ : ∃ wo : World, wo = wr := ⟨_, rfl⟩
      go_loopw [31] (fun i wr => ∃ k : Nat, k ≤ s.size ∧ i = .int .i64 k ∧ Row wr w.heap.size 131 (prods (bv c)) ∧ Row wr g 5 (bcells (mixl k S S') ++ r) ∧ Below w.heap.size w wr) (fun i _ => s.size - (intOf i).toNat)
      case atStart => exact ⟨0, by omega, rfl, HP1.out, by rw [mixl_zero]; exact HR.out, hb1⟩
      case round =>
        obtain ⟨k, hk, rfl, hprod, hrow, hnx⟩ := hrel
        by_cases hlt : k < s.size
        · have hk1 : k < S.length := by rw [HlS.out]; exact hlt
          have hk2 : k < T.length := by rw [HlT.out]; exact hlt
          have hlt2 : k < t.size := by rw [← H.out]; exact hlt
          have hcell : wr.cell? ⟨g, k, none⟩ = some (.int .u8 (nv (S[k]'hk1).toBitVec)) := by
            refine hrow.cell ?_
            have hm := mixl_length k S S' (by rw [HlS.out, HlS'.out])
            rw [List.getElem?_append_left (by rw [bcells_length]; omega), bcells_get _ _ (by omega), nv_u8]
            have := mixl_get k S S' (by rw [HlS.out, HlS'.out]) hk1
            rw [List.getElem?_eq_getElem (by omega)] at this
            simp only [Option.some.injEq] at this
            rw [this]
          have hfree : wr.frozen? ⟨g, k, none⟩ = false := hrow.free (by
            have hm := mixl_length k S S' (by rw [HlS.out, HlS'.out])
            simp [bcells_length, hm]; omega)
          have hb1 : ((t[k]'hlt2).toNat : Int) < 256 := by have := (t[k]'hlt2).toNat_lt; omega
          have hpc : wr.cell? ⟨w.heap.size, (t[k]'hlt2).toNat, none⟩ = some (.int .u8 (nv (gm (bv c) (T[k]'hk2).toBitVec))) := by
            refine hprod.cell ?_
            have hx : (t[k]'hlt2).toNat < 256 := by omega
            rw [List.getElem?_eq_getElem (by rw [prods_length]; exact hx), prods_get _ _ hx]
            have e : T[k]'hk2 = t[k]'hlt2 := by simp only [HTT.out]; exact getElem_data t k hlt2 _
            rw [e, show BitVec.ofNat 8 (t[k]'hlt2).toNat = (t[k]'hlt2).toBitVec from by
              apply BitVec.eq_of_toNat_eq; simp]
          have HROW := Lib.hid hrow
          have HPROD := Lib.hid hprod
          clear hrow hprod
          go_wp2_with fail
          go_still_tail 11, (by kernel_rfl)
          change wpList _ _ _ _ _ wr.drew
          go_wp2
          go_roundw
          case measure => simp [intOf]; omega
          case rel =>
            refine ⟨k + 1, by omega, by go_num, (HPROD.out.other (by show w.heap.size ≠ g; omega) _).drew, ?_, (hnx.setCell (by show w.heap.size ≤ g; omega) _).drew⟩
            rw [u8_xor_nv]
            have hm := HROW.out.set k (.int .u8 (nv ((S[k]'hk1).toBitVec ^^^ gm (bv c) (T[k]'hk2).toBitVec)))
            have hml := mixl_length k S S' (by rw [HlS.out, HlS'.out])
            have hk3 : k < S'.length := by rw [HlS'.out]; exact hlt
            have hS'k : nv ((S[k]'hk1).toBitVec ^^^ gm (bv c) (T[k]'hk2).toBitVec) = ((S'[k]'hk3).toNat : Int) := by
              rw [← nv_u8]
              congr 1
              have e := scl_get (bv c) S T k hk1 hk2
              have e2 : S'[k]'hk3 = (scl (bv c) S T)[k]'(by simp [scl]; omega) := by simp only [HS'.out]
              rw [e2, e]
            rw [hS'k] at hm ⊢
            rw [List.set_append_left _ _ (by rw [bcells_length]; omega), bcells_set, mixl_set k S S' (by rw [HlS.out, HlS'.out]) hk3] at hm
            exact hm.drew
        · obtain rfl : k = s.size := by omega
          rw [mixl_all S S' _ (by rw [HlS.out, HlS'.out]) (by rw [HlS.out]; omega)] at hrow
          have hconv := run_string_of_row (P := Try.prog) wr 56 9 5 Try.underlying56 Try.underlying5 Try.underlying9 hrow 0 s.size cap S' HlS'.out (by rw [List.drop_zero, ← HlS'.out, List.take_left' (by rw [bcells_length])])
          clear hrow hprod
          go_wp2
          go_ret2
          exact ⟨by rw [HS'.out, HS.out, HTT.out]; rfl, hnx⟩
end Go.Proofs.Ytbnfnijjldimkab
