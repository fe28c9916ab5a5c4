/-
  The walks of matrix.Apply.
-/
import Derived.Test.YtbnfnijjldimkabMunder
namespace Go.Proofs.Ytbnfnijjldimkab
open Go.RowKit
set_option linter.unusedVariables false
set_option linter.unusedSimpArgs false
/-- a row of numbers applied to texts, its first k summands -/
def rowText (x : Nat → BitVec 8) (cols : List ByteArray) (len : Nat) : Nat → List UInt8
  | 0 => List.replicate len 0
  | k + 1 => scl (x k) (rowText x cols len k) (cols.getD k ⟨#[]⟩).data.toList
def rowStr (x : Nat → BitVec 8) (cols : List ByteArray) (len k : Nat) : ByteArray := ⟨(rowText x cols len k).toArray⟩
theorem rowText_length (x : Nat → BitVec 8) (cols : List ByteArray) (len : Nat) (h : ∀ i, i < cols.length → (cols.getD i ⟨#[]⟩).size = len) (k : Nat) (hk : k ≤ cols.length) : (rowText x cols len k).length = len := by
  induction k with
  | zero => simp [rowText]
  | succ k ih =>
    have h1 := ih (by omega)
    have h2 := h k (by omega)
    rw [rowText, scl_length _ _ _ (by rw [h1, ← h2]; simp), h1]
theorem rowStr_size (x : Nat → BitVec 8) (cols : List ByteArray) (len : Nat) (h : ∀ i, i < cols.length → (cols.getD i ⟨#[]⟩).size = len) (k : Nat) (hk : k ≤ cols.length) : (rowStr x cols len k).size = len := by
  show (rowText x cols len k).toArray.size = len
  rw [List.size_toArray, rowText_length x cols len h k hk]
/-- all rows applied -/
def appCells (A : Nat → Nat → BitVec 8) (cols : List ByteArray) (len c r : Nat) : List Value := (List.range r).map fun i => .string (rowStr (A i) cols len c)
theorem appCells_succ (A : Nat → Nat → BitVec 8) (cols : List ByteArray) (len c k : Nat) : appCells A cols len c (k + 1) = appCells A cols len c k ++ [.string (rowStr (A k) cols len c)] := by
  unfold appCells; rw [List.range_succ, List.map_append]; rfl
theorem strparts : (Try.prog.info? 9).map (fun i => (i.zero, i.size, i.bytes)) = some (some (.string ⟨#[]⟩), 1, 16) := by kernel_rfl
theorem own_ge {w : World} {base : Nat} {e : TypeId} {v : Value} {n : Nat} {xs : List Value} {s : Nat} (h : w.ownsRow base e s v n xs) {g : Nat} (hg : v.ownBlock = some g) : base ≤ g := by
  rcases h.2 with ⟨hv, _⟩ | ⟨g', cap, cur, hv, hb, _⟩
  · rw [hv] at hg; cases hg
  · rw [hv] at hg
    simp only [Value.ownBlock, Option.some.injEq] at hg
    omega
theorem own_appended {w wr w7 : World} {v : Value} {i : Nat} {xs : List Value} {o : Obj} {b : Nat} {T : TypeId} {L : List Value} (h1 : wr.ownsRow w.heap.size 9 1 v i xs) (h2 : Row wr b T L) (h3 : Below w.heap.size w wr) (hg : (wr.alloc o).grownBy w7 v.ownBlock) (hT : T ≠ 9) : Row w7 b T L ∧ Below w.heap.size w w7 := by
  have hf : Fr [] wr (wr.alloc o) := (Fr.refl _ _).alloc _
  have hg2 : Fr (match v.ownBlock with | some g => [g] | none => []) wr w7 := (hf.mono (fun i hi _ => by simp at hi)).grown hg (fun g hg => Or.inl (by rw [hg]; simp))
  refine ⟨h2.fr hg2 (fun hm => ?_), h3.trans (hg2.below h3.size (fun g hm => ?_))⟩
  · cases hv : v.ownBlock with
    | none => rw [hv] at hm; simp at hm
    | some g =>
      rw [hv] at hm
      simp only [List.mem_singleton] at hm
      exact Row.ne_own h2 h1 hT (by rw [hv, hm])
  · cases hv : v.ownBlock with
    | none => rw [hv] at hm; simp at hm
    | some g' =>
      rw [hv] at hm
      simp only [List.mem_singleton] at hm
      rw [hm]; exact own_ge h1 hv
set_option maxRecDepth 100000 in
set_option maxHeartbeats 1600000 in
theorem apply_bad1 (r c : Int) (n cap ln lcap : Nat) (a la : Option Addr) (w : World) (hl : n ≤ maxLen) (h : rightB r c n = false) :
    Calls Try.prog 34 #[.agg #[.int .i64 r, .int .i64 c, .slice a n cap], .slice la ln lcap] w fun e w' => ∃ ev, e = .returned (.tuple #[.slice none 0 0, ev]) ∧ ErrAt w.heap.size w' ev 1 ∧ Below w.heap.size w w' := by
  have S0 := Lib.hid (((Below.refl w.heap.size w).alloc (Nat.le_refl _) (.cells #[.int .i64 r, .int .i64 c, .slice a n cap] 71)))
  have HX := Lib.hid h
  clear h
  go_enter Try.func34, Try.ntmps34
  go_wp2_with (first
    | (go_at_call 51; have h9 := S0.out; clear S0; refine (right_gen r c n a cap _ hl).mono ?_; rintro e w1 ⟨rfl, hb⟩; rw [HX.out]; have S1 := Lib.hid (h9.trans (hb.mono (by simp))); clear h9 hb)
    | (go_at_call 52; have h9 := S1.out; clear S1; refine (fault_any 1 (by decide) _).mono ?_; rintro e w2 ⟨ev, rfl, he, hb⟩; have S2 := Lib.hid (And.intro (h9.trans (hb.mono h9.size)) (he.mono h9.size)); clear h9 hb he))
  go_ret2
  exact ⟨ev, rfl, S2.out.2, S2.out.1⟩
set_option maxRecDepth 100000 in
set_option maxHeartbeats 1600000 in
theorem apply_bad2 (r c : Int) (n cap ln lcap : Nat) (a la : Option Addr) (w : World) (hl : n ≤ maxLen) (hl2 : ln ≤ maxLen) (h : rightB r c n = true) (hne : (ln : Int) ≠ c) :
    Calls Try.prog 34 #[.agg #[.int .i64 r, .int .i64 c, .slice a n cap], .slice la ln lcap] w fun e w' => ∃ ev, e = .returned (.tuple #[.slice none 0 0, ev]) ∧ ErrAt w.heap.size w' ev 19 ∧ Below w.heap.size w w' := by
  have S0 := Lib.hid (And.intro (Row.new w 71 [.int .i64 r, .int .i64 c, .slice a n cap]) ((Below.refl w.heap.size w).alloc (Nat.le_refl _) (.cells #[.int .i64 r, .int .i64 c, .slice a n cap] 71)))
  have HX := Lib.hid h
  have hnb : ((ln : Int) != c) = true := by simpa using hne
  unfold maxLen at hl2
  clear h hne
  go_enter Try.func34, Try.ntmps34
  go_wp2_with (first
    | (go_at_call 51; have h9 := S0.out; clear S0; refine (right_gen r c n a cap _ hl).mono ?_; rintro e w1 ⟨rfl, hb⟩; rw [HX.out]; obtain ⟨x0, x1, x2⟩ := box3 (h9.1.after hb); have S1 := Lib.hid (h9.2.trans (hb.mono (by simp))); clear h9 hb)
    | (go_at_call 52; have h9 := S1.out; clear S1; refine (fault_any 19 (by decide) _).mono ?_; rintro e w2 ⟨ev, rfl, he, hb⟩; have S2 := Lib.hid (And.intro (h9.trans (hb.mono h9.size)) (he.mono h9.size)); clear h9 hb he))
  go_ret2
  exact ⟨ev, rfl, S2.out.2, S2.out.1⟩
/-- what Apply answers of a matrix and as many texts as it has columns -/
def AppAns (w : World) (r c : Nat) (A : Nat → Nat → BitVec 8) (cols : List ByteArray) (e : Ending) (w' : World) : Prop :=
  (((∃ i, i < cols.length ∧ (cols.getD i ⟨#[]⟩).size ≠ (cols.getD 0 ⟨#[]⟩).size) ∧ ∃ ev, e = .returned (.tuple #[.slice none 0 0, ev]) ∧ ErrAt w.heap.size w' ev 19) ∨ ((∀ i, i < cols.length → (cols.getD i ⟨#[]⟩).size = (cols.getD 0 ⟨#[]⟩).size) ∧ ∃ v, e = .returned (.tuple #[v, .nilIface]) ∧ w'.ownsRow w.heap.size 9 1 v r (appCells A cols (cols.getD 0 ⟨#[]⟩).size c r))) ∧ Below w.heap.size w w'
set_option maxRecDepth 100000 in
set_option maxHeartbeats 3200000 in
theorem apply_ok (r c ga oa n cap lg lo lcap : Nat) (A : Nat → Nat → BitVec 8) (cols : List ByteArray) (w : World) (r1 : 1 ≤ r) (r2 : r ≤ 255) (c1 : 1 ≤ c) (c2 : c ≤ 255) (hn : n = r * c) (hcap : n ≤ cap) (hcap2 : cap ≤ 9223372036854775807) (hlen : cols.length = c) (hsz : ∀ i, i < cols.length → (cols.getD i ⟨#[]⟩).size ≤ 100000)
    (ha : MatRd w ga oa r c A) (hL : ∀ j, j < cols.length → w.cell? ⟨lg, lo + j, none⟩ = some (.string (cols.getD j ⟨#[]⟩))) :
    Calls Try.prog 34 #[.agg #[.int .i64 r, .int .i64 c, .slice (some ⟨ga, oa, none⟩) n cap], .slice (some ⟨lg, lo, none⟩) c lcap] w fun e w' => AppAns w r c A cols e w' := by
  have hm := rightB_ok r1 r2 c1 c2 hn
  have q1 : n ≤ 255 * 255 := by rw [hn]; exact Nat.mul_le_mul r2 c2
  have hLlt : lg < w.heap.size := rd_cell_lt (hL 0 (by omega))
  have gal : ga < w.heap.size := rd_cell_lt (ha 0 0 (by omega) (by omega))
  have hal : Below w.heap.size w (w.alloc (.cells #[.int .i64 r, .int .i64 c, .slice (some ⟨ga, oa, none⟩) n cap] 71)) := (Below.refl _ _).alloc (Nat.le_refl _) _
  have S0 := Lib.hid (And.intro (Row.new w 71 [.int .i64 r, .int .i64 c, .slice (some ⟨ga, oa, none⟩) n cap]) hal)
  obtain ⟨t0, ht0⟩ : ∃ t, t = cols.getD 0 ⟨#[]⟩ := ⟨_, rfl⟩
  have HX := Lib.hid hm
  have HN := Lib.hid hn
  have HA := Lib.hid ha
  have HL := Lib.hid hL
  have HLEN := Lib.hid hlen
  have HT0 := Lib.hid ht0
  have HSZ := Lib.hid hsz
  have i1 : (c : Int) ≤ 255 := by omega
  have ht0s : t0.size ≤ 100000 := by rw [ht0]; exact hsz 0 (by omega)
  clear hm hn ha hL hlen ht0 hal hsz
  go_enter Try.func34, Try.ntmps34
  go_wp2_with (go_at_call 51; have h9 := S0.out; clear S0; refine (right_gen r c n _ cap _ (by unfold maxLen; omega)).mono ?_; rintro e w1 ⟨rfl, hb⟩; rw [HX.out]; obtain ⟨x0, x1, x2⟩ := box3 (h9.1.after hb); have S1 := Lib.hid (And.intro (h9.1.after hb) (h9.2.trans (hb.mono (by simp)))); clear h9 hb)
  go_loop [25] (fun i => ∃ k : Nat, k ≤ c ∧ i = .int .i64 k ∧ ∀ i, i < k → (cols.getD i ⟨#[]⟩).size = t0.size) (fun i => c - (intOf i).toNat)
  case atStart => exact ⟨0, by omega, rfl, fun i h => by omega⟩
  case round =>
    obtain ⟨k, hk, rfl, hall⟩ := hrel
    have HALL := Lib.hid hall
    clear hall
    have cl0 : World.cell? w1 ⟨lg, lo, none⟩ = some (.string t0) := (S1.out.2.cell (p := ⟨lg, lo, none⟩) hLlt).trans (by have := HL.out 0 (by rw [HLEN.out]; omega); rw [Nat.add_zero] at this; rw [this, HT0.out])
    by_cases hlt : k < c
    · obtain ⟨t, ht⟩ : ∃ t, t = cols.getD k ⟨#[]⟩ := ⟨_, rfl⟩
      have cl : World.cell? w1 ⟨lg, lo + k, none⟩ = some (.string t) := (S1.out.2.cell (p := ⟨lg, lo + k, none⟩) hLlt).trans (by rw [HL.out k (by rw [HLEN.out]; exact hlt), ht])
      have hts : t.size ≤ 100000 := by rw [ht]; exact HSZ.out k (by rw [HLEN.out]; exact hlt)
      have HTK := Lib.hid ht
      clear ht
      by_cases hs : t.size = t0.size
      · have hb : ((t.size : Int) != (t0.size : Int)) = false := by simp [hs]
        have HS := Lib.hid hs
        clear hs
        go_wp2
        go_round
        case measure => simp [intOf]; omega
        case rel =>
          refine ⟨k + 1, by omega, by go_num, fun i hi => ?_⟩
          by_cases e : i = k
          · rw [e, ← HTK.out]; exact HS.out
          · exact HALL.out i (by omega)
      · have hb : ((t.size : Int) != (t0.size : Int)) = true := by simp; omega
        have HS := Lib.hid hs
        clear hs
        go_wp2_with (go_at_call 52; have h9 := S1.out; clear S1; refine (fault_any 19 (by decide) _).mono ?_; rintro e w2 ⟨ev, rfl, he, hb⟩; have S2 := Lib.hid (And.intro (h9.2.trans (hb.mono h9.2.size)) (he.mono h9.2.size)); clear h9 hb he)
        go_ret2
        exact ⟨Or.inl ⟨⟨k, by rw [HLEN.out]; exact hlt, by rw [← HTK.out, ← HT0.out]; exact HS.out⟩, ev, rfl, S2.out.2⟩, S2.out.1⟩
    · obtain rfl : k = c := by omega
      obtain ⟨i0, hi0, hz0, hz1, hz2⟩ := info_parts u8parts
      obtain ⟨j0, hj0, jz0, jz1, jz2⟩ := info_parts strparts
      obtain ⟨len, hlen⟩ : ∃ len, len = t0.size := ⟨_, rfl⟩
      rw [← hlen] at ht0s
      have hmk := fun W => run_make_bytes (P := Try.prog) 56 5 i0 Try.underlying56 hi0 hz0 hz1 hz2 len (by omega) W
      obtain ⟨Z, hZ⟩ : ∃ Z : List UInt8, Z = List.replicate len 0 := ⟨_, rfl⟩
      have hZl : Z.length = len := by rw [hZ]; simp
      rw [← hZ] at hmk
      have hall2 : ∀ i, i < cols.length → (cols.getD i ⟨#[]⟩).size = len := fun i hi => by rw [hlen]; exact HALL.out i (by rw [← HLEN.out]; exact hi)
      have HALL2 := Lib.hid hall2
      have HZ := Lib.hid hZ
      have HZL := Lib.hid hZl
      have HLN := Lib.hid hlen
      have HMK := Lib.hid hmk
      have cq1 : len ≤ 100000 := ht0s
      clear hi0 hz0 hz1 hz2 hall2 hZ hZl hlen HALL hmk
      have S2 := Lib.hid (And.intro S1.out.1 (And.intro S1.out.2 (World.ownsRow_nil (w := w1) (base := w.heap.size) (e := 9) (size := 1))))
      go_wp2
      obtain ⟨wo, rfl⟩ : ∃ wo : World, wo = w1 := ⟨_, rfl⟩
      go_loopw [8, 40] (fun out ii wr => ∃ (i : Nat), i ≤ r ∧ ii = .int .i64 i ∧ wr.ownsRow w.heap.size 9 1 out i (appCells A cols len k i) ∧ Row wr w.heap.size 71 [.int .i64 r, .int .i64 k, .slice (some ⟨ga, oa, none⟩) n cap] ∧ Below w.heap.size w wr) (fun _ ii _ => r - (intOf ii).toNat)
      case atStart => exact ⟨0, by omega, rfl, S2.out.2.2, S2.out.1, S2.out.2.1⟩
      case round =>
        clear S2 S1 cl0 x0 x1 x2
        obtain ⟨i, hi, rfl, hown, hbx, hbel⟩ := hrel
        by_cases hlt2 : i < r
        · have hbz := hbel.size
          obtain ⟨x0, x1, x2⟩ := box3 (hbx.alloc (.cells (bcells Z).toArray 5))
          have cl0 : World.cell? wr ⟨lg, lo, none⟩ = some (.string t0) := (hbel.cell (p := ⟨lg, lo, none⟩) hLlt).trans (by have := HL.out 0 (by rw [HLEN.out]; omega); rw [Nat.add_zero] at this; rw [this, HT0.out])
          have hmk := HMK.out wr
          rw [HLN.out] at hmk
          have hz := Row0.new wr 5 (bcells Z)
          have hconv := run_string_of_row (P := Try.prog) _ 56 9 5 Try.underlying56 Try.underlying5 Try.underlying9 hz.row 0 t0.size t0.size Z (HZL.out.trans HLN.out) (by rw [List.drop_zero]; exact List.take_of_length_le (by rw [bcells_length, HZL.out, HLN.out]; exact Nat.le_refl _))
          have S3 := Lib.hid (And.intro (ownsRow_fr hown ((Fr.refl [] wr).alloc (.cells (bcells Z).toArray 5)) (by simp)) (And.intro (hbx.alloc (.cells (bcells Z).toArray 5)) (hbel.alloc (by omega) (.cells (bcells Z).toArray 5))))
          clear hown hbx hbel hz
          go_wp2_with (go_at_call 54; have h9 := S3.out; clear S3; refine (row_any r k i ga oa n cap _ hlt2 (by omega) (by omega) (by omega) HN.out hcap hcap2).mono ?_; rintro e w5 ⟨rfl, hb⟩; have S4 := Lib.hid (And.intro (ownsRow_fr h9.1 (Fr.of_below (L := []) hb) (by simp)) (And.intro (h9.2.1.after hb) (h9.2.2.trans (hb.mono h9.2.2.size)))); clear h9 hb hmk hconv cl0 x0 x1 x2)
          obtain ⟨qa, hqa⟩ : ∃ q, q = oa + i * k := ⟨_, rfl⟩
          rw [← hqa]
          have HQA := Lib.hid hqa
          clear hqa
          go_loopw [10, 53] (fun ss jj wr => ∃ (j : Nat), j ≤ k ∧ jj = .int .i64 j ∧ ss = .string (rowStr (A i) cols len j) ∧ Below w5.heap.size w5 wr) (fun _ jj _ => k - (intOf jj).toNat)
          case atStart => exact ⟨0, by omega, rfl, by rw [HZ.out]; rfl, Below.refl _ _⟩
          case round =>
            obtain ⟨j, hj, rfl, rfl, hb5⟩ := hrel
            have hown := ownsRow_fr S4.out.1 (Fr.of_below (L := []) hb5) (by simp)
            have hbx := S4.out.2.1.after hb5
            have hbel := S4.out.2.2.trans (hb5.mono S4.out.2.2.size)
            have HB5 := Lib.hid hb5
            clear hb5
            by_cases hlt3 : j < k
            · obtain ⟨t, ht⟩ : ∃ t, t = cols.getD j ⟨#[]⟩ := ⟨_, rfl⟩
              have cl : World.cell? wr ⟨lg, lo + j, none⟩ = some (.string t) := (hbel.cell (p := ⟨lg, lo + j, none⟩) hLlt).trans (by rw [HL.out j (by rw [HLEN.out]; exact hlt3), ht])
              have ca : World.cell? wr ⟨ga, qa + j, none⟩ = some (.int .u8 (nv (A i j))) := by rw [HQA.out]; exact (hbel.cell (p := ⟨ga, oa + i * k + j, none⟩) gal).trans (HA.out i j hlt2 hlt3)
              have hsz1 := rowStr_size (A i) cols len HALL2.out j (by rw [HLEN.out]; omega)
              have hsz2 : t.size = len := by rw [ht]; exact HALL2.out j (by rw [HLEN.out]; exact hlt3)
              obtain ⟨u, hu⟩ : ∃ u, u = rowStr (A i) cols len j := ⟨_, rfl⟩
              rw [← hu] at hsz1 ⊢
              have HS1 := Lib.hid hsz1
              have HS2 := Lib.hid hsz2
              have HU := Lib.hid hu
              have HT := Lib.hid ht
              have S5 := Lib.hid (And.intro hown (And.intro hbx hbel))
              clear hown hbx hbel hsz1 hsz2 hu ht
              go_wp2_with (go_at_call 56; have h9 := S5.out; clear S5; refine (scale_yes u t (nv (A i j)) _ (by rw [HS1.out, HS2.out]) (by rw [HS1.out]; omega) (nv_lo _) (nv_hi _)).mono ?_; rw [bv_nv]; rintro e w6 ⟨rfl, hb⟩; have S6 := Lib.hid (HB5.out.trans (hb.mono HB5.out.size)); clear h9 hb)
              go_roundw
              case measure => simp [intOf]; omega
              case rel =>
                refine ⟨j + 1, by omega, by go_num, ?_, S6.out⟩
                rw [HU.out, HT.out]
                rfl
            · obtain rfl : j = k := by omega
              obtain ⟨u, hu⟩ : ∃ u, u = rowStr (A i) cols len j := ⟨_, rfl⟩
              rw [← hu]
              have HU := Lib.hid hu
              have hbz2 := hbel.size
              have S5 := Lib.hid (And.intro hown (And.intro hbx hbel))
              clear hown hbx hbel hu
              go_wp2_with (at_builtin; refine wpList_append_own _ rfl (.tmp 69) (.tmp 71) 31 rfl w.heap.size 9 j0 _ 1 16 Try.underlying31 hj0 jz0 jz1 jz2 rfl (by omega) _ i (appCells A cols len j i) rfl (S5.out.1.alloc _) ⟨wr.heap.size, 0, none⟩ 1 1 [.string u] rfl rfl (World.news_of_block (cs := #[.string u]) (t := 9) (fr := (0, 0)) (heap_alloc_new wr _)) (by simp [Value.oneCell']) (by unfold maxLen; omega) (by omega) (Nat.le_trans hbz2 (by simp)) ?_; intro v' w7 hown2 hgr2 hnil2; clear hnil2; have HO2 := Lib.hid hown2; have HG2 := Lib.hid hgr2; clear hown2 hgr2)
              go_roundw
              case measure => simp [intOf]; omega
              case rel =>
                obtain ⟨h1, h2, h3⟩ := S5.out
                obtain ⟨k1, k2⟩ := own_appended h1 h2 h3 HG2.out (by decide)
                exact ⟨i + 1, by omega, by go_num, by rw [appCells_succ, ← HU.out]; exact HO2.out, k1, k2⟩
        · obtain rfl : i = r := by omega
          have S3 := Lib.hid (And.intro hown hbel)
          clear hown hbx hbel
          go_wp2
          go_ret2
          exact ⟨Or.inr ⟨fun i hi => by rw [← HT0.out, ← HLN.out]; exact HALL2.out i hi, _, rfl, by rw [← HT0.out, ← HLN.out]; exact S3.out.1⟩, S3.out.2⟩
end Go.Proofs.Ytbnfnijjldimkab
