/-
  One step of the law DiskPlays: cut, on, fuseA, fuseB, write.
-/
import Derived.Test.YthppnjmepeeejaaTail
import Derived.StillTailTactics
import Derived.Deep.RegionHeld3
import Derived.Deep.DeepCutAuto
namespace Go.Proofs.Ythppnjmepeeejaa
open Go.RowKit
set_option maxRecDepth 100000 in
set_option maxHeartbeats 1600000 in
theorem step_cut0 (w0 : World) (p d g1 e g2 n1 n2 q r s b : Nat) (P : Pw) (D1 D2 : Dk) (on at_ m : Int) (t : ByteArray) (kv : Value) (w : World) (h : Pl [(b, 63, worldL p d e q r s)] w0 p d g1 e g2 n1 n2 q r s P D1 D2 P D1 D2 w)
    (o0 : -9223372036854775808 ≤ on) (o1 : on ≤ 9223372036854775807) (hon : pickOf on 2 = 0) :
    Calls Try.prog 32 #[.pointer (some ⟨b, 0, none⟩), .agg #[.int .i64 10, .int .i64 on, .int .i64 at_, .int .i64 m, .string t, kv]] w fun x w' => x = .returned (.bool true) ∧ Pl [(b, 63, worldL p d e q r s)] w0 p d g1 e g2 n1 n2 q r s { P with gone := true } D1 D2 { P with gone := true } D1 D2 w' := by
  have hbl : Below w.heap.size w (w.alloc (.cells #[.int .i64 10, .int .i64 on, .int .i64 at_, .int .i64 m, .string t, kv] 68)) := (Below.refl _ _).alloc (Nat.le_refl _) _
  have h1 := (h.after hbl).add (Row.new w 68 (stepL 10 on at_ m t kv)) foreignStep
  have a1 := h1.snd.cell (j := 1) rfl
  have a2 := h1.snd.cell (j := 2) rfl
  have a4 := h1.snd.cell (j := 4) rfl
  have a5 := h1.snd.cell (j := 5) rfl
  have q0 := h1.rtwo.pw.cell (j := 0) rfl
  have q1 := h1.rtwo.pw.cell (j := 1) rfl
  have f0 := h1.rtwo.pw.free (j := 0) (by simp)
  have f1 := h1.rtwo.pw.free (j := 1) (by simp)
  have a0 := h1.snd.cell (j := 0) rfl
  have a3 := h1.snd.cell (j := 3) rfl
  have h2 := h1.rset (w' := (World.setCell (w.alloc (.cells #[.int .i64 10, .int .i64 on, .int .i64 at_, .int .i64 m, .string t, kv] 68)) ⟨q, 0, none⟩ (.bool true))) (RP' := { P with gone := true }) (h1.rtwo.pw.set 0 (.bool true)) ⟨h1.rok.f0, h1.rok.f1, h1.rok.a0, h1.rok.a1⟩ ((Fr.refl _ _).setCell (Or.inl (by simp)) _)
  have c0 := h2.snd.cell (j := 0) rfl
  have S1 := Lib.hid h2
  have HON := Lib.hid hon
  have S0 := Lib.hid h1
  clear hon h h1 hbl h2
  go_enter Try.func32, Try.ntmps32
  go_wp2_with (first
    | (go_at_call 18; have hx := HON.out; clear HON; refine (pick_any on 2 _ o0 o1 (by omega) (by omega)).mono ?_; rintro x w3 ⟨he, rfl⟩; rw [hx] at he; subst he; clear hx)
    | (go_at_call 51; have h9 := S1.out; clear S1; refine (h9.cut).mono ?_; rintro x w4 ⟨rfl, hx⟩; have S2 := Lib.hid hx; clear hx h9))
  refine tail w0 p d g1 e g2 n1 n2 q r s b w.heap.size d e r s _ _ _ _ _ _ _ S2.out _ _ _ _ _ _ _ _ _ _ _ _ _ _ _ _ _ _ _ _ _ _ _ _ _ _ _ _ _ _ _ _ _ _ _ _ _ _ _ _ _ _ _ _ _ _ _ _ _ _ _ _ _ _ _ _ _ _ _ _ _ _ _ _ _ _ _ _ _ _ _ _ _ _ _ _ _ _ _ _ _ _ _ _ _ _ _ _ _ _ _ _ _ _ _ _ _ _ _ _ _ _ _ _ _ _ _ _ _ _ _ _ _ _ _ _ _ _ _ _ _ _ _ _ _ _ _ _ _ _ _ _ _ _ _ _ _ _ _ _ _ _ _ _ _ _ _ _ _ _ _ _ _ _ _ _ _ _ _ _ _ _ _ _ _ _ _ _ _ _ _ _ _ _ _ _ _ _ _ _ _ _ _ _ _ _ _ _ _ _ _ _ _ _ _ _ _ _ _ _ _ _ _ _ _ _ _ _ _ _ _ _ _ _ _ _ _ _ _ _ _ _ _ _ _ _ _ _ _ _ _ _ _ _ _ _ _ _ _ _ _ _ _ _ _ _ _ _ _ _ _ _ _ _ _ _ _ _ _ _ _ _ _ _ _ _ _ ?_
  have HF := Lib.hid (fun nq => (S2.out.after (w' := World.drewN _ nq) ⟨rfl, rfl, rfl, Nat.le_refl _, fun _ _ => rfl⟩).drop)
  clear S2
  intro x203 x204 x205 x206 x207 x208 x209 x210 x211 x212 x213 x214 x215 x216 x217 x218 x219 x220 x221 x222 x223 x224 x225 x226 x227 x228 x229 x230 x231 x232 x233 x234 x235 x236 x237 x238 x239 x240 x241 x242 x243 x244 x245 x246 x247 x248 x249 x250 x251 x252 x253 x254 x255 x256 x257 x258 x259 x260 x261 x262 x263 x264 x265 x266 x267 x268 x269 x270 nq
  go_wp2
  go_ret
  exact ⟨rfl, HF.out nq⟩
set_option maxRecDepth 100000 in
set_option maxHeartbeats 1600000 in
theorem step_on0 (w0 : World) (p d g1 e g2 n1 n2 q r s b : Nat) (P : Pw) (D1 D2 : Dk) (on at_ m : Int) (t : ByteArray) (kv : Value) (w : World) (h : Pl [(b, 63, worldL p d e q r s)] w0 p d g1 e g2 n1 n2 q r s P D1 D2 P D1 D2 w)
    (o0 : -9223372036854775808 ≤ on) (o1 : on ≤ 9223372036854775807) (hon : pickOf on 2 = 0) :
    Calls Try.prog 32 #[.pointer (some ⟨b, 0, none⟩), .agg #[.int .i64 11, .int .i64 on, .int .i64 at_, .int .i64 m, .string t, kv]] w fun x w' => x = .returned (.bool true) ∧ Pl [(b, 63, worldL p d e q r s)] w0 p d g1 e g2 n1 n2 q r s { P with gone := false, fuse := -1 } D1 D2 { P with gone := false, fuse := -1 } D1 D2 w' := by
  have hbl : Below w.heap.size w (w.alloc (.cells #[.int .i64 11, .int .i64 on, .int .i64 at_, .int .i64 m, .string t, kv] 68)) := (Below.refl _ _).alloc (Nat.le_refl _) _
  have h1 := (h.after hbl).add (Row.new w 68 (stepL 11 on at_ m t kv)) foreignStep
  have a1 := h1.snd.cell (j := 1) rfl
  have a2 := h1.snd.cell (j := 2) rfl
  have a4 := h1.snd.cell (j := 4) rfl
  have a5 := h1.snd.cell (j := 5) rfl
  have q0 := h1.rtwo.pw.cell (j := 0) rfl
  have q1 := h1.rtwo.pw.cell (j := 1) rfl
  have f0 := h1.rtwo.pw.free (j := 0) (by simp)
  have f1 := h1.rtwo.pw.free (j := 1) (by simp)
  have a0 := h1.snd.cell (j := 0) rfl
  have a3 := h1.snd.cell (j := 3) rfl
  have h2 := h1.rset (w' := (World.setCell (World.setCell (w.alloc (.cells #[.int .i64 11, .int .i64 on, .int .i64 at_, .int .i64 m, .string t, kv] 68)) ⟨q, 0, none⟩ (.bool false)) ⟨q, 1, none⟩ (.int .i64 (-1)))) (RP' := { P with gone := false, fuse := -1 }) ((h1.rtwo.pw.set 0 (.bool false)).set 1 (.int .i64 (-1))) ⟨by show (-1 : Int) ≤ -1; omega, by show (-1 : Int) ≤ _; omega, h1.rok.a0, h1.rok.a1⟩ (((Fr.refl _ _).setCell (Or.inl (by simp)) _).setCell (Or.inl (by simp)) _)
  have h3 := h1.rset (w' := (World.setCell (w.alloc (.cells #[.int .i64 11, .int .i64 on, .int .i64 at_, .int .i64 m, .string t, kv] 68)) ⟨q, 0, none⟩ (.bool false))) (RP' := { P with gone := false }) (h1.rtwo.pw.set 0 (.bool false)) ⟨h1.rok.f0, h1.rok.f1, h1.rok.a0, h1.rok.a1⟩ ((Fr.refl _ _).setCell (Or.inl (by simp)) _)
  have d3 := h3.snd.cell (j := 3) rfl
  have e1 := h3.rtwo.pw.cell (j := 1) rfl
  have e2 := h3.rtwo.pw.free (j := 1) (by simp)
  have c0 := h2.snd.cell (j := 0) rfl
  have S1 := Lib.hid h2
  have HON := Lib.hid hon
  have S0 := Lib.hid h1
  clear hon h h1 hbl h2 h3
  go_enter Try.func32, Try.ntmps32
  go_wp2_with (first
    | (go_at_call 18; have hx := HON.out; clear HON; refine (pick_any on 2 _ o0 o1 (by omega) (by omega)).mono ?_; rintro x w3 ⟨he, rfl⟩; rw [hx] at he; subst he; clear hx)
    | (go_at_call 30; have h9 := S1.out; clear S1; refine (h9.on).mono ?_; rintro x w4 ⟨rfl, hx⟩; have S2 := Lib.hid hx; clear hx h9))
  refine tail w0 p d g1 e g2 n1 n2 q r s b w.heap.size d e r s _ _ _ _ _ _ _ S2.out _ _ _ _ _ _ _ _ _ _ _ _ _ _ _ _ _ _ _ _ _ _ _ _ _ _ _ _ _ _ _ _ _ _ _ _ _ _ _ _ _ _ _ _ _ _ _ _ _ _ _ _ _ _ _ _ _ _ _ _ _ _ _ _ _ _ _ _ _ _ _ _ _ _ _ _ _ _ _ _ _ _ _ _ _ _ _ _ _ _ _ _ _ _ _ _ _ _ _ _ _ _ _ _ _ _ _ _ _ _ _ _ _ _ _ _ _ _ _ _ _ _ _ _ _ _ _ _ _ _ _ _ _ _ _ _ _ _ _ _ _ _ _ _ _ _ _ _ _ _ _ _ _ _ _ _ _ _ _ _ _ _ _ _ _ _ _ _ _ _ _ _ _ _ _ _ _ _ _ _ _ _ _ _ _ _ _ _ _ _ _ _ _ _ _ _ _ _ _ _ _ _ _ _ _ _ _ _ _ _ _ _ _ _ _ _ _ _ _ _ _ _ _ _ _ _ _ _ _ _ _ _ _ _ _ _ _ _ _ _ _ _ _ _ _ _ _ _ _ _ _ _ _ _ _ _ _ _ _ _ _ _ _ _ _ _ _ ?_
  have HF := Lib.hid (fun nq => (S2.out.after (w' := World.drewN _ nq) ⟨rfl, rfl, rfl, Nat.le_refl _, fun _ _ => rfl⟩).drop)
  clear S2
  intro x203 x204 x205 x206 x207 x208 x209 x210 x211 x212 x213 x214 x215 x216 x217 x218 x219 x220 x221 x222 x223 x224 x225 x226 x227 x228 x229 x230 x231 x232 x233 x234 x235 x236 x237 x238 x239 x240 x241 x242 x243 x244 x245 x246 x247 x248 x249 x250 x251 x252 x253 x254 x255 x256 x257 x258 x259 x260 x261 x262 x263 x264 x265 x266 x267 x268 x269 x270 nq
  go_wp2
  go_ret
  exact ⟨rfl, HF.out nq⟩
set_option maxRecDepth 100000 in
set_option maxHeartbeats 1600000 in
theorem step_fuseA0 (w0 : World) (p d g1 e g2 n1 n2 q r s b : Nat) (P : Pw) (D1 D2 : Dk) (on at_ m : Int) (t : ByteArray) (kv : Value) (w : World) (h : Pl [(b, 63, worldL p d e q r s)] w0 p d g1 e g2 n1 n2 q r s P D1 D2 P D1 D2 w)
    (o0 : -9223372036854775808 ≤ on) (o1 : on ≤ 9223372036854775807) (hon : pickOf on 2 = 0) (hm : m < -1) (hm1 : m ≤ 9223372036854775807) :
    Calls Try.prog 32 #[.pointer (some ⟨b, 0, none⟩), .agg #[.int .i64 9, .int .i64 on, .int .i64 at_, .int .i64 m, .string t, kv]] w fun x w' => x = .returned (.bool true) ∧ Pl [(b, 63, worldL p d e q r s)] w0 p d g1 e g2 n1 n2 q r s { P with fuse := max m (-1) } D1 D2 { P with fuse := max m (-1) } D1 D2 w' := by
  have hbl : Below w.heap.size w (w.alloc (.cells #[.int .i64 9, .int .i64 on, .int .i64 at_, .int .i64 m, .string t, kv] 68)) := (Below.refl _ _).alloc (Nat.le_refl _) _
  have h1 := (h.after hbl).add (Row.new w 68 (stepL 9 on at_ m t kv)) foreignStep
  have a1 := h1.snd.cell (j := 1) rfl
  have a2 := h1.snd.cell (j := 2) rfl
  have a4 := h1.snd.cell (j := 4) rfl
  have a5 := h1.snd.cell (j := 5) rfl
  have q0 := h1.rtwo.pw.cell (j := 0) rfl
  have q1 := h1.rtwo.pw.cell (j := 1) rfl
  have f0 := h1.rtwo.pw.free (j := 0) (by simp)
  have f1 := h1.rtwo.pw.free (j := 1) (by simp)
  have a0 := h1.snd.cell (j := 0) rfl
  have a3 := h1.snd.cell (j := 3) rfl
  have g0 : World.cell? (w.alloc (.cells #[.int .i64 9, .int .i64 on, .int .i64 at_, .int .i64 m, .string t, kv] 68)) ⟨b, 0, none⟩ = some (.pointer (some ⟨p, 0, none⟩)) := h1.snd.cell (j := 0) rfl
  have g3 : World.cell? (w.alloc (.cells #[.int .i64 9, .int .i64 on, .int .i64 at_, .int .i64 m, .string t, kv] 68)) ⟨b, 3, none⟩ = some (.pointer (some ⟨q, 0, none⟩)) := h1.snd.cell (j := 3) rfl
  have s3 : World.cell? (w.alloc (.cells #[.int .i64 9, .int .i64 on, .int .i64 at_, .int .i64 m, .string t, kv] 68)) ⟨w.heap.size, 3, none⟩ = some (.int .i64 m) := h1.fst.cell (j := 3) rfl
  have hx : max m (-1) = (-1) := by omega
  have h2 := h1.rset (w' := (World.setCell (w.alloc (.cells #[.int .i64 9, .int .i64 on, .int .i64 at_, .int .i64 m, .string t, kv] 68)) ⟨q, 1, none⟩ (.int .i64 (-1)))) (RP' := { P with fuse := max m (-1) }) (by rw [hx]; exact h1.rtwo.pw.set 1 (.int .i64 (-1))) ⟨by show -1 ≤ max m (-1); omega, by show max m (-1) ≤ _; omega, h1.rok.a0, h1.rok.a1⟩ ((Fr.refl _ _).setCell (Or.inl (by simp)) _)
  have c0 : World.cell? (World.drew (World.setCell (w.alloc (.cells #[.int .i64 9, .int .i64 on, .int .i64 at_, .int .i64 m, .string t, kv] 68)) ⟨q, 1, none⟩ (.int .i64 (-1)))) ⟨b, 0, none⟩ = some (.pointer (some ⟨p, 0, none⟩)) := h2.snd.cell (j := 0) rfl
  have c3 : World.cell? (World.drew (World.setCell (w.alloc (.cells #[.int .i64 9, .int .i64 on, .int .i64 at_, .int .i64 m, .string t, kv] 68)) ⟨q, 1, none⟩ (.int .i64 (-1)))) ⟨w.heap.size, 3, none⟩ = some (.int .i64 m) := h2.fst.cell (j := 3) rfl
  have S1 := Lib.hid (h2.after (Below.refl _ _).drew)
  have HON := Lib.hid hon
  have S0 := Lib.hid h1
  clear hon h h1 hbl h2 hx
  go_enter Try.func32, Try.ntmps32
  go_upto_region 36 with (go_at_call 18; have hx := HON.out; clear HON; refine (pick_any on 2 _ o0 o1 (by omega) (by omega)).mono ?_; rintro x w3 ⟨he, rfl⟩; rw [hx] at he; subst he; clear hx)
  generalize w.alloc (.cells #[.int .i64 9, .int .i64 on, .int .i64 at_, .int .i64 m, .string t, kv] 68) = w2 at *
  go_still_tail 9, (by kernel_rfl)
  change wpList _ _ _ _ _ w2.drew
  go_upto_region 37 with fail
  generalize World.setCell w2 ⟨q, 1, none⟩ (.int .i64 (-1)) = w3 at *
  generalize w3.drew = w4 at *
  go_still_tail 6, (by kernel_rfl)
  change wpList _ _ _ _ _ w4.drew
  go_wp2_with (first
    | (go_at_call 26; have h9 := S1.out; clear S1; refine ((h9.after (Below.refl _ _).drew).fuse m hm1).mono ?_; rintro x w4 ⟨rfl, hx⟩; have S2 := Lib.hid hx; clear hx h9))
  refine tail w0 p d g1 e g2 n1 n2 q r s b w.heap.size d e r s _ _ _ _ _ _ _ S2.out _ _ _ _ _ _ _ _ _ _ _ _ _ _ _ _ _ _ _ _ _ _ _ _ _ _ _ _ _ _ _ _ _ _ _ _ _ _ _ _ _ _ _ _ _ _ _ _ _ _ _ _ _ _ _ _ _ _ _ _ _ _ _ _ _ _ _ _ _ _ _ _ _ _ _ _ _ _ _ _ _ _ _ _ _ _ _ _ _ _ _ _ _ _ _ _ _ _ _ _ _ _ _ _ _ _ _ _ _ _ _ _ _ _ _ _ _ _ _ _ _ _ _ _ _ _ _ _ _ _ _ _ _ _ _ _ _ _ _ _ _ _ _ _ _ _ _ _ _ _ _ _ _ _ _ _ _ _ _ _ _ _ _ _ _ _ _ _ _ _ _ _ _ _ _ _ _ _ _ _ _ _ _ _ _ _ _ _ _ _ _ _ _ _ _ _ _ _ _ _ _ _ _ _ _ _ _ _ _ _ _ _ _ _ _ _ _ _ _ _ _ _ _ _ _ _ _ _ _ _ _ _ _ _ _ _ _ _ _ _ _ _ _ _ _ _ _ _ _ _ _ _ _ _ _ _ _ _ _ _ _ _ _ _ _ _ _ ?_
  have HF := Lib.hid (fun nq => (S2.out.after (w' := World.drewN _ nq) ⟨rfl, rfl, rfl, Nat.le_refl _, fun _ _ => rfl⟩).drop)
  clear S2
  intro x203 x204 x205 x206 x207 x208 x209 x210 x211 x212 x213 x214 x215 x216 x217 x218 x219 x220 x221 x222 x223 x224 x225 x226 x227 x228 x229 x230 x231 x232 x233 x234 x235 x236 x237 x238 x239 x240 x241 x242 x243 x244 x245 x246 x247 x248 x249 x250 x251 x252 x253 x254 x255 x256 x257 x258 x259 x260 x261 x262 x263 x264 x265 x266 x267 x268 x269 x270 nq
  go_wp2
  go_ret
  exact ⟨rfl, HF.out nq⟩
set_option maxRecDepth 100000 in
set_option maxHeartbeats 1600000 in
theorem step_fuseB0 (w0 : World) (p d g1 e g2 n1 n2 q r s b : Nat) (P : Pw) (D1 D2 : Dk) (on at_ m : Int) (t : ByteArray) (kv : Value) (w : World) (h : Pl [(b, 63, worldL p d e q r s)] w0 p d g1 e g2 n1 n2 q r s P D1 D2 P D1 D2 w)
    (o0 : -9223372036854775808 ≤ on) (o1 : on ≤ 9223372036854775807) (hon : pickOf on 2 = 0) (hm : ¬ m < -1) (hm1 : m ≤ 9223372036854775807) :
    Calls Try.prog 32 #[.pointer (some ⟨b, 0, none⟩), .agg #[.int .i64 9, .int .i64 on, .int .i64 at_, .int .i64 m, .string t, kv]] w fun x w' => x = .returned (.bool true) ∧ Pl [(b, 63, worldL p d e q r s)] w0 p d g1 e g2 n1 n2 q r s { P with fuse := max m (-1) } D1 D2 { P with fuse := max m (-1) } D1 D2 w' := by
  have hbl : Below w.heap.size w (w.alloc (.cells #[.int .i64 9, .int .i64 on, .int .i64 at_, .int .i64 m, .string t, kv] 68)) := (Below.refl _ _).alloc (Nat.le_refl _) _
  have h1 := (h.after hbl).add (Row.new w 68 (stepL 9 on at_ m t kv)) foreignStep
  have a1 := h1.snd.cell (j := 1) rfl
  have a2 := h1.snd.cell (j := 2) rfl
  have a4 := h1.snd.cell (j := 4) rfl
  have a5 := h1.snd.cell (j := 5) rfl
  have q0 := h1.rtwo.pw.cell (j := 0) rfl
  have q1 := h1.rtwo.pw.cell (j := 1) rfl
  have f0 := h1.rtwo.pw.free (j := 0) (by simp)
  have f1 := h1.rtwo.pw.free (j := 1) (by simp)
  have a0 := h1.snd.cell (j := 0) rfl
  have a3 := h1.snd.cell (j := 3) rfl
  have g0 : World.cell? (w.alloc (.cells #[.int .i64 9, .int .i64 on, .int .i64 at_, .int .i64 m, .string t, kv] 68)) ⟨b, 0, none⟩ = some (.pointer (some ⟨p, 0, none⟩)) := h1.snd.cell (j := 0) rfl
  have g3 : World.cell? (w.alloc (.cells #[.int .i64 9, .int .i64 on, .int .i64 at_, .int .i64 m, .string t, kv] 68)) ⟨b, 3, none⟩ = some (.pointer (some ⟨q, 0, none⟩)) := h1.snd.cell (j := 3) rfl
  have s3 : World.cell? (w.alloc (.cells #[.int .i64 9, .int .i64 on, .int .i64 at_, .int .i64 m, .string t, kv] 68)) ⟨w.heap.size, 3, none⟩ = some (.int .i64 m) := h1.fst.cell (j := 3) rfl
  have hx : max m (-1) = m := by omega
  have h2 := h1.rset (w' := (World.setCell (w.alloc (.cells #[.int .i64 9, .int .i64 on, .int .i64 at_, .int .i64 m, .string t, kv] 68)) ⟨q, 1, none⟩ (.int .i64 m))) (RP' := { P with fuse := max m (-1) }) (by rw [hx]; exact h1.rtwo.pw.set 1 (.int .i64 m)) ⟨by show -1 ≤ max m (-1); omega, by show max m (-1) ≤ _; omega, h1.rok.a0, h1.rok.a1⟩ ((Fr.refl _ _).setCell (Or.inl (by simp)) _)
  have c0 : World.cell? (World.drew (World.setCell (w.alloc (.cells #[.int .i64 9, .int .i64 on, .int .i64 at_, .int .i64 m, .string t, kv] 68)) ⟨q, 1, none⟩ (.int .i64 m))) ⟨b, 0, none⟩ = some (.pointer (some ⟨p, 0, none⟩)) := h2.snd.cell (j := 0) rfl
  have c3 : World.cell? (World.drew (World.setCell (w.alloc (.cells #[.int .i64 9, .int .i64 on, .int .i64 at_, .int .i64 m, .string t, kv] 68)) ⟨q, 1, none⟩ (.int .i64 m))) ⟨w.heap.size, 3, none⟩ = some (.int .i64 m) := h2.fst.cell (j := 3) rfl
  have S1 := Lib.hid (h2.after (Below.refl _ _).drew)
  have HON := Lib.hid hon
  have S0 := Lib.hid h1
  clear hon h h1 hbl h2 hx
  go_enter Try.func32, Try.ntmps32
  go_upto_region 36 with (go_at_call 18; have hx := HON.out; clear HON; refine (pick_any on 2 _ o0 o1 (by omega) (by omega)).mono ?_; rintro x w3 ⟨he, rfl⟩; rw [hx] at he; subst he; clear hx)
  generalize w.alloc (.cells #[.int .i64 9, .int .i64 on, .int .i64 at_, .int .i64 m, .string t, kv] 68) = w2 at *
  go_still_tail 9, (by kernel_rfl)
  change wpList _ _ _ _ _ w2.drew
  go_upto_region 37 with fail
  generalize World.setCell w2 ⟨q, 1, none⟩ (.int .i64 m) = w3 at *
  generalize w3.drew = w4 at *
  go_still_tail 6, (by kernel_rfl)
  change wpList _ _ _ _ _ w4.drew
  go_wp2_with (first
    | (go_at_call 26; have h9 := S1.out; clear S1; refine ((h9.after (Below.refl _ _).drew).fuse m hm1).mono ?_; rintro x w4 ⟨rfl, hx⟩; have S2 := Lib.hid hx; clear hx h9))
  refine tail w0 p d g1 e g2 n1 n2 q r s b w.heap.size d e r s _ _ _ _ _ _ _ S2.out _ _ _ _ _ _ _ _ _ _ _ _ _ _ _ _ _ _ _ _ _ _ _ _ _ _ _ _ _ _ _ _ _ _ _ _ _ _ _ _ _ _ _ _ _ _ _ _ _ _ _ _ _ _ _ _ _ _ _ _ _ _ _ _ _ _ _ _ _ _ _ _ _ _ _ _ _ _ _ _ _ _ _ _ _ _ _ _ _ _ _ _ _ _ _ _ _ _ _ _ _ _ _ _ _ _ _ _ _ _ _ _ _ _ _ _ _ _ _ _ _ _ _ _ _ _ _ _ _ _ _ _ _ _ _ _ _ _ _ _ _ _ _ _ _ _ _ _ _ _ _ _ _ _ _ _ _ _ _ _ _ _ _ _ _ _ _ _ _ _ _ _ _ _ _ _ _ _ _ _ _ _ _ _ _ _ _ _ _ _ _ _ _ _ _ _ _ _ _ _ _ _ _ _ _ _ _ _ _ _ _ _ _ _ _ _ _ _ _ _ _ _ _ _ _ _ _ _ _ _ _ _ _ _ _ _ _ _ _ _ _ _ _ _ _ _ _ _ _ _ _ _ _ _ _ _ _ _ _ _ _ _ _ _ _ _ _ ?_
  have HF := Lib.hid (fun nq => (S2.out.after (w' := World.drewN _ nq) ⟨rfl, rfl, rfl, Nat.le_refl _, fun _ _ => rfl⟩).drop)
  clear S2
  intro x203 x204 x205 x206 x207 x208 x209 x210 x211 x212 x213 x214 x215 x216 x217 x218 x219 x220 x221 x222 x223 x224 x225 x226 x227 x228 x229 x230 x231 x232 x233 x234 x235 x236 x237 x238 x239 x240 x241 x242 x243 x244 x245 x246 x247 x248 x249 x250 x251 x252 x253 x254 x255 x256 x257 x258 x259 x260 x261 x262 x263 x264 x265 x266 x267 x268 x269 x270 nq
  go_wp2
  go_ret
  exact ⟨rfl, HF.out nq⟩
set_option maxRecDepth 100000 in
set_option maxHeartbeats 1600000 in
theorem step_write0 (w0 : World) (p d g1 e g2 n1 n2 q r s b : Nat) (P : Pw) (D1 D2 : Dk) (on at_ m : Int) (t : ByteArray) (kv : Value) (w : World) (h : Pl [(b, 63, worldL p d e q r s)] w0 p d g1 e g2 n1 n2 q r s P D1 D2 P D1 D2 w)
    (o0 : -9223372036854775808 ≤ on) (o1 : on ≤ 9223372036854775807) (hon : pickOf on 2 = 0) (hacts : P.acts < 4611686018427387904) (hfew : D1.wait.length < 1099511627776) (ht : t.size ≤ maxLen) :
    Calls Try.prog 32 #[.pointer (some ⟨b, 0, none⟩), .agg #[.int .i64 2, .int .i64 on, .int .i64 at_, .int .i64 m, .string t, kv]] w fun x w' => x = .returned (.bool true) ∧ Pl [(b, 63, worldL p d e q r s)] w0 p d g1 e g2 n1 n2 q r s (wpow P D1 at_ (secOf t)) (wdk P D1 at_ (secOf t)) D2 (wpow P D1 at_ (secOf t)) (wdk P D1 at_ (secOf t)) D2 w' := by
  have hbl : Below w.heap.size w (w.alloc (.cells #[.int .i64 2, .int .i64 on, .int .i64 at_, .int .i64 m, .string t, kv] 68)) := (Below.refl _ _).alloc (Nat.le_refl _) _
  have h1 := (h.after hbl).add (Row.new w 68 (stepL 2 on at_ m t kv)) foreignStep
  have a1 := h1.snd.cell (j := 1) rfl
  have a2 := h1.snd.cell (j := 2) rfl
  have a4 := h1.snd.cell (j := 4) rfl
  have a5 := h1.snd.cell (j := 5) rfl
  have s2 : World.cell? (w.alloc (.cells #[.int .i64 2, .int .i64 on, .int .i64 at_, .int .i64 m, .string t, kv] 68)) ⟨w.heap.size, 2, none⟩ = some (.int .i64 at_) := h1.fst.cell (j := 2) rfl
  have s4 : World.cell? (w.alloc (.cells #[.int .i64 2, .int .i64 on, .int .i64 at_, .int .i64 m, .string t, kv] 68)) ⟨w.heap.size, 4, none⟩ = some (.string t) := h1.fst.cell (j := 4) rfl
  have HON := Lib.hid hon
  have S0 := Lib.hid h1
  clear hon h h1 hbl
  go_enter Try.func32, Try.ntmps32
  go_upto_region 12 with (go_at_call 18; have hx := HON.out; clear HON; refine (pick_any on 2 _ o0 o1 (by omega) (by omega)).mono ?_; rintro x w3 ⟨he, rfl⟩; rw [hx] at he; subst he; clear hx)
  go_region_held3 (fun w' => w'.cell? ⟨w.heap.size, 2, none⟩ = some (.int .i64 at_) ∧ w'.cell? ⟨w.heap.size, 4, none⟩ = some (.string t)) (first | exact ⟨by assumption, by assumption⟩ | exact ⟨s2, s4⟩)
    (first
    | (go_at_call 11; have h9 := S0.out; clear S0; refine (lsector_any t _ ht).mono ?_; rintro x w4 ⟨rfl, hb⟩; have hx := (h9.after (Below.refl _ _).drew).after hb; have b2 := hx.fst.cell (j := 2) rfl; have b4 := hx.fst.cell (j := 4) rfl; have S1 := Lib.hid hx; clear hb h9 hx)
    | (go_at_call 43; have h9 := S1.out; clear S1; refine (h9.rwrite at_ (secOf t) hfew hacts).mono ?_; rintro x w5 ⟨rfl, hx⟩; have b2 := hx.fst.cell (j := 2) rfl; have b4 := hx.fst.cell (j := 4) rfl; have S2 := Lib.hid hx; clear hx h9))
  go_upto_region 13 with fail
  go_region_held3 (fun w' => w'.cell? ⟨w.heap.size, 2, none⟩ = some (.int .i64 at_) ∧ w'.cell? ⟨w.heap.size, 4, none⟩ = some (.string t)) (first | exact ⟨by assumption, by assumption⟩ | exact ⟨b2, b4⟩)
    (first
    | (go_at_call 11; have h9 := S2.out; clear S2; refine (lsector_any t _ ht).mono ?_; rintro x w6 ⟨rfl, hb⟩; have hx := (h9.after (Below.refl _ _).drew).after hb; have b2' := hx.fst.cell (j := 2) rfl; have b4' := hx.fst.cell (j := 4) rfl; have S3 := Lib.hid hx; clear hx hb h9)
    | (go_at_call 12; have h9 := S3.out; clear S3; refine (h9.write at_ (secOf t) hfew hacts).mono ?_; rintro x w7 ⟨ev, rfl, he, hx⟩; have b2'' := hx.fst.cell (j := 2) rfl; have b4'' := hx.fst.cell (j := 4) rfl; have S4 := Lib.hid hx; have HE := Lib.hid he; clear hx he h9)
    | (go_at_call 22; have h8 := HE.out; clear HE; refine (is_ok _ _ _ _ h8).mono ?_; rintro x w6 ⟨rfl, rfl⟩; clear h8))
  go_wp2
  refine tail w0 p d g1 e g2 n1 n2 q r s b w.heap.size d e r s _ _ _ _ _ _ _ S4.out _ _ _ _ _ _ _ _ _ _ _ _ _ _ _ _ _ _ _ _ _ _ _ _ _ _ _ _ _ _ _ _ _ _ _ _ _ _ _ _ _ _ _ _ _ _ _ _ _ _ _ _ _ _ _ _ _ _ _ _ _ _ _ _ _ _ _ _ _ _ _ _ _ _ _ _ _ _ _ _ _ _ _ _ _ _ _ _ _ _ _ _ _ _ _ _ _ _ _ _ _ _ _ _ _ _ _ _ _ _ _ _ _ _ _ _ _ _ _ _ _ _ _ _ _ _ _ _ _ _ _ _ _ _ _ _ _ _ _ _ _ _ _ _ _ _ _ _ _ _ _ _ _ _ _ _ _ _ _ _ _ _ _ _ _ _ _ _ _ _ _ _ _ _ _ _ _ _ _ _ _ _ _ _ _ _ _ _ _ _ _ _ _ _ _ _ _ _ _ _ _ _ _ _ _ _ _ _ _ _ _ _ _ _ _ _ _ _ _ _ _ _ _ _ _ _ _ _ _ _ _ _ _ _ _ _ _ _ _ _ _ _ _ _ _ _ _ _ _ _ _ _ _ _ _ _ _ _ _ _ _ _ _ _ _ _ _ ?_
  have HF := Lib.hid (fun nq => (S4.out.after (w' := World.drewN _ nq) ⟨rfl, rfl, rfl, Nat.le_refl _, fun _ _ => rfl⟩).drop)
  clear S4
  intro x203 x204 x205 x206 x207 x208 x209 x210 x211 x212 x213 x214 x215 x216 x217 x218 x219 x220 x221 x222 x223 x224 x225 x226 x227 x228 x229 x230 x231 x232 x233 x234 x235 x236 x237 x238 x239 x240 x241 x242 x243 x244 x245 x246 x247 x248 x249 x250 x251 x252 x253 x254 x255 x256 x257 x258 x259 x260 x261 x262 x263 x264 x265 x266 x267 x268 x269 x270 nq
  go_wp2
  go_ret
  exact ⟨rfl, HF.out nq⟩
set_option maxRecDepth 100000 in
set_option maxHeartbeats 1600000 in
theorem step_cut1 (w0 : World) (p d g1 e g2 n1 n2 q r s b : Nat) (P : Pw) (D1 D2 : Dk) (on at_ m : Int) (t : ByteArray) (kv : Value) (w : World) (h : Pl [(b, 63, worldL p e d q s r)] w0 p d g1 e g2 n1 n2 q r s P D1 D2 P D1 D2 w)
    (o0 : -9223372036854775808 ≤ on) (o1 : on ≤ 9223372036854775807) (hon : pickOf on 2 = 1) :
    Calls Try.prog 32 #[.pointer (some ⟨b, 0, none⟩), .agg #[.int .i64 10, .int .i64 on, .int .i64 at_, .int .i64 m, .string t, kv]] w fun x w' => x = .returned (.bool true) ∧ Pl [(b, 63, worldL p e d q s r)] w0 p d g1 e g2 n1 n2 q r s { P with gone := true } D1 D2 { P with gone := true } D1 D2 w' := by
  have hbl : Below w.heap.size w (w.alloc (.cells #[.int .i64 10, .int .i64 on, .int .i64 at_, .int .i64 m, .string t, kv] 68)) := (Below.refl _ _).alloc (Nat.le_refl _) _
  have h1 := (h.after hbl).add (Row.new w 68 (stepL 10 on at_ m t kv)) foreignStep
  have a1 := h1.snd.cell (j := 1) rfl
  have a2 := h1.snd.cell (j := 2) rfl
  have a4 := h1.snd.cell (j := 4) rfl
  have a5 := h1.snd.cell (j := 5) rfl
  have q0 := h1.rtwo.pw.cell (j := 0) rfl
  have q1 := h1.rtwo.pw.cell (j := 1) rfl
  have f0 := h1.rtwo.pw.free (j := 0) (by simp)
  have f1 := h1.rtwo.pw.free (j := 1) (by simp)
  have a0 := h1.snd.cell (j := 0) rfl
  have a3 := h1.snd.cell (j := 3) rfl
  have h2 := h1.rset (w' := (World.setCell (w.alloc (.cells #[.int .i64 10, .int .i64 on, .int .i64 at_, .int .i64 m, .string t, kv] 68)) ⟨q, 0, none⟩ (.bool true))) (RP' := { P with gone := true }) (h1.rtwo.pw.set 0 (.bool true)) ⟨h1.rok.f0, h1.rok.f1, h1.rok.a0, h1.rok.a1⟩ ((Fr.refl _ _).setCell (Or.inl (by simp)) _)
  have c0 := h2.snd.cell (j := 0) rfl
  have S1 := Lib.hid h2
  have HON := Lib.hid hon
  have S0 := Lib.hid h1
  clear hon h h1 hbl h2
  go_enter Try.func32, Try.ntmps32
  go_wp2_with (first
    | (go_at_call 18; have hx := HON.out; clear HON; refine (pick_any on 2 _ o0 o1 (by omega) (by omega)).mono ?_; rintro x w3 ⟨he, rfl⟩; rw [hx] at he; subst he; clear hx)
    | (go_at_call 51; have h9 := S1.out; clear S1; refine (h9.cut).mono ?_; rintro x w4 ⟨rfl, hx⟩; have S2 := Lib.hid hx; clear hx h9))
  refine tail w0 p d g1 e g2 n1 n2 q r s b w.heap.size e d s r _ _ _ _ _ _ _ S2.out _ _ _ _ _ _ _ _ _ _ _ _ _ _ _ _ _ _ _ _ _ _ _ _ _ _ _ _ _ _ _ _ _ _ _ _ _ _ _ _ _ _ _ _ _ _ _ _ _ _ _ _ _ _ _ _ _ _ _ _ _ _ _ _ _ _ _ _ _ _ _ _ _ _ _ _ _ _ _ _ _ _ _ _ _ _ _ _ _ _ _ _ _ _ _ _ _ _ _ _ _ _ _ _ _ _ _ _ _ _ _ _ _ _ _ _ _ _ _ _ _ _ _ _ _ _ _ _ _ _ _ _ _ _ _ _ _ _ _ _ _ _ _ _ _ _ _ _ _ _ _ _ _ _ _ _ _ _ _ _ _ _ _ _ _ _ _ _ _ _ _ _ _ _ _ _ _ _ _ _ _ _ _ _ _ _ _ _ _ _ _ _ _ _ _ _ _ _ _ _ _ _ _ _ _ _ _ _ _ _ _ _ _ _ _ _ _ _ _ _ _ _ _ _ _ _ _ _ _ _ _ _ _ _ _ _ _ _ _ _ _ _ _ _ _ _ _ _ _ _ _ _ _ _ _ _ _ _ _ _ _ _ _ _ _ _ _ ?_
  have HF := Lib.hid (fun nq => (S2.out.after (w' := World.drewN _ nq) ⟨rfl, rfl, rfl, Nat.le_refl _, fun _ _ => rfl⟩).drop)
  clear S2
  intro x203 x204 x205 x206 x207 x208 x209 x210 x211 x212 x213 x214 x215 x216 x217 x218 x219 x220 x221 x222 x223 x224 x225 x226 x227 x228 x229 x230 x231 x232 x233 x234 x235 x236 x237 x238 x239 x240 x241 x242 x243 x244 x245 x246 x247 x248 x249 x250 x251 x252 x253 x254 x255 x256 x257 x258 x259 x260 x261 x262 x263 x264 x265 x266 x267 x268 x269 x270 nq
  go_wp2
  go_ret
  exact ⟨rfl, HF.out nq⟩
set_option maxRecDepth 100000 in
set_option maxHeartbeats 1600000 in
theorem step_on1 (w0 : World) (p d g1 e g2 n1 n2 q r s b : Nat) (P : Pw) (D1 D2 : Dk) (on at_ m : Int) (t : ByteArray) (kv : Value) (w : World) (h : Pl [(b, 63, worldL p e d q s r)] w0 p d g1 e g2 n1 n2 q r s P D1 D2 P D1 D2 w)
    (o0 : -9223372036854775808 ≤ on) (o1 : on ≤ 9223372036854775807) (hon : pickOf on 2 = 1) :
    Calls Try.prog 32 #[.pointer (some ⟨b, 0, none⟩), .agg #[.int .i64 11, .int .i64 on, .int .i64 at_, .int .i64 m, .string t, kv]] w fun x w' => x = .returned (.bool true) ∧ Pl [(b, 63, worldL p e d q s r)] w0 p d g1 e g2 n1 n2 q r s { P with gone := false, fuse := -1 } D1 D2 { P with gone := false, fuse := -1 } D1 D2 w' := by
  have hbl : Below w.heap.size w (w.alloc (.cells #[.int .i64 11, .int .i64 on, .int .i64 at_, .int .i64 m, .string t, kv] 68)) := (Below.refl _ _).alloc (Nat.le_refl _) _
  have h1 := (h.after hbl).add (Row.new w 68 (stepL 11 on at_ m t kv)) foreignStep
  have a1 := h1.snd.cell (j := 1) rfl
  have a2 := h1.snd.cell (j := 2) rfl
  have a4 := h1.snd.cell (j := 4) rfl
  have a5 := h1.snd.cell (j := 5) rfl
  have q0 := h1.rtwo.pw.cell (j := 0) rfl
  have q1 := h1.rtwo.pw.cell (j := 1) rfl
  have f0 := h1.rtwo.pw.free (j := 0) (by simp)
  have f1 := h1.rtwo.pw.free (j := 1) (by simp)
  have a0 := h1.snd.cell (j := 0) rfl
  have a3 := h1.snd.cell (j := 3) rfl
  have h2 := h1.rset (w' := (World.setCell (World.setCell (w.alloc (.cells #[.int .i64 11, .int .i64 on, .int .i64 at_, .int .i64 m, .string t, kv] 68)) ⟨q, 0, none⟩ (.bool false)) ⟨q, 1, none⟩ (.int .i64 (-1)))) (RP' := { P with gone := false, fuse := -1 }) ((h1.rtwo.pw.set 0 (.bool false)).set 1 (.int .i64 (-1))) ⟨by show (-1 : Int) ≤ -1; omega, by show (-1 : Int) ≤ _; omega, h1.rok.a0, h1.rok.a1⟩ (((Fr.refl _ _).setCell (Or.inl (by simp)) _).setCell (Or.inl (by simp)) _)
  have h3 := h1.rset (w' := (World.setCell (w.alloc (.cells #[.int .i64 11, .int .i64 on, .int .i64 at_, .int .i64 m, .string t, kv] 68)) ⟨q, 0, none⟩ (.bool false))) (RP' := { P with gone := false }) (h1.rtwo.pw.set 0 (.bool false)) ⟨h1.rok.f0, h1.rok.f1, h1.rok.a0, h1.rok.a1⟩ ((Fr.refl _ _).setCell (Or.inl (by simp)) _)
  have d3 := h3.snd.cell (j := 3) rfl
  have e1 := h3.rtwo.pw.cell (j := 1) rfl
  have e2 := h3.rtwo.pw.free (j := 1) (by simp)
  have c0 := h2.snd.cell (j := 0) rfl
  have S1 := Lib.hid h2
  have HON := Lib.hid hon
  have S0 := Lib.hid h1
  clear hon h h1 hbl h2 h3
  go_enter Try.func32, Try.ntmps32
  go_wp2_with (first
    | (go_at_call 18; have hx := HON.out; clear HON; refine (pick_any on 2 _ o0 o1 (by omega) (by omega)).mono ?_; rintro x w3 ⟨he, rfl⟩; rw [hx] at he; subst he; clear hx)
    | (go_at_call 30; have h9 := S1.out; clear S1; refine (h9.on).mono ?_; rintro x w4 ⟨rfl, hx⟩; have S2 := Lib.hid hx; clear hx h9))
  refine tail w0 p d g1 e g2 n1 n2 q r s b w.heap.size e d s r _ _ _ _ _ _ _ S2.out _ _ _ _ _ _ _ _ _ _ _ _ _ _ _ _ _ _ _ _ _ _ _ _ _ _ _ _ _ _ _ _ _ _ _ _ _ _ _ _ _ _ _ _ _ _ _ _ _ _ _ _ _ _ _ _ _ _ _ _ _ _ _ _ _ _ _ _ _ _ _ _ _ _ _ _ _ _ _ _ _ _ _ _ _ _ _ _ _ _ _ _ _ _ _ _ _ _ _ _ _ _ _ _ _ _ _ _ _ _ _ _ _ _ _ _ _ _ _ _ _ _ _ _ _ _ _ _ _ _ _ _ _ _ _ _ _ _ _ _ _ _ _ _ _ _ _ _ _ _ _ _ _ _ _ _ _ _ _ _ _ _ _ _ _ _ _ _ _ _ _ _ _ _ _ _ _ _ _ _ _ _ _ _ _ _ _ _ _ _ _ _ _ _ _ _ _ _ _ _ _ _ _ _ _ _ _ _ _ _ _ _ _ _ _ _ _ _ _ _ _ _ _ _ _ _ _ _ _ _ _ _ _ _ _ _ _ _ _ _ _ _ _ _ _ _ _ _ _ _ _ _ _ _ _ _ _ _ _ _ _ _ _ _ _ _ _ ?_
  have HF := Lib.hid (fun nq => (S2.out.after (w' := World.drewN _ nq) ⟨rfl, rfl, rfl, Nat.le_refl _, fun _ _ => rfl⟩).drop)
  clear S2
  intro x203 x204 x205 x206 x207 x208 x209 x210 x211 x212 x213 x214 x215 x216 x217 x218 x219 x220 x221 x222 x223 x224 x225 x226 x227 x228 x229 x230 x231 x232 x233 x234 x235 x236 x237 x238 x239 x240 x241 x242 x243 x244 x245 x246 x247 x248 x249 x250 x251 x252 x253 x254 x255 x256 x257 x258 x259 x260 x261 x262 x263 x264 x265 x266 x267 x268 x269 x270 nq
  go_wp2
  go_ret
  exact ⟨rfl, HF.out nq⟩
set_option maxRecDepth 100000 in
set_option maxHeartbeats 1600000 in
theorem step_fuseA1 (w0 : World) (p d g1 e g2 n1 n2 q r s b : Nat) (P : Pw) (D1 D2 : Dk) (on at_ m : Int) (t : ByteArray) (kv : Value) (w : World) (h : Pl [(b, 63, worldL p e d q s r)] w0 p d g1 e g2 n1 n2 q r s P D1 D2 P D1 D2 w)
    (o0 : -9223372036854775808 ≤ on) (o1 : on ≤ 9223372036854775807) (hon : pickOf on 2 = 1) (hm : m < -1) (hm1 : m ≤ 9223372036854775807) :
    Calls Try.prog 32 #[.pointer (some ⟨b, 0, none⟩), .agg #[.int .i64 9, .int .i64 on, .int .i64 at_, .int .i64 m, .string t, kv]] w fun x w' => x = .returned (.bool true) ∧ Pl [(b, 63, worldL p e d q s r)] w0 p d g1 e g2 n1 n2 q r s { P with fuse := max m (-1) } D1 D2 { P with fuse := max m (-1) } D1 D2 w' := by
  have hbl : Below w.heap.size w (w.alloc (.cells #[.int .i64 9, .int .i64 on, .int .i64 at_, .int .i64 m, .string t, kv] 68)) := (Below.refl _ _).alloc (Nat.le_refl _) _
  have h1 := (h.after hbl).add (Row.new w 68 (stepL 9 on at_ m t kv)) foreignStep
  have a1 := h1.snd.cell (j := 1) rfl
  have a2 := h1.snd.cell (j := 2) rfl
  have a4 := h1.snd.cell (j := 4) rfl
  have a5 := h1.snd.cell (j := 5) rfl
  have q0 := h1.rtwo.pw.cell (j := 0) rfl
  have q1 := h1.rtwo.pw.cell (j := 1) rfl
  have f0 := h1.rtwo.pw.free (j := 0) (by simp)
  have f1 := h1.rtwo.pw.free (j := 1) (by simp)
  have a0 := h1.snd.cell (j := 0) rfl
  have a3 := h1.snd.cell (j := 3) rfl
  have g0 : World.cell? (w.alloc (.cells #[.int .i64 9, .int .i64 on, .int .i64 at_, .int .i64 m, .string t, kv] 68)) ⟨b, 0, none⟩ = some (.pointer (some ⟨p, 0, none⟩)) := h1.snd.cell (j := 0) rfl
  have g3 : World.cell? (w.alloc (.cells #[.int .i64 9, .int .i64 on, .int .i64 at_, .int .i64 m, .string t, kv] 68)) ⟨b, 3, none⟩ = some (.pointer (some ⟨q, 0, none⟩)) := h1.snd.cell (j := 3) rfl
  have s3 : World.cell? (w.alloc (.cells #[.int .i64 9, .int .i64 on, .int .i64 at_, .int .i64 m, .string t, kv] 68)) ⟨w.heap.size, 3, none⟩ = some (.int .i64 m) := h1.fst.cell (j := 3) rfl
  have hx : max m (-1) = (-1) := by omega
  have h2 := h1.rset (w' := (World.setCell (w.alloc (.cells #[.int .i64 9, .int .i64 on, .int .i64 at_, .int .i64 m, .string t, kv] 68)) ⟨q, 1, none⟩ (.int .i64 (-1)))) (RP' := { P with fuse := max m (-1) }) (by rw [hx]; exact h1.rtwo.pw.set 1 (.int .i64 (-1))) ⟨by show -1 ≤ max m (-1); omega, by show max m (-1) ≤ _; omega, h1.rok.a0, h1.rok.a1⟩ ((Fr.refl _ _).setCell (Or.inl (by simp)) _)
  have c0 : World.cell? (World.drew (World.setCell (w.alloc (.cells #[.int .i64 9, .int .i64 on, .int .i64 at_, .int .i64 m, .string t, kv] 68)) ⟨q, 1, none⟩ (.int .i64 (-1)))) ⟨b, 0, none⟩ = some (.pointer (some ⟨p, 0, none⟩)) := h2.snd.cell (j := 0) rfl
  have c3 : World.cell? (World.drew (World.setCell (w.alloc (.cells #[.int .i64 9, .int .i64 on, .int .i64 at_, .int .i64 m, .string t, kv] 68)) ⟨q, 1, none⟩ (.int .i64 (-1)))) ⟨w.heap.size, 3, none⟩ = some (.int .i64 m) := h2.fst.cell (j := 3) rfl
  have S1 := Lib.hid (h2.after (Below.refl _ _).drew)
  have HON := Lib.hid hon
  have S0 := Lib.hid h1
  clear hon h h1 hbl h2 hx
  go_enter Try.func32, Try.ntmps32
  go_upto_region 36 with (go_at_call 18; have hx := HON.out; clear HON; refine (pick_any on 2 _ o0 o1 (by omega) (by omega)).mono ?_; rintro x w3 ⟨he, rfl⟩; rw [hx] at he; subst he; clear hx)
  generalize w.alloc (.cells #[.int .i64 9, .int .i64 on, .int .i64 at_, .int .i64 m, .string t, kv] 68) = w2 at *
  go_still_tail 9, (by kernel_rfl)
  change wpList _ _ _ _ _ w2.drew
  go_upto_region 37 with fail
  generalize World.setCell w2 ⟨q, 1, none⟩ (.int .i64 (-1)) = w3 at *
  generalize w3.drew = w4 at *
  go_still_tail 6, (by kernel_rfl)
  change wpList _ _ _ _ _ w4.drew
  go_wp2_with (first
    | (go_at_call 26; have h9 := S1.out; clear S1; refine ((h9.after (Below.refl _ _).drew).fuse m hm1).mono ?_; rintro x w4 ⟨rfl, hx⟩; have S2 := Lib.hid hx; clear hx h9))
  refine tail w0 p d g1 e g2 n1 n2 q r s b w.heap.size e d s r _ _ _ _ _ _ _ S2.out _ _ _ _ _ _ _ _ _ _ _ _ _ _ _ _ _ _ _ _ _ _ _ _ _ _ _ _ _ _ _ _ _ _ _ _ _ _ _ _ _ _ _ _ _ _ _ _ _ _ _ _ _ _ _ _ _ _ _ _ _ _ _ _ _ _ _ _ _ _ _ _ _ _ _ _ _ _ _ _ _ _ _ _ _ _ _ _ _ _ _ _ _ _ _ _ _ _ _ _ _ _ _ _ _ _ _ _ _ _ _ _ _ _ _ _ _ _ _ _ _ _ _ _ _ _ _ _ _ _ _ _ _ _ _ _ _ _ _ _ _ _ _ _ _ _ _ _ _ _ _ _ _ _ _ _ _ _ _ _ _ _ _ _ _ _ _ _ _ _ _ _ _ _ _ _ _ _ _ _ _ _ _ _ _ _ _ _ _ _ _ _ _ _ _ _ _ _ _ _ _ _ _ _ _ _ _ _ _ _ _ _ _ _ _ _ _ _ _ _ _ _ _ _ _ _ _ _ _ _ _ _ _ _ _ _ _ _ _ _ _ _ _ _ _ _ _ _ _ _ _ _ _ _ _ _ _ _ _ _ _ _ _ _ _ _ _ ?_
  have HF := Lib.hid (fun nq => (S2.out.after (w' := World.drewN _ nq) ⟨rfl, rfl, rfl, Nat.le_refl _, fun _ _ => rfl⟩).drop)
  clear S2
  intro x203 x204 x205 x206 x207 x208 x209 x210 x211 x212 x213 x214 x215 x216 x217 x218 x219 x220 x221 x222 x223 x224 x225 x226 x227 x228 x229 x230 x231 x232 x233 x234 x235 x236 x237 x238 x239 x240 x241 x242 x243 x244 x245 x246 x247 x248 x249 x250 x251 x252 x253 x254 x255 x256 x257 x258 x259 x260 x261 x262 x263 x264 x265 x266 x267 x268 x269 x270 nq
  go_wp2
  go_ret
  exact ⟨rfl, HF.out nq⟩
set_option maxRecDepth 100000 in
set_option maxHeartbeats 1600000 in
theorem step_fuseB1 (w0 : World) (p d g1 e g2 n1 n2 q r s b : Nat) (P : Pw) (D1 D2 : Dk) (on at_ m : Int) (t : ByteArray) (kv : Value) (w : World) (h : Pl [(b, 63, worldL p e d q s r)] w0 p d g1 e g2 n1 n2 q r s P D1 D2 P D1 D2 w)
    (o0 : -9223372036854775808 ≤ on) (o1 : on ≤ 9223372036854775807) (hon : pickOf on 2 = 1) (hm : ¬ m < -1) (hm1 : m ≤ 9223372036854775807) :
    Calls Try.prog 32 #[.pointer (some ⟨b, 0, none⟩), .agg #[.int .i64 9, .int .i64 on, .int .i64 at_, .int .i64 m, .string t, kv]] w fun x w' => x = .returned (.bool true) ∧ Pl [(b, 63, worldL p e d q s r)] w0 p d g1 e g2 n1 n2 q r s { P with fuse := max m (-1) } D1 D2 { P with fuse := max m (-1) } D1 D2 w' := by
  have hbl : Below w.heap.size w (w.alloc (.cells #[.int .i64 9, .int .i64 on, .int .i64 at_, .int .i64 m, .string t, kv] 68)) := (Below.refl _ _).alloc (Nat.le_refl _) _
  have h1 := (h.after hbl).add (Row.new w 68 (stepL 9 on at_ m t kv)) foreignStep
  have a1 := h1.snd.cell (j := 1) rfl
  have a2 := h1.snd.cell (j := 2) rfl
  have a4 := h1.snd.cell (j := 4) rfl
  have a5 := h1.snd.cell (j := 5) rfl
  have q0 := h1.rtwo.pw.cell (j := 0) rfl
  have q1 := h1.rtwo.pw.cell (j := 1) rfl
  have f0 := h1.rtwo.pw.free (j := 0) (by simp)
  have f1 := h1.rtwo.pw.free (j := 1) (by simp)
  have a0 := h1.snd.cell (j := 0) rfl
  have a3 := h1.snd.cell (j := 3) rfl
  have g0 : World.cell? (w.alloc (.cells #[.int .i64 9, .int .i64 on, .int .i64 at_, .int .i64 m, .string t, kv] 68)) ⟨b, 0, none⟩ = some (.pointer (some ⟨p, 0, none⟩)) := h1.snd.cell (j := 0) rfl
  have g3 : World.cell? (w.alloc (.cells #[.int .i64 9, .int .i64 on, .int .i64 at_, .int .i64 m, .string t, kv] 68)) ⟨b, 3, none⟩ = some (.pointer (some ⟨q, 0, none⟩)) := h1.snd.cell (j := 3) rfl
  have s3 : World.cell? (w.alloc (.cells #[.int .i64 9, .int .i64 on, .int .i64 at_, .int .i64 m, .string t, kv] 68)) ⟨w.heap.size, 3, none⟩ = some (.int .i64 m) := h1.fst.cell (j := 3) rfl
  have hx : max m (-1) = m := by omega
  have h2 := h1.rset (w' := (World.setCell (w.alloc (.cells #[.int .i64 9, .int .i64 on, .int .i64 at_, .int .i64 m, .string t, kv] 68)) ⟨q, 1, none⟩ (.int .i64 m))) (RP' := { P with fuse := max m (-1) }) (by rw [hx]; exact h1.rtwo.pw.set 1 (.int .i64 m)) ⟨by show -1 ≤ max m (-1); omega, by show max m (-1) ≤ _; omega, h1.rok.a0, h1.rok.a1⟩ ((Fr.refl _ _).setCell (Or.inl (by simp)) _)
  have c0 : World.cell? (World.drew (World.setCell (w.alloc (.cells #[.int .i64 9, .int .i64 on, .int .i64 at_, .int .i64 m, .string t, kv] 68)) ⟨q, 1, none⟩ (.int .i64 m))) ⟨b, 0, none⟩ = some (.pointer (some ⟨p, 0, none⟩)) := h2.snd.cell (j := 0) rfl
  have c3 : World.cell? (World.drew (World.setCell (w.alloc (.cells #[.int .i64 9, .int .i64 on, .int .i64 at_, .int .i64 m, .string t, kv] 68)) ⟨q, 1, none⟩ (.int .i64 m))) ⟨w.heap.size, 3, none⟩ = some (.int .i64 m) := h2.fst.cell (j := 3) rfl
  have S1 := Lib.hid (h2.after (Below.refl _ _).drew)
  have HON := Lib.hid hon
  have S0 := Lib.hid h1
  clear hon h h1 hbl h2 hx
  go_enter Try.func32, Try.ntmps32
  go_upto_region 36 with (go_at_call 18; have hx := HON.out; clear HON; refine (pick_any on 2 _ o0 o1 (by omega) (by omega)).mono ?_; rintro x w3 ⟨he, rfl⟩; rw [hx] at he; subst he; clear hx)
  generalize w.alloc (.cells #[.int .i64 9, .int .i64 on, .int .i64 at_, .int .i64 m, .string t, kv] 68) = w2 at *
  go_still_tail 9, (by kernel_rfl)
  change wpList _ _ _ _ _ w2.drew
  go_upto_region 37 with fail
  generalize World.setCell w2 ⟨q, 1, none⟩ (.int .i64 m) = w3 at *
  generalize w3.drew = w4 at *
  go_still_tail 6, (by kernel_rfl)
  change wpList _ _ _ _ _ w4.drew
  go_wp2_with (first
    | (go_at_call 26; have h9 := S1.out; clear S1; refine ((h9.after (Below.refl _ _).drew).fuse m hm1).mono ?_; rintro x w4 ⟨rfl, hx⟩; have S2 := Lib.hid hx; clear hx h9))
  refine tail w0 p d g1 e g2 n1 n2 q r s b w.heap.size e d s r _ _ _ _ _ _ _ S2.out _ _ _ _ _ _ _ _ _ _ _ _ _ _ _ _ _ _ _ _ _ _ _ _ _ _ _ _ _ _ _ _ _ _ _ _ _ _ _ _ _ _ _ _ _ _ _ _ _ _ _ _ _ _ _ _ _ _ _ _ _ _ _ _ _ _ _ _ _ _ _ _ _ _ _ _ _ _ _ _ _ _ _ _ _ _ _ _ _ _ _ _ _ _ _ _ _ _ _ _ _ _ _ _ _ _ _ _ _ _ _ _ _ _ _ _ _ _ _ _ _ _ _ _ _ _ _ _ _ _ _ _ _ _ _ _ _ _ _ _ _ _ _ _ _ _ _ _ _ _ _ _ _ _ _ _ _ _ _ _ _ _ _ _ _ _ _ _ _ _ _ _ _ _ _ _ _ _ _ _ _ _ _ _ _ _ _ _ _ _ _ _ _ _ _ _ _ _ _ _ _ _ _ _ _ _ _ _ _ _ _ _ _ _ _ _ _ _ _ _ _ _ _ _ _ _ _ _ _ _ _ _ _ _ _ _ _ _ _ _ _ _ _ _ _ _ _ _ _ _ _ _ _ _ _ _ _ _ _ _ _ _ _ _ _ _ _ ?_
  have HF := Lib.hid (fun nq => (S2.out.after (w' := World.drewN _ nq) ⟨rfl, rfl, rfl, Nat.le_refl _, fun _ _ => rfl⟩).drop)
  clear S2
  intro x203 x204 x205 x206 x207 x208 x209 x210 x211 x212 x213 x214 x215 x216 x217 x218 x219 x220 x221 x222 x223 x224 x225 x226 x227 x228 x229 x230 x231 x232 x233 x234 x235 x236 x237 x238 x239 x240 x241 x242 x243 x244 x245 x246 x247 x248 x249 x250 x251 x252 x253 x254 x255 x256 x257 x258 x259 x260 x261 x262 x263 x264 x265 x266 x267 x268 x269 x270 nq
  go_wp2
  go_ret
  exact ⟨rfl, HF.out nq⟩
set_option maxRecDepth 100000 in
set_option maxHeartbeats 1600000 in
theorem step_write1 (w0 : World) (p d g1 e g2 n1 n2 q r s b : Nat) (P : Pw) (D1 D2 : Dk) (on at_ m : Int) (t : ByteArray) (kv : Value) (w : World) (h : Pl [(b, 63, worldL p e d q s r)] w0 p d g1 e g2 n1 n2 q r s P D1 D2 P D1 D2 w)
    (o0 : -9223372036854775808 ≤ on) (o1 : on ≤ 9223372036854775807) (hon : pickOf on 2 = 1) (hacts : P.acts < 4611686018427387904) (hfew : D1.wait.length < 1099511627776) (ht : t.size ≤ maxLen) :
    Calls Try.prog 32 #[.pointer (some ⟨b, 0, none⟩), .agg #[.int .i64 2, .int .i64 on, .int .i64 at_, .int .i64 m, .string t, kv]] w fun x w' => x = .returned (.bool true) ∧ Pl [(b, 63, worldL p e d q s r)] w0 p d g1 e g2 n1 n2 q r s (wpow P D1 at_ (secOf t)) (wdk P D1 at_ (secOf t)) D2 (wpow P D1 at_ (secOf t)) (wdk P D1 at_ (secOf t)) D2 w' := by
  have hbl : Below w.heap.size w (w.alloc (.cells #[.int .i64 2, .int .i64 on, .int .i64 at_, .int .i64 m, .string t, kv] 68)) := (Below.refl _ _).alloc (Nat.le_refl _) _
  have h1 := (h.after hbl).add (Row.new w 68 (stepL 2 on at_ m t kv)) foreignStep
  have a1 := h1.snd.cell (j := 1) rfl
  have a2 := h1.snd.cell (j := 2) rfl
  have a4 := h1.snd.cell (j := 4) rfl
  have a5 := h1.snd.cell (j := 5) rfl
  have s2 : World.cell? (w.alloc (.cells #[.int .i64 2, .int .i64 on, .int .i64 at_, .int .i64 m, .string t, kv] 68)) ⟨w.heap.size, 2, none⟩ = some (.int .i64 at_) := h1.fst.cell (j := 2) rfl
  have s4 : World.cell? (w.alloc (.cells #[.int .i64 2, .int .i64 on, .int .i64 at_, .int .i64 m, .string t, kv] 68)) ⟨w.heap.size, 4, none⟩ = some (.string t) := h1.fst.cell (j := 4) rfl
  have HON := Lib.hid hon
  have S0 := Lib.hid h1
  clear hon h h1 hbl
  go_enter Try.func32, Try.ntmps32
  go_upto_region 12 with (go_at_call 18; have hx := HON.out; clear HON; refine (pick_any on 2 _ o0 o1 (by omega) (by omega)).mono ?_; rintro x w3 ⟨he, rfl⟩; rw [hx] at he; subst he; clear hx)
  go_region_held3 (fun w' => w'.cell? ⟨w.heap.size, 2, none⟩ = some (.int .i64 at_) ∧ w'.cell? ⟨w.heap.size, 4, none⟩ = some (.string t)) (first | exact ⟨by assumption, by assumption⟩ | exact ⟨s2, s4⟩)
    (first
    | (go_at_call 11; have h9 := S0.out; clear S0; refine (lsector_any t _ ht).mono ?_; rintro x w4 ⟨rfl, hb⟩; have hx := (h9.after (Below.refl _ _).drew).after hb; have b2 := hx.fst.cell (j := 2) rfl; have b4 := hx.fst.cell (j := 4) rfl; have S1 := Lib.hid hx; clear hb h9 hx)
    | (go_at_call 43; have h9 := S1.out; clear S1; refine (h9.rwrite at_ (secOf t) hfew hacts).mono ?_; rintro x w5 ⟨rfl, hx⟩; have b2 := hx.fst.cell (j := 2) rfl; have b4 := hx.fst.cell (j := 4) rfl; have S2 := Lib.hid hx; clear hx h9))
  go_upto_region 13 with fail
  go_region_held3 (fun w' => w'.cell? ⟨w.heap.size, 2, none⟩ = some (.int .i64 at_) ∧ w'.cell? ⟨w.heap.size, 4, none⟩ = some (.string t)) (first | exact ⟨by assumption, by assumption⟩ | exact ⟨b2, b4⟩)
    (first
    | (go_at_call 11; have h9 := S2.out; clear S2; refine (lsector_any t _ ht).mono ?_; rintro x w6 ⟨rfl, hb⟩; have hx := (h9.after (Below.refl _ _).drew).after hb; have b2' := hx.fst.cell (j := 2) rfl; have b4' := hx.fst.cell (j := 4) rfl; have S3 := Lib.hid hx; clear hx hb h9)
    | (go_at_call 12; have h9 := S3.out; clear S3; refine (h9.write at_ (secOf t) hfew hacts).mono ?_; rintro x w7 ⟨ev, rfl, he, hx⟩; have b2'' := hx.fst.cell (j := 2) rfl; have b4'' := hx.fst.cell (j := 4) rfl; have S4 := Lib.hid hx; have HE := Lib.hid he; clear hx he h9)
    | (go_at_call 22; have h8 := HE.out; clear HE; refine (is_ok _ _ _ _ h8).mono ?_; rintro x w6 ⟨rfl, rfl⟩; clear h8))
  go_wp2
  refine tail w0 p d g1 e g2 n1 n2 q r s b w.heap.size e d s r _ _ _ _ _ _ _ S4.out _ _ _ _ _ _ _ _ _ _ _ _ _ _ _ _ _ _ _ _ _ _ _ _ _ _ _ _ _ _ _ _ _ _ _ _ _ _ _ _ _ _ _ _ _ _ _ _ _ _ _ _ _ _ _ _ _ _ _ _ _ _ _ _ _ _ _ _ _ _ _ _ _ _ _ _ _ _ _ _ _ _ _ _ _ _ _ _ _ _ _ _ _ _ _ _ _ _ _ _ _ _ _ _ _ _ _ _ _ _ _ _ _ _ _ _ _ _ _ _ _ _ _ _ _ _ _ _ _ _ _ _ _ _ _ _ _ _ _ _ _ _ _ _ _ _ _ _ _ _ _ _ _ _ _ _ _ _ _ _ _ _ _ _ _ _ _ _ _ _ _ _ _ _ _ _ _ _ _ _ _ _ _ _ _ _ _ _ _ _ _ _ _ _ _ _ _ _ _ _ _ _ _ _ _ _ _ _ _ _ _ _ _ _ _ _ _ _ _ _ _ _ _ _ _ _ _ _ _ _ _ _ _ _ _ _ _ _ _ _ _ _ _ _ _ _ _ _ _ _ _ _ _ _ _ _ _ _ _ _ _ _ _ _ _ _ _ ?_
  have HF := Lib.hid (fun nq => (S4.out.after (w' := World.drewN _ nq) ⟨rfl, rfl, rfl, Nat.le_refl _, fun _ _ => rfl⟩).drop)
  clear S4
  intro x203 x204 x205 x206 x207 x208 x209 x210 x211 x212 x213 x214 x215 x216 x217 x218 x219 x220 x221 x222 x223 x224 x225 x226 x227 x228 x229 x230 x231 x232 x233 x234 x235 x236 x237 x238 x239 x240 x241 x242 x243 x244 x245 x246 x247 x248 x249 x250 x251 x252 x253 x254 x255 x256 x257 x258 x259 x260 x261 x262 x263 x264 x265 x266 x267 x268 x269 x270 nq
  go_wp2
  go_ret
  exact ⟨rfl, HF.out nq⟩
end Go.Proofs.Ythppnjmepeeejaa
