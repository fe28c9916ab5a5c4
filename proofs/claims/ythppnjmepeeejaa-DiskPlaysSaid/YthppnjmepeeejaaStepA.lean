/-
  One step of the law DiskPlays: read, flush, kill, replace, rot, image, long, lose, none.
-/
import Derived.Test.YthppnjmepeeejaaTail
import Derived.StillTailTactics
import Derived.Deep.RegionHeld3
import Derived.Deep.DeepCutAuto
namespace Go.Proofs.Ythppnjmepeeejaa
open Go.RowKit
set_option maxRecDepth 100000 in
set_option maxHeartbeats 1600000 in
theorem step_read0 (w0 : World) (p d g1 e g2 n1 n2 q r s b : Nat) (P : Pw) (D1 D2 : Dk) (on at_ m : Int) (t : ByteArray) (kv : Value) (w : World) (h : Pl [(b, 63, worldL p d e q r s)] w0 p d g1 e g2 n1 n2 q r s P D1 D2 P D1 D2 w)
    (o0 : -9223372036854775808 ≤ on) (o1 : on ≤ 9223372036854775807) (hon : pickOf on 2 = 0) :
    Calls Try.prog 32 #[.pointer (some ⟨b, 0, none⟩), .agg #[.int .i64 1, .int .i64 on, .int .i64 at_, .int .i64 m, .string t, kv]] w fun x w' => x = .returned (.bool true) ∧ Pl [(b, 63, worldL p d e q r s)] w0 p d g1 e g2 n1 n2 q r s P D1 D2 P D1 D2 w' := by
  have hbl : Below w.heap.size w (w.alloc (.cells #[.int .i64 1, .int .i64 on, .int .i64 at_, .int .i64 m, .string t, kv] 68)) := (Below.refl _ _).alloc (Nat.le_refl _) _
  have h1 := (h.after hbl).add (Row.new w 68 (stepL 1 on at_ m t kv)) foreignStep
  have a1 := h1.snd.cell (j := 1) rfl
  have a2 := h1.snd.cell (j := 2) rfl
  have a4 := h1.snd.cell (j := 4) rfl
  have a5 := h1.snd.cell (j := 5) rfl
  have HON := Lib.hid hon
  have S0 := Lib.hid h1
  clear hon h h1 hbl
  go_enter Try.func32, Try.ntmps32
  go_wp2_with (first
    | (go_at_call 18; have hx := HON.out; clear HON; refine (pick_any on 2 _ o0 o1 (by omega) (by omega)).mono ?_; rintro x w3 ⟨he, rfl⟩; rw [hx] at he; subst he; clear hx)
    | (go_at_call 14; have h9 := S0.out; clear S0; refine (h9.read at_).mono ?_; rintro x w5 ⟨ev, rfl, he, hx⟩; have b2 := hx.fst.cell (j := 2) rfl; have S1 := Lib.hid hx; have HE := Lib.hid he; clear hx he h9)
    | (go_at_call 42; have h9 := S1.out; clear S1; refine (h9.rread at_).mono ?_; rintro x w5 ⟨rfl, rfl⟩; have S2 := Lib.hid h9; clear h9)
    | (go_at_call 22; have h8 := HE.out; clear HE; refine (is_ok _ _ _ _ h8).mono ?_; rintro x w6 ⟨rfl, rfl⟩; clear h8))
  refine tail w0 p d g1 e g2 n1 n2 q r s b w.heap.size d e r s _ _ _ _ _ _ _ S2.out _ _ _ _ _ _ _ _ _ _ _ _ _ _ _ _ _ _ _ _ _ _ _ _ _ _ _ _ _ _ _ _ _ _ _ _ _ _ _ _ _ _ _ _ _ _ _ _ _ _ _ _ _ _ _ _ _ _ _ _ _ _ _ _ _ _ _ _ _ _ _ _ _ _ _ _ _ _ _ _ _ _ _ _ _ _ _ _ _ _ _ _ _ _ _ _ _ _ _ _ _ _ _ _ _ _ _ _ _ _ _ _ _ _ _ _ _ _ _ _ _ _ _ _ _ _ _ _ _ _ _ _ _ _ _ _ _ _ _ _ _ _ _ _ _ _ _ _ _ _ _ _ _ _ _ _ _ _ _ _ _ _ _ _ _ _ _ _ _ _ _ _ _ _ _ _ _ _ _ _ _ _ _ _ _ _ _ _ _ _ _ _ _ _ _ _ _ _ _ _ _ _ _ _ _ _ _ _ _ _ _ _ _ _ _ _ _ _ _ _ _ _ _ _ _ _ _ _ _ _ _ _ _ _ _ _ _ _ _ _ _ _ _ _ _ _ _ _ _ _ _ _ _ _ _ _ _ _ _ _ _ _ _ _ _ _ _ ?_
  have HF := Lib.hid (fun nq => (S2.out.after (w' := World.drewN _ nq) ⟨rfl, rfl, rfl, Nat.le_refl _, fun _ _ => rfl⟩).drop)
  clear S2
  intro x203 x204 x205 x206 x207 x208 x209 x210 x211 x212 x213 x214 x215 x216 x217 x218 x219 x220 x221 x222 x223 x224 x225 x226 x227 x228 x229 x230 x231 x232 x233 x234 x235 x236 x237 x238 x239 x240 x241 x242 x243 x244 x245 x246 x247 x248 x249 x250 x251 x252 x253 x254 x255 x256 x257 x258 x259 x260 x261 x262 x263 x264 x265 x266 x267 x268 x269 x270 nq
  go_wp2
  go_ret
  exact ⟨rfl, HF.out nq⟩
set_option maxRecDepth 100000 in
set_option maxHeartbeats 1600000 in
theorem step_flush0 (w0 : World) (p d g1 e g2 n1 n2 q r s b : Nat) (P : Pw) (D1 D2 : Dk) (on at_ m : Int) (t : ByteArray) (kv : Value) (w : World) (h : Pl [(b, 63, worldL p d e q r s)] w0 p d g1 e g2 n1 n2 q r s P D1 D2 P D1 D2 w)
    (o0 : -9223372036854775808 ≤ on) (o1 : on ≤ 9223372036854775807) (hon : pickOf on 2 = 0) (hacts : P.acts < 4611686018427387904) :
    Calls Try.prog 32 #[.pointer (some ⟨b, 0, none⟩), .agg #[.int .i64 3, .int .i64 on, .int .i64 at_, .int .i64 m, .string t, kv]] w fun x w' => x = .returned (.bool true) ∧ Pl [(b, 63, worldL p d e q r s)] w0 p d g1 e g2 n1 n2 q r s (fpow P D1) (fdk P D1) D2 (fpow P D1) (fdk P D1) D2 w' := by
  have hbl : Below w.heap.size w (w.alloc (.cells #[.int .i64 3, .int .i64 on, .int .i64 at_, .int .i64 m, .string t, kv] 68)) := (Below.refl _ _).alloc (Nat.le_refl _) _
  have h1 := (h.after hbl).add (Row.new w 68 (stepL 3 on at_ m t kv)) foreignStep
  have a1 := h1.snd.cell (j := 1) rfl
  have a2 := h1.snd.cell (j := 2) rfl
  have a4 := h1.snd.cell (j := 4) rfl
  have a5 := h1.snd.cell (j := 5) rfl
  have HON := Lib.hid hon
  have S0 := Lib.hid h1
  clear hon h h1 hbl
  go_enter Try.func32, Try.ntmps32
  go_wp2_with (first
    | (go_at_call 18; have hx := HON.out; clear HON; refine (pick_any on 2 _ o0 o1 (by omega) (by omega)).mono ?_; rintro x w3 ⟨he, rfl⟩; rw [hx] at he; subst he; clear hx)
    | (go_at_call 44; have h9 := S0.out; clear S0; refine (h9.rflush hacts).mono ?_; rintro x w4 ⟨rfl, hx⟩; have S1 := Lib.hid hx; clear hx h9)
    | (go_at_call 15; have h9 := S1.out; clear S1; refine (h9.flush hacts).mono ?_; rintro x w5 ⟨ev, rfl, he, hx⟩; have S2 := Lib.hid hx; have HE := Lib.hid he; clear hx he h9)
    | (go_at_call 22; have h8 := HE.out; clear HE; refine (is_ok _ _ _ _ h8).mono ?_; rintro x w6 ⟨rfl, rfl⟩; clear h8))
  refine tail w0 p d g1 e g2 n1 n2 q r s b w.heap.size d e r s _ _ _ _ _ _ _ S2.out _ _ _ _ _ _ _ _ _ _ _ _ _ _ _ _ _ _ _ _ _ _ _ _ _ _ _ _ _ _ _ _ _ _ _ _ _ _ _ _ _ _ _ _ _ _ _ _ _ _ _ _ _ _ _ _ _ _ _ _ _ _ _ _ _ _ _ _ _ _ _ _ _ _ _ _ _ _ _ _ _ _ _ _ _ _ _ _ _ _ _ _ _ _ _ _ _ _ _ _ _ _ _ _ _ _ _ _ _ _ _ _ _ _ _ _ _ _ _ _ _ _ _ _ _ _ _ _ _ _ _ _ _ _ _ _ _ _ _ _ _ _ _ _ _ _ _ _ _ _ _ _ _ _ _ _ _ _ _ _ _ _ _ _ _ _ _ _ _ _ _ _ _ _ _ _ _ _ _ _ _ _ _ _ _ _ _ _ _ _ _ _ _ _ _ _ _ _ _ _ _ _ _ _ _ _ _ _ _ _ _ _ _ _ _ _ _ _ _ _ _ _ _ _ _ _ _ _ _ _ _ _ _ _ _ _ _ _ _ _ _ _ _ _ _ _ _ _ _ _ _ _ _ _ _ _ _ _ _ _ _ _ _ _ _ _ _ ?_
  have HF := Lib.hid (fun nq => (S2.out.after (w' := World.drewN _ nq) ⟨rfl, rfl, rfl, Nat.le_refl _, fun _ _ => rfl⟩).drop)
  clear S2
  intro x203 x204 x205 x206 x207 x208 x209 x210 x211 x212 x213 x214 x215 x216 x217 x218 x219 x220 x221 x222 x223 x224 x225 x226 x227 x228 x229 x230 x231 x232 x233 x234 x235 x236 x237 x238 x239 x240 x241 x242 x243 x244 x245 x246 x247 x248 x249 x250 x251 x252 x253 x254 x255 x256 x257 x258 x259 x260 x261 x262 x263 x264 x265 x266 x267 x268 x269 x270 nq
  go_wp2
  go_ret
  exact ⟨rfl, HF.out nq⟩
set_option maxRecDepth 100000 in
set_option maxHeartbeats 1600000 in
theorem step_kill0 (w0 : World) (p d g1 e g2 n1 n2 q r s b : Nat) (P : Pw) (D1 D2 : Dk) (on at_ m : Int) (t : ByteArray) (kv : Value) (w : World) (h : Pl [(b, 63, worldL p d e q r s)] w0 p d g1 e g2 n1 n2 q r s P D1 D2 P D1 D2 w)
    (o0 : -9223372036854775808 ≤ on) (o1 : on ≤ 9223372036854775807) (hon : pickOf on 2 = 0) (hlife : D1.life < 4611686018427387904) :
    Calls Try.prog 32 #[.pointer (some ⟨b, 0, none⟩), .agg #[.int .i64 5, .int .i64 on, .int .i64 at_, .int .i64 m, .string t, kv]] w fun x w' => x = .returned (.bool true) ∧ Pl [(b, 63, worldL p d e q r s)] w0 p d g1 e g2 n1 n2 q r s P D1.killed D2 P D1.killed D2 w' := by
  have hbl : Below w.heap.size w (w.alloc (.cells #[.int .i64 5, .int .i64 on, .int .i64 at_, .int .i64 m, .string t, kv] 68)) := (Below.refl _ _).alloc (Nat.le_refl _) _
  have h1 := (h.after hbl).add (Row.new w 68 (stepL 5 on at_ m t kv)) foreignStep
  have a1 := h1.snd.cell (j := 1) rfl
  have a2 := h1.snd.cell (j := 2) rfl
  have a4 := h1.snd.cell (j := 4) rfl
  have a5 := h1.snd.cell (j := 5) rfl
  have HON := Lib.hid hon
  have S0 := Lib.hid h1
  clear hon h h1 hbl
  go_enter Try.func32, Try.ntmps32
  go_wp2_with (first
    | (go_at_call 18; have hx := HON.out; clear HON; refine (pick_any on 2 _ o0 o1 (by omega) (by omega)).mono ?_; rintro x w3 ⟨he, rfl⟩; rw [hx] at he; subst he; clear hx)
    | (go_at_call 46; have h9 := S0.out; clear S0; refine (h9.rkill hlife).mono ?_; rintro x w4 ⟨rfl, hx⟩; have S1 := Lib.hid hx; clear hx h9)
    | (go_at_call 47; have h9 := S1.out; clear S1; refine (h9.kill hlife).mono ?_; rintro x w4 ⟨rfl, hx⟩; have S2 := Lib.hid hx; clear hx h9))
  refine tail w0 p d g1 e g2 n1 n2 q r s b w.heap.size d e r s _ _ _ _ _ _ _ S2.out _ _ _ _ _ _ _ _ _ _ _ _ _ _ _ _ _ _ _ _ _ _ _ _ _ _ _ _ _ _ _ _ _ _ _ _ _ _ _ _ _ _ _ _ _ _ _ _ _ _ _ _ _ _ _ _ _ _ _ _ _ _ _ _ _ _ _ _ _ _ _ _ _ _ _ _ _ _ _ _ _ _ _ _ _ _ _ _ _ _ _ _ _ _ _ _ _ _ _ _ _ _ _ _ _ _ _ _ _ _ _ _ _ _ _ _ _ _ _ _ _ _ _ _ _ _ _ _ _ _ _ _ _ _ _ _ _ _ _ _ _ _ _ _ _ _ _ _ _ _ _ _ _ _ _ _ _ _ _ _ _ _ _ _ _ _ _ _ _ _ _ _ _ _ _ _ _ _ _ _ _ _ _ _ _ _ _ _ _ _ _ _ _ _ _ _ _ _ _ _ _ _ _ _ _ _ _ _ _ _ _ _ _ _ _ _ _ _ _ _ _ _ _ _ _ _ _ _ _ _ _ _ _ _ _ _ _ _ _ _ _ _ _ _ _ _ _ _ _ _ _ _ _ _ _ _ _ _ _ _ _ _ _ _ _ _ _ ?_
  have HF := Lib.hid (fun nq => (S2.out.after (w' := World.drewN _ nq) ⟨rfl, rfl, rfl, Nat.le_refl _, fun _ _ => rfl⟩).drop)
  clear S2
  intro x203 x204 x205 x206 x207 x208 x209 x210 x211 x212 x213 x214 x215 x216 x217 x218 x219 x220 x221 x222 x223 x224 x225 x226 x227 x228 x229 x230 x231 x232 x233 x234 x235 x236 x237 x238 x239 x240 x241 x242 x243 x244 x245 x246 x247 x248 x249 x250 x251 x252 x253 x254 x255 x256 x257 x258 x259 x260 x261 x262 x263 x264 x265 x266 x267 x268 x269 x270 nq
  go_wp2
  go_ret
  exact ⟨rfl, HF.out nq⟩
set_option maxRecDepth 100000 in
set_option maxHeartbeats 1600000 in
theorem step_replace0 (w0 : World) (p d g1 e g2 n1 n2 q r s b : Nat) (P : Pw) (D1 D2 : Dk) (on at_ m : Int) (t : ByteArray) (kv : Value) (w : World) (h : Pl [(b, 63, worldL p d e q r s)] w0 p d g1 e g2 n1 n2 q r s P D1 D2 P D1 D2 w)
    (o0 : -9223372036854775808 ≤ on) (o1 : on ≤ 9223372036854775807) (hon : pickOf on 2 = 0) (hlife : D1.life < 4611686018427387904) :
    Calls Try.prog 32 #[.pointer (some ⟨b, 0, none⟩), .agg #[.int .i64 6, .int .i64 on, .int .i64 at_, .int .i64 m, .string t, kv]] w fun x w' => x = .returned (.bool true) ∧ Pl [(b, 63, worldL p d e q r s)] w0 p d g1 e g2 n1 n2 q r s P D1.replaced D2 P D1.replaced D2 w' := by
  have hbl : Below w.heap.size w (w.alloc (.cells #[.int .i64 6, .int .i64 on, .int .i64 at_, .int .i64 m, .string t, kv] 68)) := (Below.refl _ _).alloc (Nat.le_refl _) _
  have h1 := (h.after hbl).add (Row.new w 68 (stepL 6 on at_ m t kv)) foreignStep
  have a1 := h1.snd.cell (j := 1) rfl
  have a2 := h1.snd.cell (j := 2) rfl
  have a4 := h1.snd.cell (j := 4) rfl
  have a5 := h1.snd.cell (j := 5) rfl
  have HON := Lib.hid hon
  have S0 := Lib.hid h1
  clear hon h h1 hbl
  go_enter Try.func32, Try.ntmps32
  go_wp2_with (first
    | (go_at_call 18; have hx := HON.out; clear HON; refine (pick_any on 2 _ o0 o1 (by omega) (by omega)).mono ?_; rintro x w3 ⟨he, rfl⟩; rw [hx] at he; subst he; clear hx)
    | (go_at_call 48; have h9 := S0.out; clear S0; refine (h9.rreplace hlife).mono ?_; rintro x w4 ⟨rfl, hx⟩; have S1 := Lib.hid hx; clear hx h9)
    | (go_at_call 49; have h9 := S1.out; clear S1; refine (h9.replace hlife).mono ?_; rintro x w4 ⟨rfl, hx⟩; have S2 := Lib.hid hx; clear hx h9))
  refine tail w0 p d g1 e g2 n1 n2 q r s b w.heap.size d e r s _ _ _ _ _ _ _ S2.out _ _ _ _ _ _ _ _ _ _ _ _ _ _ _ _ _ _ _ _ _ _ _ _ _ _ _ _ _ _ _ _ _ _ _ _ _ _ _ _ _ _ _ _ _ _ _ _ _ _ _ _ _ _ _ _ _ _ _ _ _ _ _ _ _ _ _ _ _ _ _ _ _ _ _ _ _ _ _ _ _ _ _ _ _ _ _ _ _ _ _ _ _ _ _ _ _ _ _ _ _ _ _ _ _ _ _ _ _ _ _ _ _ _ _ _ _ _ _ _ _ _ _ _ _ _ _ _ _ _ _ _ _ _ _ _ _ _ _ _ _ _ _ _ _ _ _ _ _ _ _ _ _ _ _ _ _ _ _ _ _ _ _ _ _ _ _ _ _ _ _ _ _ _ _ _ _ _ _ _ _ _ _ _ _ _ _ _ _ _ _ _ _ _ _ _ _ _ _ _ _ _ _ _ _ _ _ _ _ _ _ _ _ _ _ _ _ _ _ _ _ _ _ _ _ _ _ _ _ _ _ _ _ _ _ _ _ _ _ _ _ _ _ _ _ _ _ _ _ _ _ _ _ _ _ _ _ _ _ _ _ _ _ _ _ _ _ ?_
  have HF := Lib.hid (fun nq => (S2.out.after (w' := World.drewN _ nq) ⟨rfl, rfl, rfl, Nat.le_refl _, fun _ _ => rfl⟩).drop)
  clear S2
  intro x203 x204 x205 x206 x207 x208 x209 x210 x211 x212 x213 x214 x215 x216 x217 x218 x219 x220 x221 x222 x223 x224 x225 x226 x227 x228 x229 x230 x231 x232 x233 x234 x235 x236 x237 x238 x239 x240 x241 x242 x243 x244 x245 x246 x247 x248 x249 x250 x251 x252 x253 x254 x255 x256 x257 x258 x259 x260 x261 x262 x263 x264 x265 x266 x267 x268 x269 x270 nq
  go_wp2
  go_ret
  exact ⟨rfl, HF.out nq⟩
set_option maxRecDepth 100000 in
set_option maxHeartbeats 1600000 in
theorem step_rot0 (w0 : World) (p d g1 e g2 n1 n2 q r s b : Nat) (P : Pw) (D1 D2 : Dk) (on at_ m : Int) (t : ByteArray) (kv : Value) (w : World) (h : Pl [(b, 63, worldL p d e q r s)] w0 p d g1 e g2 n1 n2 q r s P D1 D2 P D1 D2 w)
    (o0 : -9223372036854775808 ≤ on) (o1 : on ≤ 9223372036854775807) (hon : pickOf on 2 = 0) :
    Calls Try.prog 32 #[.pointer (some ⟨b, 0, none⟩), .agg #[.int .i64 7, .int .i64 on, .int .i64 at_, .int .i64 m, .string t, kv]] w fun x w' => x = .returned (.bool true) ∧ Pl [(b, 63, worldL p d e q r s)] w0 p d g1 e g2 n1 n2 q r s P (rotDk D1 n1 at_ m) D2 P (rotDk D1 n1 at_ m) D2 w' := by
  have hbl : Below w.heap.size w (w.alloc (.cells #[.int .i64 7, .int .i64 on, .int .i64 at_, .int .i64 m, .string t, kv] 68)) := (Below.refl _ _).alloc (Nat.le_refl _) _
  have h1 := (h.after hbl).add (Row.new w 68 (stepL 7 on at_ m t kv)) foreignStep
  have a1 := h1.snd.cell (j := 1) rfl
  have a2 := h1.snd.cell (j := 2) rfl
  have a4 := h1.snd.cell (j := 4) rfl
  have a5 := h1.snd.cell (j := 5) rfl
  have HON := Lib.hid hon
  have S0 := Lib.hid h1
  clear hon h h1 hbl
  go_enter Try.func32, Try.ntmps32
  go_wp2_with (first
    | (go_at_call 18; have hx := HON.out; clear HON; refine (pick_any on 2 _ o0 o1 (by omega) (by omega)).mono ?_; rintro x w3 ⟨he, rfl⟩; rw [hx] at he; subst he; clear hx)
    | (go_at_call 50; have h9 := S0.out; clear S0; refine (h9.rrot at_ m).mono ?_; rintro x w4 ⟨rfl, hx⟩; have b2 := hx.fst.cell (j := 2) rfl; have b3 := hx.fst.cell (j := 3) rfl; have S1 := Lib.hid hx; clear hx h9)
    | (go_at_call 19; have h9 := S1.out; clear S1; refine (h9.rot at_ m).mono ?_; rintro x w5 ⟨ev, rfl, he, hx⟩; have S2 := Lib.hid hx; have HE := Lib.hid he; clear hx he h9)
    | (go_at_call 22; have h8 := HE.out; clear HE; refine (is_ok _ _ _ _ h8).mono ?_; rintro x w6 ⟨rfl, rfl⟩; clear h8))
  refine tail w0 p d g1 e g2 n1 n2 q r s b w.heap.size d e r s _ _ _ _ _ _ _ S2.out _ _ _ _ _ _ _ _ _ _ _ _ _ _ _ _ _ _ _ _ _ _ _ _ _ _ _ _ _ _ _ _ _ _ _ _ _ _ _ _ _ _ _ _ _ _ _ _ _ _ _ _ _ _ _ _ _ _ _ _ _ _ _ _ _ _ _ _ _ _ _ _ _ _ _ _ _ _ _ _ _ _ _ _ _ _ _ _ _ _ _ _ _ _ _ _ _ _ _ _ _ _ _ _ _ _ _ _ _ _ _ _ _ _ _ _ _ _ _ _ _ _ _ _ _ _ _ _ _ _ _ _ _ _ _ _ _ _ _ _ _ _ _ _ _ _ _ _ _ _ _ _ _ _ _ _ _ _ _ _ _ _ _ _ _ _ _ _ _ _ _ _ _ _ _ _ _ _ _ _ _ _ _ _ _ _ _ _ _ _ _ _ _ _ _ _ _ _ _ _ _ _ _ _ _ _ _ _ _ _ _ _ _ _ _ _ _ _ _ _ _ _ _ _ _ _ _ _ _ _ _ _ _ _ _ _ _ _ _ _ _ _ _ _ _ _ _ _ _ _ _ _ _ _ _ _ _ _ _ _ _ _ _ _ _ _ _ ?_
  have HF := Lib.hid (fun nq => (S2.out.after (w' := World.drewN _ nq) ⟨rfl, rfl, rfl, Nat.le_refl _, fun _ _ => rfl⟩).drop)
  clear S2
  intro x203 x204 x205 x206 x207 x208 x209 x210 x211 x212 x213 x214 x215 x216 x217 x218 x219 x220 x221 x222 x223 x224 x225 x226 x227 x228 x229 x230 x231 x232 x233 x234 x235 x236 x237 x238 x239 x240 x241 x242 x243 x244 x245 x246 x247 x248 x249 x250 x251 x252 x253 x254 x255 x256 x257 x258 x259 x260 x261 x262 x263 x264 x265 x266 x267 x268 x269 x270 nq
  go_wp2
  go_ret
  exact ⟨rfl, HF.out nq⟩
set_option maxRecDepth 100000 in
set_option maxHeartbeats 1600000 in
theorem step_image0 (w0 : World) (p d g1 e g2 n1 n2 q r s b : Nat) (P : Pw) (D1 D2 : Dk) (on at_ m : Int) (t : ByteArray) (kv : Value) (w : World) (h : Pl [(b, 63, worldL p d e q r s)] w0 p d g1 e g2 n1 n2 q r s P D1 D2 P D1 D2 w)
    (o0 : -9223372036854775808 ≤ on) (o1 : on ≤ 9223372036854775807) (hon : pickOf on 2 = 0) :
    Calls Try.prog 32 #[.pointer (some ⟨b, 0, none⟩), .agg #[.int .i64 8, .int .i64 on, .int .i64 at_, .int .i64 m, .string t, kv]] w fun x w' => x = .returned (.bool true) ∧ Pl [(b, 63, worldL p d e q r s)] w0 p d g1 e g2 n1 n2 q r s P D1 D2 P D1 D2 w' := by
  have hbl : Below w.heap.size w (w.alloc (.cells #[.int .i64 8, .int .i64 on, .int .i64 at_, .int .i64 m, .string t, kv] 68)) := (Below.refl _ _).alloc (Nat.le_refl _) _
  have h1 := (h.after hbl).add (Row.new w 68 (stepL 8 on at_ m t kv)) foreignStep
  have a1 := h1.snd.cell (j := 1) rfl
  have a2 := h1.snd.cell (j := 2) rfl
  have a4 := h1.snd.cell (j := 4) rfl
  have a5 := h1.snd.cell (j := 5) rfl
  have HON := Lib.hid hon
  have S0 := Lib.hid h1
  clear hon h h1 hbl
  go_enter Try.func32, Try.ntmps32
  go_wp2_with (first
    | (go_at_call 18; have hx := HON.out; clear HON; refine (pick_any on 2 _ o0 o1 (by omega) (by omega)).mono ?_; rintro x w3 ⟨he, rfl⟩; rw [hx] at he; subst he; clear hx)
    | (go_at_call 33; have h9 := S0.out; clear S0; refine (h9.rimage).mono ?_; rintro x w4 ⟨rfl, hx, _⟩; have S1 := Lib.hid hx; clear hx h9)
    | (go_at_call 17; have h9 := S1.out; clear S1; refine (h9.two.image).mono ?_; rintro x w5 ⟨rfl, rfl⟩; have S2 := Lib.hid h9; clear h9))
  refine tail w0 p d g1 e g2 n1 n2 q r s b w.heap.size d e r s _ _ _ _ _ _ _ S2.out _ _ _ _ _ _ _ _ _ _ _ _ _ _ _ _ _ _ _ _ _ _ _ _ _ _ _ _ _ _ _ _ _ _ _ _ _ _ _ _ _ _ _ _ _ _ _ _ _ _ _ _ _ _ _ _ _ _ _ _ _ _ _ _ _ _ _ _ _ _ _ _ _ _ _ _ _ _ _ _ _ _ _ _ _ _ _ _ _ _ _ _ _ _ _ _ _ _ _ _ _ _ _ _ _ _ _ _ _ _ _ _ _ _ _ _ _ _ _ _ _ _ _ _ _ _ _ _ _ _ _ _ _ _ _ _ _ _ _ _ _ _ _ _ _ _ _ _ _ _ _ _ _ _ _ _ _ _ _ _ _ _ _ _ _ _ _ _ _ _ _ _ _ _ _ _ _ _ _ _ _ _ _ _ _ _ _ _ _ _ _ _ _ _ _ _ _ _ _ _ _ _ _ _ _ _ _ _ _ _ _ _ _ _ _ _ _ _ _ _ _ _ _ _ _ _ _ _ _ _ _ _ _ _ _ _ _ _ _ _ _ _ _ _ _ _ _ _ _ _ _ _ _ _ _ _ _ _ _ _ _ _ _ _ _ _ _ ?_
  have HF := Lib.hid (fun nq => (S2.out.after (w' := World.drewN _ nq) ⟨rfl, rfl, rfl, Nat.le_refl _, fun _ _ => rfl⟩).drop)
  clear S2
  intro x203 x204 x205 x206 x207 x208 x209 x210 x211 x212 x213 x214 x215 x216 x217 x218 x219 x220 x221 x222 x223 x224 x225 x226 x227 x228 x229 x230 x231 x232 x233 x234 x235 x236 x237 x238 x239 x240 x241 x242 x243 x244 x245 x246 x247 x248 x249 x250 x251 x252 x253 x254 x255 x256 x257 x258 x259 x260 x261 x262 x263 x264 x265 x266 x267 x268 x269 x270 nq
  go_wp2
  go_ret
  exact ⟨rfl, HF.out nq⟩
set_option maxRecDepth 100000 in
set_option maxHeartbeats 1600000 in
theorem step_long0 (w0 : World) (p d g1 e g2 n1 n2 q r s b : Nat) (P : Pw) (D1 D2 : Dk) (on at_ m : Int) (t : ByteArray) (kv : Value) (w : World) (h : Pl [(b, 63, worldL p d e q r s)] w0 p d g1 e g2 n1 n2 q r s P D1 D2 P D1 D2 w)
    (o0 : -9223372036854775808 ≤ on) (o1 : on ≤ 9223372036854775807) (hon : pickOf on 2 = 0) (hacts : P.acts < 4611686018427387904) (hfew : D1.wait.length < 1099511627776) :
    Calls Try.prog 32 #[.pointer (some ⟨b, 0, none⟩), .agg #[.int .i64 12, .int .i64 on, .int .i64 at_, .int .i64 m, .string t, kv]] w fun x w' => x = .returned (.bool true) ∧ Pl [(b, 63, worldL p d e q r s)] w0 p d g1 e g2 n1 n2 q r s (wpow P D1 at_ t) (wdk P D1 at_ t) D2 (wpow P D1 at_ t) (wdk P D1 at_ t) D2 w' := by
  have hbl : Below w.heap.size w (w.alloc (.cells #[.int .i64 12, .int .i64 on, .int .i64 at_, .int .i64 m, .string t, kv] 68)) := (Below.refl _ _).alloc (Nat.le_refl _) _
  have h1 := (h.after hbl).add (Row.new w 68 (stepL 12 on at_ m t kv)) foreignStep
  have a1 := h1.snd.cell (j := 1) rfl
  have a2 := h1.snd.cell (j := 2) rfl
  have a4 := h1.snd.cell (j := 4) rfl
  have a5 := h1.snd.cell (j := 5) rfl
  have HON := Lib.hid hon
  have S0 := Lib.hid h1
  clear hon h h1 hbl
  go_enter Try.func32, Try.ntmps32
  go_wp2_with (first
    | (go_at_call 18; have hx := HON.out; clear HON; refine (pick_any on 2 _ o0 o1 (by omega) (by omega)).mono ?_; rintro x w3 ⟨he, rfl⟩; rw [hx] at he; subst he; clear hx)
    | (go_at_call 43; have h9 := S0.out; clear S0; refine (h9.rwrite at_ t hfew hacts).mono ?_; rintro x w4 ⟨rfl, hx⟩; have b2 := hx.fst.cell (j := 2) rfl; have b4 := hx.fst.cell (j := 4) rfl; have S1 := Lib.hid hx; clear hx h9)
    | (go_at_call 12; have h9 := S1.out; clear S1; refine (h9.write at_ t hfew hacts).mono ?_; rintro x w5 ⟨ev, rfl, he, hx⟩; have S2 := Lib.hid hx; have HE := Lib.hid he; clear hx he h9)
    | (go_at_call 22; have h8 := HE.out; clear HE; refine (is_ok _ _ _ _ h8).mono ?_; rintro x w6 ⟨rfl, rfl⟩; clear h8))
  refine tail w0 p d g1 e g2 n1 n2 q r s b w.heap.size d e r s _ _ _ _ _ _ _ S2.out _ _ _ _ _ _ _ _ _ _ _ _ _ _ _ _ _ _ _ _ _ _ _ _ _ _ _ _ _ _ _ _ _ _ _ _ _ _ _ _ _ _ _ _ _ _ _ _ _ _ _ _ _ _ _ _ _ _ _ _ _ _ _ _ _ _ _ _ _ _ _ _ _ _ _ _ _ _ _ _ _ _ _ _ _ _ _ _ _ _ _ _ _ _ _ _ _ _ _ _ _ _ _ _ _ _ _ _ _ _ _ _ _ _ _ _ _ _ _ _ _ _ _ _ _ _ _ _ _ _ _ _ _ _ _ _ _ _ _ _ _ _ _ _ _ _ _ _ _ _ _ _ _ _ _ _ _ _ _ _ _ _ _ _ _ _ _ _ _ _ _ _ _ _ _ _ _ _ _ _ _ _ _ _ _ _ _ _ _ _ _ _ _ _ _ _ _ _ _ _ _ _ _ _ _ _ _ _ _ _ _ _ _ _ _ _ _ _ _ _ _ _ _ _ _ _ _ _ _ _ _ _ _ _ _ _ _ _ _ _ _ _ _ _ _ _ _ _ _ _ _ _ _ _ _ _ _ _ _ _ _ _ _ _ _ _ _ ?_
  have HF := Lib.hid (fun nq => (S2.out.after (w' := World.drewN _ nq) ⟨rfl, rfl, rfl, Nat.le_refl _, fun _ _ => rfl⟩).drop)
  clear S2
  intro x203 x204 x205 x206 x207 x208 x209 x210 x211 x212 x213 x214 x215 x216 x217 x218 x219 x220 x221 x222 x223 x224 x225 x226 x227 x228 x229 x230 x231 x232 x233 x234 x235 x236 x237 x238 x239 x240 x241 x242 x243 x244 x245 x246 x247 x248 x249 x250 x251 x252 x253 x254 x255 x256 x257 x258 x259 x260 x261 x262 x263 x264 x265 x266 x267 x268 x269 x270 nq
  go_wp2
  go_ret
  exact ⟨rfl, HF.out nq⟩
set_option maxRecDepth 100000 in
set_option maxHeartbeats 1600000 in
theorem step_lose0 (w0 : World) (p d g1 e g2 n1 n2 q r s b : Nat) (P : Pw) (D1 D2 : Dk) (on at_ m : Int) (t : ByteArray) (kv : Value) (w : World) (h : Pl [(b, 63, worldL p d e q r s)] w0 p d g1 e g2 n1 n2 q r s P D1 D2 P D1 D2 w)
    (o0 : -9223372036854775808 ≤ on) (o1 : on ≤ 9223372036854775807) (hon : pickOf on 2 = 0) (ka : Option Addr) (kc : Nat) (keep : List Bool) (hkv : kv = .slice ka keep.length kc) (hkeep : BoolsIn w0 ka keep) :
    Calls Try.prog 32 #[.pointer (some ⟨b, 0, none⟩), .agg #[.int .i64 4, .int .i64 on, .int .i64 at_, .int .i64 m, .string t, kv]] w fun x w' => x = .returned (.bool true) ∧ Pl [(b, 63, worldL p d e q r s)] w0 p d g1 e g2 n1 n2 q r s P (D1.lost keep m) D2 P (D1.lost keep m) D2 w' := by
  have hbl : Below w.heap.size w (w.alloc (.cells #[.int .i64 4, .int .i64 on, .int .i64 at_, .int .i64 m, .string t, kv] 68)) := (Below.refl _ _).alloc (Nat.le_refl _) _
  have h1 := (h.after hbl).add (Row.new w 68 (stepL 4 on at_ m t kv)) foreignStep
  have a1 := h1.snd.cell (j := 1) rfl
  have a2 := h1.snd.cell (j := 2) rfl
  have a4 := h1.snd.cell (j := 4) rfl
  have a5 := h1.snd.cell (j := 5) rfl
  subst hkv
  have HK := Lib.hid hkeep
  have HON := Lib.hid hon
  have S0 := Lib.hid h1
  clear hon h h1 hbl hkeep
  go_enter Try.func32, Try.ntmps32
  go_wp2_with (first
    | (go_at_call 18; have hx := HON.out; clear HON; refine (pick_any on 2 _ o0 o1 (by omega) (by omega)).mono ?_; rintro x w3 ⟨he, rfl⟩; rw [hx] at he; subst he; clear hx)
    | (go_at_call 45; have h9 := S0.out; clear S0; refine (h9.rlose ka kc keep m (HK.out.at_ h9.two.bel)).mono ?_; rintro x w4 ⟨rfl, hx⟩; have b3 := hx.fst.cell (j := 3) rfl; have b5 := hx.fst.cell (j := 5) rfl; have S1 := Lib.hid hx; clear hx h9)
    | (go_at_call 13; have h9 := S1.out; clear S1; refine (h9.lose ka kc keep m (HK.out.at_ h9.two.bel)).mono ?_; rintro x w4 ⟨rfl, hx⟩; have S2 := Lib.hid hx; clear hx h9))
  refine tail w0 p d g1 e g2 n1 n2 q r s b w.heap.size d e r s _ _ _ _ _ _ _ S2.out _ _ _ _ _ _ _ _ _ _ _ _ _ _ _ _ _ _ _ _ _ _ _ _ _ _ _ _ _ _ _ _ _ _ _ _ _ _ _ _ _ _ _ _ _ _ _ _ _ _ _ _ _ _ _ _ _ _ _ _ _ _ _ _ _ _ _ _ _ _ _ _ _ _ _ _ _ _ _ _ _ _ _ _ _ _ _ _ _ _ _ _ _ _ _ _ _ _ _ _ _ _ _ _ _ _ _ _ _ _ _ _ _ _ _ _ _ _ _ _ _ _ _ _ _ _ _ _ _ _ _ _ _ _ _ _ _ _ _ _ _ _ _ _ _ _ _ _ _ _ _ _ _ _ _ _ _ _ _ _ _ _ _ _ _ _ _ _ _ _ _ _ _ _ _ _ _ _ _ _ _ _ _ _ _ _ _ _ _ _ _ _ _ _ _ _ _ _ _ _ _ _ _ _ _ _ _ _ _ _ _ _ _ _ _ _ _ _ _ _ _ _ _ _ _ _ _ _ _ _ _ _ _ _ _ _ _ _ _ _ _ _ _ _ _ _ _ _ _ _ _ _ _ _ _ _ _ _ _ _ _ _ _ _ _ _ _ ?_
  have HF := Lib.hid (fun nq => (S2.out.after (w' := World.drewN _ nq) ⟨rfl, rfl, rfl, Nat.le_refl _, fun _ _ => rfl⟩).drop)
  clear S2
  intro x203 x204 x205 x206 x207 x208 x209 x210 x211 x212 x213 x214 x215 x216 x217 x218 x219 x220 x221 x222 x223 x224 x225 x226 x227 x228 x229 x230 x231 x232 x233 x234 x235 x236 x237 x238 x239 x240 x241 x242 x243 x244 x245 x246 x247 x248 x249 x250 x251 x252 x253 x254 x255 x256 x257 x258 x259 x260 x261 x262 x263 x264 x265 x266 x267 x268 x269 x270 nq
  go_wp2
  go_ret
  exact ⟨rfl, HF.out nq⟩
set_option maxRecDepth 100000 in
set_option maxHeartbeats 1600000 in
theorem step_none0 (w0 : World) (p d g1 e g2 n1 n2 q r s b : Nat) (P : Pw) (D1 D2 : Dk) (kd : Int) (on at_ m : Int) (t : ByteArray) (kv : Value) (w : World) (h : Pl [(b, 63, worldL p d e q r s)] w0 p d g1 e g2 n1 n2 q r s P D1 D2 P D1 D2 w)
    (o0 : -9223372036854775808 ≤ on) (o1 : on ≤ 9223372036854775807) (hon : pickOf on 2 = 0) (k1 : (kd == 1) = false) (k2 : (kd == 2) = false) (k3 : (kd == 3) = false) (k4 : (kd == 4) = false) (k5 : (kd == 5) = false) (k6 : (kd == 6) = false) (k7 : (kd == 7) = false) (k8 : (kd == 8) = false) (k9 : (kd == 9) = false) (k10 : (kd == 10) = false) (k11 : (kd == 11) = false) (k12 : (kd == 12) = false) :
    Calls Try.prog 32 #[.pointer (some ⟨b, 0, none⟩), .agg #[.int .i64 kd, .int .i64 on, .int .i64 at_, .int .i64 m, .string t, kv]] w fun x w' => x = .returned (.bool true) ∧ Pl [(b, 63, worldL p d e q r s)] w0 p d g1 e g2 n1 n2 q r s P D1 D2 P D1 D2 w' := by
  have hbl : Below w.heap.size w (w.alloc (.cells #[.int .i64 kd, .int .i64 on, .int .i64 at_, .int .i64 m, .string t, kv] 68)) := (Below.refl _ _).alloc (Nat.le_refl _) _
  have h1 := (h.after hbl).add (Row.new w 68 (stepL kd on at_ m t kv)) foreignStep
  have a1 := h1.snd.cell (j := 1) rfl
  have a2 := h1.snd.cell (j := 2) rfl
  have a4 := h1.snd.cell (j := 4) rfl
  have a5 := h1.snd.cell (j := 5) rfl
  have HON := Lib.hid hon
  have S0 := Lib.hid h1
  clear hon h h1 hbl
  go_enter Try.func32, Try.ntmps32
  go_wp2_with (first
    | (go_at_call 18; have hx := HON.out; clear HON; refine (pick_any on 2 _ o0 o1 (by omega) (by omega)).mono ?_; rintro x w3 ⟨he, rfl⟩; rw [hx] at he; subst he; clear hx))
  refine tail w0 p d g1 e g2 n1 n2 q r s b w.heap.size d e r s _ _ _ _ _ _ _ S0.out _ _ _ _ _ _ _ _ _ _ _ _ _ _ _ _ _ _ _ _ _ _ _ _ _ _ _ _ _ _ _ _ _ _ _ _ _ _ _ _ _ _ _ _ _ _ _ _ _ _ _ _ _ _ _ _ _ _ _ _ _ _ _ _ _ _ _ _ _ _ _ _ _ _ _ _ _ _ _ _ _ _ _ _ _ _ _ _ _ _ _ _ _ _ _ _ _ _ _ _ _ _ _ _ _ _ _ _ _ _ _ _ _ _ _ _ _ _ _ _ _ _ _ _ _ _ _ _ _ _ _ _ _ _ _ _ _ _ _ _ _ _ _ _ _ _ _ _ _ _ _ _ _ _ _ _ _ _ _ _ _ _ _ _ _ _ _ _ _ _ _ _ _ _ _ _ _ _ _ _ _ _ _ _ _ _ _ _ _ _ _ _ _ _ _ _ _ _ _ _ _ _ _ _ _ _ _ _ _ _ _ _ _ _ _ _ _ _ _ _ _ _ _ _ _ _ _ _ _ _ _ _ _ _ _ _ _ _ _ _ _ _ _ _ _ _ _ _ _ _ _ _ _ _ _ _ _ _ _ _ _ _ _ _ _ _ _ ?_
  have HF := Lib.hid (fun nq => (S0.out.after (w' := World.drewN (w.alloc (.cells #[.int .i64 kd, .int .i64 on, .int .i64 at_, .int .i64 m, .string t, kv] 68)) nq) ⟨rfl, rfl, rfl, Nat.le_refl _, fun _ _ => rfl⟩).drop)
  clear S0
  intro x203 x204 x205 x206 x207 x208 x209 x210 x211 x212 x213 x214 x215 x216 x217 x218 x219 x220 x221 x222 x223 x224 x225 x226 x227 x228 x229 x230 x231 x232 x233 x234 x235 x236 x237 x238 x239 x240 x241 x242 x243 x244 x245 x246 x247 x248 x249 x250 x251 x252 x253 x254 x255 x256 x257 x258 x259 x260 x261 x262 x263 x264 x265 x266 x267 x268 x269 x270 nq
  go_wp2
  go_ret
  exact ⟨rfl, HF.out nq⟩
set_option maxRecDepth 100000 in
set_option maxHeartbeats 1600000 in
theorem step_read1 (w0 : World) (p d g1 e g2 n1 n2 q r s b : Nat) (P : Pw) (D1 D2 : Dk) (on at_ m : Int) (t : ByteArray) (kv : Value) (w : World) (h : Pl [(b, 63, worldL p e d q s r)] w0 p d g1 e g2 n1 n2 q r s P D1 D2 P D1 D2 w)
    (o0 : -9223372036854775808 ≤ on) (o1 : on ≤ 9223372036854775807) (hon : pickOf on 2 = 1) :
    Calls Try.prog 32 #[.pointer (some ⟨b, 0, none⟩), .agg #[.int .i64 1, .int .i64 on, .int .i64 at_, .int .i64 m, .string t, kv]] w fun x w' => x = .returned (.bool true) ∧ Pl [(b, 63, worldL p e d q s r)] w0 p d g1 e g2 n1 n2 q r s P D1 D2 P D1 D2 w' := by
  have hbl : Below w.heap.size w (w.alloc (.cells #[.int .i64 1, .int .i64 on, .int .i64 at_, .int .i64 m, .string t, kv] 68)) := (Below.refl _ _).alloc (Nat.le_refl _) _
  have h1 := (h.after hbl).add (Row.new w 68 (stepL 1 on at_ m t kv)) foreignStep
  have a1 := h1.snd.cell (j := 1) rfl
  have a2 := h1.snd.cell (j := 2) rfl
  have a4 := h1.snd.cell (j := 4) rfl
  have a5 := h1.snd.cell (j := 5) rfl
  have HON := Lib.hid hon
  have S0 := Lib.hid h1
  clear hon h h1 hbl
  go_enter Try.func32, Try.ntmps32
  go_wp2_with (first
    | (go_at_call 18; have hx := HON.out; clear HON; refine (pick_any on 2 _ o0 o1 (by omega) (by omega)).mono ?_; rintro x w3 ⟨he, rfl⟩; rw [hx] at he; subst he; clear hx)
    | (go_at_call 14; have h9 := S0.out; clear S0; refine (h9.read at_).mono ?_; rintro x w5 ⟨ev, rfl, he, hx⟩; have b2 := hx.fst.cell (j := 2) rfl; have S1 := Lib.hid hx; have HE := Lib.hid he; clear hx he h9)
    | (go_at_call 42; have h9 := S1.out; clear S1; refine (h9.rread at_).mono ?_; rintro x w5 ⟨rfl, rfl⟩; have S2 := Lib.hid h9; clear h9)
    | (go_at_call 22; have h8 := HE.out; clear HE; refine (is_ok _ _ _ _ h8).mono ?_; rintro x w6 ⟨rfl, rfl⟩; clear h8))
  refine tail w0 p d g1 e g2 n1 n2 q r s b w.heap.size e d s r _ _ _ _ _ _ _ S2.out _ _ _ _ _ _ _ _ _ _ _ _ _ _ _ _ _ _ _ _ _ _ _ _ _ _ _ _ _ _ _ _ _ _ _ _ _ _ _ _ _ _ _ _ _ _ _ _ _ _ _ _ _ _ _ _ _ _ _ _ _ _ _ _ _ _ _ _ _ _ _ _ _ _ _ _ _ _ _ _ _ _ _ _ _ _ _ _ _ _ _ _ _ _ _ _ _ _ _ _ _ _ _ _ _ _ _ _ _ _ _ _ _ _ _ _ _ _ _ _ _ _ _ _ _ _ _ _ _ _ _ _ _ _ _ _ _ _ _ _ _ _ _ _ _ _ _ _ _ _ _ _ _ _ _ _ _ _ _ _ _ _ _ _ _ _ _ _ _ _ _ _ _ _ _ _ _ _ _ _ _ _ _ _ _ _ _ _ _ _ _ _ _ _ _ _ _ _ _ _ _ _ _ _ _ _ _ _ _ _ _ _ _ _ _ _ _ _ _ _ _ _ _ _ _ _ _ _ _ _ _ _ _ _ _ _ _ _ _ _ _ _ _ _ _ _ _ _ _ _ _ _ _ _ _ _ _ _ _ _ _ _ _ _ _ _ _ ?_
  have HF := Lib.hid (fun nq => (S2.out.after (w' := World.drewN _ nq) ⟨rfl, rfl, rfl, Nat.le_refl _, fun _ _ => rfl⟩).drop)
  clear S2
  intro x203 x204 x205 x206 x207 x208 x209 x210 x211 x212 x213 x214 x215 x216 x217 x218 x219 x220 x221 x222 x223 x224 x225 x226 x227 x228 x229 x230 x231 x232 x233 x234 x235 x236 x237 x238 x239 x240 x241 x242 x243 x244 x245 x246 x247 x248 x249 x250 x251 x252 x253 x254 x255 x256 x257 x258 x259 x260 x261 x262 x263 x264 x265 x266 x267 x268 x269 x270 nq
  go_wp2
  go_ret
  exact ⟨rfl, HF.out nq⟩
set_option maxRecDepth 100000 in
set_option maxHeartbeats 1600000 in
theorem step_flush1 (w0 : World) (p d g1 e g2 n1 n2 q r s b : Nat) (P : Pw) (D1 D2 : Dk) (on at_ m : Int) (t : ByteArray) (kv : Value) (w : World) (h : Pl [(b, 63, worldL p e d q s r)] w0 p d g1 e g2 n1 n2 q r s P D1 D2 P D1 D2 w)
    (o0 : -9223372036854775808 ≤ on) (o1 : on ≤ 9223372036854775807) (hon : pickOf on 2 = 1) (hacts : P.acts < 4611686018427387904) :
    Calls Try.prog 32 #[.pointer (some ⟨b, 0, none⟩), .agg #[.int .i64 3, .int .i64 on, .int .i64 at_, .int .i64 m, .string t, kv]] w fun x w' => x = .returned (.bool true) ∧ Pl [(b, 63, worldL p e d q s r)] w0 p d g1 e g2 n1 n2 q r s (fpow P D1) (fdk P D1) D2 (fpow P D1) (fdk P D1) D2 w' := by
  have hbl : Below w.heap.size w (w.alloc (.cells #[.int .i64 3, .int .i64 on, .int .i64 at_, .int .i64 m, .string t, kv] 68)) := (Below.refl _ _).alloc (Nat.le_refl _) _
  have h1 := (h.after hbl).add (Row.new w 68 (stepL 3 on at_ m t kv)) foreignStep
  have a1 := h1.snd.cell (j := 1) rfl
  have a2 := h1.snd.cell (j := 2) rfl
  have a4 := h1.snd.cell (j := 4) rfl
  have a5 := h1.snd.cell (j := 5) rfl
  have HON := Lib.hid hon
  have S0 := Lib.hid h1
  clear hon h h1 hbl
  go_enter Try.func32, Try.ntmps32
  go_wp2_with (first
    | (go_at_call 18; have hx := HON.out; clear HON; refine (pick_any on 2 _ o0 o1 (by omega) (by omega)).mono ?_; rintro x w3 ⟨he, rfl⟩; rw [hx] at he; subst he; clear hx)
    | (go_at_call 44; have h9 := S0.out; clear S0; refine (h9.rflush hacts).mono ?_; rintro x w4 ⟨rfl, hx⟩; have S1 := Lib.hid hx; clear hx h9)
    | (go_at_call 15; have h9 := S1.out; clear S1; refine (h9.flush hacts).mono ?_; rintro x w5 ⟨ev, rfl, he, hx⟩; have S2 := Lib.hid hx; have HE := Lib.hid he; clear hx he h9)
    | (go_at_call 22; have h8 := HE.out; clear HE; refine (is_ok _ _ _ _ h8).mono ?_; rintro x w6 ⟨rfl, rfl⟩; clear h8))
  refine tail w0 p d g1 e g2 n1 n2 q r s b w.heap.size e d s r _ _ _ _ _ _ _ S2.out _ _ _ _ _ _ _ _ _ _ _ _ _ _ _ _ _ _ _ _ _ _ _ _ _ _ _ _ _ _ _ _ _ _ _ _ _ _ _ _ _ _ _ _ _ _ _ _ _ _ _ _ _ _ _ _ _ _ _ _ _ _ _ _ _ _ _ _ _ _ _ _ _ _ _ _ _ _ _ _ _ _ _ _ _ _ _ _ _ _ _ _ _ _ _ _ _ _ _ _ _ _ _ _ _ _ _ _ _ _ _ _ _ _ _ _ _ _ _ _ _ _ _ _ _ _ _ _ _ _ _ _ _ _ _ _ _ _ _ _ _ _ _ _ _ _ _ _ _ _ _ _ _ _ _ _ _ _ _ _ _ _ _ _ _ _ _ _ _ _ _ _ _ _ _ _ _ _ _ _ _ _ _ _ _ _ _ _ _ _ _ _ _ _ _ _ _ _ _ _ _ _ _ _ _ _ _ _ _ _ _ _ _ _ _ _ _ _ _ _ _ _ _ _ _ _ _ _ _ _ _ _ _ _ _ _ _ _ _ _ _ _ _ _ _ _ _ _ _ _ _ _ _ _ _ _ _ _ _ _ _ _ _ _ _ _ _ ?_
  have HF := Lib.hid (fun nq => (S2.out.after (w' := World.drewN _ nq) ⟨rfl, rfl, rfl, Nat.le_refl _, fun _ _ => rfl⟩).drop)
  clear S2
  intro x203 x204 x205 x206 x207 x208 x209 x210 x211 x212 x213 x214 x215 x216 x217 x218 x219 x220 x221 x222 x223 x224 x225 x226 x227 x228 x229 x230 x231 x232 x233 x234 x235 x236 x237 x238 x239 x240 x241 x242 x243 x244 x245 x246 x247 x248 x249 x250 x251 x252 x253 x254 x255 x256 x257 x258 x259 x260 x261 x262 x263 x264 x265 x266 x267 x268 x269 x270 nq
  go_wp2
  go_ret
  exact ⟨rfl, HF.out nq⟩
set_option maxRecDepth 100000 in
set_option maxHeartbeats 1600000 in
theorem step_kill1 (w0 : World) (p d g1 e g2 n1 n2 q r s b : Nat) (P : Pw) (D1 D2 : Dk) (on at_ m : Int) (t : ByteArray) (kv : Value) (w : World) (h : Pl [(b, 63, worldL p e d q s r)] w0 p d g1 e g2 n1 n2 q r s P D1 D2 P D1 D2 w)
    (o0 : -9223372036854775808 ≤ on) (o1 : on ≤ 9223372036854775807) (hon : pickOf on 2 = 1) (hlife : D1.life < 4611686018427387904) :
    Calls Try.prog 32 #[.pointer (some ⟨b, 0, none⟩), .agg #[.int .i64 5, .int .i64 on, .int .i64 at_, .int .i64 m, .string t, kv]] w fun x w' => x = .returned (.bool true) ∧ Pl [(b, 63, worldL p e d q s r)] w0 p d g1 e g2 n1 n2 q r s P D1.killed D2 P D1.killed D2 w' := by
  have hbl : Below w.heap.size w (w.alloc (.cells #[.int .i64 5, .int .i64 on, .int .i64 at_, .int .i64 m, .string t, kv] 68)) := (Below.refl _ _).alloc (Nat.le_refl _) _
  have h1 := (h.after hbl).add (Row.new w 68 (stepL 5 on at_ m t kv)) foreignStep
  have a1 := h1.snd.cell (j := 1) rfl
  have a2 := h1.snd.cell (j := 2) rfl
  have a4 := h1.snd.cell (j := 4) rfl
  have a5 := h1.snd.cell (j := 5) rfl
  have HON := Lib.hid hon
  have S0 := Lib.hid h1
  clear hon h h1 hbl
  go_enter Try.func32, Try.ntmps32
  go_wp2_with (first
    | (go_at_call 18; have hx := HON.out; clear HON; refine (pick_any on 2 _ o0 o1 (by omega) (by omega)).mono ?_; rintro x w3 ⟨he, rfl⟩; rw [hx] at he; subst he; clear hx)
    | (go_at_call 46; have h9 := S0.out; clear S0; refine (h9.rkill hlife).mono ?_; rintro x w4 ⟨rfl, hx⟩; have S1 := Lib.hid hx; clear hx h9)
    | (go_at_call 47; have h9 := S1.out; clear S1; refine (h9.kill hlife).mono ?_; rintro x w4 ⟨rfl, hx⟩; have S2 := Lib.hid hx; clear hx h9))
  refine tail w0 p d g1 e g2 n1 n2 q r s b w.heap.size e d s r _ _ _ _ _ _ _ S2.out _ _ _ _ _ _ _ _ _ _ _ _ _ _ _ _ _ _ _ _ _ _ _ _ _ _ _ _ _ _ _ _ _ _ _ _ _ _ _ _ _ _ _ _ _ _ _ _ _ _ _ _ _ _ _ _ _ _ _ _ _ _ _ _ _ _ _ _ _ _ _ _ _ _ _ _ _ _ _ _ _ _ _ _ _ _ _ _ _ _ _ _ _ _ _ _ _ _ _ _ _ _ _ _ _ _ _ _ _ _ _ _ _ _ _ _ _ _ _ _ _ _ _ _ _ _ _ _ _ _ _ _ _ _ _ _ _ _ _ _ _ _ _ _ _ _ _ _ _ _ _ _ _ _ _ _ _ _ _ _ _ _ _ _ _ _ _ _ _ _ _ _ _ _ _ _ _ _ _ _ _ _ _ _ _ _ _ _ _ _ _ _ _ _ _ _ _ _ _ _ _ _ _ _ _ _ _ _ _ _ _ _ _ _ _ _ _ _ _ _ _ _ _ _ _ _ _ _ _ _ _ _ _ _ _ _ _ _ _ _ _ _ _ _ _ _ _ _ _ _ _ _ _ _ _ _ _ _ _ _ _ _ _ _ _ _ _ ?_
  have HF := Lib.hid (fun nq => (S2.out.after (w' := World.drewN _ nq) ⟨rfl, rfl, rfl, Nat.le_refl _, fun _ _ => rfl⟩).drop)
  clear S2
  intro x203 x204 x205 x206 x207 x208 x209 x210 x211 x212 x213 x214 x215 x216 x217 x218 x219 x220 x221 x222 x223 x224 x225 x226 x227 x228 x229 x230 x231 x232 x233 x234 x235 x236 x237 x238 x239 x240 x241 x242 x243 x244 x245 x246 x247 x248 x249 x250 x251 x252 x253 x254 x255 x256 x257 x258 x259 x260 x261 x262 x263 x264 x265 x266 x267 x268 x269 x270 nq
  go_wp2
  go_ret
  exact ⟨rfl, HF.out nq⟩
set_option maxRecDepth 100000 in
set_option maxHeartbeats 1600000 in
theorem step_replace1 (w0 : World) (p d g1 e g2 n1 n2 q r s b : Nat) (P : Pw) (D1 D2 : Dk) (on at_ m : Int) (t : ByteArray) (kv : Value) (w : World) (h : Pl [(b, 63, worldL p e d q s r)] w0 p d g1 e g2 n1 n2 q r s P D1 D2 P D1 D2 w)
    (o0 : -9223372036854775808 ≤ on) (o1 : on ≤ 9223372036854775807) (hon : pickOf on 2 = 1) (hlife : D1.life < 4611686018427387904) :
    Calls Try.prog 32 #[.pointer (some ⟨b, 0, none⟩), .agg #[.int .i64 6, .int .i64 on, .int .i64 at_, .int .i64 m, .string t, kv]] w fun x w' => x = .returned (.bool true) ∧ Pl [(b, 63, worldL p e d q s r)] w0 p d g1 e g2 n1 n2 q r s P D1.replaced D2 P D1.replaced D2 w' := by
  have hbl : Below w.heap.size w (w.alloc (.cells #[.int .i64 6, .int .i64 on, .int .i64 at_, .int .i64 m, .string t, kv] 68)) := (Below.refl _ _).alloc (Nat.le_refl _) _
  have h1 := (h.after hbl).add (Row.new w 68 (stepL 6 on at_ m t kv)) foreignStep
  have a1 := h1.snd.cell (j := 1) rfl
  have a2 := h1.snd.cell (j := 2) rfl
  have a4 := h1.snd.cell (j := 4) rfl
  have a5 := h1.snd.cell (j := 5) rfl
  have HON := Lib.hid hon
  have S0 := Lib.hid h1
  clear hon h h1 hbl
  go_enter Try.func32, Try.ntmps32
  go_wp2_with (first
    | (go_at_call 18; have hx := HON.out; clear HON; refine (pick_any on 2 _ o0 o1 (by omega) (by omega)).mono ?_; rintro x w3 ⟨he, rfl⟩; rw [hx] at he; subst he; clear hx)
    | (go_at_call 48; have h9 := S0.out; clear S0; refine (h9.rreplace hlife).mono ?_; rintro x w4 ⟨rfl, hx⟩; have S1 := Lib.hid hx; clear hx h9)
    | (go_at_call 49; have h9 := S1.out; clear S1; refine (h9.replace hlife).mono ?_; rintro x w4 ⟨rfl, hx⟩; have S2 := Lib.hid hx; clear hx h9))
  refine tail w0 p d g1 e g2 n1 n2 q r s b w.heap.size e d s r _ _ _ _ _ _ _ S2.out _ _ _ _ _ _ _ _ _ _ _ _ _ _ _ _ _ _ _ _ _ _ _ _ _ _ _ _ _ _ _ _ _ _ _ _ _ _ _ _ _ _ _ _ _ _ _ _ _ _ _ _ _ _ _ _ _ _ _ _ _ _ _ _ _ _ _ _ _ _ _ _ _ _ _ _ _ _ _ _ _ _ _ _ _ _ _ _ _ _ _ _ _ _ _ _ _ _ _ _ _ _ _ _ _ _ _ _ _ _ _ _ _ _ _ _ _ _ _ _ _ _ _ _ _ _ _ _ _ _ _ _ _ _ _ _ _ _ _ _ _ _ _ _ _ _ _ _ _ _ _ _ _ _ _ _ _ _ _ _ _ _ _ _ _ _ _ _ _ _ _ _ _ _ _ _ _ _ _ _ _ _ _ _ _ _ _ _ _ _ _ _ _ _ _ _ _ _ _ _ _ _ _ _ _ _ _ _ _ _ _ _ _ _ _ _ _ _ _ _ _ _ _ _ _ _ _ _ _ _ _ _ _ _ _ _ _ _ _ _ _ _ _ _ _ _ _ _ _ _ _ _ _ _ _ _ _ _ _ _ _ _ _ _ _ _ _ ?_
  have HF := Lib.hid (fun nq => (S2.out.after (w' := World.drewN _ nq) ⟨rfl, rfl, rfl, Nat.le_refl _, fun _ _ => rfl⟩).drop)
  clear S2
  intro x203 x204 x205 x206 x207 x208 x209 x210 x211 x212 x213 x214 x215 x216 x217 x218 x219 x220 x221 x222 x223 x224 x225 x226 x227 x228 x229 x230 x231 x232 x233 x234 x235 x236 x237 x238 x239 x240 x241 x242 x243 x244 x245 x246 x247 x248 x249 x250 x251 x252 x253 x254 x255 x256 x257 x258 x259 x260 x261 x262 x263 x264 x265 x266 x267 x268 x269 x270 nq
  go_wp2
  go_ret
  exact ⟨rfl, HF.out nq⟩
set_option maxRecDepth 100000 in
set_option maxHeartbeats 1600000 in
theorem step_rot1 (w0 : World) (p d g1 e g2 n1 n2 q r s b : Nat) (P : Pw) (D1 D2 : Dk) (on at_ m : Int) (t : ByteArray) (kv : Value) (w : World) (h : Pl [(b, 63, worldL p e d q s r)] w0 p d g1 e g2 n1 n2 q r s P D1 D2 P D1 D2 w)
    (o0 : -9223372036854775808 ≤ on) (o1 : on ≤ 9223372036854775807) (hon : pickOf on 2 = 1) :
    Calls Try.prog 32 #[.pointer (some ⟨b, 0, none⟩), .agg #[.int .i64 7, .int .i64 on, .int .i64 at_, .int .i64 m, .string t, kv]] w fun x w' => x = .returned (.bool true) ∧ Pl [(b, 63, worldL p e d q s r)] w0 p d g1 e g2 n1 n2 q r s P (rotDk D1 n1 at_ m) D2 P (rotDk D1 n1 at_ m) D2 w' := by
  have hbl : Below w.heap.size w (w.alloc (.cells #[.int .i64 7, .int .i64 on, .int .i64 at_, .int .i64 m, .string t, kv] 68)) := (Below.refl _ _).alloc (Nat.le_refl _) _
  have h1 := (h.after hbl).add (Row.new w 68 (stepL 7 on at_ m t kv)) foreignStep
  have a1 := h1.snd.cell (j := 1) rfl
  have a2 := h1.snd.cell (j := 2) rfl
  have a4 := h1.snd.cell (j := 4) rfl
  have a5 := h1.snd.cell (j := 5) rfl
  have HON := Lib.hid hon
  have S0 := Lib.hid h1
  clear hon h h1 hbl
  go_enter Try.func32, Try.ntmps32
  go_wp2_with (first
    | (go_at_call 18; have hx := HON.out; clear HON; refine (pick_any on 2 _ o0 o1 (by omega) (by omega)).mono ?_; rintro x w3 ⟨he, rfl⟩; rw [hx] at he; subst he; clear hx)
    | (go_at_call 50; have h9 := S0.out; clear S0; refine (h9.rrot at_ m).mono ?_; rintro x w4 ⟨rfl, hx⟩; have b2 := hx.fst.cell (j := 2) rfl; have b3 := hx.fst.cell (j := 3) rfl; have S1 := Lib.hid hx; clear hx h9)
    | (go_at_call 19; have h9 := S1.out; clear S1; refine (h9.rot at_ m).mono ?_; rintro x w5 ⟨ev, rfl, he, hx⟩; have S2 := Lib.hid hx; have HE := Lib.hid he; clear hx he h9)
    | (go_at_call 22; have h8 := HE.out; clear HE; refine (is_ok _ _ _ _ h8).mono ?_; rintro x w6 ⟨rfl, rfl⟩; clear h8))
  refine tail w0 p d g1 e g2 n1 n2 q r s b w.heap.size e d s r _ _ _ _ _ _ _ S2.out _ _ _ _ _ _ _ _ _ _ _ _ _ _ _ _ _ _ _ _ _ _ _ _ _ _ _ _ _ _ _ _ _ _ _ _ _ _ _ _ _ _ _ _ _ _ _ _ _ _ _ _ _ _ _ _ _ _ _ _ _ _ _ _ _ _ _ _ _ _ _ _ _ _ _ _ _ _ _ _ _ _ _ _ _ _ _ _ _ _ _ _ _ _ _ _ _ _ _ _ _ _ _ _ _ _ _ _ _ _ _ _ _ _ _ _ _ _ _ _ _ _ _ _ _ _ _ _ _ _ _ _ _ _ _ _ _ _ _ _ _ _ _ _ _ _ _ _ _ _ _ _ _ _ _ _ _ _ _ _ _ _ _ _ _ _ _ _ _ _ _ _ _ _ _ _ _ _ _ _ _ _ _ _ _ _ _ _ _ _ _ _ _ _ _ _ _ _ _ _ _ _ _ _ _ _ _ _ _ _ _ _ _ _ _ _ _ _ _ _ _ _ _ _ _ _ _ _ _ _ _ _ _ _ _ _ _ _ _ _ _ _ _ _ _ _ _ _ _ _ _ _ _ _ _ _ _ _ _ _ _ _ _ _ _ _ _ ?_
  have HF := Lib.hid (fun nq => (S2.out.after (w' := World.drewN _ nq) ⟨rfl, rfl, rfl, Nat.le_refl _, fun _ _ => rfl⟩).drop)
  clear S2
  intro x203 x204 x205 x206 x207 x208 x209 x210 x211 x212 x213 x214 x215 x216 x217 x218 x219 x220 x221 x222 x223 x224 x225 x226 x227 x228 x229 x230 x231 x232 x233 x234 x235 x236 x237 x238 x239 x240 x241 x242 x243 x244 x245 x246 x247 x248 x249 x250 x251 x252 x253 x254 x255 x256 x257 x258 x259 x260 x261 x262 x263 x264 x265 x266 x267 x268 x269 x270 nq
  go_wp2
  go_ret
  exact ⟨rfl, HF.out nq⟩
set_option maxRecDepth 100000 in
set_option maxHeartbeats 1600000 in
theorem step_image1 (w0 : World) (p d g1 e g2 n1 n2 q r s b : Nat) (P : Pw) (D1 D2 : Dk) (on at_ m : Int) (t : ByteArray) (kv : Value) (w : World) (h : Pl [(b, 63, worldL p e d q s r)] w0 p d g1 e g2 n1 n2 q r s P D1 D2 P D1 D2 w)
    (o0 : -9223372036854775808 ≤ on) (o1 : on ≤ 9223372036854775807) (hon : pickOf on 2 = 1) :
    Calls Try.prog 32 #[.pointer (some ⟨b, 0, none⟩), .agg #[.int .i64 8, .int .i64 on, .int .i64 at_, .int .i64 m, .string t, kv]] w fun x w' => x = .returned (.bool true) ∧ Pl [(b, 63, worldL p e d q s r)] w0 p d g1 e g2 n1 n2 q r s P D1 D2 P D1 D2 w' := by
  have hbl : Below w.heap.size w (w.alloc (.cells #[.int .i64 8, .int .i64 on, .int .i64 at_, .int .i64 m, .string t, kv] 68)) := (Below.refl _ _).alloc (Nat.le_refl _) _
  have h1 := (h.after hbl).add (Row.new w 68 (stepL 8 on at_ m t kv)) foreignStep
  have a1 := h1.snd.cell (j := 1) rfl
  have a2 := h1.snd.cell (j := 2) rfl
  have a4 := h1.snd.cell (j := 4) rfl
  have a5 := h1.snd.cell (j := 5) rfl
  have HON := Lib.hid hon
  have S0 := Lib.hid h1
  clear hon h h1 hbl
  go_enter Try.func32, Try.ntmps32
  go_wp2_with (first
    | (go_at_call 18; have hx := HON.out; clear HON; refine (pick_any on 2 _ o0 o1 (by omega) (by omega)).mono ?_; rintro x w3 ⟨he, rfl⟩; rw [hx] at he; subst he; clear hx)
    | (go_at_call 33; have h9 := S0.out; clear S0; refine (h9.rimage).mono ?_; rintro x w4 ⟨rfl, hx, _⟩; have S1 := Lib.hid hx; clear hx h9)
    | (go_at_call 17; have h9 := S1.out; clear S1; refine (h9.two.image).mono ?_; rintro x w5 ⟨rfl, rfl⟩; have S2 := Lib.hid h9; clear h9))
  refine tail w0 p d g1 e g2 n1 n2 q r s b w.heap.size e d s r _ _ _ _ _ _ _ S2.out _ _ _ _ _ _ _ _ _ _ _ _ _ _ _ _ _ _ _ _ _ _ _ _ _ _ _ _ _ _ _ _ _ _ _ _ _ _ _ _ _ _ _ _ _ _ _ _ _ _ _ _ _ _ _ _ _ _ _ _ _ _ _ _ _ _ _ _ _ _ _ _ _ _ _ _ _ _ _ _ _ _ _ _ _ _ _ _ _ _ _ _ _ _ _ _ _ _ _ _ _ _ _ _ _ _ _ _ _ _ _ _ _ _ _ _ _ _ _ _ _ _ _ _ _ _ _ _ _ _ _ _ _ _ _ _ _ _ _ _ _ _ _ _ _ _ _ _ _ _ _ _ _ _ _ _ _ _ _ _ _ _ _ _ _ _ _ _ _ _ _ _ _ _ _ _ _ _ _ _ _ _ _ _ _ _ _ _ _ _ _ _ _ _ _ _ _ _ _ _ _ _ _ _ _ _ _ _ _ _ _ _ _ _ _ _ _ _ _ _ _ _ _ _ _ _ _ _ _ _ _ _ _ _ _ _ _ _ _ _ _ _ _ _ _ _ _ _ _ _ _ _ _ _ _ _ _ _ _ _ _ _ _ _ _ _ _ ?_
  have HF := Lib.hid (fun nq => (S2.out.after (w' := World.drewN _ nq) ⟨rfl, rfl, rfl, Nat.le_refl _, fun _ _ => rfl⟩).drop)
  clear S2
  intro x203 x204 x205 x206 x207 x208 x209 x210 x211 x212 x213 x214 x215 x216 x217 x218 x219 x220 x221 x222 x223 x224 x225 x226 x227 x228 x229 x230 x231 x232 x233 x234 x235 x236 x237 x238 x239 x240 x241 x242 x243 x244 x245 x246 x247 x248 x249 x250 x251 x252 x253 x254 x255 x256 x257 x258 x259 x260 x261 x262 x263 x264 x265 x266 x267 x268 x269 x270 nq
  go_wp2
  go_ret
  exact ⟨rfl, HF.out nq⟩
set_option maxRecDepth 100000 in
set_option maxHeartbeats 1600000 in
theorem step_long1 (w0 : World) (p d g1 e g2 n1 n2 q r s b : Nat) (P : Pw) (D1 D2 : Dk) (on at_ m : Int) (t : ByteArray) (kv : Value) (w : World) (h : Pl [(b, 63, worldL p e d q s r)] w0 p d g1 e g2 n1 n2 q r s P D1 D2 P D1 D2 w)
    (o0 : -9223372036854775808 ≤ on) (o1 : on ≤ 9223372036854775807) (hon : pickOf on 2 = 1) (hacts : P.acts < 4611686018427387904) (hfew : D1.wait.length < 1099511627776) :
    Calls Try.prog 32 #[.pointer (some ⟨b, 0, none⟩), .agg #[.int .i64 12, .int .i64 on, .int .i64 at_, .int .i64 m, .string t, kv]] w fun x w' => x = .returned (.bool true) ∧ Pl [(b, 63, worldL p e d q s r)] w0 p d g1 e g2 n1 n2 q r s (wpow P D1 at_ t) (wdk P D1 at_ t) D2 (wpow P D1 at_ t) (wdk P D1 at_ t) D2 w' := by
  have hbl : Below w.heap.size w (w.alloc (.cells #[.int .i64 12, .int .i64 on, .int .i64 at_, .int .i64 m, .string t, kv] 68)) := (Below.refl _ _).alloc (Nat.le_refl _) _
  have h1 := (h.after hbl).add (Row.new w 68 (stepL 12 on at_ m t kv)) foreignStep
  have a1 := h1.snd.cell (j := 1) rfl
  have a2 := h1.snd.cell (j := 2) rfl
  have a4 := h1.snd.cell (j := 4) rfl
  have a5 := h1.snd.cell (j := 5) rfl
  have HON := Lib.hid hon
  have S0 := Lib.hid h1
  clear hon h h1 hbl
  go_enter Try.func32, Try.ntmps32
  go_wp2_with (first
    | (go_at_call 18; have hx := HON.out; clear HON; refine (pick_any on 2 _ o0 o1 (by omega) (by omega)).mono ?_; rintro x w3 ⟨he, rfl⟩; rw [hx] at he; subst he; clear hx)
    | (go_at_call 43; have h9 := S0.out; clear S0; refine (h9.rwrite at_ t hfew hacts).mono ?_; rintro x w4 ⟨rfl, hx⟩; have b2 := hx.fst.cell (j := 2) rfl; have b4 := hx.fst.cell (j := 4) rfl; have S1 := Lib.hid hx; clear hx h9)
    | (go_at_call 12; have h9 := S1.out; clear S1; refine (h9.write at_ t hfew hacts).mono ?_; rintro x w5 ⟨ev, rfl, he, hx⟩; have S2 := Lib.hid hx; have HE := Lib.hid he; clear hx he h9)
    | (go_at_call 22; have h8 := HE.out; clear HE; refine (is_ok _ _ _ _ h8).mono ?_; rintro x w6 ⟨rfl, rfl⟩; clear h8))
  refine tail w0 p d g1 e g2 n1 n2 q r s b w.heap.size e d s r _ _ _ _ _ _ _ S2.out _ _ _ _ _ _ _ _ _ _ _ _ _ _ _ _ _ _ _ _ _ _ _ _ _ _ _ _ _ _ _ _ _ _ _ _ _ _ _ _ _ _ _ _ _ _ _ _ _ _ _ _ _ _ _ _ _ _ _ _ _ _ _ _ _ _ _ _ _ _ _ _ _ _ _ _ _ _ _ _ _ _ _ _ _ _ _ _ _ _ _ _ _ _ _ _ _ _ _ _ _ _ _ _ _ _ _ _ _ _ _ _ _ _ _ _ _ _ _ _ _ _ _ _ _ _ _ _ _ _ _ _ _ _ _ _ _ _ _ _ _ _ _ _ _ _ _ _ _ _ _ _ _ _ _ _ _ _ _ _ _ _ _ _ _ _ _ _ _ _ _ _ _ _ _ _ _ _ _ _ _ _ _ _ _ _ _ _ _ _ _ _ _ _ _ _ _ _ _ _ _ _ _ _ _ _ _ _ _ _ _ _ _ _ _ _ _ _ _ _ _ _ _ _ _ _ _ _ _ _ _ _ _ _ _ _ _ _ _ _ _ _ _ _ _ _ _ _ _ _ _ _ _ _ _ _ _ _ _ _ _ _ _ _ _ _ _ ?_
  have HF := Lib.hid (fun nq => (S2.out.after (w' := World.drewN _ nq) ⟨rfl, rfl, rfl, Nat.le_refl _, fun _ _ => rfl⟩).drop)
  clear S2
  intro x203 x204 x205 x206 x207 x208 x209 x210 x211 x212 x213 x214 x215 x216 x217 x218 x219 x220 x221 x222 x223 x224 x225 x226 x227 x228 x229 x230 x231 x232 x233 x234 x235 x236 x237 x238 x239 x240 x241 x242 x243 x244 x245 x246 x247 x248 x249 x250 x251 x252 x253 x254 x255 x256 x257 x258 x259 x260 x261 x262 x263 x264 x265 x266 x267 x268 x269 x270 nq
  go_wp2
  go_ret
  exact ⟨rfl, HF.out nq⟩
set_option maxRecDepth 100000 in
set_option maxHeartbeats 1600000 in
theorem step_lose1 (w0 : World) (p d g1 e g2 n1 n2 q r s b : Nat) (P : Pw) (D1 D2 : Dk) (on at_ m : Int) (t : ByteArray) (kv : Value) (w : World) (h : Pl [(b, 63, worldL p e d q s r)] w0 p d g1 e g2 n1 n2 q r s P D1 D2 P D1 D2 w)
    (o0 : -9223372036854775808 ≤ on) (o1 : on ≤ 9223372036854775807) (hon : pickOf on 2 = 1) (ka : Option Addr) (kc : Nat) (keep : List Bool) (hkv : kv = .slice ka keep.length kc) (hkeep : BoolsIn w0 ka keep) :
    Calls Try.prog 32 #[.pointer (some ⟨b, 0, none⟩), .agg #[.int .i64 4, .int .i64 on, .int .i64 at_, .int .i64 m, .string t, kv]] w fun x w' => x = .returned (.bool true) ∧ Pl [(b, 63, worldL p e d q s r)] w0 p d g1 e g2 n1 n2 q r s P (D1.lost keep m) D2 P (D1.lost keep m) D2 w' := by
  have hbl : Below w.heap.size w (w.alloc (.cells #[.int .i64 4, .int .i64 on, .int .i64 at_, .int .i64 m, .string t, kv] 68)) := (Below.refl _ _).alloc (Nat.le_refl _) _
  have h1 := (h.after hbl).add (Row.new w 68 (stepL 4 on at_ m t kv)) foreignStep
  have a1 := h1.snd.cell (j := 1) rfl
  have a2 := h1.snd.cell (j := 2) rfl
  have a4 := h1.snd.cell (j := 4) rfl
  have a5 := h1.snd.cell (j := 5) rfl
  subst hkv
  have HK := Lib.hid hkeep
  have HON := Lib.hid hon
  have S0 := Lib.hid h1
  clear hon h h1 hbl hkeep
  go_enter Try.func32, Try.ntmps32
  go_wp2_with (first
    | (go_at_call 18; have hx := HON.out; clear HON; refine (pick_any on 2 _ o0 o1 (by omega) (by omega)).mono ?_; rintro x w3 ⟨he, rfl⟩; rw [hx] at he; subst he; clear hx)
    | (go_at_call 45; have h9 := S0.out; clear S0; refine (h9.rlose ka kc keep m (HK.out.at_ h9.two.bel)).mono ?_; rintro x w4 ⟨rfl, hx⟩; have b3 := hx.fst.cell (j := 3) rfl; have b5 := hx.fst.cell (j := 5) rfl; have S1 := Lib.hid hx; clear hx h9)
    | (go_at_call 13; have h9 := S1.out; clear S1; refine (h9.lose ka kc keep m (HK.out.at_ h9.two.bel)).mono ?_; rintro x w4 ⟨rfl, hx⟩; have S2 := Lib.hid hx; clear hx h9))
  refine tail w0 p d g1 e g2 n1 n2 q r s b w.heap.size e d s r _ _ _ _ _ _ _ S2.out _ _ _ _ _ _ _ _ _ _ _ _ _ _ _ _ _ _ _ _ _ _ _ _ _ _ _ _ _ _ _ _ _ _ _ _ _ _ _ _ _ _ _ _ _ _ _ _ _ _ _ _ _ _ _ _ _ _ _ _ _ _ _ _ _ _ _ _ _ _ _ _ _ _ _ _ _ _ _ _ _ _ _ _ _ _ _ _ _ _ _ _ _ _ _ _ _ _ _ _ _ _ _ _ _ _ _ _ _ _ _ _ _ _ _ _ _ _ _ _ _ _ _ _ _ _ _ _ _ _ _ _ _ _ _ _ _ _ _ _ _ _ _ _ _ _ _ _ _ _ _ _ _ _ _ _ _ _ _ _ _ _ _ _ _ _ _ _ _ _ _ _ _ _ _ _ _ _ _ _ _ _ _ _ _ _ _ _ _ _ _ _ _ _ _ _ _ _ _ _ _ _ _ _ _ _ _ _ _ _ _ _ _ _ _ _ _ _ _ _ _ _ _ _ _ _ _ _ _ _ _ _ _ _ _ _ _ _ _ _ _ _ _ _ _ _ _ _ _ _ _ _ _ _ _ _ _ _ _ _ _ _ _ _ _ _ _ ?_
  have HF := Lib.hid (fun nq => (S2.out.after (w' := World.drewN _ nq) ⟨rfl, rfl, rfl, Nat.le_refl _, fun _ _ => rfl⟩).drop)
  clear S2
  intro x203 x204 x205 x206 x207 x208 x209 x210 x211 x212 x213 x214 x215 x216 x217 x218 x219 x220 x221 x222 x223 x224 x225 x226 x227 x228 x229 x230 x231 x232 x233 x234 x235 x236 x237 x238 x239 x240 x241 x242 x243 x244 x245 x246 x247 x248 x249 x250 x251 x252 x253 x254 x255 x256 x257 x258 x259 x260 x261 x262 x263 x264 x265 x266 x267 x268 x269 x270 nq
  go_wp2
  go_ret
  exact ⟨rfl, HF.out nq⟩
set_option maxRecDepth 100000 in
set_option maxHeartbeats 1600000 in
theorem step_none1 (w0 : World) (p d g1 e g2 n1 n2 q r s b : Nat) (P : Pw) (D1 D2 : Dk) (kd : Int) (on at_ m : Int) (t : ByteArray) (kv : Value) (w : World) (h : Pl [(b, 63, worldL p e d q s r)] w0 p d g1 e g2 n1 n2 q r s P D1 D2 P D1 D2 w)
    (o0 : -9223372036854775808 ≤ on) (o1 : on ≤ 9223372036854775807) (hon : pickOf on 2 = 1) (k1 : (kd == 1) = false) (k2 : (kd == 2) = false) (k3 : (kd == 3) = false) (k4 : (kd == 4) = false) (k5 : (kd == 5) = false) (k6 : (kd == 6) = false) (k7 : (kd == 7) = false) (k8 : (kd == 8) = false) (k9 : (kd == 9) = false) (k10 : (kd == 10) = false) (k11 : (kd == 11) = false) (k12 : (kd == 12) = false) :
    Calls Try.prog 32 #[.pointer (some ⟨b, 0, none⟩), .agg #[.int .i64 kd, .int .i64 on, .int .i64 at_, .int .i64 m, .string t, kv]] w fun x w' => x = .returned (.bool true) ∧ Pl [(b, 63, worldL p e d q s r)] w0 p d g1 e g2 n1 n2 q r s P D1 D2 P D1 D2 w' := by
  have hbl : Below w.heap.size w (w.alloc (.cells #[.int .i64 kd, .int .i64 on, .int .i64 at_, .int .i64 m, .string t, kv] 68)) := (Below.refl _ _).alloc (Nat.le_refl _) _
  have h1 := (h.after hbl).add (Row.new w 68 (stepL kd on at_ m t kv)) foreignStep
  have a1 := h1.snd.cell (j := 1) rfl
  have a2 := h1.snd.cell (j := 2) rfl
  have a4 := h1.snd.cell (j := 4) rfl
  have a5 := h1.snd.cell (j := 5) rfl
  have HON := Lib.hid hon
  have S0 := Lib.hid h1
  clear hon h h1 hbl
  go_enter Try.func32, Try.ntmps32
  go_wp2_with (first
    | (go_at_call 18; have hx := HON.out; clear HON; refine (pick_any on 2 _ o0 o1 (by omega) (by omega)).mono ?_; rintro x w3 ⟨he, rfl⟩; rw [hx] at he; subst he; clear hx))
  refine tail w0 p d g1 e g2 n1 n2 q r s b w.heap.size e d s r _ _ _ _ _ _ _ S0.out _ _ _ _ _ _ _ _ _ _ _ _ _ _ _ _ _ _ _ _ _ _ _ _ _ _ _ _ _ _ _ _ _ _ _ _ _ _ _ _ _ _ _ _ _ _ _ _ _ _ _ _ _ _ _ _ _ _ _ _ _ _ _ _ _ _ _ _ _ _ _ _ _ _ _ _ _ _ _ _ _ _ _ _ _ _ _ _ _ _ _ _ _ _ _ _ _ _ _ _ _ _ _ _ _ _ _ _ _ _ _ _ _ _ _ _ _ _ _ _ _ _ _ _ _ _ _ _ _ _ _ _ _ _ _ _ _ _ _ _ _ _ _ _ _ _ _ _ _ _ _ _ _ _ _ _ _ _ _ _ _ _ _ _ _ _ _ _ _ _ _ _ _ _ _ _ _ _ _ _ _ _ _ _ _ _ _ _ _ _ _ _ _ _ _ _ _ _ _ _ _ _ _ _ _ _ _ _ _ _ _ _ _ _ _ _ _ _ _ _ _ _ _ _ _ _ _ _ _ _ _ _ _ _ _ _ _ _ _ _ _ _ _ _ _ _ _ _ _ _ _ _ _ _ _ _ _ _ _ _ _ _ _ _ _ _ _ ?_
  have HF := Lib.hid (fun nq => (S0.out.after (w' := World.drewN (w.alloc (.cells #[.int .i64 kd, .int .i64 on, .int .i64 at_, .int .i64 m, .string t, kv] 68)) nq) ⟨rfl, rfl, rfl, Nat.le_refl _, fun _ _ => rfl⟩).drop)
  clear S0
  intro x203 x204 x205 x206 x207 x208 x209 x210 x211 x212 x213 x214 x215 x216 x217 x218 x219 x220 x221 x222 x223 x224 x225 x226 x227 x228 x229 x230 x231 x232 x233 x234 x235 x236 x237 x238 x239 x240 x241 x242 x243 x244 x245 x246 x247 x248 x249 x250 x251 x252 x253 x254 x255 x256 x257 x258 x259 x260 x261 x262 x263 x264 x265 x266 x267 x268 x269 x270 nq
  go_wp2
  go_ret
  exact ⟨rfl, HF.out nq⟩
end Go.Proofs.Ythppnjmepeeejaa
