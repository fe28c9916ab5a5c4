/-
  Bundles of facts that last (as the matrix laws have them).
-/
import Derived.Test.YtbnfnijjldimkabEsize
namespace Go.Proofs.Ytbnfnijjldimkab
open Go.RowKit
/-- F lasts from w on, whatever is made behind it -/
structure Bun (w0 : World) (F : World → Prop) (w : World) : Prop where
  all : ∀ w', Below w.heap.size w w' → F w'
  bel : Below w0.heap.size w0 w
theorem Bun.start (w : World) : Bun w (fun _ => True) w := ⟨fun _ _ => trivial, Below.refl _ _⟩
theorem Bun.here {w0 w : World} {F : World → Prop} (h : Bun w0 F w) : F w := h.all w (Below.refl _ _)
theorem Bun.after {w0 w w' : World} {F : World → Prop} (h : Bun w0 F w) (hb : Below w.heap.size w w') : Bun w0 F w' := ⟨fun w'' h'' => h.all w'' (hb.trans (h''.mono hb.size)), h.bel.trans (hb.mono h.bel.size)⟩
theorem Bun.add {w0 w : World} {F G : World → Prop} (h : Bun w0 F w) (hG : ∀ w', Below w.heap.size w w' → G w') : Bun w0 (fun x => F x ∧ G x) w := ⟨fun w' hb => ⟨h.all w' hb, hG w' hb⟩, h.bel⟩
theorem Bun.box {w0 w : World} {F : World → Prop} (h : Bun w0 F w) (T : TypeId) (L : List Value) : Bun w0 (fun x => F x ∧ Row x w.heap.size T L) (w.alloc (.cells L.toArray T)) :=
  ⟨fun w' hb => ⟨h.all w' (((Below.refl _ _).alloc (Nat.le_refl _) _).trans (hb.mono (by simp))), (Row.new w T L).after hb⟩, h.bel.alloc h.bel.size _⟩
theorem Bun.map {w0 w : World} {F G : World → Prop} (h : Bun w0 F w) (hG : ∀ x, F x → G x) : Bun w0 G w := ⟨fun w' hb => hG _ (h.all w' hb), h.bel⟩
theorem Bun.of {w0 w : World} {F : World → Prop} (h : ∀ w', Below w.heap.size w w' → F w') (hb : Below w0.heap.size w0 w) : Bun w0 F w := ⟨h, hb⟩
end Go.Proofs.Ytbnfnijjldimkab
