/-
  The walk of MatrixMakes, case by case.
-/
import Derived.Test.YtbnfnijjldimkaaMMat
namespace Go.Proofs.Ytbnfnijjldimkaa
open Go.RowKit
set_option linter.unusedVariables false
set_option linter.unusedSimpArgs false
theorem err_open {B : Nat} {w : World} {ev : Value} {k : Int} (h : ErrAt B w ev k) (hk : k ≠ 0) : ∃ b, ev = .iface 68 (.pointer (some ⟨b, 0, none⟩)) ∧ ErrAt B w (.iface 68 (.pointer (some ⟨b, 0, none⟩))) k := by
  rcases h with ⟨_, h⟩ | ⟨h0, b, rfl, hB, hf⟩
  · exact absurd h hk
  · exact ⟨b, rfl, Or.inr ⟨h0, b, rfl, hB, hf⟩⟩
set_option maxHeartbeats 800000 in
theorem is0_bad (b : Nat) (w : World) :
    Calls Try.prog 14 #[.iface 68 (.pointer (some ⟨b, 0, none⟩)), .int .i64 0] w fun e w' => e = .returned (.bool false) ∧ w = w' := by
  go_enter Try.func14, Try.ntmps14
  go_wp2
  go_ret
  exact ⟨rfl, rfl⟩
end Go.Proofs.Ytbnfnijjldimkaa
