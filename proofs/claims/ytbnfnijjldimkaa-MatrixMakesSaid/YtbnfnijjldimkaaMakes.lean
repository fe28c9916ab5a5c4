/-
  The walk of MatrixMakes: the cases joined.
-/
import Derived.Test.YtbnfnijjldimkaaMaklo
import Derived.Test.YtbnfnijjldimkaaMakhi
import Derived.Test.YtbnfnijjldimkaaMaks
import Derived.Test.YtbnfnijjldimkaaMakm
import Derived.Test.YtbnfnijjldimkaaMakl
namespace Go.Proofs.Ytbnfnijjldimkaa
open Go.RowKit
set_option linter.unusedVariables false
set_option linter.unusedSimpArgs false
theorem makes_lo (r c : Int) (n : Int) (ar ac : Int) (an acap : Nat) (aa : Option Addr) (w : World) (hal : an ≤ maxLen) (hn : n < 1) :
    Calls Try.prog 6 #[.int .i64 r, .int .i64 c, .int .i64 n, .agg #[.int .i64 ar, .int .i64 ac, .slice aa an acap]] w fun e w' => e = .returned (.bool true) ∧ Below w.heap.size w w' := by
  have hx : (r < 1) ∨ (255 < r) ∨ (1 ≤ r ∧ r ≤ 40 ∧ c < 1) ∨ (40 < r ∧ r ≤ 255 ∧ c < 1) ∨ (1 ≤ r ∧ r ≤ 40 ∧ 255 < c) ∨ (40 < r ∧ r ≤ 255 ∧ 255 < c) ∨ (1 ≤ r ∧ r ≤ 40 ∧ 40 < c ∧ c ≤ 255 ∧ 256 < r + c) ∨ (40 < r ∧ r ≤ 255 ∧ 1 ≤ c ∧ c ≤ 255 ∧ 256 < r + c) ∨ (1 ≤ r ∧ r ≤ 40 ∧ 1 ≤ c ∧ c ≤ 40) ∨ (1 ≤ r ∧ r ≤ 40 ∧ 40 < c ∧ c ≤ 255 ∧ r + c ≤ 256) ∨ (40 < r ∧ r ≤ 255 ∧ 1 ≤ c ∧ c ≤ 255 ∧ r + c ≤ 256) := by omega
  rcases hx with h | h | ⟨h1, h2, h3⟩ | ⟨h1, h2, h3⟩ | ⟨h1, h2, h3⟩ | ⟨h1, h2, h3⟩ | ⟨h1, h2, h3, h4, h5⟩ | ⟨h1, h2, h3, h4, h5⟩ | ⟨h1, h2, h3, h4⟩ | ⟨h1, h2, h3, h4, h5⟩ | ⟨h1, h2, h3, h4, h5⟩
  · exact mk_lo_b1 r c n ar ac an acap aa w hal hn h
  · exact mk_lo_b2 r c n ar ac an acap aa w hal hn h
  · exact mk_lo_b3 r c n ar ac an acap aa w hal hn h1 h2 h3
  · exact mk_lo_b4 r c n ar ac an acap aa w hal hn h1 h2 h3
  · exact mk_lo_b5 r c n ar ac an acap aa w hal hn h1 h2 h3
  · exact mk_lo_b6 r c n ar ac an acap aa w hal hn h1 h2 h3
  · exact mk_lo_b7 r c n ar ac an acap aa w hal hn h1 h2 h3 h4 h5
  · exact mk_lo_b8 r c n ar ac an acap aa w hal hn h1 h2 h3 h4 h5
  · obtain ⟨r, rfl⟩ : ∃ x : Nat, r = x := ⟨r.toNat, by omega⟩
    obtain ⟨c, rfl⟩ : ∃ x : Nat, c = x := ⟨c.toNat, by omega⟩
    exact mk_lo_k1 r c n ar ac an acap aa w hal hn h1 h2 h3 h4
  · obtain ⟨r, rfl⟩ : ∃ x : Nat, r = x := ⟨r.toNat, by omega⟩
    obtain ⟨c, rfl⟩ : ∃ x : Nat, c = x := ⟨c.toNat, by omega⟩
    exact mk_lo_k2 r c n ar ac an acap aa w hal hn h1 h2 h3 h4 h5
  · obtain ⟨r, rfl⟩ : ∃ x : Nat, r = x := ⟨r.toNat, by omega⟩
    obtain ⟨c, rfl⟩ : ∃ x : Nat, c = x := ⟨c.toNat, by omega⟩
    exact mk_lo_k3 r c n ar ac an acap aa w hal hn h1 h2 h3 h4 h5
theorem makes_hi (r c : Int) (n : Int) (ar ac : Int) (an acap : Nat) (aa : Option Addr) (w : World) (hal : an ≤ maxLen) (hn : 255 < n) :
    Calls Try.prog 6 #[.int .i64 r, .int .i64 c, .int .i64 n, .agg #[.int .i64 ar, .int .i64 ac, .slice aa an acap]] w fun e w' => e = .returned (.bool true) ∧ Below w.heap.size w w' := by
  have hx : (r < 1) ∨ (255 < r) ∨ (1 ≤ r ∧ r ≤ 40 ∧ c < 1) ∨ (40 < r ∧ r ≤ 255 ∧ c < 1) ∨ (1 ≤ r ∧ r ≤ 40 ∧ 255 < c) ∨ (40 < r ∧ r ≤ 255 ∧ 255 < c) ∨ (1 ≤ r ∧ r ≤ 40 ∧ 40 < c ∧ c ≤ 255 ∧ 256 < r + c) ∨ (40 < r ∧ r ≤ 255 ∧ 1 ≤ c ∧ c ≤ 255 ∧ 256 < r + c) ∨ (1 ≤ r ∧ r ≤ 40 ∧ 1 ≤ c ∧ c ≤ 40) ∨ (1 ≤ r ∧ r ≤ 40 ∧ 40 < c ∧ c ≤ 255 ∧ r + c ≤ 256) ∨ (40 < r ∧ r ≤ 255 ∧ 1 ≤ c ∧ c ≤ 255 ∧ r + c ≤ 256) := by omega
  rcases hx with h | h | ⟨h1, h2, h3⟩ | ⟨h1, h2, h3⟩ | ⟨h1, h2, h3⟩ | ⟨h1, h2, h3⟩ | ⟨h1, h2, h3, h4, h5⟩ | ⟨h1, h2, h3, h4, h5⟩ | ⟨h1, h2, h3, h4⟩ | ⟨h1, h2, h3, h4, h5⟩ | ⟨h1, h2, h3, h4, h5⟩
  · exact mk_hi_b1 r c n ar ac an acap aa w hal hn h
  · exact mk_hi_b2 r c n ar ac an acap aa w hal hn h
  · exact mk_hi_b3 r c n ar ac an acap aa w hal hn h1 h2 h3
  · exact mk_hi_b4 r c n ar ac an acap aa w hal hn h1 h2 h3
  · exact mk_hi_b5 r c n ar ac an acap aa w hal hn h1 h2 h3
  · exact mk_hi_b6 r c n ar ac an acap aa w hal hn h1 h2 h3
  · exact mk_hi_b7 r c n ar ac an acap aa w hal hn h1 h2 h3 h4 h5
  · exact mk_hi_b8 r c n ar ac an acap aa w hal hn h1 h2 h3 h4 h5
  · obtain ⟨r, rfl⟩ : ∃ x : Nat, r = x := ⟨r.toNat, by omega⟩
    obtain ⟨c, rfl⟩ : ∃ x : Nat, c = x := ⟨c.toNat, by omega⟩
    exact mk_hi_k1 r c n ar ac an acap aa w hal hn h1 h2 h3 h4
  · obtain ⟨r, rfl⟩ : ∃ x : Nat, r = x := ⟨r.toNat, by omega⟩
    obtain ⟨c, rfl⟩ : ∃ x : Nat, c = x := ⟨c.toNat, by omega⟩
    exact mk_hi_k2 r c n ar ac an acap aa w hal hn h1 h2 h3 h4 h5
  · obtain ⟨r, rfl⟩ : ∃ x : Nat, r = x := ⟨r.toNat, by omega⟩
    obtain ⟨c, rfl⟩ : ∃ x : Nat, c = x := ⟨c.toNat, by omega⟩
    exact mk_hi_k3 r c n ar ac an acap aa w hal hn h1 h2 h3 h4 h5
theorem makes_s (r c : Int) (n : Nat) (ar ac : Int) (an acap : Nat) (aa : Option Addr) (w : World) (hal : an ≤ maxLen) (hn : (1 : Int) ≤ n) (hn2 : (n : Int) ≤ 40) :
    Calls Try.prog 6 #[.int .i64 r, .int .i64 c, .int .i64 n, .agg #[.int .i64 ar, .int .i64 ac, .slice aa an acap]] w fun e w' => e = .returned (.bool true) ∧ Below w.heap.size w w' := by
  have hx : (r < 1) ∨ (255 < r) ∨ (1 ≤ r ∧ r ≤ 40 ∧ c < 1) ∨ (40 < r ∧ r ≤ 255 ∧ c < 1) ∨ (1 ≤ r ∧ r ≤ 40 ∧ 255 < c) ∨ (40 < r ∧ r ≤ 255 ∧ 255 < c) ∨ (1 ≤ r ∧ r ≤ 40 ∧ 40 < c ∧ c ≤ 255 ∧ 256 < r + c) ∨ (40 < r ∧ r ≤ 255 ∧ 1 ≤ c ∧ c ≤ 255 ∧ 256 < r + c) ∨ (1 ≤ r ∧ r ≤ 40 ∧ 1 ≤ c ∧ c ≤ 40) ∨ (1 ≤ r ∧ r ≤ 40 ∧ 40 < c ∧ c ≤ 255 ∧ r + c ≤ 256) ∨ (40 < r ∧ r ≤ 255 ∧ 1 ≤ c ∧ c ≤ 255 ∧ r + c ≤ 256) := by omega
  rcases hx with h | h | ⟨h1, h2, h3⟩ | ⟨h1, h2, h3⟩ | ⟨h1, h2, h3⟩ | ⟨h1, h2, h3⟩ | ⟨h1, h2, h3, h4, h5⟩ | ⟨h1, h2, h3, h4, h5⟩ | ⟨h1, h2, h3, h4⟩ | ⟨h1, h2, h3, h4, h5⟩ | ⟨h1, h2, h3, h4, h5⟩
  · exact mk_s_b1 r c n ar ac an acap aa w hal hn hn2 h
  · exact mk_s_b2 r c n ar ac an acap aa w hal hn hn2 h
  · exact mk_s_b3 r c n ar ac an acap aa w hal hn hn2 h1 h2 h3
  · exact mk_s_b4 r c n ar ac an acap aa w hal hn hn2 h1 h2 h3
  · exact mk_s_b5 r c n ar ac an acap aa w hal hn hn2 h1 h2 h3
  · exact mk_s_b6 r c n ar ac an acap aa w hal hn hn2 h1 h2 h3
  · exact mk_s_b7 r c n ar ac an acap aa w hal hn hn2 h1 h2 h3 h4 h5
  · exact mk_s_b8 r c n ar ac an acap aa w hal hn hn2 h1 h2 h3 h4 h5
  · obtain ⟨r, rfl⟩ : ∃ x : Nat, r = x := ⟨r.toNat, by omega⟩
    obtain ⟨c, rfl⟩ : ∃ x : Nat, c = x := ⟨c.toNat, by omega⟩
    exact mk_s_k1 r c n ar ac an acap aa w hal hn hn2 h1 h2 h3 h4
  · obtain ⟨r, rfl⟩ : ∃ x : Nat, r = x := ⟨r.toNat, by omega⟩
    obtain ⟨c, rfl⟩ : ∃ x : Nat, c = x := ⟨c.toNat, by omega⟩
    exact mk_s_k2 r c n ar ac an acap aa w hal hn hn2 h1 h2 h3 h4 h5
  · obtain ⟨r, rfl⟩ : ∃ x : Nat, r = x := ⟨r.toNat, by omega⟩
    obtain ⟨c, rfl⟩ : ∃ x : Nat, c = x := ⟨c.toNat, by omega⟩
    exact mk_s_k3 r c n ar ac an acap aa w hal hn hn2 h1 h2 h3 h4 h5
theorem makes_m (r c : Int) (n : Nat) (ar ac : Int) (an acap : Nat) (aa : Option Addr) (w : World) (hal : an ≤ maxLen) (hn : (40 : Int) < n) (hn2 : (n : Int) ≤ 127) :
    Calls Try.prog 6 #[.int .i64 r, .int .i64 c, .int .i64 n, .agg #[.int .i64 ar, .int .i64 ac, .slice aa an acap]] w fun e w' => e = .returned (.bool true) ∧ Below w.heap.size w w' := by
  have hx : (r < 1) ∨ (255 < r) ∨ (1 ≤ r ∧ r ≤ 40 ∧ c < 1) ∨ (40 < r ∧ r ≤ 255 ∧ c < 1) ∨ (1 ≤ r ∧ r ≤ 40 ∧ 255 < c) ∨ (40 < r ∧ r ≤ 255 ∧ 255 < c) ∨ (1 ≤ r ∧ r ≤ 40 ∧ 40 < c ∧ c ≤ 255 ∧ 256 < r + c) ∨ (40 < r ∧ r ≤ 255 ∧ 1 ≤ c ∧ c ≤ 255 ∧ 256 < r + c) ∨ (1 ≤ r ∧ r ≤ 40 ∧ 1 ≤ c ∧ c ≤ 40) ∨ (1 ≤ r ∧ r ≤ 40 ∧ 40 < c ∧ c ≤ 255 ∧ r + c ≤ 256) ∨ (40 < r ∧ r ≤ 255 ∧ 1 ≤ c ∧ c ≤ 255 ∧ r + c ≤ 256) := by omega
  rcases hx with h | h | ⟨h1, h2, h3⟩ | ⟨h1, h2, h3⟩ | ⟨h1, h2, h3⟩ | ⟨h1, h2, h3⟩ | ⟨h1, h2, h3, h4, h5⟩ | ⟨h1, h2, h3, h4, h5⟩ | ⟨h1, h2, h3, h4⟩ | ⟨h1, h2, h3, h4, h5⟩ | ⟨h1, h2, h3, h4, h5⟩
  · exact mk_m_b1 r c n ar ac an acap aa w hal hn hn2 h
  · exact mk_m_b2 r c n ar ac an acap aa w hal hn hn2 h
  · exact mk_m_b3 r c n ar ac an acap aa w hal hn hn2 h1 h2 h3
  · exact mk_m_b4 r c n ar ac an acap aa w hal hn hn2 h1 h2 h3
  · exact mk_m_b5 r c n ar ac an acap aa w hal hn hn2 h1 h2 h3
  · exact mk_m_b6 r c n ar ac an acap aa w hal hn hn2 h1 h2 h3
  · exact mk_m_b7 r c n ar ac an acap aa w hal hn hn2 h1 h2 h3 h4 h5
  · exact mk_m_b8 r c n ar ac an acap aa w hal hn hn2 h1 h2 h3 h4 h5
  · obtain ⟨r, rfl⟩ : ∃ x : Nat, r = x := ⟨r.toNat, by omega⟩
    obtain ⟨c, rfl⟩ : ∃ x : Nat, c = x := ⟨c.toNat, by omega⟩
    exact mk_m_k1 r c n ar ac an acap aa w hal hn hn2 h1 h2 h3 h4
  · obtain ⟨r, rfl⟩ : ∃ x : Nat, r = x := ⟨r.toNat, by omega⟩
    obtain ⟨c, rfl⟩ : ∃ x : Nat, c = x := ⟨c.toNat, by omega⟩
    exact mk_m_k2 r c n ar ac an acap aa w hal hn hn2 h1 h2 h3 h4 h5
  · obtain ⟨r, rfl⟩ : ∃ x : Nat, r = x := ⟨r.toNat, by omega⟩
    obtain ⟨c, rfl⟩ : ∃ x : Nat, c = x := ⟨c.toNat, by omega⟩
    exact mk_m_k3 r c n ar ac an acap aa w hal hn hn2 h1 h2 h3 h4 h5
theorem makes_l (r c : Int) (n : Nat) (ar ac : Int) (an acap : Nat) (aa : Option Addr) (w : World) (hal : an ≤ maxLen) (hn : (127 : Int) < n) (hn2 : (n : Int) ≤ 255) :
    Calls Try.prog 6 #[.int .i64 r, .int .i64 c, .int .i64 n, .agg #[.int .i64 ar, .int .i64 ac, .slice aa an acap]] w fun e w' => e = .returned (.bool true) ∧ Below w.heap.size w w' := by
  have hx : (r < 1) ∨ (255 < r) ∨ (1 ≤ r ∧ r ≤ 40 ∧ c < 1) ∨ (40 < r ∧ r ≤ 255 ∧ c < 1) ∨ (1 ≤ r ∧ r ≤ 40 ∧ 255 < c) ∨ (40 < r ∧ r ≤ 255 ∧ 255 < c) ∨ (1 ≤ r ∧ r ≤ 40 ∧ 40 < c ∧ c ≤ 255 ∧ 256 < r + c) ∨ (40 < r ∧ r ≤ 255 ∧ 1 ≤ c ∧ c ≤ 255 ∧ 256 < r + c) ∨ (1 ≤ r ∧ r ≤ 40 ∧ 1 ≤ c ∧ c ≤ 40) ∨ (1 ≤ r ∧ r ≤ 40 ∧ 40 < c ∧ c ≤ 255 ∧ r + c ≤ 256) ∨ (40 < r ∧ r ≤ 255 ∧ 1 ≤ c ∧ c ≤ 255 ∧ r + c ≤ 256) := by omega
  rcases hx with h | h | ⟨h1, h2, h3⟩ | ⟨h1, h2, h3⟩ | ⟨h1, h2, h3⟩ | ⟨h1, h2, h3⟩ | ⟨h1, h2, h3, h4, h5⟩ | ⟨h1, h2, h3, h4, h5⟩ | ⟨h1, h2, h3, h4⟩ | ⟨h1, h2, h3, h4, h5⟩ | ⟨h1, h2, h3, h4, h5⟩
  · exact mk_l_b1 r c n ar ac an acap aa w hal hn hn2 h
  · exact mk_l_b2 r c n ar ac an acap aa w hal hn hn2 h
  · exact mk_l_b3 r c n ar ac an acap aa w hal hn hn2 h1 h2 h3
  · exact mk_l_b4 r c n ar ac an acap aa w hal hn hn2 h1 h2 h3
  · exact mk_l_b5 r c n ar ac an acap aa w hal hn hn2 h1 h2 h3
  · exact mk_l_b6 r c n ar ac an acap aa w hal hn hn2 h1 h2 h3
  · exact mk_l_b7 r c n ar ac an acap aa w hal hn hn2 h1 h2 h3 h4 h5
  · exact mk_l_b8 r c n ar ac an acap aa w hal hn hn2 h1 h2 h3 h4 h5
  · obtain ⟨r, rfl⟩ : ∃ x : Nat, r = x := ⟨r.toNat, by omega⟩
    obtain ⟨c, rfl⟩ : ∃ x : Nat, c = x := ⟨c.toNat, by omega⟩
    exact mk_l_k1 r c n ar ac an acap aa w hal hn hn2 h1 h2 h3 h4
  · obtain ⟨r, rfl⟩ : ∃ x : Nat, r = x := ⟨r.toNat, by omega⟩
    obtain ⟨c, rfl⟩ : ∃ x : Nat, c = x := ⟨c.toNat, by omega⟩
    exact mk_l_k2 r c n ar ac an acap aa w hal hn hn2 h1 h2 h3 h4 h5
  · obtain ⟨r, rfl⟩ : ∃ x : Nat, r = x := ⟨r.toNat, by omega⟩
    obtain ⟨c, rfl⟩ : ∃ x : Nat, c = x := ⟨c.toNat, by omega⟩
    exact mk_l_k3 r c n ar ac an acap aa w hal hn hn2 h1 h2 h3 h4 h5
theorem makes_any (r c n ar ac : Int) (an acap : Nat) (aa : Option Addr) (w : World) (hal : an ≤ maxLen) :
    Calls Try.prog 6 #[.int .i64 r, .int .i64 c, .int .i64 n, .agg #[.int .i64 ar, .int .i64 ac, .slice aa an acap]] w fun e w' => e = .returned (.bool true) ∧ Below w.heap.size w w' := by
  have hx : (n < 1) ∨ (255 < n) ∨ (1 ≤ n ∧ n ≤ 40) ∨ (40 < n ∧ n ≤ 127) ∨ (127 < n ∧ n ≤ 255) := by omega
  rcases hx with h | h | ⟨h, h2⟩ | ⟨h, h2⟩ | ⟨h, h2⟩
  · exact makes_lo r c n ar ac an acap aa w hal h
  · exact makes_hi r c n ar ac an acap aa w hal h
  · obtain ⟨n, rfl⟩ : ∃ x : Nat, n = x := ⟨n.toNat, by omega⟩
    exact makes_s r c n ar ac an acap aa w hal h h2
  · obtain ⟨n, rfl⟩ : ∃ x : Nat, n = x := ⟨n.toNat, by omega⟩
    exact makes_m r c n ar ac an acap aa w hal h h2
  · obtain ⟨n, rfl⟩ : ∃ x : Nat, n = x := ⟨n.toNat, by omega⟩
    exact makes_l r c n ar ac an acap aa w hal h h2
theorem makes_walk (r c n mr mc : Int) (ma : Option Addr) (mcap : Nat) (ml : List (BitVec 8)) (_ : -9223372036854775808 ≤ r) (_ : r ≤ 9223372036854775807) (_ : -9223372036854775808 ≤ c) (_ : c ≤ 9223372036854775807) (_ : -9223372036854775808 ≤ n) (_ : n ≤ 9223372036854775807) (w : World) (h : MatArg w mr mc ma mcap ml) :
    Calls Try.prog 6 #[.int .i64 r, .int .i64 c, .int .i64 n, .agg #[.int .i64 mr, .int .i64 mc, .slice ma ml.length mcap]] w fun e w' => e = .returned (.bool true) ∧ Below w.heap.size w w' :=
  makes_any r c n mr mc ml.length mcap ma w (Nat.le_trans h.le h.cap)
end Go.Proofs.Ytbnfnijjldimkaa
