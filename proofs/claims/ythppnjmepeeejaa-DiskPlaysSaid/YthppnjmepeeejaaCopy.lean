/-
  The builtin copy out of a string, into a row that is known whole.
-/
import Derived.Test.YthppnjmepeeejaaFrame
import Derived.Lib.Strings
import Derived.Lib.BufferWrite
import Derived.OwnWalk
namespace Go.Proofs.Ythppnjmepeeejaa
open Go.RowKit
section
variable {P : Program}
theorem byteCells_eq (l : List UInt8) : Lib.byteCells l = bcells l := by
  unfold bcells Lib.byteCells
  simp
/-- what a row of bytes holds behind a copy to place o -/
def laidAt (l : List UInt8) (o : Nat) (s : List UInt8) : List UInt8 := l.take o ++ s ++ l.drop (o + s.length)
theorem laidAt_length (l : List UInt8) (o : Nat) (s : List UInt8) (h : o + s.length ≤ l.length) : (laidAt l o s).length = l.length := by
  simp [laidAt]; omega
theorem wpList_copy_str {ops : Array Oper} {rest : List Oper} {o : Oper} {a : Act} {w : World} {Q : Exit → Act → World → Prop} (hg : o.guard = none) (d s : Operand) (dT sT : TypeId)
    (ho : o.op = .call { callee := .builtin .copy, args := #[d, s], argTypes := #[dT, sT] }) (e : TypeId) (hu : P.underlying dT = some (.slice e)) (hs : (P.info? e).map (·.size) = some 1)
    (g off n cap : Nat) (hd : a.eval d = .slice (some ⟨g, off, none⟩) n cap) (str : ByteArray) (hx : a.eval s = .string str) (l : List UInt8) (hrow : Row0 w g e (bcells l)) (hle : str.size ≤ n) (hfit : off + str.size ≤ l.length)
    (h : Row0 (w.setRow g (bcells (laidAt l off str.data.toList)).toArray) g e (bcells (laidAt l off str.data.toList)) → wpList P ops Q rest (a.put o.dst (goInt str.size)) (w.setRow g (bcells (laidAt l off str.data.toList)).toArray)) : wpList P ops Q (o :: rest) a w := by
  have hsz : str.data.toList.length = str.size := by simp
  have hr := Lib.run_copy_row_string (P := P) w dT sT o.type e g off n cap str _ e hu hs hrow hle (by simp [bcells_length]; omega)
  have e1 : ((bcells l).toArray.toList.take off ++ Lib.byteCells str.data.toList ++ (bcells l).toArray.toList.drop (off + str.size)) = bcells (laidAt l off str.data.toList) := by
    rw [List.toList_toArray, byteCells_eq, laidAt, bcells_append, bcells_append, bcells_take, bcells_drop, hsz]
  rw [e1] at hr
  refine wpList_run hg ?_ (h (hrow.setRow _))
  unfold execOp
  simp only [ho, resolve, invoke, builtin, Sem.run_bind, Sem.run_pure, Result.andThen_ok, List.map_toArray, List.map_cons, List.map_nil, hd, hx, hr]
end
end Go.Proofs.Ythppnjmepeeejaa
