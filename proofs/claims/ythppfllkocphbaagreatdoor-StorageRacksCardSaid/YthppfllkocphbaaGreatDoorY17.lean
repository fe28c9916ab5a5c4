/- Part 18: lemmas about what the program computes. -/
import Derived.Test.YthppfllkocphbaaGreatDoorY16
namespace Go.Proofs.YthppfllkocphbaaGreatDoor
set_option linter.unusedVariables false
set_option linter.unusedSimpArgs false
set_option maxHeartbeats 25600000
set_option maxRecDepth 100000
open Tryz
def B5(l:List (List UInt8)):List UInt8:=Uc (Zz l)
def Y0(n:Nat):Nat:=(n+199) / 200
def QX(t:List UInt8)(i:Nat):List UInt8:=(t.drop (200*i)).take 200
def Xf(name t:List UInt8)(i:Nat):List UInt8:=QX t i++B5 [name,Z4 t.length,Z4 i,QX t i]
def Xm(name t:List UInt8):List UInt8:=Z4 t.length++B5 [name,Z4 t.length]
def XQ(name t:List UInt8)(k:Nat):List UInt8:=Xm name t++(List.range k).flatMap (Xf name t)
def Yo(name t:List UInt8):List UInt8:=XQ name t (Y0 t.length)
theorem PZ(name t:List UInt8)(k:Nat):XQ name t (k+1)=XQ name t k++Xf name t k:=by unfold XQ;rw[List.range_succ,List.flatMap_append,Z5g];simp
theorem Xg(t:List UInt8)(i:Nat):(QX t i).length=min 200 (t.length-200*i):=by unfold QX;rw[Z5j,List.length_drop]
theorem Xj(l:List (List UInt8)):(B5 l).length=32:=Rf _
theorem G0(name t:List UInt8):(Xm name t).length=36:=by unfold Xm;rw[Z5d,Xj];rfl
theorem F8(name t:List UInt8)(k:Nat)(h:k<=Y0 t.length):(XQ name t k).length=36+min t.length (200*k)+32*k:=by
 induction k with
 |zero=>unfold XQ;simp[G0]
 |succ k ih=>rw[PZ,Z5d,ih (by omega)];unfold Xf;rw[Z5d,Xg,Xj];omega
theorem WO(name t:List UInt8):(Yo name t).length=36+t.length+32*Y0 t.length:=by unfold Yo;rw[F8 name t _ Z5D];unfold Y0;omega
theorem PR(k n:Nat)(h:k<n):List.range n=List.range k++k::List.range' (k+1) (n-k-1):=by
 rw[List.range_eq_range',List.range_eq_range'];have C:List.range' 0 n=List.range' 0 k++List.range' (0+k) (n-k):=by rw[List.range'_append_1];congr 1;omega
 rw[C,Nat.zero_add,show n-k=(n-k-1)+1 from by omega,List.range'_succ];rfl
theorem Z3P(name t:List UInt8)(k:Nat)(h:k<Y0 t.length):∃r,Yo name t=XQ name t k++(QX t k++(B5 [name,Z4 t.length,Z4 k,QX t k]++r)):=by
 refine⟨(List.range' (k+1) (Y0 t.length-k-1)).flatMap (Xf name t),?_⟩;unfold Yo
 conv=>lhs;unfold XQ
 rw[PR k _ h,List.flatMap_append,Z5s];rw[<-Z5g];congr 1;unfold Xf;simp
theorem Z0E(t:List UInt8)(k:Nat):t.take (200*(k+1))=t.take (200*k)++QX t k:=by unfold QX;grind
