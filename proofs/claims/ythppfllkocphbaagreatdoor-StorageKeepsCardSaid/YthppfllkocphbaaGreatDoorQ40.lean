/-
  Part 41 of the proof: lemmas about what the program computes.
-/
import Derived.Test.YthppfllkocphbaaGreatDoorQ17
namespace Go.Proofs.YthppfllkocphbaaGreatDoor
set_option linter.unusedVariables false
set_option linter.unusedSimpArgs false
set_option maxHeartbeats 25600000
set_option maxRecDepth 100000
open Tryz
section
def Z0O(l:List (List UInt8)):List UInt8:=Zd8 (Zv l)
def QX(n:Nat):Nat:=(n+199) / 200
def QL(t:List UInt8)(i:Nat):List UInt8:=(t.drop (200*i)).take 200
def Xd(name t:List UInt8)(i:Nat):List UInt8:=QL t i++Z0O [name,Z4 t.length,Z4 i,QL t i]
def Xn(name t:List UInt8):List UInt8:=Z4 t.length++Z0O [name,Z4 t.length]
def Xs(name t:List UInt8)(k:Nat):List UInt8:=Xn name t++(List.range k).flatMap (Xd name t)
def Yq(name t:List UInt8):List UInt8:=Xs name t (QX t.length)
theorem Zb2(name t:List UInt8)(k:Nat):Xs name t (k+1)=Xs name t k++Xd name t k:=by
 unfold Xs
 rw[List.range_succ,List.flatMap_append,ZjL]
 simp
theorem Xe(t:List UInt8)(i:Nat):(QL t i).length=min 200 (t.length-200*i):=by
 unfold QL;rw[ZjO,List.length_drop]
theorem Xj(l:List (List UInt8)):(Z0O l).length=32:=Zb5 _
theorem Z4S(name t:List UInt8):(Xn name t).length=36:=by unfold Xn;rw[ZjI,Xj];rfl
theorem Z3X(name t:List UInt8)(k:Nat)(hk:k<=QX t.length):(Xs name t k).length=36+min t.length (200*k)+32*k:=by
 induction k with
 |zero=>unfold Xs;simp[Z4S]
 |succ k ih=>
  rw[Zb2,ZjI,ih (by omega)]
  unfold Xd
  rw[ZjI,Xe,Xj]
  unfold QX at hk
  omega
theorem WP(name t:List UInt8):(Yq name t).length=36+t.length+32*QX t.length:=by
 unfold Yq
 rw[Z3X name t _ Zk8]
 unfold QX
 omega
theorem ZaW(k n:Nat)(h:k<n):List.range n=List.range k++k::List.range' (k+1) (n-k-1):=by
 rw[List.range_eq_range',List.range_eq_range']
 have h1:List.range' 0 n=List.range' 0 k++List.range' (0+k) (n-k):=by
  rw[List.range'_append_1];congr 1;omega
 rw[h1,Nat.zero_add,show n-k=(n-k-1)+1 from by omega,List.range'_succ]
 rfl
theorem Zia(name t:List UInt8)(k:Nat)(h:k<QX t.length):∃r,Yq name t=Xs name t k++(QL t k++(Z0O [name,Z4 t.length,Z4 k,QL t k]++r)):=by
 refine⟨(List.range' (k+1) (QX t.length-k-1)).flatMap (Xd name t),?_⟩
 unfold Yq
 conv=>lhs;unfold Xs
 rw[ZaW k _ h,List.flatMap_append,ZjX]
 unfold Xs
 rw[<-ZjL]
 congr 1
 unfold Xd
 rw[ZjL]
theorem Zfb(t:List UInt8)(k:Nat):t.take (200*(k+1))=t.take (200*k)++QL t k:=by
 unfold QL
 rw[show 200*(k+1)=200*k+200 from by omega,List.take_add]
end
end Go.Proofs.YthppfllkocphbaaGreatDoor
