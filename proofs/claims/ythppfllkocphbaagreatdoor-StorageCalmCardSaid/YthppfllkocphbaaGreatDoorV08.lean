/- Part 9: lemmas about what the program computes. -/
import Derived.Test.YthppfllkocphbaaGreatDoorV07
namespace Go.Proofs.YthppfllkocphbaaGreatDoor
set_option linter.all false
set_option maxHeartbeats 25600000
set_option maxRecDepth 100000
open Tryz
open Go renaming World->Qs,Value->Qt,TypeId->Qu,Ending->Qv
def Al(l:List Ql):Ql:=Il (Y8 l)
def YU(n:Nat):Nat:=(n+199) / 200
def YP(t:Ql)(i:Nat):Ql:=(t.drop (200*i)).take 200
def Xk(name t:Ql)(i:Nat):Ql:=YP t i++Al [name,QI t.length,QI i,YP t i]
def Js(name t:Ql):Ql:=QI t.length++Al [name,QI t.length]
def AI(name t:Ql)(k:Nat):Ql:=Js name t++(List.range k).flatMap (Xk name t)
def WW(name t:Ql):Ql:=AI name t (YU t.length)
def Z6C(name t:Ql)(k:Nat):AI name t (k+1)=AI name t k++Xk name t k:=by unfold AI;rw[ZdX,ZdY,Zd];simp
def Df(t:Ql)(i:Nat):(YP t i).length=min 200 (t.length-200*i):=by unfold YP;rw[Zg,Zek]
def DP(l:List Ql):(Al l).length=32:=Z6V _
def Ti(name t:Ql):(Js name t).length=36:=by unfold Js;rw[Zb,DP];rfl
def Tj(name t:Ql)(k:Nat)(h:k<=YU t.length):(AI name t k).length=36+min t.length (200*k)+32*k:=by
 induction k with
 |zero=>unfold AI;simp[Ti]
 |succ k ih=>rw[Z6C,Zb,ih Qw];unfold Xk;rw[Zb,Df,DP];omega
def CS(name t:Ql):(WW name t).length=36+t.length+32*YU t.length:=by unfold WW;rw[Tj name t _ (Zt _)];unfold YU;omega
def Z5n(k n:Nat)(h:k<n):List.range n=List.range k++k::List.range' (k+1) (n-k-1):=by
 rw[Zga,Zga];have C:List.range' 0 n=List.range' 0 k++List.range' (0+k) (n-k):=by rw[List.range'_append_1];congr 1;omega
 rw[C,Ze5,show n-k=(n-k-1)+1 from Qw,ZgO];rfl
def Z6E(name t:Ql)(k:Nat)(h:k<YU t.length):∃r,WW name t=AI name t k++(YP t k++(Al [name,QI t.length,QI k,YP t k]++r)):=by
 refine⟨(List.range' (k+1) (YU t.length-k-1)).flatMap (Xk name t),?_⟩;unfold WW
 conv=>lhs;unfold AI
 rw[Z5n k _ h,ZdY,Zm];rw[<-Zd];congr 1;unfold Xk;simp
theorem VQ(t:Ql)(k:Nat):t.take (200*(k+1))=t.take (200*k)++YP t k:=by unfold YP;grind
