/- Part 9: lemmas about what the program computes. -/
import Derived.Test.YthppfllkocphbaaGreatDoorX07
namespace Go.Proofs.YthppfllkocphbaaGreatDoor
set_option linter.all false
set_option maxHeartbeats 25600000
set_option maxRecDepth 100000
open Tryz
open Go renaming World->Qs,Value->Qt,TypeId->Qu,Ending->Qv
def Af(l:List Ql):Ql:=Id (Y8 l)
def YR(n:Nat):Nat:=(n+199) / 200
def YL(t:Ql)(i:Nat):Ql:=(t.drop (200*i)).take 200
def Xf(name t:Ql)(i:Nat):Ql:=YL t i++Af [name,QI t.length,QI i,YL t i]
def Jl(name t:Ql):Ql:=QI t.length++Af [name,QI t.length]
def Az(name t:Ql)(k:Nat):Ql:=Jl name t++(List.range k).flatMap (Xf name t)
def WQ(name t:Ql):Ql:=Az name t (YR t.length)
def Z6e(name t:Ql)(k:Nat):Az name t (k+1)=Az name t k++Xf name t k:=by unfold Az;rw[Zds,Zdt,Zd];simp
def CT(t:Ql)(i:Nat):(YL t i).length=min 200 (t.length-200*i):=by unfold YL;rw[Zg,ZdN]
def DH(l:List Ql):(Af l).length=32:=Z6x _
def Sr(name t:Ql):(Jl name t).length=36:=by unfold Jl;rw[Zb,DH];rfl
def St(name t:Ql)(k:Nat)(h:k<=YR t.length):(Az name t k).length=36+min t.length (200*k)+32*k:=by
 induction k with
 |zero=>unfold Az;simp[Sr]
 |succ k ih=>rw[Z6e,Zb,ih Qw];unfold Xf;rw[Zb,CT,DH];omega
def CG(name t:Ql):(WQ name t).length=36+t.length+32*YR t.length:=by unfold WQ;rw[St name t _ (Zt _)];unfold YR;omega
def Z4Z(k n:Nat)(h:k<n):List.range n=List.range k++k::List.range' (k+1) (n-k-1):=by
 rw[ZfC,ZfC];have C:List.range' 0 n=List.range' 0 k++List.range' (0+k) (n-k):=by rw[List.range'_append_1];congr 1;omega
 rw[C,Zdz,show n-k=(n-k-1)+1 from Qw,Zgf];rfl
def Z6g(name t:Ql)(k:Nat)(h:k<YR t.length):∃r,WQ name t=Az name t k++(YL t k++(Af [name,QI t.length,QI k,YL t k]++r)):=by
 refine⟨(List.range' (k+1) (YR t.length-k-1)).flatMap (Xf name t),?_⟩;unfold WQ
 conv=>lhs;unfold Az
 rw[Z4Z k _ h,Zdt,Zm];rw[<-Zd];congr 1;unfold Xf;simp
theorem Vn(t:Ql)(k:Nat):t.take (200*(k+1))=t.take (200*k)++YL t k:=by unfold YL;grind
