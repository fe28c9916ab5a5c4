/-
  Part 6 of the proof: lemmas about what the program computes.
-/
import Derived.Deep.RegionHeld3
import Derived.Test.YthppfllkocphbaaGreatDoorQ04
namespace Go.Proofs.YthppfllkocphbaaGreatDoor
set_option linter.unusedVariables false
set_option linter.unusedSimpArgs false
set_option maxHeartbeats 25600000
set_option maxRecDepth 100000
open Tryz
section
open Go.RowKit
def JE:Value:=.agg #[.int .i64 0,.int .i64 0,.slice none 0 0]
section
variable{w w0:World}{g B:Nat}{T:TypeId}{x y z a b c v:Value}{k:Int}
theorem Qy(h:Row w g T [x,y,z]):Row (((w.setCell ⟨g,0,none⟩ a).setCell ⟨g,1,none⟩ b).setCell ⟨g,2,none⟩ c) g T [a,b,c]:=((h.set 0 a).set 1 b).set 2 c
theorem Qd(h:Below B w0 w)(hB:B<=g):Below B w0 (((w.setCell ⟨g,0,none⟩ a).setCell ⟨g,1,none⟩ b).setCell ⟨g,2,none⟩ c):=((h.setCell hB a).setCell hB b).setCell hB c
theorem Qb.setCell(h:Qb B w v k)(hg:g<B)(j:Nat):Qb B (w.setCell ⟨g,j,none⟩ a) v k:=by
 rcases h with h|⟨hc,f,h1,h2,h3⟩
 ·exact Or.inl h
 ·exact Or.inr ⟨hc,f,h1,h2,Row.other h3 (by show f≠g;omega) _⟩
theorem WQ(h:Qb B w v k)(hg:g<B):Qb B (((w.setCell ⟨g,0,none⟩ a).setCell ⟨g,1,none⟩ b).setCell ⟨g,2,none⟩ c) v k:=((h.setCell hg 0).setCell hg 1).setCell hg 2
end
theorem ZiQ(n:Int)(w:World)(h:n<1∨255<n):
  Calls prog 220 #[.int .i64 n] w fun e w'=>∃ev,e=.returned (.tuple #[JE,ev])/\Qb w.heap.size w' ev 1/\Below w.heap.size w w':=by
 have hx:(n<1)∨(¬n<1/\255<n):=by omega
 clear h
 have ae:=Row.new w 250 [.int .i64 0,.int .i64 0,.slice none 0 0]
 have HB:=Zka ae
 clear ae
 rcases hx with hx|⟨hx,ag⟩
 all_goals
  go_enter func220,ntmps220
  go_wp2_with (go_at_call 224;refine(Yb 1 (by decide) _).mono ?_;rintro e w1 ⟨ev,rfl,he,hb⟩;have hB:=HB.out.after hb;have x0:=hB.cell (j:=0) rfl;have x1:=hB.cell (j:=1) rfl;have x2:=hB.cell (j:=2) rfl;have f0:=hB.free (j:=0) (by simp);have f1:=hB.free (j:=1) (by simp);have f2:=hB.free (j:=2) (by simp);have HE:=Zka he;have af:=Zka hb;clear he hb hB)
  have y0:=(Qy (a:=.int .i64 0) (b:=.int .i64 0) (c:=.slice none 0 0) (HB.out.after af.out)).cell (j:=0) rfl
  have y1:=(Qy (a:=.int .i64 0) (b:=.int .i64 0) (c:=.slice none 0 0) (HB.out.after af.out)).cell (j:=1) rfl
  have y2:=(Qy (a:=.int .i64 0) (b:=.int .i64 0) (c:=.slice none 0 0) (HB.out.after af.out)).cell (j:=2) rfl
  exact bodyPost_ret (v:=.tuple #[.agg #[.int .i64 0,.int .i64 0,.slice none 0 0],ev]) (by simp[results,Tryz.results220,go_sem,y0,y1,y2]) rfl ⟨ev,rfl,(WQ HE.out (by simp)).mono (by simp),Qd ((Zk9.alloc Zk8 _).trans (af.out.mono (by simp))) Zk8⟩
def idF(n k j:Nat):BitVec 8:=if j / n=j%n/\j / n<k then 1#8 else 0#8
theorem ZfG(n:Nat):(fun _=>0#8)=idF n 0:=by
 funext j;unfold idF;rw[if_neg (by omega)]
theorem ZfF(n k:Nat)(h:k<n):(fun j=>if j=k*n+k then 1#8 else idF n k j)=idF n (k+1):=by
 funext j
 unfold idF
 by_cases e:j=k*n+k
 ·subst e
  rw[if_pos rfl,Jr k k h,Js k k h,if_pos ⟨rfl,by omega⟩]
 ·rw[if_neg e]
  by_cases h1:j / n=j%n/\j / n<k
  ·rw[if_pos h1,if_pos ⟨h1.1,by omega⟩]
  ·rw[if_neg h1,if_neg]
   rintro⟨h2,h3⟩
   have h4:j / n=k:=by
    by_cases h5:j / n<k
    ·exact absurd ⟨h2,h5⟩ h1
    ·omega
   apply e
   have:=Nat.div_add_mod j n
   rw[<-h2,h4,Nat.mul_comm] at this
   exact this.symm
theorem ZfE(n:Nat):tab (n*n) (idF n n)=(mat n n idm).cells:=by
 unfold mat
 simp only
 refine Wc fun j hj=> ?_
 unfold idF idm
 have hl:=Z1Z hj
 by_cases h:j / n=j%n
 ·rw[if_pos ⟨h,hl⟩,if_pos h]
 ·rw[if_neg (fun x=>h x.1),if_neg h]
theorem Z5B(n:Nat)(w:World)(n1:1<=n)(n2:n<=255):
  Calls prog 220 #[.int .i64 n] w fun e w'=>∃g,e=.returned (.tuple #[Xh n n g,.nilIface])/\w.heap.size<=g/\ZC w' g 5 (Za (mat n n idm).cells)/\Below w.heap.size w w':=by
 have ah:=Row.new w 250 [.int .i64 0,.int .i64 0,.slice none 0 0]
 have HB:=Zka ah
 have i1:(1:Int)<=n:=by omega
 have i2:(n:Int)<=255:=by omega
 clear ah
 go_enter func220,ntmps220
 go_wp2_with (go_at_call 225;refine(Z0R n n _ (by omega) (by omega)).mono ?_;rintro e w1 ⟨g,rfl,hg,ae,hb⟩;unfold Xh;have ak:=Zka (HB.out.after hb);have af:=Zka ae;have al:=Zka (((Below.refl w.heap.size w).alloc Zk8 (.cells #[.int .i64 0,.int .i64 0,.slice none 0 0] 250)).trans (hb.mono (by simp)));clear ae hb HB)
 have aq:=Zka (Row.new w1 250 [.int .i64 n,.int .i64 n,.slice (some ⟨g,0,none⟩) (n*n) (n*n)])
 have bj:w.heap.size<g:=by simp at hg;omega
 have bh:=af.out.row.lt
 have bu:w.heap.size<w1.heap.size:=ak.out.lt
 clear hg
 have hq:n*n<=255*255:=Nat.mul_le_mul n2 n2
 go_loopw [18] (fun i wr=>∃k:Nat,k<=n/\i=.int .i64 k/\ZC wr g 5 (Za (tab (n*n) (idF n k)))/\Row wr w1.heap.size 250 [.int .i64 n,.int .i64 n,.slice (some ⟨g,0,none⟩) (n*n) (n*n)]/\Row wr w.heap.size 250 [.int .i64 0,.int .i64 0,.slice none 0 0]/\Below w.heap.size w wr/\w1.heap.size<wr.heap.size) (fun i _=>n- (intOf i).toNat)
 case atStart=>exact⟨0,by omega,rfl,by rw[<-ZfG];exact af.out.fr ((Fr.refl [] _).alloc _) (by simp),aq.out,ak.out.alloc _,al.out.alloc (by omega) _,by simp⟩
 case round=>
  obtain⟨k,hk,rfl,ae,ai,ax,ag,bq⟩:=hrel
  have x0:=ai.cell (j:=0) rfl
  have x1:=ai.cell (j:=1) rfl
  have x2:=ai.cell (j:=2) rfl
  have HR:=Zka ae
  have HX:=Zka ai
  have HC:=Zka ax
  have HL:=Zka ag
  clear ae ai ax ag af aq ak al
  by_cases au:k<n
  ·go_wp2_with (go_at_call 226;refine(ZU n n k g (n*n) (n*n) _ au (by omega) (by omega) (by omega) rfl Zk8 (by omega)).mono ?_;rintro e w2 ⟨q,aw,bm,rfl,hb⟩;have aj:=HR.out.fr (Fr.of_below (L:=[]) hb) (by simp);have c0:=Z4W (i:=q+k) aj (by omega);have f0:=Z4X (i:=q+k) aj (by omega);have b9:=Zka aj;have bf:=Zka (HX.out.after hb);have ay:=Zka (HC.out.after hb);have az:=Zka (HL.out.trans (hb.mono HL.out.size));have bg:=hb.size;have HQ:=Zka aw;clear aj hb aw x0 x1 x2)
   go_roundw
   case measure=>simp[intOf];omega
   case rel=>
    refine⟨k+1,by omega,by go_num,?_,bf.out.other (by show w1.heap.size≠g;omega) _,ay.out.other (by show w.heap.size≠g;omega) _,az.out.setCell (by show w.heap.size<=g;omega) _,by simp;omega⟩
    have hm:=Z3E (i:=q+k) b9.out 1#8
    rw[HQ.out,ZfF n k au,Z0r] at hm
    rw[HQ.out]
    exact hm
  ·obtain rfl:k=n:=by omega
   have r0:=HC.out.cell (j:=0) rfl
   have r1:=HC.out.cell (j:=1) rfl
   have r2:=HC.out.cell (j:=2) rfl
   have f0:=HC.out.free (j:=0) (by simp)
   have f1:=HC.out.free (j:=1) (by simp)
   have f2:=HC.out.free (j:=2) (by simp)
   go_wp2
   have hy:=Qy (a:=.int .i64 k) (b:=.int .i64 k) (c:=.slice (some ⟨g,0,none⟩) (k*k) (k*k)) HC.out
   have y0:=hy.cell (j:=0) rfl
   have y1:=hy.cell (j:=1) rfl
   have y2:=hy.cell (j:=2) rfl
   exact bodyPost_ret (v:=.tuple #[.agg #[.int .i64 k,.int .i64 k,.slice (some ⟨g,0,none⟩) (k*k) (k*k)],.nilIface]) (by simp[results,Tryz.results220,go_sem,y0,y1,y2]) rfl ⟨g,rfl,by omega,by
    have h9:=HR.out
    rw[ZfE] at h9
    exact h9.fr ((((Fr.refl [w.heap.size] wr).setCell (Or.inl (by simp)) _).setCell (Or.inl (by simp)) _).setCell (Or.inl (by simp)) _) (by simp;omega),Qd HL.out Zk8⟩
theorem Zjq(r c:Int)(w:World)(h:r<1∨255<r∨c<1∨255<c∨256<r+c):
  Calls prog 221 #[.int .i64 r,.int .i64 c] w fun e w'=>∃ev,e=.returned (.tuple #[JE,ev])/\Qb w.heap.size w' ev 1/\Below w.heap.size w w':=by
 have hx:(r<1)∨(¬r<1/\c<1)∨(¬r<1/\¬c<1/\255<r)∨(¬r<1/\¬c<1/\¬255<r/\255<c)∨(¬r<1/\¬c<1/\¬255<r/\¬255<c/\256<r+c):=by omega
 clear h
 have ae:=Row.new w 250 [.int .i64 0,.int .i64 0,.slice none 0 0]
 have HB:=Zka ae
 clear ae
 rcases hx with h1|⟨h1,h2⟩|⟨h1,h2,h3⟩|⟨h1,h2,h3,h4⟩|⟨h1,h2,h3,h4,h5⟩
 all_goals
  go_enter func221,ntmps221
  go_wp2_with (go_at_call 224;refine(Yb 1 (by decide) _).mono ?_;rintro e w1 ⟨ev,rfl,he,hb⟩;have hB:=HB.out.after hb;have x0:=hB.cell (j:=0) rfl;have x1:=hB.cell (j:=1) rfl;have x2:=hB.cell (j:=2) rfl;have f0:=hB.free (j:=0) (by simp);have f1:=hB.free (j:=1) (by simp);have f2:=hB.free (j:=2) (by simp);have HE:=Zka he;have af:=Zka hb;clear he hb hB)
  have hy:=Qy (a:=.int .i64 0) (b:=.int .i64 0) (c:=.slice none 0 0) (HB.out.after af.out)
  have y0:=hy.cell (j:=0) rfl
  have y1:=hy.cell (j:=1) rfl
  have y2:=hy.cell (j:=2) rfl
  exact bodyPost_ret (v:=.tuple #[.agg #[.int .i64 0,.int .i64 0,.slice none 0 0],ev]) (by simp[results,Tryz.results221,go_sem,y0,y1,y2]) rfl ⟨ev,rfl,(WQ HE.out (by simp)).mono (by simp),Qd ((Zk9.alloc Zk8 _).trans (af.out.mono (by simp))) Zk8⟩
def upF(c:Nat)(M:Nat->Nat->BitVec 8)(t j:Nat):BitVec 8:=if j<t then M (j / c) (j%c) else 0#8
theorem Z6l(c:Nat)(M:Nat->Nat->BitVec 8):(fun _=>0#8)=upF c M 0:=by
 funext j;unfold upF;rw[if_neg (by omega)]
theorem ZgO(c:Nat)(M:Nat->Nat->BitVec 8)(k l:Nat)(h:l<c):(fun j=>if j=k*c+l then M k l else upF c M (k*c+l) j)=upF c M (k*c+l+1):=by
 funext j
 unfold upF
 by_cases e:j=k*c+l
 ·subst e
  rw[if_pos rfl,if_pos (by omega),Jr k l h,Js k l h]
 ·rw[if_neg e]
  by_cases h1:j<k*c+l
  ·rw[if_pos h1,if_pos (by omega)]
  ·rw[if_neg h1,if_neg (by omega)]
theorem Z6k(r c:Nat)(M:Nat->Nat->BitVec 8):tab (r*c) (upF c M (r*c))=(mat r c M).cells:=by
 unfold mat
 exact Wc fun j hj=>by unfold upF;rw[if_pos hj]
theorem Zhi(c k l:Nat)(h1:c+k<256)(h2:l<256):bits .xor .u8 ((c:Int)+(k:Int)) (l:Int)=nv (BitVec.ofNat 8 (c+k)^^^BitVec.ofNat 8 l):=by
 have e:((c:Int)+(k:Int))=nv (BitVec.ofNat 8 (c+k)):=by rw[Zh1 h1];omega
 rw[e,<-Zh1 h2,Jl]
theorem Zhj(c k l:Nat):ivv (BitVec.ofNat 8 (c+k)^^^BitVec.ofNat 8 l)=cau c k l:=rfl
theorem ZdM(r c:Nat)(w:World)(r1:1<=r)(r2:r<=255)(c1:1<=c)(c2:c<=255)(cn:r+c<=256):
  Calls prog 221 #[.int .i64 r,.int .i64 c] w fun e w'=>∃g,e=.returned (.tuple #[Xh r c g,.nilIface])/\w.heap.size<=g/\ZC w' g 5 (Za (mat r c (cau c)).cells)/\Below w.heap.size w w':=by
 have aj:=Row.new w 250 [.int .i64 0,.int .i64 0,.slice none 0 0]
 have HB:=Zka aj
 have i1:(1:Int)<=r:=by omega
 have i2:(r:Int)<=255:=by omega
 have i3:(1:Int)<=c:=by omega
 have i4:(c:Int)<=255:=by omega
 have i5:(r:Int)+(c:Int)<=256:=by omega
 clear aj
 have hq:r*c<=255*255:=Nat.mul_le_mul r2 c2
 obtain⟨N,hN⟩:∃N,N=r*c:=⟨_,rfl⟩
 unfold Xh
 rw[<-hN] at hq⊢
 have HN:=Zka hN
 clear hN
 go_enter func221,ntmps221
 go_wp2_with (go_at_call 225;refine(Z0R r c _ (by omega) (by omega)).mono ?_;rintro e w1 ⟨g,rfl,hg,ae,hb⟩;unfold Xh;rw[<-HN.out] at ae⊢;have al:=Zka (HB.out.after hb);have ai:=Zka ae;have aw:=Zka (((Below.refl w.heap.size w).alloc Zk8 (.cells #[.int .i64 0,.int .i64 0,.slice none 0 0] 250)).trans (hb.mono (by simp)));clear ae hb HB)
 have ax:=Zka (Row.new w1 250 [.int .i64 r,.int .i64 c,.slice (some ⟨g,0,none⟩) N N])
 have bz:w.heap.size<g:=by simp at hg;omega
 have bu:=ai.out.row.lt
 have cr:w.heap.size<w1.heap.size:=al.out.lt
 clear hg
 go_loopw [35] (fun i wr=>∃k:Nat,k<=r/\i=.int .i64 k/\ZC wr g 5 (Za (tab N (upF c (cau c) (k*c))))/\Row wr w1.heap.size 250 [.int .i64 r,.int .i64 c,.slice (some ⟨g,0,none⟩) N N]/\Row wr w.heap.size 250 [.int .i64 0,.int .i64 0,.slice none 0 0]/\Below w.heap.size w wr/\w1.heap.size<wr.heap.size) (fun i _=>r- (intOf i).toNat)
 case atStart=>exact⟨0,by omega,rfl,by rw[Nat.zero_mul,<-Z6l];exact ai.out.fr ((Fr.refl [] _).alloc _) (by simp),ax.out,al.out.alloc _,aw.out.alloc (by omega) _,by simp⟩
 case round=>
  obtain⟨k,hk,rfl,ae,ah,ag,af,au⟩:=hrel
  have HR:=Zka ae
  have HX:=Zka ah
  have HC:=Zka ag
  have HL:=Zka af
  clear ae ah ag af ai ax al aw
  by_cases bm:k<r
  ·go_wp2
   obtain⟨wo,rfl⟩:∃wo:World,wo=wr:=⟨_,rfl⟩
   go_loopw [39] (fun i wr=>∃l:Nat,l<=c/\i=.int .i64 l/\ZC wr g 5 (Za (tab N (upF c (cau c) (k*c+l))))/\Row wr w1.heap.size 250 [.int .i64 r,.int .i64 c,.slice (some ⟨g,0,none⟩) N N]/\Row wr w.heap.size 250 [.int .i64 0,.int .i64 0,.slice none 0 0]/\Below w.heap.size w wr/\w1.heap.size<wr.heap.size) (fun i _=>c- (intOf i).toNat)
   case atStart=>exact⟨0,by omega,rfl,HR.out,HX.out,HC.out,HL.out,au⟩
   case round=>
    clear HR HX HC HL
    obtain⟨l,hl,rfl,ae,ah,ag,af,au⟩:=hrel
    have x0:=ah.cell (j:=0) rfl
    have x1:=ah.cell (j:=1) rfl
    have x2:=ah.cell (j:=2) rfl
    have HR:=Zka ae
    have HX:=Zka ah
    have HC:=Zka ag
    have HL:=Zka af
    clear ae ah ag af
    by_cases aq:l<c
    ·have bj:=Zhi c k l (by omega) (by omega)
     obtain⟨X,hX⟩:∃X,X=BitVec.ofNat 8 (c+k)^^^BitVec.ofNat 8 l:=⟨_,rfl⟩
     rw[<-hX] at bj
     have bh:=Zka hX
     clear hX
     go_wp2_with (first
      |(go_at_call 226;refine(ZU r c k g N N _ bm (by omega) (by omega) (by omega) HN.out Zk8 (by omega)).mono ?_;rintro e w2 ⟨q,ay,cj,rfl,hb⟩;have ak:=HR.out.fr (Fr.of_below (L:=[]) hb) (by simp);have c0:=Z4W (i:=q+l) ak (by omega);have f0:=Z4X (i:=q+l) ak (by omega);have bf:=Zka ak;have bg:=Zka (HX.out.after hb);have az:=Zka (HC.out.after hb);have b9:=Zka (HL.out.trans (hb.mono HL.out.size));have bq:=hb.size;have HQ:=Zka ay;clear ak hb ay x0 x1 x2)
      |(go_at_call 252;refine(Z7c (nv X) (JO _) (JN _) _).mono ?_;rw[YS];rintro e w3 ⟨rfl,rfl⟩))
     go_roundw
     case measure=>simp[intOf];omega
     case rel=>
      refine⟨l+1,by omega,by go_num,?_,bg.out.other (by show w1.heap.size≠g;omega) _,az.out.other (by show w.heap.size≠g;omega) _,b9.out.setCell (by show w.heap.size<=g;omega) _,by simp;omega⟩
      have hm:=Z3E (i:=q+l) bf.out (cau c k l)
      rw[HQ.out,ZgO c _ k l aq,<-Zhj,<-bh.out] at hm
      rw[HQ.out]
      exact hm
    ·obtain rfl:l=c:=by omega
     go_wp2
     go_roundw
     case measure=>simp[intOf];omega
     case rel=>exact⟨k+1,by omega,by go_num,by rw[Nat.add_mul,Nat.one_mul];exact HR.out,HX.out,HC.out,HL.out,au⟩
  ·obtain rfl:k=r:=by omega
   have x0:=HX.out.cell (j:=0) rfl
   have x1:=HX.out.cell (j:=1) rfl
   have x2:=HX.out.cell (j:=2) rfl
   have r0:=HC.out.cell (j:=0) rfl
   have r1:=HC.out.cell (j:=1) rfl
   have r2:=HC.out.cell (j:=2) rfl
   have f0:=HC.out.free (j:=0) (by simp)
   have f1:=HC.out.free (j:=1) (by simp)
   have f2:=HC.out.free (j:=2) (by simp)
   go_wp2
   have hy:=Qy (a:=.int .i64 k) (b:=.int .i64 c) (c:=.slice (some ⟨g,0,none⟩) N N) HC.out
   have y0:=hy.cell (j:=0) rfl
   have y1:=hy.cell (j:=1) rfl
   have y2:=hy.cell (j:=2) rfl
   exact bodyPost_ret (v:=.tuple #[.agg #[.int .i64 k,.int .i64 c,.slice (some ⟨g,0,none⟩) N N],.nilIface]) (by simp[results,Tryz.results221,go_sem,y0,y1,y2]) rfl ⟨g,rfl,by omega,by
    have h9:=HR.out
    rw[HN.out,Z6k] at h9
    exact h9.fr ((((Fr.refl [w.heap.size] wr).setCell (Or.inl (by simp)) _).setCell (Or.inl (by simp)) _).setCell (Or.inl (by simp)) _) (by simp;omega),Qd HL.out Zk8⟩
end
section
open Go.RowKit
variable{M:Nat->Nat->BitVec 8}{T:TypeId}{a b:Value}{c g o r:Nat}{w w':World}
def QP(r c:Int)(n:Nat):Bool:=decide (1<=r/\r<=255/\1<=c/\c<=255/\(n:Int)=r*c)
theorem QQ(r c:Int)(n:Nat)(a:Option Addr)(cap:Nat)(w:World)(hl:n<=maxLen):
  Calls prog 223 #[.agg #[.int .i64 r,.int .i64 c,.slice a n cap]] w fun e w'=>e=.returned (.bool (QP r c n))/\Below w.heap.size w w':=by
 have h:=Zez ⟨r,c,List.replicate n 0#8⟩ a cap w (by simpa using hl)
 simpa[Mt.val,Mt.right,QP] using h
theorem Jj(h1:1<=r)(h2:r<=255)(h3:1<=c)(h4:c<=255){n:Nat}(h:n=r*c):QP r c n=true:=by
 unfold QP
 simp only[decide_eq_true_eq]
 exact⟨by omega,by omega,by omega,by omega,by rw[h];simp⟩
def Qu(w:World)(g o r c:Nat)(M:Nat->Nat->BitVec 8):Prop:=∀i j,i<r->j<c->w.cell? ⟨g,o+i*c+j,none⟩=some (.int .u8 (nv (M i j)))
theorem Qu.after(h:Qu w g o r c M)(hb:Below w.heap.size w w'):Qu w' g o r c M:=fun i j hi hj=>
 (hb.cell (p:=⟨g,o+i*c+j,none⟩) (QD (h i j hi hj))).trans (h i j hi hj)
theorem Qu.fr(h:Qu w g o r c M){L:List Nat}(hf:Fr L w w')(hg:g∉L):Qu w' g o r c M:=fun i j hi hj=>Z55 hf hg (h i j hi hj)
theorem Zd{c:Value}(h:Row w g T [a,b,c]):w.cell? ⟨g,0,none⟩=some a/\w.cell? ⟨g,1,none⟩=some b/\w.cell? ⟨g,2,none⟩=some c:=⟨h.cell rfl,h.cell rfl,h.cell rfl⟩
theorem Xk{c:Value}(h:Row w g T [a,b,c]):w.frozen? ⟨g,0,none⟩=false/\w.frozen? ⟨g,1,none⟩=false/\w.frozen? ⟨g,2,none⟩=false:=⟨h.free (by simp),h.free (by simp),h.free (by simp)⟩
theorem Zbd(w:World)(va vb vc v0 v1 v2:Value):Row (((w.alloc (.cells #[va,vb,vc] 250)).alloc (.cells #[v0,v1,v2] 250)).alloc (.cells #[.int .i64 0,.int .i64 0,.slice none 0 0] 250)) w.heap.size 250 [va,vb,vc]/\Row (((w.alloc (.cells #[va,vb,vc] 250)).alloc (.cells #[v0,v1,v2] 250)).alloc (.cells #[.int .i64 0,.int .i64 0,.slice none 0 0] 250)) (w.heap.size+1) 250 [v0,v1,v2]/\Row (((w.alloc (.cells #[va,vb,vc] 250)).alloc (.cells #[v0,v1,v2] 250)).alloc (.cells #[.int .i64 0,.int .i64 0,.slice none 0 0] 250)) (w.heap.size+1+1) 250 [.int .i64 0,.int .i64 0,.slice none 0 0]/\Below w.heap.size w (((w.alloc (.cells #[va,vb,vc] 250)).alloc (.cells #[v0,v1,v2] 250)).alloc (.cells #[.int .i64 0,.int .i64 0,.slice none 0 0] 250)):=by
 have hs:∀ (W:World) (o:Obj),(W.alloc o).heap.size=W.heap.size+1:=fun W o=>by simp
 have ag:=((Row.new w 250 [va,vb,vc]).alloc (.cells #[v0,v1,v2] 250)).alloc (.cells #[.int .i64 0,.int .i64 0,.slice none 0 0] 250)
 have ae:=(Row.new (w.alloc (.cells #[va,vb,vc] 250)) 250 [v0,v1,v2]).alloc (.cells #[.int .i64 0,.int .i64 0,.slice none 0 0] 250)
 have af:=Row.new ((w.alloc (.cells #[va,vb,vc] 250)).alloc (.cells #[v0,v1,v2] 250)) 250 [.int .i64 0,.int .i64 0,.slice none 0 0]
 rw[hs] at ae
 rw[hs,hs] at af
 exact⟨ag,ae,af,((Zk9.alloc Zk8 _).alloc (by simp) _).alloc (by simp;omega) _⟩
structure M3(w0:World)(b0 b1 b2:Nat)(A B:List Value)(w:World):Prop where
 one:Row w b0 250 A
 two:Row w b1 250 B
 res:Row w b2 250 [.int .i64 0,.int .i64 0,.slice none 0 0]
 bel:Below w0.heap.size w0 w
 le:w0.heap.size<=b2
theorem M3.after{w0:World}{b0 b1 b2:Nat}{A B:List Value}(h:M3 w0 b0 b1 b2 A B w)(hb:Below w.heap.size w w'):M3 w0 b0 b1 b2 A B w':=⟨h.one.after hb,h.two.after hb,h.res.after hb,h.bel.trans (hb.mono h.bel.size),h.le⟩
theorem Z67(w:World)(va vb vc v0 v1 v2:Value):M3 w w.heap.size (w.heap.size+1) (w.heap.size+1+1) [va,vb,vc] [v0,v1,v2] (((w.alloc (.cells #[va,vb,vc] 250)).alloc (.cells #[v0,v1,v2] 250)).alloc (.cells #[.int .i64 0,.int .i64 0,.slice none 0 0] 250)):=by
 obtain⟨h1,h2,h3,h4⟩:=Zbd w va vb vc v0 v1 v2
 exact⟨h1,h2,h3,h4,by omega⟩
open Go.RowKit
section
variable{w0 w w':World}{b0 b1 b2 bx g ga oa gb ob r n c N:Nat}{A B:Nat->Nat->BitVec 8}{LA LB LX:List Value}{f f':Nat->BitVec 8}
end
end
end Go.Proofs.YthppfllkocphbaaGreatDoor
