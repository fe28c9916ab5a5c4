/-
  Part 7 of the proof: lemmas about what the program computes.
-/
import Derived.Test.YthppfllkocphbaaGreatDoorQ05
namespace Go.Proofs.YthppfllkocphbaaGreatDoor
set_option linter.unusedVariables false
set_option linter.unusedSimpArgs false
set_option maxHeartbeats 25600000
set_option maxRecDepth 100000
open Tryz
section
open Go.RowKit
variable{M M':Nat->Nat->BitVec 8}{c i j k r:Nat}{p:Nat->Nat}
def tb(c:Nat)(M:Nat->Nat->BitVec 8)(j:Nat):BitVec 8:=M (j / c) (j%c)
theorem Wt(M:Nat->Nat->BitVec 8)(i j:Nat)(h:j<c):tb c M (i*c+j)=M i j:=by unfold tb;rw[Jr i j h,Js i j h]
theorem Z23(r c:Nat)(M:Nat->Nat->BitVec 8):(mat r c M).cells=tab (r*c) (tb c M):=rfl
theorem Z4u(hc:1<=c):(i*c<=j/\j<i*c+c)↔j / c=i:=by
 constructor
 ·rintro⟨h1,h2⟩
  obtain⟨m,rfl⟩:∃m,j=i*c+m:=⟨j-i*c,by omega⟩
  exact Jr i m (by omega)
 ·rintro rfl
  have h1:=Nat.div_add_mod j c
  have h2:=Nat.mod_lt j (show 0<c by omega)
  rw[Nat.mul_comm] at h1
  omega
theorem Z1c(M:Nat->Nat->BitVec 8)(t s:Nat)(a:BitVec 8)(hc:1<=c):Z0E (tb c M) (t*c) c a (M s)=tb c (QZ M t s a):=by
 funext j
 show(if t*c<=j/\j<t*c+c then M (j / c) (j%c)^^^gm a (M s (j-t*c)) else M (j / c) (j%c))=(if j / c=t then M t (j%c)^^^gm a (M s (j%c)) else M (j / c) (j%c))
 by_cases h:j / c=t
 ·have h2:=(Z4u hc).2 h
  rw[if_pos h2,if_pos h,h]
  obtain⟨m,rfl⟩:∃m,j=t*c+m:=⟨j-t*c,by omega⟩
  rw[Js t m (by omega),show t*c+m-t*c=m from by omega]
 ·rw[if_neg (fun h2=>h ((Z4u hc).1 h2)),if_neg h]
theorem ZdI:bv 1=1#8:=by rw[show(1:Int)=nv 1#8 from Z0r.symm,YS]
theorem Z9e:∀x,Ker r c M x↔Ker r c M x:=fun _=>Iff.rfl
def Q4(M:Nat->Nat->BitVec 8)(k j i:Nat)(a c:Nat):BitVec 8:=if a<i/\a≠k then M a c^^^gm (M a j) (M k c) else M a c
theorem Z2E(M:Nat->Nat->BitVec 8)(k j:Nat):Q4 M k j 0=M:=by
 funext a c;unfold Q4;rw[if_neg (fun h=>Nat.not_lt_zero _ h.1)]
theorem Jp(M:Nat->Nat->BitVec 8)(k j i:Nat)(h:i=k∨M i j=0#8):Q4 M k j (i+1)=Q4 M k j i:=by
 funext a c
 unfold Q4
 by_cases e:a=i
 ·subst e
  have hR:¬ (a<a/\a≠k):=fun h=>Nat.lt_irrefl _ h.1
  rw[if_neg hR]
  by_cases e2:a=k
  ·rw[if_neg (fun h=>h.2 e2)]
  ·rw[if_pos ⟨Nat.lt_succ_self a,e2⟩,h.resolve_left e2,Qm];simp
 ·by_cases h2:a<i/\a≠k
  ·rw[if_pos h2,if_pos ⟨by omega,h2.2⟩]
  ·rw[if_neg h2,if_neg (by omega)]
theorem Z3O(M:Nat->Nat->BitVec 8)(k j i a c:Nat)(h:i<=a):Q4 M k j i a c=M a c:=by unfold Q4;rw[if_neg (by omega)]
theorem Zat(M:Nat->Nat->BitVec 8)(k j i c:Nat):Q4 M k j i k c=M k c:=by unfold Q4;rw[if_neg (by omega)]
theorem Z75(M:Nat->Nat->BitVec 8)(k j i:Nat)(h:i≠k):QZ (Q4 M k j i) i k (M i j)=Q4 M k j (i+1):=by
 funext a c
 unfold QZ
 by_cases e:a=i
 ·subst e
  rw[if_pos rfl,Z3O _ _ _ _ _ _ Zk8,Zat]
  unfold Q4
  rw[if_pos ⟨Nat.lt_succ_self a,h⟩]
 ·rw[if_neg e]
  unfold Q4
  by_cases h2:a<i/\a≠k
  ·rw[if_pos h2,if_pos ⟨by omega,h2.2⟩]
  ·rw[if_neg h2,if_neg (by omega)]
structure Piv(r c:Nat)(M' M1:Nat->Nat->BitVec 8)(j k:Nat):Prop where
 up:∀i x,i<k->M1 i x=M' i x
 low:∀i x,k<=i->i<r->x<j->M1 i x=0#8
 ne:M1 k j≠0#8
 ker:∀x,Ker r c M1 x↔Ker r c M' x
theorem Zgk(g:WS r M' j k p)(hp:M' k j≠0#8):Piv r c M' M' j k:=
 ⟨fun _ _ _=>rfl,fun i x h1 h2 h3=>g.below i x h1 h2 h3,hp,fun _=>Iff.rfl⟩
theorem ZhT{m:Nat}(g:WS r M' j k p)(hk:k<r)(hm:m<r)(ae:k<m)(hz:M' k j=0#8)(hp:M' m j≠0#8):Piv r c M' (QZ M' k m 1#8) j k:=by
 refine⟨fun i x h=> ?_,fun i x h1 h2 h3=> ?_,?_,fun x=> ?_⟩
 ·unfold QZ;rw[if_neg (by omega)]
 ·unfold QZ
  by_cases e:i=k
  ·rw[if_pos e,g.below k x Zk8 hk h3,g.below m x (by omega) hm h3,Zj];simp
  ·rw[if_neg e,g.below i x h1 h2 h3]
 ·unfold QZ
  rw[if_pos rfl,hz,Qp];simpa using hp
 ·exact Z3i hm hk (Or.inl (by omega)) x
theorem Z82{M1:Nat->Nat->BitVec 8}(h:Piv r c M' M1 j k)(hk:k<r):Piv r c M' (QZ M1 k k (ivv (M1 k j)^^^1#8)) j k/\QZ M1 k k (ivv (M1 k j)^^^1#8) k j=1#8:=by
 have ae:ivv (M1 k j)=iv (M1 k j):=by unfold ivv;rw[if_neg h.ne]
 have h1:QZ M1 k k (ivv (M1 k j)^^^1#8) k j=1#8:=by
  unfold QZ
  rw[if_pos rfl,XS,Qp,ae,Wd,Z0X _ h.ne,<-BitVec.xor_assoc,BitVec.xor_comm (M1 k j),BitVec.xor_assoc,BitVec.xor_self,BitVec.xor_zero]
 refine⟨⟨fun i x hi=> ?_,fun i x h2 h3 h4=> ?_,by rw[h1];decide,fun x=> ?_⟩,h1⟩
 ·rw[<-h.up i x hi];unfold QZ;rw[if_neg (by omega)]
 ·unfold QZ
  by_cases e:i=k
  ·rw[if_pos e,h.low k x Zk8 hk h4,Zj];simp
  ·rw[if_neg e,h.low i x h2 h3 h4]
 ·rw[Z3i hk hk (Or.inr ?_) x,h.ker x]
  intro e
  have h9:ivv (M1 k j)=0#8:=by
   have:=congrArg (fun y=>y^^^1#8) e
   simpa[BitVec.xor_assoc] using this
  rw[ae] at h9
  exact Zeb _ h.ne h9
theorem Zgj{M M2:Nat->Nat->BitVec 8}(g:WS r M' j k p)(h:Piv r c M' M2 j k)(hk:k<r)(h1:M2 k j=1#8):WS r (Q4 M2 k j r) (j+1) (k+1) (fun t=>if t=k then j else p t):=by
 refine Ze6 g hk h.up h.low h1 (fun i x hi=> ?_)
 unfold Q4
 by_cases e:i=k
 ·rw[if_neg (fun h=>h.2 e),if_pos e,e]
 ·rw[if_pos ⟨hi,e⟩,if_neg e]
theorem ZcY{q1 q2:Nat}(h:i≠k)(h1:q1=i*c)(h2:q2=k*c):q1<=q2∨q2+c<=q1:=by
 rcases Nat.lt_or_gt_of_ne h with h8|h8
 ·left;rw[h1,h2];exact Nat.mul_le_mul_right c (by omega)
 ·right
  have:=Nat.mul_le_mul_right c (show k+1<=i by omega)
  rw[Nat.add_mul] at this
  omega
structure Z0g(w0:World)(g N:Nat)(LX:List Value)(sp:List Value)(f:Nat->BitVec 8)(w:World):Prop where
 box:Row w w0.heap.size 250 LX
 row:Row w g 5 (Za (tab N f)++sp)
 fr:Fr [g] w0 w
section
variable{w0 w w':World}{g N:Nat}{LX sp:List Value}{f f':Nat->BitVec 8}
theorem Z0g.after(h:Z0g w0 g N LX sp f w)(hb:Below w.heap.size w w'):Z0g w0 g N LX sp f w':=⟨h.box.after hb,h.row.after hb,h.fr.trans (Fr.of_below (L:=[]) hb) (by simp)⟩
theorem Z0g.add(h:Z0g w0 g N LX sp f w)(hr:Row w' g 5 (Za (tab N f')++sp))(hf:Fr [g] w w'):Z0g w0 g N LX sp f' w':=
 ⟨h.box.fr hf (by simp only[ZjD];exact h.box.ne h.row (by decide)),hr,h.fr.trans hf (fun i hi _=>hi)⟩
end
theorem ZeO(r c cols g cap N:Nat)(M:Nat->Nat->BitVec 8)(sp:List Value)(w:World)(r1:1<=r)(r2:r<=255)(c1:1<=c)(c2:c<=510)(hN:N=r*c)(ah:N<=cap)(ag:cap<=9223372036854775807)(iq:cols<=c)(aj:Row w g 5 (Za (tab N (tb c M))++sp)):
  Calls prog 227 #[.agg #[.int .i64 r,.int .i64 c,.slice (some ⟨g,0,none⟩) N cap],.int .i64 cols] w fun e w'=>∃k M' j p,e=.returned (.int .i64 (k:Nat))/\Row w' g 5 (Za (tab N (tb c M'))++sp)/\Fr [g] w w'/\WS r M' j k p/\j<=cols/\(j=cols∨k=r)/\(∀x,Ker r c M' x↔Ker r c M x):=by
 have q1:N<=255*510:=by rw[hN];exact Nat.mul_le_mul r2 c2
 have S0:Hid (Z0g w g N [.int .i64 r,.int .i64 c,.slice (some ⟨g,0,none⟩) N cap] sp (tb c M) (w.alloc (.cells #[.int .i64 r,.int .i64 c,.slice (some ⟨g,0,none⟩) N cap] 250))):=
  Zka ⟨Row.new _ _ _,aj.alloc _,(Fr.refl _ _).alloc _⟩
 have gl:=aj.lt
 have HN:=Zka hN
 clear hN aj
 go_enter func227,ntmps227
 go_wp2
 go_loopw [5,6] (fun at_ jj wr=>∃ (k j:Nat) (M':Nat->Nat->BitVec 8) (p:Nat->Nat),at_=.int .i64 k/\jj=.int .i64 j/\j<=cols/\WS r M' j k p/\(∀x,Ker r c M' x↔Ker r c M x)/\Z0g w g N [.int .i64 r,.int .i64 c,.slice (some ⟨g,0,none⟩) N cap] sp (tb c M') wr) (fun _ jj _=>cols- (intOf jj).toNat)
 case atStart=>exact⟨0,0,M,fun _=>0,rfl,rfl,by omega,Zcy r M _,Z9e,S0.out⟩
 case round=>
  clear S0
  obtain⟨k,j,M',p,rfl,rfl,hj,az,b9,hs⟩:=hrel
  have ja:=az.le
  have HG:=Zka az
  have HK:=Zka b9
  obtain⟨x0,x1,x2⟩:=Zd hs.box
  have S1:=Zka hs
  clear az b9 hs
  by_cases iu:j<cols/\k<r
  ·obtain⟨jb,ai⟩:=iu
   go_wp2
   obtain⟨wo,rfl⟩:∃wo:World,wo=wr:=⟨_,rfl⟩
   go_loopw [7] (fun rr wr=>∃m:Nat,rr=.int .i64 m/\k<=m/\m<=r/\(∀i,k<=i->i<m->M' i j=0#8)/\Z0g w g N [.int .i64 r,.int .i64 c,.slice (some ⟨g,0,none⟩) N cap] sp (tb c M') wr) (fun rr _=>r- (intOf rr).toNat)
   case atStart=>exact⟨k,rfl,Zk8,ja,fun i h1 h2=>by omega,S1.out⟩
   case round=>
    clear S1 x0 x1 x2
    obtain⟨m,rfl,ir,jw,hz,hs⟩:=hrel
    obtain⟨x0,x1,x2⟩:=Zd hs.box
    have HZ:=Zka hz
    have S2:=Zka hs
    clear hz hs
    by_cases hm:m<r
    ·by_cases cr:nv (M' m j)=0
     ·have j8:(nv (M' m j)==0)=true:=by simpa using cr
      have ek:=Zka cr
      clear cr
      go_wp2_with (go_at_call 226;have h9:=S2.out;clear S2;refine(ZU r c m g N cap _ hm r2 c1 c2 HN.out ah ag).mono ?_;rintro e w2 ⟨q,af,jx,rfl,hb⟩;have ae:=h9.after hb;have c0:=QV (i:=q+j) ae.row (by omega);rw[af,Wt M' m j (by omega),<-af] at c0;have S3:=Zka ae;have HQ:=Zka af;clear h9 hb ae af x0 x1 x2)
      go_roundw
      case measure=>simp[intOf];omega
      case rel=>exact⟨m+1,by go_num,by omega,by omega,fun i h1 h2=>by
       by_cases e:i=m
       ·rw[e];exact(YV _).1 ek.out
       ·exact HZ.out i h1 (by omega),S3.out⟩
     ·have j8:(nv (M' m j)==0)=false:=by simpa using cr
      have ek:=Zka cr
      clear cr
      refine if hmk:m=k then ?same else ?other
      case' same=>
       have e1:((m:Int)==(r:Int))=false:=by simp;omega
       have e2:((m:Int) !=(k:Int))=false:=by simp[hmk]
       have dp:=Zgk (c:=c) HG.out (by rw[<-hmk];exact fun e=>ek.out ((YV _).2 e))
       obtain⟨M1,bz⟩:∃M1,M1=M':=⟨_,rfl⟩
       have dq:Piv r c M' M1 j k:=by rw[bz];exact dp
       clear dp
       obtain⟨X,hX⟩:∃X,X=M1 k j:=⟨_,rfl⟩
       have cu:=Zka bz
       have cw:=Zka dq
       have bh:=Zka hX
       have j7:=Zka hmk
       clear bz dq hX hmk
       by_cases al:nv X=1
       case' pos=>
        have dz:(nv X !=1)=false:=by simp[al]
        have dc:=Zka al
        clear al
        go_wp2_with (first
         |(go_at_call 226;have h9:=S2.out;clear S2;refine(ZU r c m g N cap _ hm r2 c1 c2 HN.out ah ag).mono ?_;rintro e w2 ⟨q2,af,bf,rfl,hb⟩;have ae:=h9.after hb;have bq:=QV (i:=q2+j) ae.row (by omega);rw[af,Wt M' m j (by omega),<-af] at bq;obtain⟨ey,fi,fw⟩:=Zd ae.box;have S3:=Zka ae;have eu:=Zka af;clear h9 hb ae af x0 x1 x2)
         |(go_at_call 226;have h9:=S3.out;rw[<-cu.out] at h9;clear S3;refine(ZU r c k g N cap _ ai r2 c1 c2 HN.out ah ag).mono ?_;rintro e w4 ⟨q4,af,bg,rfl,hb⟩;have ae:=h9.after hb;have ay:=QV (i:=q4+j) ae.row (by omega);rw[af,Wt M1 k j (by omega),<-af] at ay;rw[<-bh.out] at ay;obtain⟨ez,fj,fx⟩:=Zd ae.box;have S4:=Zka ae;have ew:=Zka af;clear h9 hb ae af))
        obtain⟨M2,ak⟩:∃M2,M2=M1:=⟨_,rfl⟩
        have cn:Hid (Piv r c M' M2 j k/\M2 k j=1#8):=by
         rw[ak]
         exact Zka ⟨cw.out,by rw[<-bh.out];exact Z6E (dc.out.trans Z0r.symm)⟩
        have SL:Hid (Z0g w g N [.int .i64 r,.int .i64 c,.slice (some ⟨g,0,none⟩) N cap] sp (tb c M2) w4):=by rw[ak];exact S4
        clear ak
       case' neg=>
        have dz:(nv X !=1)=true:=by simpa using al
        have dc:=Zka al
        clear al
        go_wp2_with (first
         |(go_at_call 226;have h9:=S2.out;clear S2;refine(ZU r c m g N cap _ hm r2 c1 c2 HN.out ah ag).mono ?_;rintro e w2 ⟨q2,af,bf,rfl,hb⟩;have ae:=h9.after hb;have bq:=QV (i:=q2+j) ae.row (by omega);rw[af,Wt M' m j (by omega),<-af] at bq;obtain⟨ey,fi,fw⟩:=Zd ae.box;have S3:=Zka ae;have eu:=Zka af;clear h9 hb ae af x0 x1 x2)
         |(go_at_call 226;have h9:=S3.out;rw[<-cu.out] at h9;clear S3;refine(ZU r c k g N cap _ ai r2 c1 c2 HN.out ah ag).mono ?_;rintro e w4 ⟨q4,af,bg,rfl,hb⟩;have ae:=h9.after hb;have ay:=QV (i:=q4+j) ae.row (by omega);rw[af,Wt M1 k j (by omega),<-af] at ay;rw[<-bh.out] at ay;obtain⟨ez,fj,fx⟩:=Zd ae.box;have S4:=Zka ae;have ew:=Zka af;clear h9 hb ae af)
         |(go_at_call 252;refine(Z7c (nv X) (JO _) (JN _) _).mono ?_;rw[YS];rintro e w5 ⟨rfl,rfl⟩))
        have dr:=Jl (ivv X) 1#8
        rw[Z0r] at dr
        go_region_held3 (fun w'=>w'.cell? ⟨w.heap.size,0,none⟩=some (.int .i64 r)/\w'.cell? ⟨w.heap.size,1,none⟩=some (.int .i64 c)/\w'.cell? ⟨w.heap.size,2,none⟩=some (.slice (some ⟨g,0,none⟩) N cap)) (first|exact⟨by assumption,by assumption,by assumption⟩)
         (first
         |(go_at_call 226;have h9:=S4.out;clear S4;refine(ZU r c k g N cap _ ai r2 c1 c2 HN.out ah ag).mono ?_;rintro e jt ⟨ie,af,dx,rfl,hb⟩;have ae:=(h9.after Zk9.drew).after hb;obtain⟨ff,fq,gy⟩:=Zd ae.box;have dj:=Zka ae;have aw:=Zka af;clear h9 hb ae af)
         |(go_at_call 226;have h9:=dj.out;clear dj;refine(ZU r c k g N cap _ ai r2 c1 c2 HN.out ah ag).mono ?_;rintro e ju ⟨ef,af,dy,rfl,hb⟩;have ae:=h9.after hb;obtain⟨fg,ft,ia⟩:=Zd ae.box;have dm:=Zka ae;have ax:=Zka af;clear h9 hb ae af)
         |(go_at_call 254;have h9:=dm.out;clear dm;refine(Z2B g ie c _ g ef c _ N (tb c M1) (M1 k) sp (nv (ivv X^^^1#8)) _ (JO _) (JN _) h9.row (by omega) Zk8 (by omega) (fun i hi=>by rw[QV (i:=ef+i) h9.row (by omega),ax.out,Wt _ _ _ hi]) (Or.inr (Or.inl (by rw[aw.out,ax.out];exact Zk8)))).mono ?_;rintro e ig ⟨rfl,hr,hf⟩;rw[YS,aw.out,Z1c _ _ _ _ c1] at hr;have ae:=h9.add hr hf;obtain⟨fh,fu,ib⟩:=Zd ae.box;have S5:=Zka ae;clear h9 hr hf ae))
        clear dr
        go_wp2
        obtain⟨M2,ak⟩:∃M2,M2=QZ M1 k k (ivv X^^^1#8):=⟨_,rfl⟩
        have cn:Hid (Piv r c M' M2 j k/\M2 k j=1#8):=by
         rw[ak,bh.out]
         exact Zka (Z82 cw.out ai)
        have SL:Hid (Z0g w g N [.int .i64 r,.int .i64 c,.slice (some ⟨g,0,none⟩) N cap] sp (tb c M2) ig):=by rw[ak];exact S5
        clear ak
      case' other=>
       have e1:((m:Int)==(r:Int))=false:=by simp;omega
       have e2:((m:Int) !=(k:Int))=true:=by simp;omega
       have dp:=ZhT (c:=c) HG.out ai hm (by omega) (HZ.out k Zk8 (by omega)) (fun e=>ek.out ((YV _).2 e))
       obtain⟨M1,bz⟩:∃M1,M1=QZ M' k m 1#8:=⟨_,rfl⟩
       have dq:Piv r c M' M1 j k:=by rw[bz];exact dp
       clear dp
       obtain⟨X,hX⟩:∃X,X=M1 k j:=⟨_,rfl⟩
       have cu:=Zka bz
       have cw:=Zka dq
       have bh:=Zka hX
       have j7:=Zka hmk
       clear bz dq hX hmk
       by_cases al:nv X=1
       case' pos=>
        have dz:(nv X !=1)=false:=by simp[al]
        have dc:=Zka al
        clear al
        go_wp2_with (go_at_call 226;have h9:=S2.out;clear S2;refine(ZU r c m g N cap _ hm r2 c1 c2 HN.out ah ag).mono ?_;rintro e w2 ⟨q2,af,bf,rfl,hb⟩;have ae:=h9.after hb;have bq:=QV (i:=q2+j) ae.row (by omega);rw[af,Wt M' m j (by omega),<-af] at bq;obtain⟨ey,fi,fw⟩:=Zd ae.box;have S3:=Zka ae;have eu:=Zka af;clear h9 hb ae af x0 x1 x2)
        go_region_held3 (fun w'=>w'.cell? ⟨w.heap.size,0,none⟩=some (.int .i64 r)/\w'.cell? ⟨w.heap.size,1,none⟩=some (.int .i64 c)/\w'.cell? ⟨w.heap.size,2,none⟩=some (.slice (some ⟨g,0,none⟩) N cap)) (first|exact⟨by assumption,by assumption,by assumption⟩)
         (first
         |(go_at_call 226;have h9:=S3.out;clear S3;refine(ZU r c k g N cap _ ai r2 c1 c2 HN.out ah ag).mono ?_;rintro e jq ⟨ic,af,du,rfl,hb⟩;have ae:=(h9.after Zk9.drew).after hb;obtain⟨fa,fm,fy⟩:=Zd ae.box;have de:=Zka ae;have aq:=Zka af;clear h9 hb ae af)
         |(go_at_call 226;have h9:=de.out;clear de;refine(ZU r c m g N cap _ hm r2 c1 c2 HN.out ah ag).mono ?_;rintro e jr ⟨ee,af,dw,rfl,hb⟩;have ae:=h9.after hb;obtain⟨fc,fo,gj⟩:=Zd ae.box;have df:=Zka ae;have au:=Zka af;clear h9 hb ae af)
         |(go_at_call 254;have h9:=df.out;clear df;refine(Z2B g ic c _ g ee c _ N (tb c M') (M' m) sp 1 _ (by omega) (by omega) h9.row (by omega) Zk8 (by omega) (fun i hi=>by rw[QV (i:=ee+i) h9.row (by omega),au.out,Wt _ _ _ hi]) (Or.inr (Or.inl (by rw[aq.out,au.out];exact Nat.mul_le_mul_right c ir)))).mono ?_;rintro e js ⟨rfl,hr,hf⟩;rw[ZdI,aq.out,Z1c _ _ _ _ c1] at hr;have ae:=h9.add hr hf;obtain⟨fe,fp,gx⟩:=Zd ae.box;have dh:=Zka ae;clear h9 hr hf ae))
        go_wp2_with (first
         |(go_at_call 226;have h9:=dh.out;rw[<-cu.out] at h9;clear dh;refine(ZU r c k g N cap _ ai r2 c1 c2 HN.out ah ag).mono ?_;rintro e w4 ⟨q4,af,bg,rfl,hb⟩;have ae:=h9.after hb;have ay:=QV (i:=q4+j) ae.row (by omega);rw[af,Wt M1 k j (by omega),<-af] at ay;rw[<-bh.out] at ay;obtain⟨ez,fj,fx⟩:=Zd ae.box;have S4:=Zka ae;have ew:=Zka af;clear h9 hb ae af))
        obtain⟨M2,ak⟩:∃M2,M2=M1:=⟨_,rfl⟩
        have cn:Hid (Piv r c M' M2 j k/\M2 k j=1#8):=by
         rw[ak]
         exact Zka ⟨cw.out,by rw[<-bh.out];exact Z6E (dc.out.trans Z0r.symm)⟩
        have SL:Hid (Z0g w g N [.int .i64 r,.int .i64 c,.slice (some ⟨g,0,none⟩) N cap] sp (tb c M2) w4):=by rw[ak];exact S4
        clear ak
       case' neg=>
        have dz:(nv X !=1)=true:=by simpa using al
        have dc:=Zka al
        clear al
        go_wp2_with (go_at_call 226;have h9:=S2.out;clear S2;refine(ZU r c m g N cap _ hm r2 c1 c2 HN.out ah ag).mono ?_;rintro e w2 ⟨q2,af,bf,rfl,hb⟩;have ae:=h9.after hb;have bq:=QV (i:=q2+j) ae.row (by omega);rw[af,Wt M' m j (by omega),<-af] at bq;obtain⟨ey,fi,fw⟩:=Zd ae.box;have S3:=Zka ae;have eu:=Zka af;clear h9 hb ae af x0 x1 x2)
        go_region_held3 (fun w'=>w'.cell? ⟨w.heap.size,0,none⟩=some (.int .i64 r)/\w'.cell? ⟨w.heap.size,1,none⟩=some (.int .i64 c)/\w'.cell? ⟨w.heap.size,2,none⟩=some (.slice (some ⟨g,0,none⟩) N cap)) (first|exact⟨by assumption,by assumption,by assumption⟩)
         (first
         |(go_at_call 226;have h9:=S3.out;clear S3;refine(ZU r c k g N cap _ ai r2 c1 c2 HN.out ah ag).mono ?_;rintro e jq ⟨ic,af,du,rfl,hb⟩;have ae:=(h9.after Zk9.drew).after hb;obtain⟨fa,fm,fy⟩:=Zd ae.box;have de:=Zka ae;have aq:=Zka af;clear h9 hb ae af)
         |(go_at_call 226;have h9:=de.out;clear de;refine(ZU r c m g N cap _ hm r2 c1 c2 HN.out ah ag).mono ?_;rintro e jr ⟨ee,af,dw,rfl,hb⟩;have ae:=h9.after hb;obtain⟨fc,fo,gj⟩:=Zd ae.box;have df:=Zka ae;have au:=Zka af;clear h9 hb ae af)
         |(go_at_call 254;have h9:=df.out;clear df;refine(Z2B g ic c _ g ee c _ N (tb c M') (M' m) sp 1 _ (by omega) (by omega) h9.row (by omega) Zk8 (by omega) (fun i hi=>by rw[QV (i:=ee+i) h9.row (by omega),au.out,Wt _ _ _ hi]) (Or.inr (Or.inl (by rw[aq.out,au.out];exact Nat.mul_le_mul_right c ir)))).mono ?_;rintro e js ⟨rfl,hr,hf⟩;rw[ZdI,aq.out,Z1c _ _ _ _ c1] at hr;have ae:=h9.add hr hf;obtain⟨fe,fp,gx⟩:=Zd ae.box;have dh:=Zka ae;clear h9 hr hf ae))
        go_wp2_with (first
         |(go_at_call 226;have h9:=dh.out;rw[<-cu.out] at h9;clear dh;refine(ZU r c k g N cap _ ai r2 c1 c2 HN.out ah ag).mono ?_;rintro e w4 ⟨q4,af,bg,rfl,hb⟩;have ae:=h9.after hb;have ay:=QV (i:=q4+j) ae.row (by omega);rw[af,Wt M1 k j (by omega),<-af] at ay;rw[<-bh.out] at ay;obtain⟨ez,fj,fx⟩:=Zd ae.box;have S4:=Zka ae;have ew:=Zka af;clear h9 hb ae af)
         |(go_at_call 252;refine(Z7c (nv X) (JO _) (JN _) _).mono ?_;rw[YS];rintro e w5 ⟨rfl,rfl⟩))
        have dr:=Jl (ivv X) 1#8
        rw[Z0r] at dr
        go_region_held3 (fun w'=>w'.cell? ⟨w.heap.size,0,none⟩=some (.int .i64 r)/\w'.cell? ⟨w.heap.size,1,none⟩=some (.int .i64 c)/\w'.cell? ⟨w.heap.size,2,none⟩=some (.slice (some ⟨g,0,none⟩) N cap)) (first|exact⟨by assumption,by assumption,by assumption⟩)
         (first
         |(go_at_call 226;have h9:=S4.out;clear S4;refine(ZU r c k g N cap _ ai r2 c1 c2 HN.out ah ag).mono ?_;rintro e jt ⟨ie,af,dx,rfl,hb⟩;have ae:=(h9.after Zk9.drew).after hb;obtain⟨ff,fq,gy⟩:=Zd ae.box;have dj:=Zka ae;have aw:=Zka af;clear h9 hb ae af)
         |(go_at_call 226;have h9:=dj.out;clear dj;refine(ZU r c k g N cap _ ai r2 c1 c2 HN.out ah ag).mono ?_;rintro e ju ⟨ef,af,dy,rfl,hb⟩;have ae:=h9.after hb;obtain⟨fg,ft,ia⟩:=Zd ae.box;have dm:=Zka ae;have ax:=Zka af;clear h9 hb ae af)
         |(go_at_call 254;have h9:=dm.out;clear dm;refine(Z2B g ie c _ g ef c _ N (tb c M1) (M1 k) sp (nv (ivv X^^^1#8)) _ (JO _) (JN _) h9.row (by omega) Zk8 (by omega) (fun i hi=>by rw[QV (i:=ef+i) h9.row (by omega),ax.out,Wt _ _ _ hi]) (Or.inr (Or.inl (by rw[aw.out,ax.out];exact Zk8)))).mono ?_;rintro e ig ⟨rfl,hr,hf⟩;rw[YS,aw.out,Z1c _ _ _ _ c1] at hr;have ae:=h9.add hr hf;obtain⟨fh,fu,ib⟩:=Zd ae.box;have S5:=Zka ae;clear h9 hr hf ae))
        clear dr
        go_wp2
        obtain⟨M2,ak⟩:∃M2,M2=QZ M1 k k (ivv X^^^1#8):=⟨_,rfl⟩
        have cn:Hid (Piv r c M' M2 j k/\M2 k j=1#8):=by
         rw[ak,bh.out]
         exact Zka (Z82 cw.out ai)
        have SL:Hid (Z0g w g N [.int .i64 r,.int .i64 c,.slice (some ⟨g,0,none⟩) N cap] sp (tb c M2) ig):=by rw[ak];exact S5
        clear ak
      all_goals
       go_loopw [78] (fun ii wr=>∃i:Nat,ii=.int .i64 i/\i<=r/\(∀x,Ker r c (Q4 M2 k j i) x↔Ker r c M x)/\Z0g w g N [.int .i64 r,.int .i64 c,.slice (some ⟨g,0,none⟩) N cap] sp (tb c (Q4 M2 k j i)) wr) (fun ii _=>r- (intOf ii).toNat)
       case atStart=>exact⟨0,rfl,by omega,fun x=>by rw[Z2E];exact(cn.out.1.ker x).trans (HK.out x),by rw[Z2E];exact SL.out⟩
       case round=>
        clear SL
        obtain⟨i,rfl,hi,b9,hs⟩:=hrel
        obtain⟨x0,x1,x2⟩:=Zd hs.box
        have eh:=Zka b9
        have S6:=Zka hs
        clear b9 hs
        by_cases dt:i<r
        ·by_cases eo:i=k
         ·have j9:((i:Int) !=(k:Int))=false:=by simp[eo]
          have cj:=Zka eo
          clear eo
          go_wp2_with (go_at_call 226;have h9:=S6.out;clear S6;refine(ZU r c i g N cap _ dt r2 c1 c2 HN.out ah ag).mono ?_;rintro e w6 ⟨q6,af,bj,rfl,hb⟩;have ae:=h9.after hb;have bu:=QV (i:=q6+j) ae.row (by omega);rw[af,Wt (Q4 M2 k j i) i j (by omega),<-af] at bu;have S7:=Zka ae;have ij:=Zka af;clear h9 hb ae af x0 x1 x2)
          go_roundw
          case measure=>simp[intOf];omega
          case rel=>exact⟨i+1,by go_num,by omega,by rw[Jp M2 k j i (Or.inl cj.out)];exact eh.out,by rw[Jp M2 k j i (Or.inl cj.out)];exact S7.out⟩
         ·have j9:((i:Int) !=(k:Int))=true:=by simp;omega
          have aj:Q4 M2 k j i i j=M2 i j:=Z3O M2 k j i i j Zk8
          obtain⟨Y,hY⟩:∃Y,Y=M2 i j:=⟨_,rfl⟩
          by_cases ct:nv Y=0
          ·have dz:(nv Y !=0)=false:=by simp[ct]
           have er:=Zka ct
           have bm:=Zka (aj.trans hY.symm)
           have HY:=Zka hY
           clear ct aj hY
           go_wp2_with (go_at_call 226;have h9:=S6.out;clear S6;refine(ZU r c i g N cap _ dt r2 c1 c2 HN.out ah ag).mono ?_;rintro e w6 ⟨q6,af,bj,rfl,hb⟩;have ae:=h9.after hb;have bu:=QV (i:=q6+j) ae.row (by omega);rw[af,Wt (Q4 M2 k j i) i j (by omega),<-af] at bu;rw[bm.out] at bu;have S7:=Zka ae;have ij:=Zka af;clear h9 hb ae af x0 x1 x2)
           go_roundw
           case measure=>simp[intOf];omega
           case rel=>exact⟨i+1,by go_num,by omega,by rw[Jp M2 k j i (Or.inr (HY.out.symm.trans ((YV _).1 er.out)))];exact eh.out,by rw[Jp M2 k j i (Or.inr (HY.out.symm.trans ((YV _).1 er.out)))];exact S7.out⟩
          ·have dz:(nv Y !=0)=true:=by simpa using ct
           have er:=Zka ct
           have bm:=Zka (aj.trans hY.symm)
           have HY:=Zka hY
           have cj:=Zka eo
           clear ct aj hY
           go_wp2_with (go_at_call 226;have h9:=S6.out;clear S6;refine(ZU r c i g N cap _ dt r2 c1 c2 HN.out ah ag).mono ?_;rintro e w6 ⟨q6,af,bj,rfl,hb⟩;have ae:=h9.after hb;have bu:=QV (i:=q6+j) ae.row (by omega);rw[af,Wt (Q4 M2 k j i) i j (by omega),<-af] at bu;rw[bm.out] at bu;obtain⟨jz,ke,kf⟩:=Zd ae.box;have S7:=Zka ae;have ij:=Zka af;clear h9 hb ae af x0 x1 x2)
           go_region_held3 (fun w'=>w'.cell? ⟨w.heap.size,0,none⟩=some (.int .i64 r)/\w'.cell? ⟨w.heap.size,1,none⟩=some (.int .i64 c)/\w'.cell? ⟨w.heap.size,2,none⟩=some (.slice (some ⟨g,0,none⟩) N cap)) (first|exact⟨by assumption,by assumption,by assumption⟩)
            (first
            |(go_at_call 226;have h9:=S7.out;clear S7;refine(ZU r c i g N cap _ dt r2 c1 c2 HN.out ah ag).mono ?_;rintro e kg ⟨jo,af,iw,rfl,hb⟩;have ae:=(h9.after Zk9.drew).after hb;obtain⟨jc,jg,jk⟩:=Zd ae.box;have ik:=Zka ae;have cy:=Zka af;clear h9 hb ae af)
            |(go_at_call 226;have h9:=ik.out;clear ik;refine(ZU r c k g N cap _ ai r2 c1 c2 HN.out ah ag).mono ?_;rintro e kh ⟨iz,af,ix,rfl,hb⟩;have ae:=h9.after hb;obtain⟨jd,jh,jl⟩:=Zd ae.box;have im:=Zka ae;have cz:=Zka af;clear h9 hb ae af)
            |(go_at_call 254;have h9:=im.out;clear im;refine(Z2B g jo c _ g iz c _ N (tb c (Q4 M2 k j i)) ((Q4 M2 k j i) k) sp (nv Y) _ (JO _) (JN _) h9.row (by omega) Zk8 (by omega) (fun i hi=>by rw[QV (i:=iz+i) h9.row (by omega),cz.out,Wt _ _ _ hi]) (Or.inr (ZcY cj.out cy.out cz.out))).mono ?_;rintro e kj ⟨rfl,hr,hf⟩;rw[YS,cy.out,Z1c _ _ _ _ c1] at hr;have ae:=h9.add hr hf;obtain⟨je,ji,jm⟩:=Zd ae.box;have S8:=Zka ae;clear h9 hr hf ae))
           go_wp2
           go_roundw
           case measure=>simp[intOf];omega
           case rel=>
            have iy:=Z75 M2 k j i cj.out
            exact⟨i+1,by go_num,by omega,fun x=>by rw[<-iy,Z3i ai dt (Or.inl (fun h=>cj.out h.symm))];exact eh.out x,by rw[<-iy,<-HY.out];exact S8.out⟩
        ·obtain rfl:i=r:=by omega
         go_wp2
         go_roundw
         case measure=>simp[intOf];omega
         case rel=>exact⟨k+1,j+1,Q4 M2 k j i,fun t=>if t=k then j else p t,by go_num,by go_num,by omega,Zgj (M:=M') HG.out cn.out.1 ai cn.out.2,eh.out,S6.out⟩
    ·obtain rfl:m=r:=by omega
     have e1:((m:Int)==(m:Int))=true:=by simp
     go_wp2
     go_roundw
     case measure=>simp[intOf];omega
     case rel=>exact⟨k,j+1,M',p,rfl,by go_num,by omega,Ze5 HG.out HZ.out,HK.out,S2.out⟩
  ·have hx:¬j<cols∨(j<cols/\¬k<r):=by omega
   clear iu
   rcases hx with hx|⟨hx,jy⟩
   all_goals
    go_wp2
    go_ret
    exact⟨k,M',j,p,rfl,S1.out.row,S1.out.fr,HG.out,hj,by omega,HK.out⟩
end
section
open Go.RowKit
variable{Q:Exit->Act->World->Prop}{a:Act}{o:Oper}{ops:Array Oper}{w:World}
def Xg(f:Nat->BitVec 8)(o n:Nat)(of:Nat->BitVec 8)(j:Nat):BitVec 8:=if o<=j/\j<o+n then of (j-o) else f j
theorem ZcE(f of:Nat->BitVec 8)(o n N:Nat)(h:o+n<=N):(Za (tab N f)).take o++(Za (tab n of)++(Za (tab N f)).drop (o+n))=Za (tab N (Xg f o n of)):=by
 unfold Za
 rw[<-List.map_take,<-List.map_drop,<-ZjZ,<-ZjZ]
 congr 1
 apply List.ext_getElem
 ·simp[Zk];omega
 ·intro i h1 h2
  have hi:i<N:=by rw[Zk] at h2;exact h2
  rw[Yn _ _ _ hi]
  unfold Xg
  by_cases e1:i<o
  ·rw[if_neg (by omega),List.getElem_append_left (by simp[Zk];omega),List.getElem_take,Yn _ _ _ hi]
  ·rw[List.getElem_append_right (by simp[Zk];omega)]
   simp only[ZjO,Zk,Nat.min_eq_left (show o<=N by omega)]
   by_cases e2:i<o+n
   ·rw[if_pos ⟨by omega,e2⟩,List.getElem_append_left (by rw[Zk];omega),Yn _ _ _ (by omega)]
   ·rw[if_neg (by omega),List.getElem_append_right (by rw[Zk];omega),List.getElem_drop,Yn _ _ _ (by rw[Zk];omega)]
    congr 1
    rw[Zk];omega
section
variable{P:Program}
theorem Z4R(w:World)(dT sT ty elem:TypeId)(hu:P.underlying dT=some (.slice elem))(aq:(P.info? elem).map (·.size)=some 1)(g o ae ag gs os af ah n N:Nat)(t:TypeId)(f of:Nat->BitVec 8)
  (ak:ZC w g t (Za (tab N f))) (hn:n=Nat.min af ae) (ai:o+n<=N) (al:∀j,j<n->w.cell? ⟨gs,os+j,none⟩=some (.int .u8 (nv (of j)))):
  (Builtin.copy_ #[dT,sT] ty #[.slice (some ⟨g,o,none⟩) ae ag,.slice (some ⟨gs,os,none⟩) af ah]).run P w=.ok (goInt n) (w.setRow g (Za (tab N (Xg f o n of))).toArray):=by
 have hl:(Za (tab n of)).length=n:=by rw[Qg,Zk]
 have h:=run_copy_row (P:=P) w dT sT ty elem g o ae ag ⟨gs,os,none⟩ af ah (Za (tab N f)).toArray t (Za (tab n of)) hu aq ak (by rw[hl];exact hn)
  (fun j v hj=>by
   have aj:j<n:=by
    have:=(List.getElem?_eq_some_iff.1 hj).1
    rwa[hl] at this
   rw[X8 _ _ (by rw[Zk];exact aj),Yn _ _ _ aj] at hj
   have e1:(⟨gs,os,none⟩:Addr).add j=⟨gs,os+j,none⟩:=by unfold Addr.add;split<;>simp_all
   rw[e1,al j aj];exact hj)
  (by rw[hl];simp[Qg,Zk];omega)
  (fun v hv=>by
   unfold Za at hv
   obtain⟨x,_,rfl⟩:=List.mem_map.1 hv
   rfl)
 rw[hl,List.toList_toArray,ZjL,ZcE f of o n N ai] at h
 exact h
theorem Z6V{rest:List Oper}(aq:o.guard=none)(d s:Operand)(dT sT:TypeId)
  (ho:o.op=.call {callee:=.builtin .copy,args:= #[d,s],argTypes:= #[dT,sT]}) (elem:TypeId) (hu:P.underlying dT=some (.slice elem)) (au:(P.info? elem).map (·.size)=some 1)
  (g off ae ag gs os af ai n N:Nat) (hd:a.eval d=.slice (some ⟨g,off,none⟩) ae ag) (hs:a.eval s=.slice (some ⟨gs,os,none⟩) af ai) (t:TypeId) (f of:Nat->BitVec 8)
  (ah:ZC w g t (Za (tab N f))) (hn:n=Nat.min af ae) (aj:off+n<=N) (al:∀j,j<n->w.cell? ⟨gs,os+j,none⟩=some (.int .u8 (nv (of j))))
  (h:∀w',ZC w' g t (Za (tab N (Xg f off n of)))->Fr [g] w w'->wpList P ops Q rest (a.put o.dst (goInt n)) w'):wpList P ops Q (o::rest) a w:=by
 refine wpList_plain aq fun K hK=> ?_
 have ak:=Z4R (P:=P) w dT sT o.type elem hu au g off ae ag gs os af ai n N t f of ah hn aj al
 unfold Oper.wp
 simp[execOp,ho,resolve,invoke,builtin,hd,hs,ak,Result.andThen]
 exact hK _ _ (h _ (ah.setRow _) ((Fr.refl _ _).setRow (Or.inl (by simp)) _))
theorem JR{K:Act->World->Prop}{E:Prop}(aq:o.guard=none)(d s:Operand)(dT sT:TypeId)
  (ho:o.op=.call {callee:=.builtin .copy,args:= #[d,s],argTypes:= #[dT,sT]}) (elem:TypeId) (hu:P.underlying dT=some (.slice elem)) (au:(P.info? elem).map (·.size)=some 1)
  (g off ae ag gs os af ai n N:Nat) (hd:a.eval d=.slice (some ⟨g,off,none⟩) ae ag) (hs:a.eval s=.slice (some ⟨gs,os,none⟩) af ai) (t:TypeId) (f of:Nat->BitVec 8)
  (ah:ZC w g t (Za (tab N f))) (hn:n=Nat.min af ae) (aj:off+n<=N) (al:∀j,j<n->w.cell? ⟨gs,os+j,none⟩=some (.int .u8 (nv (of j))))
  (h:∀w',ZC w' g t (Za (tab N (Xg f off n of)))->Fr [g] w w'->K (a.put o.dst (goInt n)) w'):
  if Region.wanted o (yielded ops a.tmps)=true then Oper.wp P o a w K Q else E:=by
 have hw:Region.wanted o (yielded ops a.tmps)=true:=by simp[Region.wanted,aq]
 rw[if_pos hw]
 have ak:=Z4R (P:=P) w dT sT o.type elem hu au g off ae ag gs os af ai n N t f of ah hn aj al
 unfold Oper.wp
 simp[execOp,ho,resolve,invoke,builtin,hd,hs,ak,Result.andThen]
 exact h _ (ah.setRow _) ((Fr.refl _ _).setRow (Or.inl (by simp)) _)
end
theorem Qu.flat{g o r c:Nat}{M:Nat->Nat->BitVec 8}(h:Qu w g o r c M)(hc:1<=c)(j:Nat)(hj:j<r*c):w.cell? ⟨g,o+j,none⟩=some (.int .u8 (nv (tb c M j))):=by
 have:=h (j / c) (j%c) (Z1Z hj) (Nat.mod_lt _ (by omega))
 rw[Nat.add_assoc,Nat.mul_comm,Nat.div_add_mod] at this
 exact this
end
end Go.Proofs.YthppfllkocphbaaGreatDoor
