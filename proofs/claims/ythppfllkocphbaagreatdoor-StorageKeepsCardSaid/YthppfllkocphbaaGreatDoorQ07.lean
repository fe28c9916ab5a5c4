/-
  Part 8 of the proof: lemmas about what the program computes.
-/
import Derived.Laws.AppendOwnNone
import Derived.Maps.AppendAt
import Derived.Test.YthppfllkocphbaaGreatDoorQ03
import Derived.Test.YthppfllkocphbaaGreatDoorQ06
namespace Go.Proofs.YthppfllkocphbaaGreatDoor
set_option linter.unusedVariables false
set_option linter.unusedSimpArgs false
set_option maxHeartbeats 25600000
set_option maxRecDepth 100000
open Tryz
section
open Go.RowKit
theorem ZbH(c:Nat)(M:Nat->Nat->BitVec 8)(k:Nat)(hc:1<=c):Xg (upF c M (k*c)) (k*c) c (M k)=upF c M ((k+1)*c):=by
 funext j
 unfold Xg upF
 rw[Nat.add_mul,Nat.one_mul]
 by_cases h:k*c<=j/\j<k*c+c
 ·rw[if_pos h,if_pos h.2]
  have h1:=(Z4u hc).1 h
  rw[h1]
  congr 1
  obtain⟨m,rfl⟩:∃m,j=k*c+m:=⟨j-k*c,by omega⟩
  rw[Js k m (by omega)];omega
 ·rw[if_neg h]
  by_cases h2:j<k*c
  ·rw[if_pos h2,if_pos (by omega)]
  ·rw[if_neg h2,if_neg (by omega)]
def Z1F(n m:Nat)(A:Nat->Nat->BitVec 8)(k j:Nat):BitVec 8:=if j / m<k then aug n A (j / m) (j%m) else 0#8
theorem ZdD(n m:Nat)(A:Nat->Nat->BitVec 8):(fun _=>0#8)=Z1F n m A 0:=by
 funext j;unfold Z1F;rw[if_neg (Nat.not_lt_zero _)]
theorem ZdC(n m:Nat)(A:Nat->Nat->BitVec 8)(k:Nat)(hm:m=n+n)(h:k<n):(fun j=>if j=k*m+(n+k) then 1#8 else Xg (Z1F n m A k) (k*m) n (A k) j)=Z1F n m A (k+1):=by
 funext j
 have ae:1<=m:=by omega
 by_cases hr:j / m=k
 ·obtain⟨h1,h2⟩:=(Z4u ae).2 hr
  obtain⟨c,rfl⟩:∃c,j=k*m+c:=⟨j-k*m,by omega⟩
  have hc:c<m:=by omega
  unfold Z1F
  rw[Jr k c hc,Js k c hc,if_pos (Nat.lt_succ_self k)]
  unfold aug
  by_cases e:c=n+k
  ·rw[if_pos (by omega),if_neg (by omega)]
   unfold idm;rw[if_pos (by omega)]
  ·rw[if_neg (by omega)]
   unfold Xg
   by_cases h3:c<n
   ·rw[if_pos ⟨by omega,by omega⟩,if_pos h3,show k*m+c-k*m=c from by omega]
   ·rw[if_neg (by omega),if_neg h3]
    show(if(k*m+c) / m<k then _ else 0#8)=_
    rw[Jr k c hc,if_neg (Nat.lt_irrefl k)]
    unfold idm;rw[if_neg (by omega)]
 ·have h0:¬ (k*m<=j/\j<k*m+m):=fun h=>hr ((Z4u ae).1 h)
  rw[if_neg (by omega)]
  unfold Xg
  rw[if_neg (by omega)]
  unfold Z1F
  by_cases h4:j / m<k
  ·rw[if_pos h4,if_pos (Nat.lt_succ_of_lt h4)]
  ·rw[if_neg h4,if_neg (fun h3=>(Nat.lt_or_eq_of_le (Nat.le_of_lt_succ h3)).elim h4 hr)]
theorem ZdB(n m:Nat)(A:Nat->Nat->BitVec 8):tab (n*m) (Z1F n m A n)=tab (n*m) (tb m (aug n A)):=Wc fun j hj=>by
 unfold Z1F tb;rw[if_pos (Z1Z hj)]
structure Z1C(w0:World)(b0 b2 bx g ga oa r c N:Nat)(A:Nat->Nat->BitVec 8)(LA LX:List Value)(f:Nat->BitVec 8)(w:World):Prop where
 one:Row w b0 250 LA
 res:Row w b2 250 [.int .i64 0,.int .i64 0,.slice none 0 0]
 box:Row w bx 250 LX
 row:ZC w g 5 (Za (tab N f))
 src:Qu w ga oa r c A
 bel:Below w0.heap.size w0 w
section
variable{w0 w w':World}{b0 b2 bx g ga oa r c N:Nat}{A:Nat->Nat->BitVec 8}{LA LX:List Value}{f f':Nat->BitVec 8}
theorem Z1C.after(h:Z1C w0 b0 b2 bx g ga oa r c N A LA LX f w)(hb:Below w.heap.size w w'):Z1C w0 b0 b2 bx g ga oa r c N A LA LX f w':=
 ⟨h.one.after hb,h.res.after hb,h.box.after hb,h.row.fr (Fr.of_below (L:=[]) hb) (by simp),h.src.after hb,h.bel.trans (hb.mono h.bel.size)⟩
theorem Z1C.lay(h:Z1C w0 b0 b2 bx g ga oa r c N A LA LX f w)(hr:ZC w' g 5 (Za (tab N f')))(hf:Fr [g] w w')(hg:w0.heap.size<=g)(ha:ga<w0.heap.size):Z1C w0 b0 b2 bx g ga oa r c N A LA LX f' w':=by
 have h0:b0∉[g]:=by simp only[ZjD];exact h.one.ne h.row.row (by decide)
 have h2:b2∉[g]:=by simp only[ZjD];exact h.res.ne h.row.row (by decide)
 have h3:bx∉[g]:=by simp only[ZjD];exact h.box.ne h.row.row (by decide)
 exact⟨h.one.fr hf h0,h.res.fr hf h2,h.box.fr hf h3,hr,h.src.fr hf (by simp;omega),h.bel.trans (hf.below h.bel.size (fun i hi=>by simp only[ZjD] at hi;omega))⟩
end
structure Z44(w0:World)(b2 bx by_ g g2 N N2:Nat)(LX LY:List Value)(f f2:Nat->BitVec 8)(w:World):Prop where
 res:Row w b2 250 [.int .i64 0,.int .i64 0,.slice none 0 0]
 box:Row w bx 250 LX
 boy:Row w by_ 250 LY
 src:Row w g 5 (Za (tab N f)++[])
 row:ZC w g2 5 (Za (tab N2 f2))
 bel:Below w0.heap.size w0 w
section
variable{w0 w w':World}{b2 bx by_ g g2 N N2:Nat}{LX LY:List Value}{f f2 f':Nat->BitVec 8}
theorem Z44.after(h:Z44 w0 b2 bx by_ g g2 N N2 LX LY f f2 w)(hb:Below w.heap.size w w'):Z44 w0 b2 bx by_ g g2 N N2 LX LY f f2 w':=
 ⟨h.res.after hb,h.box.after hb,h.boy.after hb,h.src.after hb,h.row.fr (Fr.of_below (L:=[]) hb) (by simp),h.bel.trans (hb.mono h.bel.size)⟩
theorem Z44.lay(h:Z44 w0 b2 bx by_ g g2 N N2 LX LY f f2 w)(hr:ZC w' g2 5 (Za (tab N2 f')))(hf:Fr [g2] w w')(hg:w0.heap.size<=g2)(ae:g≠g2):Z44 w0 b2 bx by_ g g2 N N2 LX LY f f' w':=by
 have h0:b2∉[g2]:=by simp only[ZjD];exact h.res.ne h.row.row (by decide)
 have h2:bx∉[g2]:=by simp only[ZjD];exact h.box.ne h.row.row (by decide)
 have h3:by_∉[g2]:=by simp only[ZjD];exact h.boy.ne h.row.row (by decide)
 exact⟨h.res.fr hf h0,h.box.fr hf h2,h.boy.fr hf h3,h.src.fr hf (by simpa using ae),hr,h.bel.trans (hf.below h.bel.size (fun i hi=>by simp only[ZjD] at hi;omega))⟩
end
theorem ZeS(w:World)(va vb vc:Value):Row ((w.alloc (.cells #[va,vb,vc] 250)).alloc (.cells #[.int .i64 0,.int .i64 0,.slice none 0 0] 250)) w.heap.size 250 [va,vb,vc]/\Row ((w.alloc (.cells #[va,vb,vc] 250)).alloc (.cells #[.int .i64 0,.int .i64 0,.slice none 0 0] 250)) (w.heap.size+1) 250 [.int .i64 0,.int .i64 0,.slice none 0 0]/\Below w.heap.size w ((w.alloc (.cells #[va,vb,vc] 250)).alloc (.cells #[.int .i64 0,.int .i64 0,.slice none 0 0] 250)):=by
 have hs:∀ (W:World) (o:Obj),(W.alloc o).heap.size=W.heap.size+1:=fun W o=>by simp
 have af:=(Row.new w 250 [va,vb,vc]).alloc (.cells #[.int .i64 0,.int .i64 0,.slice none 0 0] 250)
 have ae:=Row.new (w.alloc (.cells #[va,vb,vc] 250)) 250 [.int .i64 0,.int .i64 0,.slice none 0 0]
 rw[hs] at ae
 exact⟨af,ae,(Zk9.alloc Zk8 _).alloc (by simp) _⟩
structure B2(w0:World)(b0 b1:Nat)(LA:List Value)(w:World):Prop where
 one:Row w b0 250 LA
 res:Row w b1 250 [.int .i64 0,.int .i64 0,.slice none 0 0]
 bel:Below w0.heap.size w0 w
 le:w0.heap.size<=b1
theorem B2.after{w0 w w':World}{b0 b1:Nat}{LA:List Value}(h:B2 w0 b0 b1 LA w)(hb:Below w.heap.size w w'):B2 w0 b0 b1 LA w':=⟨h.one.after hb,h.res.after hb,h.bel.trans (hb.mono h.bel.size),h.le⟩
theorem Z1G(w:World)(va vb vc:Value):B2 w w.heap.size (w.heap.size+1) [va,vb,vc] ((w.alloc (.cells #[va,vb,vc] 250)).alloc (.cells #[.int .i64 0,.int .i64 0,.slice none 0 0] 250)):=by
 obtain⟨h1,h2,h3⟩:=ZeS w va vb vc
 exact⟨h1,h2,h3,by omega⟩
def Zdr(w:World)(n:Nat)(A:Nat->Nat->BitVec 8)(e:Ending)(w':World):Prop:=
 ((¬Inj n A/\∃ev,e=.returned (.tuple #[JE,ev])/\Qb w.heap.size w' ev 18)∨(Inj n A/\∃g B,Z1f n A B/\e=.returned (.tuple #[Xh n n g,.nilIface])/\w.heap.size<=g/\ZC w' g 5 (Za (mat n n B).cells)))/\Below w.heap.size w w'
theorem Zec(n ga oa N cap:Nat)(A:Nat->Nat->BitVec 8)(w:World)(n1:1<=n)(n2:n<=255)(hN:N=n*n)(bg:N<=cap)(au:cap<=9223372036854775807)(ha:Qu w ga oa n n A):
  Calls prog 161 #[.agg #[.int .i64 n,.int .i64 n,.slice (some ⟨ga,oa,none⟩) N cap]] w fun e w'=>Zdr w n A e w':=by
 have hm:=Jj n1 n2 n1 n2 hN
 have q1:N<=255*255:=by rw[hN];exact Nat.mul_le_mul n2 n2
 obtain⟨m,bj⟩:∃m,m=n+n:=⟨_,rfl⟩
 obtain⟨NN,bf⟩:∃x,x=n*m:=⟨_,rfl⟩
 have q2:NN<=255*510:=by rw[bf];exact Nat.mul_le_mul n2 (by omega)
 have e2:(2:Int)*(n:Int)=(m:Int):=by rw[bj];omega
 have m1:n<m:=by omega
 have m2:m<=510:=by omega
 have cy:m-n=n:=by omega
 have b9:ga<w.heap.size:=QD (ha 0 0 (by omega) (by omega))
 have S0:=Zka (Z1G w (.int .i64 n) (.int .i64 n) (.slice (some ⟨ga,oa,none⟩) N cap))
 have HX:=Zka hm
 have HN:=Zka hN
 have HM:=Zka bj
 have aq:=Zka bf
 have dc:=Zka cy
 have HA:=Zka ha
 clear hm hN bj bf cy ha
 go_enter func161,ntmps161
 go_wp2_with (first
  |(go_at_call 223;have h9:=S0.out;clear S0;refine(QQ n n N _ cap _ (by unfold maxLen;omega)).mono ?_;rintro e w1 ⟨rfl,hb⟩;rw[HX.out];have hm:=h9.after hb;obtain⟨x0,x1,x2⟩:=Zd hm.one;have S1:=Zka hm;clear h9 hb hm)
  |(go_at_call 225;have h9:=S1.out;clear S1;refine(Z0R n m _ (by omega) m2).mono ?_;rintro e w2 ⟨g,rfl,hg,af,hb⟩;unfold Xh;rw[<-aq.out] at af⊢;have ct:w.heap.size<=g:=Zk1 h9.bel.size hg;have hm:=h9.after hb;have hz:=hm.bel.size;have S2:=Zka (Zkb hm af);clear h9 hb hm hg af))
 have S3:Hid (Z1C w w.heap.size (w.heap.size+1) w2.heap.size g ga oa n n NN A [.int .i64 n,.int .i64 n,.slice (some ⟨ga,oa,none⟩) N cap] [.int .i64 n,.int .i64 m,.slice (some ⟨g,0,none⟩) NN NN] (Z1F n m A 0) (w2.alloc (.cells #[.int .i64 n,.int .i64 m,.slice (some ⟨g,0,none⟩) NN NN] 250))):=by
  obtain⟨hm,af⟩:=S2.out
  have ak:Below w2.heap.size w2 (w2.alloc (.cells #[.int .i64 n,.int .i64 m,.slice (some ⟨g,0,none⟩) NN NN] 250)):=Zk9.alloc Zk8 _
  have hk:=hm.after ak
  refine Zka ⟨hk.one,hk.res,Row.new _ _ _,?_,fun i j hi hj=> ?_,hk.bel⟩
  ·rw[<-ZdD];exact af.fr (Fr.of_below (L:=[]) ak) (by simp)
  ·exact(hk.bel.cell (p:=⟨ga,oa+i*n+j,none⟩) b9).trans (HA.out i j hi hj)
 clear S2 HA
 go_loopw [27] (fun i wr=>∃k:Nat,k<=n/\i=.int .i64 k/\Z1C w w.heap.size (w.heap.size+1) w2.heap.size g ga oa n n NN A [.int .i64 n,.int .i64 n,.slice (some ⟨ga,oa,none⟩) N cap] [.int .i64 n,.int .i64 m,.slice (some ⟨g,0,none⟩) NN NN] (Z1F n m A k) wr) (fun i _=>n- (intOf i).toNat)
 case atStart=>exact⟨0,by omega,rfl,S3.out⟩
 case round=>
  clear S3
  obtain⟨k,hk,rfl,hs⟩:=hrel
  by_cases al:k<n
  ·obtain⟨x0,x1,x2⟩:=Zd hs.box
   obtain⟨u0,u1,u2⟩:=Zd hs.one
   have S4:=Zka hs
   clear hs
   go_wp2_with fail
   go_region_held3 (fun w'=>(w'.cell? ⟨w2.heap.size,0,none⟩=some (.int .i64 n)/\w'.cell? ⟨w2.heap.size,1,none⟩=some (.int .i64 m)/\w'.cell? ⟨w2.heap.size,2,none⟩=some (.slice (some ⟨g,0,none⟩) NN NN))/\(w'.cell? ⟨w.heap.size,0,none⟩=some (.int .i64 n)/\w'.cell? ⟨w.heap.size,1,none⟩=some (.int .i64 n)/\w'.cell? ⟨w.heap.size,2,none⟩=some (.slice (some ⟨ga,oa,none⟩) N cap))) (first|exact⟨by assumption,by assumption⟩|exact⟨⟨x0,x1,x2⟩,u0,u1,u2⟩)
    (first
    |(go_at_call 226;have h9:=S4.out;clear S4;refine(ZU n m k g NN NN _ al (by omega) (by omega) m2 aq.out Zk8 (by omega)).mono ?_;rintro e w6 ⟨q,ah,dy,rfl,hb⟩;have hm:=(h9.after Zk9.drew).after hb;have dj:=Zd hm.box;have dm:=Zd hm.one;have S5:=Zka hm;have HQ:=Zka ah;clear h9 hb hm ah)
    |(go_at_call 226;have h9:=S5.out;clear S5;refine(Z5g n n k ga oa N cap _ al (by omega) (by omega) (by omega) HN.out bg au).mono ?_;rintro e w7 ⟨rfl,hb⟩;have hm:=h9.after hb;have dp:=Zd hm.box;have dq:=Zd hm.one;have S6:=Zka hm;clear h9 hb hm)
    |(refine JR (by rfl) (.tmp 32) (.tmp 35) 75 75 (by rfl) 5 underlying75 Xx g q m (NN-q) ga (oa+k*n) n (cap-k*n) n NN (by rfl) (by rfl) 5 (Z1F n m A k) (A k) S6.out.row (Nat.min_eq_left (by omega)).symm (by omega) (fun j hj=>S6.out.src k j al hj) ?_;intro w8 cz cn;have h9:=S6.out;clear S6;have hm:=h9.lay cz cn ct b9;have dr:=Zd hm.box;have dt:=Zd hm.one;have S7:=Zka hm;clear h9 cz cn hm))
   go_wp2_with (go_at_call 226;have h9:=S7.out;clear S7;refine(ZU n m k g NN NN _ al (by omega) (by omega) m2 aq.out Zk8 (by omega)).mono ?_;rintro e w9 ⟨q5,ah,ee,rfl,hb⟩;have hm:=h9.after hb;have c0:=Z4W (i:=q5+(n+k)) hm.row (by omega);have f0:=Z4X (i:=q5+(n+k)) hm.row (by omega);have eo:=Zd hm.box;have S8:=Zka hm;have cj:=Zka ah;clear h9 hb hm ah)
   go_roundw
   case measure=>simp[intOf];omega
   case rel=>
    refine⟨k+1,by omega,by go_num,?_⟩
    have hr:=Z3E (i:=q5+(n+k)) S8.out.row 1#8
    rw[HQ.out,cj.out,ZdC n m A k HM.out al,Z0r] at hr
    rw[cj.out]
    exact S8.out.lay hr ((Fr.refl _ _).setCell (Or.inl (by simp)) _) ct b9
  ·obtain rfl:k=n:=by omega
   have bz:Z1C w w.heap.size (w.heap.size+1) w2.heap.size g ga oa k k NN A [.int .i64 k,.int .i64 k,.slice (some ⟨ga,oa,none⟩) N cap] [.int .i64 k,.int .i64 m,.slice (some ⟨g,0,none⟩) NN NN] (tb m (aug k A)) wr:=⟨hs.one,hs.res,hs.box,by have h9:=hs.row;rw[aq.out,ZdB,<-aq.out] at h9;exact h9,hs.src,hs.bel⟩
   obtain⟨x0,x1,x2⟩:=Zd bz.box
   have S4:=Zka bz
   clear hs bz
   go_wp2_with fail
   have h9:=S4.out
   clear S4
   refine(ZeO k m k g NN NN (aug k A) [] _ n1 n2 (by omega) m2 aq.out Zk8 (by omega) (by omega) (by rw[Zk7];exact h9.row.row)).mono ?_
   rintro e w5 ⟨l,M',j,p,rfl,hr,hf,ae,hj,aw,ax⟩
   have bm:=h9.res.ne h9.row.row (by decide)
   have bq:=h9.box.ne h9.row.row (by decide)
   have ai:=h9.res.fr hf (by simp only[ZjD];exact bm)
   have aj:=h9.box.fr hf (by simp only[ZjD];exact bq)
   have ag:=h9.bel.trans (hf.below h9.bel.size (fun i hi=>by simp only[ZjD] at hi;omega))
   have ek:=hr.lt
   have hle:=ae.le
   have ef:w.heap.size+1<w5.heap.size:=ai.lt
   have az:∀x,Ker k (k+k) M' x↔Ker k (k+k) (aug k A) x:=by rw[<-HM.out];exact ax
   clear hf h9 ax
   by_cases bh:l<k
   ·have cw:j=k:=by omega
    have hS:¬Inj k A:=by rw[cw] at ae;exact Z8j ae bh az
    have HS:=Zka hS
    have S5:=Zka (Zkb ai ag)
    have eh:=ag.size
    clear ai aj ag hr ae aw az hS cw
    go_wp2_with (go_at_call 224;have h9:=S5.out;clear S5;refine(Yb 18 (by decide) _).mono ?_;rintro e w6 ⟨ev,rfl,he,hb⟩;have hm:=h9.1.after hb;obtain⟨z0,z1,z2⟩:=Zd hm;obtain⟨f0,f1,f2⟩:=Xk hm;have S6:=Zka (Zkb hm (Zkb he (h9.2.trans (hb.mono h9.2.size))));clear h9 hb hm he)
    have hy:=Qy (a:=.int .i64 0) (b:=.int .i64 0) (c:=.slice none 0 0) S6.out.1
    obtain⟨y0,y1,y2⟩:=Zd hy
    exact bodyPost_ret (v:=.tuple #[.agg #[.int .i64 0,.int .i64 0,.slice none 0 0],ev]) (by simp[results,Tryz.results161,go_sem,y0,y1,y2]) rfl ⟨Or.inl ⟨HS.out,ev,rfl,(WQ S6.out.2.1 ef).mono (by omega)⟩,Qd S6.out.2.2 (by omega)⟩
   ·have hl:l=k:=by omega
    subst hl
    have hI:=Z91 ae (by omega) az
    obtain⟨B,hB⟩:∃B,B=fun i c=>M' i (l+c):=⟨_,rfl⟩
    rw[<-hB] at hI
    have HI:=Zka hI
    have HB:=Zka hB
    obtain⟨x0,x1,x2⟩:=Zd aj
    have S5:=Zka (Zkb ai (Zkb aj (Zkb hr ag)))
    have eh:=ag.size
    clear ai aj ag hr ae aw az hI hB hj
    go_wp2_with (go_at_call 225;have h9:=S5.out;clear S5;refine(Z0R l l _ (by omega) (by omega)).mono ?_;rintro e w6 ⟨g2,rfl,dh,af,hb⟩;unfold Xh;rw[<-HN.out] at af⊢;have cu:w.heap.size<=g2:=(by omega);have du:g≠g2:=(by omega);have eu:=hb.size;have S6:=Zka (Zkb (h9.1.after hb) (Zkb (h9.2.1.after hb) (Zkb (h9.2.2.1.after hb) (Zkb af (h9.2.2.2.trans (hb.mono (by omega)))))));clear h9 hb dh af)
    have S7:Hid (Z44 w (w.heap.size+1) w2.heap.size w6.heap.size g g2 NN N [.int .i64 l,.int .i64 m,.slice (some ⟨g,0,none⟩) NN NN] [.int .i64 l,.int .i64 l,.slice (some ⟨g2,0,none⟩) N N] (tb m M') (upF l B (0*l)) (w6.alloc (.cells #[.int .i64 l,.int .i64 l,.slice (some ⟨g2,0,none⟩) N N] 250))):=by
     obtain⟨k1,k2,k3,k4,k5⟩:=S6.out
     have ak:Below w6.heap.size w6 (w6.alloc (.cells #[.int .i64 l,.int .i64 l,.slice (some ⟨g2,0,none⟩) N N] 250)):=Zk9.alloc Zk8 _
     refine Zka ⟨k1.after ak,k2.after ak,Row.new _ _ _,k3.after ak,?_,k5.trans (ak.mono k5.size)⟩
     rw[Nat.zero_mul,<-Z6l];exact k4.fr (Fr.of_below (L:=[]) ak) (by simp)
    clear S6
    go_loopw [56] (fun i wr=>∃k:Nat,k<=l/\i=.int .i64 k/\Z44 w (w.heap.size+1) w2.heap.size w6.heap.size g g2 NN N [.int .i64 l,.int .i64 m,.slice (some ⟨g,0,none⟩) NN NN] [.int .i64 l,.int .i64 l,.slice (some ⟨g2,0,none⟩) N N] (tb m M') (upF l B (k*l)) wr) (fun i _=>l- (intOf i).toNat)
    case atStart=>exact⟨0,by omega,rfl,S7.out⟩
    case round=>
     clear S7
     obtain⟨k,hk,rfl,hs⟩:=hrel
     by_cases al:k<l
     ·obtain⟨x0,x1,x2⟩:=Zd hs.box
      obtain⟨u0,u1,u2⟩:=Zd hs.boy
      have S8:=Zka hs
      clear hs
      go_wp2_with fail
      have ew:(0:Int)<=(l:Int):=by omega
      have ey:(l:Int)<=(m:Int):=by omega
      have ez:l<=m:=by omega
      go_region_held3 (fun w'=>(w'.cell? ⟨w2.heap.size,0,none⟩=some (.int .i64 l)/\w'.cell? ⟨w2.heap.size,1,none⟩=some (.int .i64 m)/\w'.cell? ⟨w2.heap.size,2,none⟩=some (.slice (some ⟨g,0,none⟩) NN NN))/\(w'.cell? ⟨w6.heap.size,0,none⟩=some (.int .i64 l)/\w'.cell? ⟨w6.heap.size,1,none⟩=some (.int .i64 l)/\w'.cell? ⟨w6.heap.size,2,none⟩=some (.slice (some ⟨g2,0,none⟩) N N))) (first|exact⟨by assumption,by assumption⟩|exact⟨⟨x0,x1,x2⟩,u0,u1,u2⟩)
       (first
       |(go_at_call 226;have h9:=S8.out;clear S8;refine(ZU l l k g2 N N _ al (by omega) (by omega) (by omega) HN.out Zk8 (by omega)).mono ?_;rintro e w7 ⟨q,ah,dy,rfl,hb⟩;have hm:=(h9.after Zk9.drew).after hb;have dj:=Zd hm.box;have dm:=Zd hm.boy;have S9:=Zka hm;have HQ:=Zka ah;clear h9 hb hm ah)
       |(go_at_call 226;have h9:=S9.out;clear S9;refine(ZU l m k g NN NN _ al (by omega) (by omega) m2 aq.out Zk8 (by omega)).mono ?_;rintro e w8 ⟨q3,ah,dz,rfl,hb⟩;have hm:=h9.after hb;have dp:=Zd hm.box;have dq:=Zd hm.boy;have er:l<NN-q3:=(by omega);have dw:m<=NN-q3:=(by omega);have dx:¬NN-q3=l:=(by omega);have ay:=Zka hm;have de:=Zka ah;clear h9 hb hm ah)
       |(refine JR (by rfl) (.tmp 61) (.tmp 66) 75 75 (by rfl) 5 underlying75 Xx g2 q l (N-q) g (q3+l) (m-l) (NN-q3-l) l N (by rfl) (by rfl) 5 (upF l B (k*l)) (B k) ay.out.row (by rw[dc.out];exact(Nat.min_self l).symm) (by omega) (fun i hi=>by rw[Nat.add_assoc,QV (i:=q3+(l+i)) ay.out.src (by omega),de.out,Wt _ _ _ (by omega),HB.out]) ?_;intro w9 bu cr;rw[HQ.out,ZbH l B k n1] at bu;have h9:=ay.out;clear ay;have hm:=h9.lay bu cr cu du;have dr:=Zd hm.box;have dt:=Zd hm.boy;have df:=Zka hm;clear h9 bu cr hm))
      go_wp2
      go_roundw
      case measure=>simp[intOf];omega
      case rel=>exact⟨k+1,by omega,by go_num,df.out⟩
     ·obtain rfl:k=l:=by omega
      obtain⟨x0,x1,x2⟩:=Zd hs.boy
      obtain⟨t0,t1,t2⟩:=Zd hs.res
      obtain⟨f0,f1,f2⟩:=Xk hs.res
      have S8:=Zka hs
      clear hs
      go_wp2
      have hy:=Qy (a:=.int .i64 k) (b:=.int .i64 k) (c:=.slice (some ⟨g2,0,none⟩) N N) S8.out.res
      obtain⟨y0,y1,y2⟩:=Zd hy
      exact bodyPost_ret (v:=.tuple #[.agg #[.int .i64 k,.int .i64 k,.slice (some ⟨g2,0,none⟩) N N],.nilIface]) (by simp[results,Tryz.results161,go_sem,y0,y1,y2]) rfl ⟨Or.inr ⟨HI.out.1,g2,B,HI.out.2,by unfold Xh;rw[<-HN.out],cu,by
       have h9:=S8.out.row
       rw[HN.out,Z6k] at h9
       exact h9.fr ((((Fr.refl [w.heap.size+1] _).setCell (Or.inl (by simp)) _).setCell (Or.inl (by simp)) _).setCell (Or.inl (by simp)) _) (by simp only[ZjD];exact fun e=>S8.out.res.ne S8.out.row.row (by decide) e.symm)⟩,Qd S8.out.bel (by omega)⟩
theorem ZjB(r c:Int)(n cap ln ae:Nat)(a la:Option Addr)(w:World)(hl:n<=maxLen)(af:ln<=maxLen)(h:QP r c n=false∨ln<1∨255<ln):
  Calls prog 160 #[.agg #[.int .i64 r,.int .i64 c,.slice a n cap],.slice la ln ae] w fun e w'=>∃ev,e=.returned (.tuple #[JE,ev])/\Qb w.heap.size w' ev 1/\Below w.heap.size w w':=by
 have S0:=Zka (Z1G w (.int .i64 r) (.int .i64 c) (.slice a n cap))
 have hx:QP r c n=false∨(QP r c n=true/\(ln:Int)<1)∨(QP r c n=true/\¬ (ln:Int)<1/\255<(ln:Int)):=by
  cases hb:QP r c n
  ·exact Or.inl rfl
  ·rw[hb] at h
   rcases h with h|h|h
   ·cases h
   ·exact Or.inr (Or.inl ⟨rfl,by omega⟩)
   ·exact Or.inr (Or.inr ⟨rfl,by omega,by omega⟩)
 unfold maxLen at af
 clear h
 rcases hx with hx|⟨hx,ag⟩|⟨hx,ag,ah⟩
 all_goals
  have HX:=Zka hx
  clear hx
  go_enter func160,ntmps160
  go_wp2_with (first
   |(go_at_call 223;have h9:=S0.out;clear S0;refine(QQ r c n a cap _ hl).mono ?_;rintro e w1 ⟨rfl,hb⟩;rw[HX.out];have S1:=Zka (h9.after hb);clear h9 hb)
   |(go_at_call 224;have h9:=S1.out;clear S1;refine(Yb 1 (by decide) _).mono ?_;rintro e w2 ⟨ev,rfl,he,hb⟩;have hm:=h9.after hb;obtain⟨z0,z1,z2⟩:=Zd hm.res;obtain⟨f0,f1,f2⟩:=Xk hm.res;have S2:=Zka (Zkb hm (Zkb he h9.res.lt));clear h9 hb hm he))
  have hy:=Qy (a:=.int .i64 0) (b:=.int .i64 0) (c:=.slice none 0 0) S2.out.1.res
  obtain⟨y0,y1,y2⟩:=Zd hy
  exact bodyPost_ret (v:=.tuple #[.agg #[.int .i64 0,.int .i64 0,.slice none 0 0],ev]) (by simp[results,Tryz.results160,go_sem,y0,y1,y2]) rfl ⟨ev,rfl,(WQ S2.out.2.1 S2.out.2.2).mono (by have:=S2.out.2.2;omega),Qd S2.out.1.bel (by omega)⟩
def Zbm(w:World)(r c:Nat)(A:Nat->Nat->BitVec 8)(L:List Int)(e:Ending)(w':World):Prop:=
 (((∃i,i<L.length/\¬ (0<=L.getD i 0/\L.getD i 0<r))/\∃ev,e=.returned (.tuple #[JE,ev])/\Qb w.heap.size w' ev 1)∨((∀i,i<L.length->0<=L.getD i 0/\L.getD i 0<r)/\∃g,e=.returned (.tuple #[Xh L.length c g,.nilIface])/\w.heap.size<=g/\ZC w' g 5 (Za (mat L.length c (fun i j=>A (L.getD i 0).toNat j)).cells)))/\Below w.heap.size w w'
theorem ZhS(r c ga oa n cap lg lo az:Nat)(A:Nat->Nat->BitVec 8)(L:List Int)(w:World)(r1:1<=r)(r2:r<=255)(c1:1<=c)(c2:c<=255)(hn:n=r*c)(aw:n<=cap)(ai:cap<=9223372036854775807)(l1:1<=L.length)(l2:L.length<=255)
  (ha:Qu w ga oa r c A) (hL:∀j,j<L.length->w.cell? ⟨lg,lo+j,none⟩=some (.int .i64 (L.getD j 0))):
  Calls prog 160 #[.agg #[.int .i64 r,.int .i64 c,.slice (some ⟨ga,oa,none⟩) n cap],.slice (some ⟨lg,lo,none⟩) L.length az] w fun e w'=>Zbm w r c A L e w':=by
 have hm:=Jj r1 r2 c1 c2 hn
 have q1:n<=255*255:=by rw[hn];exact Nat.mul_le_mul r2 c2
 obtain⟨K,hK⟩:∃K,K=L.length:=⟨_,rfl⟩
 have al:lg<w.heap.size:=QD (hL 0 (by omega))
 have b9:ga<w.heap.size:=QD (ha 0 0 (by omega) (by omega))
 rw[<-hK] at l1 l2 hL⊢
 have i1:(1:Int)<=K:=by omega
 have i2:(K:Int)<=255:=by omega
 have i3:¬ (K:Int)<1:=by omega
 obtain⟨NN,aq⟩:∃x,x=K*c:=⟨_,rfl⟩
 have q2:NN<=255*255:=by rw[aq];exact Nat.mul_le_mul l2 c2
 have S0:=Zka (Z1G w (.int .i64 r) (.int .i64 c) (.slice (some ⟨ga,oa,none⟩) n cap))
 have HX:=Zka hm
 have HN:=Zka hn
 have HK:=Zka hK
 have aj:=Zka aq
 have HA:=Zka ha
 have HL:=Zka hL
 obtain⟨P,hP⟩:∃P:Nat->Nat->BitVec 8,P=fun i j=>A (L.getD i 0).toNat j:=⟨_,rfl⟩
 have HP:=Zka hP
 clear hm hn hK aq ha hL hP
 go_enter func160,ntmps160
 go_wp2_with (first
  |(go_at_call 223;have h9:=S0.out;clear S0;refine(QQ r c n _ cap _ (by unfold maxLen;omega)).mono ?_;rintro e w1 ⟨rfl,hb⟩;rw[HX.out];have hm:=h9.after hb;obtain⟨x0,x1,x2⟩:=Zd hm.one;have S1:=Zka hm;clear h9 hb hm)
  |(go_at_call 225;have h9:=S1.out;clear S1;refine(Z0R K c _ (by omega) (by omega)).mono ?_;rintro e w2 ⟨g,rfl,hg,af,hb⟩;unfold Xh;rw[<-aj.out] at af⊢;have bh:w.heap.size<=g:=Zk1 h9.bel.size hg;have hm:=h9.after hb;have hz:=hm.bel.size;have S2:=Zka (Zkb hm af);clear h9 hb hm hg af))
 have S3:Hid (Z1C w w.heap.size (w.heap.size+1) w2.heap.size g ga oa r c NN A [.int .i64 r,.int .i64 c,.slice (some ⟨ga,oa,none⟩) n cap] [.int .i64 K,.int .i64 c,.slice (some ⟨g,0,none⟩) NN NN] (upF c P (0*c)) (w2.alloc (.cells #[.int .i64 K,.int .i64 c,.slice (some ⟨g,0,none⟩) NN NN] 250))):=by
  obtain⟨hm,af⟩:=S2.out
  have bf:Below w2.heap.size w2 (w2.alloc (.cells #[.int .i64 K,.int .i64 c,.slice (some ⟨g,0,none⟩) NN NN] 250)):=Zk9.alloc Zk8 _
  have hk:=hm.after bf
  refine Zka ⟨hk.one,hk.res,Row.new _ _ _,?_,fun i j hi hj=> ?_,hk.bel⟩
  ·rw[Nat.zero_mul,<-Z6l];exact af.fr (Fr.of_below (L:=[]) bf) (by simp)
  ·exact(hk.bel.cell (p:=⟨ga,oa+i*c+j,none⟩) b9).trans (HA.out i j hi hj)
 clear S2 HA
 go_loopw [31] (fun i wr=>∃k:Nat,k<=K/\i=.int .i64 k/\(∀i,i<k->0<=L.getD i 0/\L.getD i 0<r)/\Z1C w w.heap.size (w.heap.size+1) w2.heap.size g ga oa r c NN A [.int .i64 r,.int .i64 c,.slice (some ⟨ga,oa,none⟩) n cap] [.int .i64 K,.int .i64 c,.slice (some ⟨g,0,none⟩) NN NN] (upF c P (k*c)) wr) (fun i _=>K- (intOf i).toNat)
 case atStart=>exact⟨0,by omega,rfl,fun i h=>by omega,S3.out⟩
 case round=>
  clear S3
  obtain⟨k,hk,rfl,ah,hs⟩:=hrel
  have ag:=Zka ah
  clear ah
  by_cases ax:k<K
  ·have cl:World.cell? wr ⟨lg,lo+k,none⟩=some (.int .i64 (L.getD k 0)):=(hs.bel.cell (p:=⟨lg,lo+k,none⟩) al).trans (HL.out k ax)
   obtain⟨x,hx⟩:∃x,x=L.getD k 0:=⟨_,rfl⟩
   rw[<-hx] at cl
   obtain⟨u0,u1,u2⟩:=Zd hs.one
   by_cases ae:0<=x/\x<r
   ·obtain⟨y,rfl⟩:∃y:Nat,x=(y:Int):=⟨x.toNat,by omega⟩
    have hy:y<r:=by omega
    obtain⟨x0,x1,x2⟩:=Zd hs.box
    have ak:=Zka hx
    have S4:=Zka hs
    clear hs hx ae
    go_wp2_with fail
    go_region_held3 (fun w'=>(w'.cell? ⟨w2.heap.size,0,none⟩=some (.int .i64 K)/\w'.cell? ⟨w2.heap.size,1,none⟩=some (.int .i64 c)/\w'.cell? ⟨w2.heap.size,2,none⟩=some (.slice (some ⟨g,0,none⟩) NN NN))/\(w'.cell? ⟨w.heap.size,0,none⟩=some (.int .i64 r)/\w'.cell? ⟨w.heap.size,1,none⟩=some (.int .i64 c)/\w'.cell? ⟨w.heap.size,2,none⟩=some (.slice (some ⟨ga,oa,none⟩) n cap))) (first|exact⟨by assumption,by assumption⟩|exact⟨⟨x0,x1,x2⟩,u0,u1,u2⟩)
     (first
     |(go_at_call 226;have h9:=S4.out;clear S4;refine(ZU K c k g NN NN _ ax (by omega) (by omega) (by omega) aj.out Zk8 (by omega)).mono ?_;rintro e w6 ⟨q,bj,cr,rfl,hb⟩;have hm:=(h9.after Zk9.drew).after hb;have bm:=Zd hm.box;have bq:=Zd hm.one;have S5:=Zka hm;have HQ:=Zka bj;clear h9 hb hm bj)
     |(go_at_call 226;have h9:=S5.out;clear S5;refine(Z5g r c y ga oa n cap _ hy (by omega) (by omega) (by omega) HN.out aw ai).mono ?_;rintro e w7 ⟨rfl,hb⟩;have hm:=h9.after hb;have bu:=Zd hm.box;have bz:=Zd hm.one;have S6:=Zka hm;clear h9 hb hm)
     |(refine JR (by rfl) (.tmp 48) (.tmp 51) 75 75 (by rfl) 5 underlying75 Xx g q c (NN-q) ga (oa+y*c) c (cap-y*c) c NN (by rfl) (by rfl) 5 (upF c P (k*c)) (P k) S6.out.row (Nat.min_self c).symm (by omega) (fun j hj=>by rw[S6.out.src y j hy hj,HP.out];simp only[<-ak.out,Int.toNat_natCast]) ?_;intro w8 ay bg;rw[HQ.out,ZbH c P k c1] at ay;have h9:=S6.out;clear S6;have hm:=h9.lay ay bg bh b9;have cj:=Zd hm.box;have cn:=Zd hm.one;have S7:=Zka hm;clear h9 ay bg hm))
    go_wp2
    go_roundw
    case measure=>simp[intOf];omega
    case rel=>
     refine⟨k+1,by omega,by go_num,fun i hi=> ?_,S7.out⟩
     by_cases e:i=k
     ·rw[e,<-ak.out];omega
     ·exact ag.out i (by omega)
   ·have au:x<0∨(¬x<0/\(r:Int)<=x):=by omega
    have ak:=Zka hx
    have HG:=Zka ae
    have S4:=Zka hs
    clear hs hx ae
    rcases au with h5|⟨h5,h6⟩
    all_goals
     go_wp2_with (go_at_call 224;have h9:=S4.out;clear S4;refine(Yb 1 (by decide) _).mono ?_;rintro e w6 ⟨ev,rfl,he,hb⟩;have hm:=h9.after hb;obtain⟨z0,z1,z2⟩:=Zd hm.res;obtain⟨f0,f1,f2⟩:=Xk hm.res;have S5:=Zka (Zkb hm (Zkb he h9.res.lt));clear h9 hb hm he)
     have hy:=Qy (a:=.int .i64 0) (b:=.int .i64 0) (c:=.slice none 0 0) S5.out.1.res
     obtain⟨y0,y1,y2⟩:=Zd hy
     exact bodyPost_ret (v:=.tuple #[.agg #[.int .i64 0,.int .i64 0,.slice none 0 0],ev]) (by simp[results,Tryz.results160,go_sem,y0,y1,y2]) rfl ⟨Or.inl ⟨⟨k,by rw[<-HK.out];exact ax,by rw[<-ak.out];exact HG.out⟩,ev,rfl,(WQ S5.out.2.1 S5.out.2.2).mono (by have:=S5.out.2.2;omega)⟩,Qd S5.out.1.bel (by omega)⟩
  ·obtain rfl:k=K:=by omega
   obtain⟨x0,x1,x2⟩:=Zd hs.box
   obtain⟨t0,t1,t2⟩:=Zd hs.res
   obtain⟨f0,f1,f2⟩:=Xk hs.res
   have S4:=Zka hs
   clear hs
   go_wp2
   have hy:=Qy (a:=.int .i64 k) (b:=.int .i64 c) (c:=.slice (some ⟨g,0,none⟩) NN NN) S4.out.res
   obtain⟨y0,y1,y2⟩:=Zd hy
   exact bodyPost_ret (v:=.tuple #[.agg #[.int .i64 k,.int .i64 c,.slice (some ⟨g,0,none⟩) NN NN],.nilIface]) (by simp[results,Tryz.results160,go_sem,y0,y1,y2]) rfl ⟨Or.inr ⟨by rw[<-HK.out];exact ag.out,g,by unfold Xh;rw[<-HK.out,<-aj.out],bh,by
    have h9:=S4.out.row
    rw[aj.out,Z6k,HP.out,HK.out] at h9
    exact h9.fr ((((Fr.refl [w.heap.size+1] wr).setCell (Or.inl (by simp)) _).setCell (Or.inl (by simp)) _).setCell (Or.inl (by simp)) _) (by simp only[ZjD];exact fun e=>S4.out.res.ne S4.out.row.row (by decide) e.symm)⟩,Qd S4.out.bel (by omega)⟩
def Z7q(r:Nat)(A B:Nat->Nat->BitVec 8)(i j:Nat):BitVec 8:=if i<r then A i j else B (i-r) j
theorem ZgM(r s c:Nat)(A B:Nat->Nat->BitVec 8)(hc:1<=c):tab ((r+s)*c) (Xg (Xg (fun _=>0#8) 0 (r*c) (tb c A)) (r*c) (s*c) (tb c B))=(mat (r+s) c (Z7q r A B)).cells:=by
 rw[Z23]
 refine Wc fun j hj=> ?_
 rw[Nat.add_mul] at hj
 unfold Xg tb Z7q
 by_cases h:j<r*c
 ·rw[if_neg (by omega),if_pos ⟨by omega,by omega⟩,Nat.sub_zero,if_pos (Z1Z h)]
 ·rw[if_pos ⟨by omega,by omega⟩]
  obtain⟨m,rfl⟩:∃m,j=r*c+m:=⟨j-r*c,by omega⟩
  have ae:0<c:=by omega
  have e1:(r*c+m) / c=r+m / c:=by rw[Nat.mul_comm,Nat.mul_add_div ae]
  have e2:(r*c+m)%c=m%c:=by rw[Nat.mul_comm,Nat.mul_add_mod]
  rw[show r*c+m-r*c=m from by omega,e1,e2,if_neg (by have:=Nat.le_add_right r (m / c);exact Nat.not_lt.2 this),Nat.add_sub_cancel_left]
structure ZbM(w0:World)(b0 b1 b2 bx g N:Nat)(LA LB LX:List Value)(f:Nat->BitVec 8)(w:World):Prop where
 m3:M3 w0 b0 b1 b2 LA LB w
 box:Row w bx 250 LX
 row:ZC w g 5 (Za (tab N f))
theorem ZbM.lay{w0 w w':World}{b0 b1 b2 bx g N:Nat}{LA LB LX:List Value}{f f':Nat->BitVec 8}(h:ZbM w0 b0 b1 b2 bx g N LA LB LX f w)(hr:ZC w' g 5 (Za (tab N f')))(hf:Fr [g] w w')(hg:w0.heap.size<=g):ZbM w0 b0 b1 b2 bx g N LA LB LX f' w':=by
 have h0:b0∉[g]:=by simp only[ZjD];exact h.m3.one.ne h.row.row (by decide)
 have h1:b1∉[g]:=by simp only[ZjD];exact h.m3.two.ne h.row.row (by decide)
 have h2:b2∉[g]:=by simp only[ZjD];exact h.m3.res.ne h.row.row (by decide)
 have h3:bx∉[g]:=by simp only[ZjD];exact h.box.ne h.row.row (by decide)
 exact⟨⟨h.m3.one.fr hf h0,h.m3.two.fr hf h1,h.m3.res.fr hf h2,h.m3.bel.trans (hf.below h.m3.bel.size (fun i hi=>by simp only[ZjD] at hi;omega)),h.m3.le⟩,h.box.fr hf h3,hr⟩
theorem ZgN(r s c ga oa gb ob an bn ae af:Nat)(A B:Nat->Nat->BitVec 8)(w:World)(a1:1<=r)(c1:1<=c)(c2:c<=255)(b1:1<=s)(cn:r+s<=255)(aj:an=r*c)(ah:bn=s*c)(ha:Qu w ga oa r c A)(hb:Qu w gb ob s c B):
  Calls prog 222 #[.agg #[.int .i64 r,.int .i64 c,.slice (some ⟨ga,oa,none⟩) an ae],.agg #[.int .i64 s,.int .i64 c,.slice (some ⟨gb,ob,none⟩) bn af]] w fun e w'=>∃g,e=.returned (.tuple #[Xh (r+s) c g,.nilIface])/\w.heap.size<=g/\ZC w' g 5 (Za (mat (r+s) c (Z7q r A B)).cells)/\Below w.heap.size w w':=by
 have q1:an<=255*255:=by rw[aj];exact Nat.mul_le_mul (by omega) c2
 have q2:bn<=255*255:=by rw[ah];exact Nat.mul_le_mul (by omega) c2
 have q3:0<bn:=by rw[ah];exact Nat.mul_pos (by omega) (by omega)
 obtain⟨R,hR⟩:∃R,R=r+s:=⟨_,rfl⟩
 obtain⟨NN,ak⟩:∃x,x=R*c:=⟨_,rfl⟩
 have ai:NN=an+bn:=by rw[ak,hR,Nat.add_mul,<-aj,<-ah]
 have bm:ga<w.heap.size:=QD (ha 0 0 (by omega) (by omega))
 have bq:gb<w.heap.size:=QD (hb 0 0 (by omega) (by omega))
 have S0:=Zka (Z67 w (.int .i64 r) (.int .i64 c) (.slice (some ⟨ga,oa,none⟩) an ae) (.int .i64 s) (.int .i64 c) (.slice (some ⟨gb,ob,none⟩) bn af))
 have HX:=Zka (Jj a1 (by omega) c1 c2 aj)
 have bj:=Zka (Jj b1 (by omega) c1 c2 ah)
 have i0:(r:Int)+(s:Int)<=255:=by omega
 have e0:(r:Int)+(s:Int)=(R:Int):=by rw[hR];omega
 have i1:(R:Int)<=255:=by omega
 unfold Xh
 rw[<-hR]
 rw[<-ak]
 have az:NN-an=bn:=by omega
 have HD:=Zka az
 have j1:an<NN:=by omega
 have j3:an<=NN:=by omega
 have j4:¬NN=an:=by omega
 have j2:NN<=255*255+255*255:=by omega
 have HR:=Zka hR
 have ay:=Zka ak
 have al:=Zka ai
 have aw:=Zka aj
 have ax:=Zka ah
 have HA:=Zka ha
 have HB:=Zka hb
 clear hR ak ai aj ah ha hb az
 go_enter func222,ntmps222
 go_wp2_with (first
  |(go_at_call 223;have h9:=S0.out;clear S0;refine(QQ _ _ an _ ae _ (by unfold maxLen;omega)).mono ?_;rintro e w1 ⟨rfl,hb⟩;rw[HX.out];have hm:=h9.after hb;obtain⟨x0,x1,x2⟩:=Zd hm.two;have S1:=Zka hm;clear h9 hb hm)
  |(go_at_call 223;have h9:=S1.out;clear S1;refine(QQ _ _ bn _ af _ (by unfold maxLen;omega)).mono ?_;rintro e w1 ⟨rfl,hb⟩;rw[bj.out];have hm:=h9.after hb;obtain⟨u0,u1,u2⟩:=Zd hm.one;obtain⟨t0,t1,t2⟩:=Zd hm.two;have S2:=Zka hm;clear h9 hb hm)
  |(go_at_call 225;have h9:=S2.out;clear S2;refine(Z0R R c _ (by omega) (by omega)).mono ?_;rintro e w3 ⟨g,rfl,hg,ag,hb⟩;unfold Xh;rw[<-ay.out] at ag⊢;have au:w.heap.size<=g:=Zk1 h9.bel.size hg;have aq:Below w3.heap.size w3 (w3.alloc (.cells #[.int .i64 R,.int .i64 c,.slice (some ⟨g,0,none⟩) NN NN] 250)):=Zk9.alloc Zk8 _;have hm:=(h9.after hb).after aq;obtain⟨v0,v1,v2⟩:=Zd hm.one;have S3:Hid (ZbM w w.heap.size (w.heap.size+1) (w.heap.size+1+1) w3.heap.size g NN [.int .i64 r,.int .i64 c,.slice (some ⟨ga,oa,none⟩) an ae] [.int .i64 s,.int .i64 c,.slice (some ⟨gb,ob,none⟩) bn af] [.int .i64 R,.int .i64 c,.slice (some ⟨g,0,none⟩) NN NN] (fun _=>0#8) _):=Zka ⟨hm,Row.new w3 _ [.int .i64 R,.int .i64 c,.slice (some ⟨g,0,none⟩) NN NN],ag.fr (Fr.of_below (L:=[]) aq) (by simp)⟩;clear h9 hb hm hg ag aq)
  |(have h9:=S3.out;clear S3;refine Z6V rfl (.tmp 41) (.tmp 43) 75 75 rfl 5 underlying75 Xx g 0 NN NN ga oa an ae an NN rfl rfl 5 (fun _=>0#8) (tb c A) h9.row (Nat.min_eq_left (by omega)).symm (by omega) (fun j hj=>(h9.m3.bel.cell (p:=⟨ga,oa+j,none⟩) bm).trans (HA.out.flat c1 j (by rw[<-aw.out];exact hj))) ?_;intro w4 bg b9;have hm:=h9.lay bg b9 au;obtain⟨p0,p1,p2⟩:=Zd hm.box;obtain⟨n0,n1,n2⟩:=Zd hm.m3.one;obtain⟨o0,o1,o2⟩:=Zd hm.m3.two;have S4:=Zka hm;clear h9 bg b9 hm))
 go_region_held3 (fun w'=>w'.cell? ⟨w3.heap.size,2,none⟩=some (.slice (some ⟨g,0,none⟩) NN NN)/\w'.cell? ⟨w.heap.size,2,none⟩=some (.slice (some ⟨ga,oa,none⟩) an ae)/\w'.cell? ⟨w.heap.size+1,2,none⟩=some (.slice (some ⟨gb,ob,none⟩) bn af)) (first|exact⟨p2,n2,o2⟩|exact⟨bu.2.2,bz.2.2,cj.2.2⟩)
  (first
  |(refine JR (by rfl) (.tmp 50) (.tmp 52) 75 75 (by rfl) 5 underlying75 Xx g an (NN-an) (NN-an) gb ob bn af bn NN (by rfl) (by rfl) 5 (Xg (fun _=>0#8) 0 an (tb c A)) (tb c B) (S4.out.row.fr ((Fr.refl [] _).drew) (by simp)) (by rw[HD.out];exact(Nat.min_self bn).symm) (by have:=al.out;omega) (fun j hj=>(S4.out.m3.bel.cell (p:=⟨gb,ob+j,none⟩) bq).trans (HB.out.flat c1 j (by rw[<-ax.out];exact hj))) ?_;intro w5 bh bf;have h9:=S4.out;clear S4;have hm:=h9.lay bh (((Fr.refl [g] w4).drew).trans bf (fun i hi _=>hi)) au;have bu:=Zd hm.box;have bz:=Zd hm.m3.one;have cj:=Zd hm.m3.two;obtain⟨e3,e4,e5⟩:=Zd hm.m3.res;obtain⟨f0,f1,f2⟩:=Xk hm.m3.res;have S5:=Zka hm;clear h9 bh bf hm))
 go_wp2
 have hy:=Qy (a:=.int .i64 R) (b:=.int .i64 c) (c:=.slice (some ⟨g,0,none⟩) NN NN) S5.out.m3.res
 obtain⟨y0,y1,y2⟩:=Zd hy
 exact bodyPost_ret (v:=.tuple #[.agg #[.int .i64 R,.int .i64 c,.slice (some ⟨g,0,none⟩) NN NN],.nilIface]) (by simp[results,Tryz.results222,go_sem,y0,y1,y2]) rfl ⟨g,rfl,au,by
  have h9:=S5.out.row
  rw[ay.out,HR.out,aw.out,ax.out,ZgM r s c A B c1,<-HR.out] at h9
  exact h9.fr ((((Fr.refl [w.heap.size+1+1] w5).setCell (Or.inl (by simp)) _).setCell (Or.inl (by simp)) _).setCell (Or.inl (by simp)) _) (by simp only[ZjD];exact fun e=>S5.out.m3.res.ne S5.out.row.row (by decide) e.symm),Qd S5.out.m3.bel (by omega)⟩
end
section
open Go.RowKit
variable{v:Value}{w:World}{xs:List Value}
def YQ(x:Nat->BitVec 8)(cols:List ByteArray)(len:Nat):Nat->List UInt8
 |0=>List.replicate len 0
 |k+1=>scl (x k) (YQ x cols len k) (cols.getD k ⟨#[]⟩).data.toList
def YA(x:Nat->BitVec 8)(cols:List ByteArray)(len k:Nat):ByteArray:=⟨(YQ x cols len k).toArray⟩
theorem Z2L(x:Nat->BitVec 8)(cols:List ByteArray)(len:Nat)(h:∀i,i<cols.length->(cols.getD i ⟨#[]⟩).size=len)(k:Nat)(hk:k<=cols.length):(YQ x cols len k).length=len:=by
 induction k with
 |zero=>simp[YQ]
 |succ k ih=>
  have h1:=ih (by omega)
  have h2:=h k (by omega)
  rw[YQ,Z3x _ _ _ (by rw[h1,<-h2];simp),h1]
theorem Z10(x:Nat->BitVec 8)(cols:List ByteArray)(len:Nat)(h:∀i,i<cols.length->(cols.getD i ⟨#[]⟩).size=len)(k:Nat)(hk:k<=cols.length):(YA x cols len k).size=len:=by
 show(YQ x cols len k).toArray.size=len
 rw[List.size_toArray,Z2L x cols len h k hk]
def WH(A:Nat->Nat->BitVec 8)(cols:List ByteArray)(len c r:Nat):List Value:=(List.range r).map fun i=>.string (YA (A i) cols len c)
theorem Z8c(A:Nat->Nat->BitVec 8)(cols:List ByteArray)(len c k:Nat):WH A cols len c (k+1)=WH A cols len c k++[.string (YA (A k) cols len c)]:=by
 unfold WH;rw[List.range_succ,ZjZ];rfl
theorem XK:(prog.info? 9).map (fun i=>(i.zero,i.size,i.bytes))=some (some (.string ⟨#[]⟩),1,16):=by kernel_rfl
theorem Xa{base:Nat}{e:TypeId}{n:Nat}{s:Nat}(h:w.ownsRow base e s v n xs){g:Nat}(hg:v.ownBlock=some g):base<=g:=by
 rcases h.2 with ⟨hv,_⟩|⟨g',cap,cur,hv,hb,_⟩
 ·rw[hv] at hg;cases hg
 ·rw[hv] at hg
  simp only[Value.ownBlock,ZjJ] at hg
  omega
theorem Z9w{wr w7:World}{i:Nat}{o:Obj}{b:Nat}{T:TypeId}{L:List Value}(h1:wr.ownsRow w.heap.size 9 1 v i xs)(h2:Row wr b T L)(h3:Below w.heap.size w wr)(hg:(wr.alloc o).grownBy w7 v.ownBlock)(hT:T≠9):Row w7 b T L/\Below w.heap.size w w7:=by
 have hf:Fr [] wr (wr.alloc o):=(Fr.refl _ _).alloc _
 have ae:Fr (match v.ownBlock with|some g=>[g]|none=>[]) wr w7:=(hf.mono (fun i hi _=>by simp at hi)).grown hg (fun g hg=>Or.inl (by rw[hg];simp))
 refine⟨h2.fr ae (fun hm=> ?_),h3.trans (ae.below h3.size (fun g hm=> ?_))⟩
 ·cases hv:v.ownBlock with
  |none=>rw[hv] at hm;simp at hm
  |some g=>
   rw[hv] at hm
   simp only[ZjD] at hm
   exact Row.ne_own h2 h1 hT (by rw[hv,hm])
 ·cases hv:v.ownBlock with
  |none=>rw[hv] at hm;simp at hm
  |some g'=>
   rw[hv] at hm
   simp only[ZjD] at hm
   rw[hm];exact Xa h1 hv
def ZiG(w:World)(r c:Nat)(A:Nat->Nat->BitVec 8)(cols:List ByteArray)(e:Ending)(w':World):Prop:=
 (((∃i,i<cols.length/\(cols.getD i ⟨#[]⟩).size≠(cols.getD 0 ⟨#[]⟩).size)/\∃ev,e=.returned (.tuple #[.slice none 0 0,ev])/\Qb w.heap.size w' ev 19)∨((∀i,i<cols.length->(cols.getD i ⟨#[]⟩).size=(cols.getD 0 ⟨#[]⟩).size)/\∃v,e=.returned (.tuple #[v,.nilIface])/\w'.ownsRow w.heap.size 9 1 v r (WH A cols (cols.getD 0 ⟨#[]⟩).size c r)))/\Below w.heap.size w w'
theorem Z32(r c ga oa n cap lg lo cz:Nat)(A:Nat->Nat->BitVec 8)(cols:List ByteArray)(w:World)(r1:1<=r)(r2:r<=255)(c1:1<=c)(c2:c<=255)(hn:n=r*c)(cr:n<=cap)(bg:cap<=9223372036854775807)(hlen:cols.length=c)(cw:∀i,i<cols.length->(cols.getD i ⟨#[]⟩).size<=100000)
  (ha:Qu w ga oa r c A) (hL:∀j,j<cols.length->w.cell? ⟨lg,lo+j,none⟩=some (.string (cols.getD j ⟨#[]⟩))):
  Calls prog 162 #[.agg #[.int .i64 r,.int .i64 c,.slice (some ⟨ga,oa,none⟩) n cap],.slice (some ⟨lg,lo,none⟩) c cz] w fun e w'=>ZiG w r c A cols e w':=by
 have hm:=Jj r1 r2 c1 c2 hn
 have q1:n<=255*255:=by rw[hn];exact Nat.mul_le_mul r2 c2
 have ai:lg<w.heap.size:=QD (hL 0 (by omega))
 have ef:ga<w.heap.size:=QD (ha 0 0 (by omega) (by omega))
 have dm:Below w.heap.size w (w.alloc (.cells #[.int .i64 r,.int .i64 c,.slice (some ⟨ga,oa,none⟩) n cap] 250)):=Zk9.alloc Zk8 _
 have S0:=Zka (Zkb (Row.new w 250 [.int .i64 r,.int .i64 c,.slice (some ⟨ga,oa,none⟩) n cap]) dm)
 obtain⟨t0,cy⟩:∃t,t=cols.getD 0 ⟨#[]⟩:=⟨_,rfl⟩
 have HX:=Zka hm
 have HN:=Zka hn
 have HA:=Zka ha
 have HL:=Zka hL
 have af:=Zka hlen
 have az:=Zka cy
 have ee:=Zka cw
 have i1:(c:Int)<=255:=by omega
 have bz:t0.size<=100000:=by rw[cy];exact cw 0 (by omega)
 clear hm hn ha hL hlen cy dm cw
 go_enter func162,ntmps162
 go_wp2_with (go_at_call 223;have h9:=S0.out;clear S0;refine(QQ r c n _ cap _ (by unfold maxLen;omega)).mono ?_;rintro e w1 ⟨rfl,hb⟩;rw[HX.out];obtain⟨x0,x1,x2⟩:=Zd (h9.1.after hb);have S1:=Zka (Zkb (h9.1.after hb) (h9.2.trans (hb.mono (by simp))));clear h9 hb)
 go_loop [25] (fun i=>∃k:Nat,k<=c/\i=.int .i64 k/\∀i,i<k->(cols.getD i ⟨#[]⟩).size=t0.size) (fun i=>c- (intOf i).toNat)
 case atStart=>exact⟨0,by omega,rfl,fun i h=>by omega⟩
 case round=>
  obtain⟨k,hk,rfl,b9⟩:=hrel
  have aq:=Zka b9
  clear b9
  have cj:World.cell? w1 ⟨lg,lo,none⟩=some (.string t0):=(S1.out.2.cell (p:=⟨lg,lo,none⟩) ai).trans (by have:=HL.out 0 (by rw[af.out];omega);rw[Nat.add_zero] at this;rw[this,az.out])
  by_cases ct:k<c
  ·obtain⟨t,ht⟩:∃t,t=cols.getD k ⟨#[]⟩:=⟨_,rfl⟩
   have cl:World.cell? w1 ⟨lg,lo+k,none⟩=some (.string t):=(S1.out.2.cell (p:=⟨lg,lo+k,none⟩) ai).trans (by rw[HL.out k (by rw[af.out];exact ct),ht])
   have ey:t.size<=100000:=by rw[ht];exact ee.out k (by rw[af.out];exact ct)
   have df:=Zka ht
   clear ht
   by_cases hs:t.size=t0.size
   ·have hb:((t.size:Int) !=(t0.size:Int))=false:=by simp[hs]
    have HS:=Zka hs
    clear hs
    go_wp2
    go_round
    case measure=>simp[intOf];omega
    case rel=>
     refine⟨k+1,by omega,by go_num,fun i hi=> ?_⟩
     by_cases e:i=k
     ·rw[e,<-df.out];exact HS.out
     ·exact aq.out i (by omega)
   ·have hb:((t.size:Int) !=(t0.size:Int))=true:=by simp;omega
    have HS:=Zka hs
    clear hs
    go_wp2_with (go_at_call 224;have h9:=S1.out;clear S1;refine(Yb 19 (by decide) _).mono ?_;rintro e w2 ⟨ev,rfl,he,hb⟩;have S2:=Zka (Zkb (h9.2.trans (hb.mono h9.2.size)) (he.mono h9.2.size));clear h9 hb he)
    go_ret2
    exact⟨Or.inl ⟨⟨k,by rw[af.out];exact ct,by rw[<-df.out,<-az.out];exact HS.out⟩,ev,rfl,S2.out.2⟩,S2.out.1⟩
  ·obtain rfl:k=c:=by omega
   obtain⟨i0,dp,dq,dr,dt⟩:=info_parts Xw
   obtain⟨j0,eh,ek,eo,er⟩:=info_parts XK
   obtain⟨len,hlen⟩:∃len,len=t0.size:=⟨_,rfl⟩
   rw[<-hlen] at bz
   have ax:=fun W=>WD (P:=prog) 75 5 i0 underlying75 dp dq dr dt len (by omega) W
   obtain⟨Z,hZ⟩:∃Z:List UInt8,Z=List.replicate len 0:=⟨_,rfl⟩
   have dj:Z.length=len:=by rw[hZ];simp
   rw[<-hZ] at ax
   have ak:∀i,i<cols.length->(cols.getD i ⟨#[]⟩).size=len:=fun i hi=>by rw[hlen];exact aq.out i (by rw[<-af.out];exact hi)
   have ah:=Zka ak
   have HZ:=Zka hZ
   have dh:=Zka dj
   have ay:=Zka hlen
   have dw:=Zka ax
   have eu:len<=100000:=bz
   clear dp dq dr dt ak hZ dj hlen aq ax
   have S2:=Zka (Zkb S1.out.1 (Zkb S1.out.2 (World.ownsRow_nil (w:=w1) (base:=w.heap.size) (e:=9) (size:=1))))
   go_wp2
   obtain⟨wo,rfl⟩:∃wo:World,wo=w1:=⟨_,rfl⟩
   go_loopw [8,40] (fun out ii wr=>∃ (i:Nat),i<=r/\ii=.int .i64 i/\wr.ownsRow w.heap.size 9 1 out i (WH A cols len k i)/\Row wr w.heap.size 250 [.int .i64 r,.int .i64 k,.slice (some ⟨ga,oa,none⟩) n cap]/\Below w.heap.size w wr) (fun _ ii _=>r- (intOf ii).toNat)
   case atStart=>exact⟨0,by omega,rfl,S2.out.2.2,S2.out.1,S2.out.2.1⟩
   case round=>
    clear S2 S1 cj x0 x1 x2
    obtain⟨i,hi,rfl,ag,aj,ae⟩:=hrel
    by_cases bm:i<r
    ·have ew:=ae.size
     obtain⟨x0,x1,x2⟩:=Zd (aj.alloc (.cells (Z3 Z).toArray 5))
     have cj:World.cell? wr ⟨lg,lo,none⟩=some (.string t0):=(ae.cell (p:=⟨lg,lo,none⟩) ai).trans (by have:=HL.out 0 (by rw[af.out];omega);rw[Nat.add_zero] at this;rw[this,az.out])
     have ax:=dw.out wr
     rw[ay.out] at ax
     have hz:=ZC.new wr 5 (Z3 Z)
     have bh:=Qv (P:=prog) _ 75 9 5 underlying75 underlying5 underlying9 hz.row 0 t0.size t0.size Z (dh.out.trans ay.out) (by rw[List.drop_zero];exact ZjT (by rw[Zh,dh.out,ay.out];exact Zk8))
     have S3:=Zka (Zkb (ZZ ag ((Fr.refl [] wr).alloc (.cells (Z3 Z).toArray 5)) (by simp)) (Zkb (aj.alloc (.cells (Z3 Z).toArray 5)) (ae.alloc (by omega) (.cells (Z3 Z).toArray 5))))
     clear ag aj ae hz
     go_wp2_with (go_at_call 226;have h9:=S3.out;clear S3;refine(Z5g r k i ga oa n cap _ bm (by omega) (by omega) (by omega) HN.out cr bg).mono ?_;rintro e w5 ⟨rfl,hb⟩;have S4:=Zka (Zkb (ZZ h9.1 (Fr.of_below (L:=[]) hb) (by simp)) (Zkb (h9.2.1.after hb) (h9.2.2.trans (hb.mono h9.2.2.size))));clear h9 hb ax bh cj x0 x1 x2)
     obtain⟨qa,cu⟩:∃q,q=oa+i*k:=⟨_,rfl⟩
     rw[<-cu]
     have dy:=Zka cu
     clear cu
     go_loopw [10,53] (fun ss jj wr=>∃ (j:Nat),j<=k/\jj=.int .i64 j/\ss=.string (YA (A i) cols len j)/\Below w5.heap.size w5 wr) (fun _ jj _=>k- (intOf jj).toNat)
     case atStart=>exact⟨0,by omega,rfl,by rw[HZ.out];rfl,Zk9⟩
     case round=>
      obtain⟨j,hj,rfl,rfl,bf⟩:=hrel
      have ag:=ZZ S4.out.1 (Fr.of_below (L:=[]) bf) (by simp)
      have aj:=S4.out.2.1.after bf
      have ae:=S4.out.2.2.trans (bf.mono S4.out.2.2.size)
      have dc:=Zka bf
      clear bf
      by_cases au:j<k
      ·obtain⟨t,ht⟩:∃t,t=cols.getD j ⟨#[]⟩:=⟨_,rfl⟩
       have cl:World.cell? wr ⟨lg,lo+j,none⟩=some (.string t):=(ae.cell (p:=⟨lg,lo+j,none⟩) ai).trans (by rw[HL.out j (by rw[af.out];exact au),ht])
       have ca:World.cell? wr ⟨ga,qa+j,none⟩=some (.int .u8 (nv (A i j))):=by rw[dy.out];exact(ae.cell (p:=⟨ga,oa+i*k+j,none⟩) ef).trans (HA.out i j bm au)
       have aw:=Z10 (A i) cols len ah.out j (by rw[af.out];omega)
       have bu:t.size=len:=by rw[ht];exact ah.out j (by rw[af.out];exact au)
       obtain⟨u,hu⟩:∃u,u=YA (A i) cols len j:=⟨_,rfl⟩
       rw[<-hu] at aw⊢
       have de:=Zka aw
       have dz:=Zka bu
       have HU:=Zka hu
       have HT:=Zka ht
       have S5:=Zka (Zkb ag (Zkb aj ae))
       clear ag aj ae aw bu hu ht
       go_wp2_with (go_at_call 228;have h9:=S5.out;clear S5;refine(ZeF u t (nv (A i j)) _ (by rw[de.out,dz.out]) (by rw[de.out];omega) (JO _) (JN _)).mono ?_;rw[YS];rintro e w6 ⟨rfl,hb⟩;have S6:=Zka (dc.out.trans (hb.mono dc.out.size));clear h9 hb)
       go_roundw
       case measure=>simp[intOf];omega
       case rel=>
        refine⟨j+1,by omega,by go_num,?_,S6.out⟩
        rw[HU.out,HT.out]
        rfl
      ·obtain rfl:j=k:=by omega
       obtain⟨u,hu⟩:∃u,u=YA (A i) cols len j:=⟨_,rfl⟩
       rw[<-hu]
       have HU:=Zka hu
       have cn:=ae.size
       have S5:=Zka (Zkb ag (Zkb aj ae))
       clear ag aj ae hu
       go_wp2_with (at_builtin;refine wpList_append_own _ rfl (.tmp 69) (.tmp 71) 96 rfl w.heap.size 9 j0 _ 1 16 underlying96 eh ek eo er rfl (by omega) _ i (WH A cols len j i) rfl (S5.out.1.alloc _) ⟨wr.heap.size,0,none⟩ 1 1 [.string u] rfl rfl (World.news_of_block (cs:= #[.string u]) (t:=9) (fr:=(0,0)) (heap_alloc_new wr _)) (by simp[Value.oneCell']) (by unfold maxLen;omega) (by omega) (Zk1 cn (by simp)) ?_;intro v' w7 al bj bq;clear bq;have dx:=Zka al;have du:=Zka bj;clear al bj)
       go_roundw
       case measure=>simp[intOf];omega
       case rel=>
        obtain⟨h1,h2,h3⟩:=S5.out
        obtain⟨k1,k2⟩:=Z9w h1 h2 h3 du.out (by decide)
        exact⟨i+1,by omega,by go_num,by rw[Z8c,<-HU.out];exact dx.out,k1,k2⟩
    ·obtain rfl:i=r:=by omega
     have S3:=Zka (Zkb ag ae)
     clear ag aj ae
     go_wp2
     go_ret2
     exact⟨Or.inr ⟨fun i hi=>by rw[<-az.out,<-ay.out];exact ah.out i hi,_,rfl,by rw[<-az.out,<-ay.out];exact S3.out.1⟩,S3.out.2⟩
end
section
open Go.RowKit
open Go.RowKit
section
variable{w0 w w':World}{g N:Nat}{LX sp:List Value}{f f':Nat->BitVec 8}
end
theorem Qs{w:World}{base:Nat}{e:TypeId}{v:Value}{n:Nat}{xs:List Value}(h:w.ownsRow base e 1 v n xs)(hn:0<n):∃g cap sp,v=.slice (some ⟨g,0,none⟩) n cap/\base<=g/\n<=cap/\cap<=maxLen/\Row w g e (xs++sp):=by
 rcases h.2 with ⟨_,h0⟩|⟨g,cap,cur,hv,hb,hh,ae,af,ah,ag⟩
 ·omega
 ·refine⟨g,cap,cur.toList.drop (n*1),hv,hb,ae,af,Row.mk ?_⟩
  rw[<-ag,Zk4]
  simpa using hh
end
section
open Go.RowKit
variable{a:Option Addr}{base c n size:Nat}{e:TypeId}{w:World}{xs:List Value}
section
variable{P:Program}
end
theorem Zet(h:w.ownsRow base e size (.slice a n c) n xs){j:Nat}{u:Value}(hj:xs[j]? =some u):∃g,a=some ⟨g,0,none⟩/\base<=g/\w.cell? ⟨g,j,none⟩=some u:=by
 rcases h.2 with ⟨_,h0⟩|⟨g,cap,cur,hv,hb,_⟩
 ·have:=h.1
  rw[h0,Nat.zero_mul] at this
  have:=(List.getElem?_eq_some_iff.1 hj).1
  omega
 ·simp only[Value.slice.injEq,true_and] at hv
  obtain⟨rfl,rfl⟩:=hv
  exact⟨g,rfl,hb,XF h rfl hj⟩
theorem Z9x(h:w.ownsRow base e size (.slice a n c) n xs):n<=c/\c<=maxLen/\(a=none->n=0/\c=0):=by
 rcases h.2 with ⟨hv,h0⟩|⟨g,cap,cur,hv,hb,_,h1,h2,_⟩
 ·simp only[Value.slice.injEq] at hv
  obtain⟨rfl,rfl,rfl⟩:=hv
  exact⟨Zk8,Nat.zero_le _,fun _=>⟨rfl,rfl⟩⟩
 ·simp only[Value.slice.injEq,true_and] at hv
  obtain⟨rfl,rfl⟩:=hv
  exact⟨h1,h2,fun h=>by cases h⟩
end
section
open Go.RowKit
variable{a:Option Addr}{ss:List ByteArray}{w:World}
def Zw(w:World)(a:Option Addr)(ss:List ByteArray):Prop:=∀j (h:j<ss.length),∃g o,a=some ⟨g,o,none⟩/\w.cell? ⟨g,o+j,none⟩=some (.string ss[j])
theorem Zw.after{w':World}(h:Zw w a ss)(hb:Below w.heap.size w w'):Zw w' a ss:=fun j hj=>by
 obtain⟨g,o,ha,hc⟩:=h j hj
 exact⟨g,o,ha,(hb.cell (p:=⟨g,o+j,none⟩) (QD hc)).trans hc⟩
theorem Zw.open(h:Zw w a ss)(hn:0<ss.length):∃g o,a=some ⟨g,o,none⟩/\g<w.heap.size/\∀j,j<ss.length->w.cell? ⟨g,o+j,none⟩=some (.string (ss.getD j ⟨#[]⟩)):=by
 obtain⟨g,o,ha,hc⟩:=h 0 hn
 refine⟨g,o,ha,QD hc,fun j hj=> ?_⟩
 obtain⟨g',o',ha',hc'⟩:=h j hj
 rw[ha] at ha'
 simp only[ZjJ,Addr.mk.injEq] at ha'
 rw[ha'.1,ha'.2.1,hc',ZjE,ZjF hj,Option.getD_some]
def Z6(ss:List ByteArray):List Value:=ss.map .string
theorem Z6L(ss:List ByteArray)(j:Nat)(h:j<ss.length):(Z6 ss)[j]? =some (.string ss[j]):=by simp[Z6,h]
theorem Zw.own{base n c:Nat}{e:TypeId}(h:w.ownsRow base e 1 (.slice a n c) n (Z6 ss)):Zw w a ss:=fun j hj=>by
 obtain⟨g,ha,_,hc⟩:=Zet h (Z6L ss j hj)
 exact⟨g,0,ha,by rw[Nat.zero_add];exact hc⟩
end
section
open Go.RowKit
def ZT(ss:List ByteArray):List (List UInt8):=ss.map fun s=>s.data.toList
theorem WJ(ss:List ByteArray):(ZT ss).length=ss.length:=by simp[ZT]
theorem Zce(ss:List ByteArray)(k:Nat):ZT (ss.take k)=(ZT ss).take k:=by simp[ZT,List.map_take]
theorem Zcd(ss:List ByteArray)(s:ByteArray):ZT (ss++[s])=ZT ss++[s.data.toList]:=by simp[ZT]
theorem Z1l(ss:List ByteArray)(k:Nat)(h:k<ss.length):ZT (ss.take (k+1))=ZT (ss.take k)++[(ss.getD k ⟨#[]⟩).data.toList]:=by
 rw[ZjK h,Zcd,ZjE,ZjF h];rfl
theorem Z1Q(l:List UInt8):Zt [l]=4+l.length:=by simp[Zt]
theorem Z7V(l:List UInt8):We [l]=Z4 l.length++l:=by simp[We]
theorem Z9t(n:Nat)(hn:n<=4294967295)(w:World):
  Calls prog 125 #[.int .i64 (n:Int)] w fun e w'=>e=.returned (.tuple #[.string (s32 n),.nilIface])/\Below w.heap.size w w':=by
 go_enter func125,ntmps125
 go_wp2_with (go_at_call 181;refine(Jv n (by omega) _).mono ?_;rintro e w' ⟨rfl,hb⟩)
 go_ret2
 exact⟨rfl,hb⟩
theorem ZhG(g o c:Nat)(ss:List ByteArray)(w:World)(hR:Zw w (some ⟨g,o,none⟩) ss)(ak:4+Zt (ZT ss)<=60000):
  Calls prog 126 #[.slice (some ⟨g,o,none⟩) ss.length c] w fun e w'=>e=.returned (.tuple #[.string ⟨(Zv (ZT ss)).toArray⟩,.nilIface])/\Below w.heap.size w w':=by
 have ae:∀j,j<ss.length->w.cell? ⟨g,o+j,none⟩=some (.string (ss.getD j ⟨#[]⟩)):=fun j hj=>by
  obtain⟨g',o',ha,hc⟩:=hR j hj
  injection ha with ha
  injection ha with h1 h2
  subst h1;subst h2
  rw[hc,ZjE,ZjF hj];rfl
 have aj:∀j,j<ss.length->g<w.heap.size:=fun j hj=>by
  have:=ae j hj
  rcases Nat.lt_or_ge g w.heap.size with h|h
  ·exact h
  ·simp[World.cell?,Array.getElem?_eq_none h] at this
 have bq:4*ss.length<=60000:=by have:=Yv (ZT ss);rw[WJ] at this;omega
 have hle:∀j,j<ss.length->4+Zt (ZT (ss.take j))+4+(ss.getD j ⟨#[]⟩).size<=60000:=fun j hj=>by
  have h1:=Z3S (ZT ss) (j+1)
  rw[<-Zce,Z1l ss j hj,J8,Z1Q] at h1
  simp at h1
  have:(ss[j]?.getD {data:= #[]}).size=(ss.getD j ⟨#[]⟩).size:=by rw[ZjE]
  omega
 have HC:=Zka ae
 have HG:=Zka aj
 have HL:=Zka hle
 have HZ:=Zka ak
 clear ae aj hle hR ak
 go_enter func126,ntmps126
 go_wp2
 go_loop [4,6,12] (fun z s i=>∃k:Nat,k<=ss.length/\i=.int .i64 k/\z=.int .i64 ((4+Zt (ZT (ss.take k)):Nat):Int)) (fun _ _ i=>ss.length- (intOf i).toNat)
 case atStart=>exact⟨0,by omega,rfl,rfl⟩
 case round=>
  obtain⟨k,hk,rfl,rfl⟩:=hrel
  by_cases af:k<ss.length
  ·have hc:=HC.out k af
   have hl:=HL.out k af
   have hs:=Z1l ss k af
   obtain⟨t,ht⟩:∃t,ss.getD k ⟨#[]⟩=t:=⟨_,rfl⟩
   obtain⟨z,hz⟩:∃z,4+Zt (ZT (ss.take k))=z:=⟨_,rfl⟩
   rw[ht] at hc hl hs
   rw[hz] at hl⊢
   have HS:=Zka hs;clear hs
   have HT:=Zka ht;clear ht
   have bf:=Zka hz;clear hz
   go_wp2
   go_round
   case measure=>simp[intOf];omega
   case rel=>exact⟨k+1,by omega,by go_num,Xy (by rw[HS.out,J8,Z1Q];have:=bf.out;simp;omega)⟩
  ·obtain rfl:k=ss.length:=by omega
   have ax:=Bld.new w
   have al:=Zka ax;clear ax
   have cn:4*ss.length<=60000:=bq
   go_wp2_with (first
    |(go_at_call 181;refine(Jv ss.length (by omega) _).mono ?_;rintro e w1 ⟨rfl,ai⟩;have au:=al.out.after ai)
    |(go_at_call 164;refine(Z0i w.heap.size _ [] (s32 ss.length) _ au (by rw[Qa];simp) (by have:=ai.size;simp at this;omega)).mono ?_;rintro e w2 ⟨rfl,aw,ay⟩))
   have b9:Below w.heap.size w w2:=(((Below.refl _ w).alloc Zk8 _).trans (ai.mono (by simp))).trans ay
   have aq:=Zka (Zkb aw b9)
   clear au aw ai ay b9 al
   go_loopw [9,31] (fun s i wr=>∃k:Nat,k<=ss.length/\i=.int .i64 k/\Bld wr w.heap.size w.heap.size (Z4 ss.length++We (ZT (ss.take k)))/\Below w.heap.size w wr) (fun _ i _=>ss.length- (intOf i).toNat)
   case atStart=>exact⟨0,by omega,rfl,aq.out.1,aq.out.2⟩
   case round=>
    obtain⟨k,hk,rfl,hB,hw⟩:=hrel
    have ak:=hw.size
    by_cases af:k<ss.length
    ·have aj:=HG.out k af
     have hc:=(hw.cell (p:=⟨g,o+k,none⟩) aj).trans (HC.out k af)
     have hl:=HL.out k af
     have hs:=Z1l ss k af
     obtain⟨t,ht⟩:∃t,ss.getD k ⟨#[]⟩=t:=⟨_,rfl⟩
     obtain⟨q,hq⟩:∃q,Z4 ss.length++We (ZT (ss.take k))=q:=⟨_,rfl⟩
     have bu:q.length+4+t.size<=60004:=by
      rw[<-hq,<-ht];simp only[ZjI,Zq,Z0p];omega
     rw[ht] at hc hl hs
     rw[hq] at hB
     have HS:=Zka hs;clear hs
     have HT:=Zka ht;clear ht
     have HQ:=Zka hq;clear hq
     have ag:=Zka (Zkb hB hw);clear hB hw
     have tz:t.size<=60000:=by omega
     go_wp2_with (first
      |(go_at_call 181;refine(Jv t.size (by omega) _).mono ?_;rintro e w3 ⟨rfl,ah⟩;have bg:=ag.out.1.after ah;have bz:=ah.size;have T3:=Zka True.intro)
      |(go_at_call 164;have t3:=T3.out;clear T3;refine(Z0i w.heap.size _ q (s32 t.size) _ bg (by rw[Qa];omega) (by omega)).mono ?_;rintro e w4 ⟨rfl,bh,az⟩;have cj:=az.size;have T4:=Zka True.intro)
      |(go_at_call 164;have t4:=T4.out;clear T4;refine(Z0i w.heap.size _ (q++(s32 t.size).data.toList) t _ bh (by simp[Z20,Zq];omega) (by omega)).mono ?_;rintro e w5 ⟨rfl,bj,bm⟩))
     go_roundw
     case measure=>simp[intOf];omega
     case rel=>
      refine⟨k+1,by omega,by go_num,?_,?_⟩
      ·rw[HS.out,Z1R,Z7V,<-ZjL,HQ.out]
       simpa[Z20] using bj
      ·exact((ag.out.2.trans (ah.mono (by omega))).trans az).trans bm
    ·obtain rfl:k=ss.length:=by omega
     rw[Zk5] at hB
     have ag:=Zka (Zkb hB hw);clear hB hw
     go_wp2_with (go_at_call 165;refine(Z2p w.heap.size _ _ _ ag.out.1 ak).mono ?_;rintro e w3 ⟨rfl,ah⟩)
     go_ret2
     exact⟨by rw[Zv,WJ];rfl,ag.out.2.trans ah⟩
end
section
open Go.RowKit
variable{s:ByteArray}
def ZO(s:ByteArray)(p:Nat):BitVec 8:=(s.data.toList.getD p 0).toBitVec
theorem Zc5(s:ByteArray)(p:Nat)(h:p<s.data.toList.length):s.data.toList[p].toBitVec=ZO s p:=by
 unfold ZO
 rw[ZjE,ZjF h,Option.getD_some]
theorem ZdK{t:ByteArray}(h:s.size=t.size)(hb:∀p,p<s.size->ZO s p=ZO t p):s=t:=by
 have hs:s.data.toList.length=s.size:=by simp
 have ht:t.data.toList.length=t.size:=by simp
 have:s.data.toList=t.data.toList:=by
  apply List.ext_getElem (by omega)
  intro i h1 h2
  have:=hb i (by omega)
  unfold ZO at this
  rw[ZjE,ZjE,ZjF h1,ZjF h2,Option.getD_some,Option.getD_some] at this
  exact UInt8.toBitVec_inj.1 this
 have h2:s.data=t.data:=Array.toList_inj.1 this
 cases s;cases t;simp_all
theorem ZcX(x:Nat->BitVec 8)(cols:List ByteArray)(len:Nat)(h:∀i,i<cols.length->(cols.getD i ⟨#[]⟩).size=len)(k:Nat)(hk:k<=cols.length):YQ x cols len k=(List.range len).map fun p=>UInt8.ofBitVec (sm k fun j=>gm (x j) (ZO (cols.getD j ⟨#[]⟩) p)):=by
 induction k with
 |zero=>
  rw[YQ]
  apply List.ext_getElem (by simp)
  intro i h1 h2
  simp[sm]
 |succ k ih=>
  have hl:=Z2L x cols len h k (by omega)
  have h2:=h k (by omega)
  have h3:(cols.getD k ⟨#[]⟩).data.toList.length=len:=by rw[<-h2];simp
  rw[YQ]
  apply List.ext_getElem
  ·rw[Z3x _ _ _ (by rw[hl,h3]),hl];simp
  ·intro i h4 h5
   have hi:i<len:=by simpa using h5
   rw[ZbB _ _ _ _ (by rw[hl];exact hi) (by rw[h3];exact hi)]
   have e1:(YQ x cols len k)[i]'(by rw[hl];exact hi)=UInt8.ofBitVec (sm k fun j=>gm (x j) (ZO (cols.getD j ⟨#[]⟩) i)):=by
    simp only[ih (by omega)]
    simp
   have e2:((cols.getD k ⟨#[]⟩).data.toList[i]'(by rw[h3];exact hi)).toBitVec=ZO (cols.getD k ⟨#[]⟩) i:=Zc5 _ _ (by rw[h3];exact hi)
   rw[e1,e2]
   simp[sm]
theorem Jm(x:Nat->BitVec 8)(cols:List ByteArray)(len:Nat)(h:∀i,i<cols.length->(cols.getD i ⟨#[]⟩).size=len)(k:Nat)(hk:k<=cols.length)(p:Nat)(hp:p<len):ZO (YA x cols len k) p=sm k fun j=>gm (x j) (ZO (cols.getD j ⟨#[]⟩) p):=by
 show((YQ x cols len k).toArray.toList.getD p 0).toBitVec=_
 rw[List.toList_toArray,ZcX x cols len h k hk,ZjE]
 simp[hp]
def Qn(A:Nat->Nat->BitVec 8)(cols:List ByteArray)(len c r:Nat):List ByteArray:=(List.range r).map fun i=>YA (A i) cols len c
theorem QS(A:Nat->Nat->BitVec 8)(cols:List ByteArray)(len c r:Nat):(Qn A cols len c r).length=r:=by simp[Qn]
theorem XU(A:Nat->Nat->BitVec 8)(cols:List ByteArray)(len c r i:Nat)(h:i<r):(Qn A cols len c r).getD i ⟨#[]⟩=YA (A i) cols len c:=by
 rw[ZjE]
 simp[Qn,h]
theorem Z1Y(A:Nat->Nat->BitVec 8)(cols:List ByteArray)(len c r:Nat)(h:∀i,i<cols.length->(cols.getD i ⟨#[]⟩).size=len)(hc:c<=cols.length)(i:Nat)(hi:i<(Qn A cols len c r).length):((Qn A cols len c r).getD i ⟨#[]⟩).size=len:=by
 rw[QS] at hi
 rw[XU _ _ _ _ _ _ hi,Z10 _ _ _ h _ hc]
theorem Z6H{x:Nat->BitVec 8}{cols:List ByteArray}{len k:Nat}(h:∀i,i<cols.length->(cols.getD i ⟨#[]⟩).size=len)(hk:k<=cols.length)(hs:s.size=len)(hb:∀p,p<len->ZO s p=sm k fun j=>gm (x j) (ZO (cols.getD j ⟨#[]⟩) p)):s=YA x cols len k:=by
 refine ZdK (by rw[hs,Z10 x cols len h k hk]) fun p hp=> ?_
 rw[Jm x cols len h k hk p (by omega),hb p (by omega)]
theorem Z9I(A B:Nat->Nat->BitVec 8)(cols:List ByteArray)(len n m i:Nat)(h:∀i,i<cols.length->(cols.getD i ⟨#[]⟩).size=len)(hm:m<=cols.length):YA (Ys n A B i) cols len m=YA (A i) (Qn B cols len m n) len n:=by
 refine Z6H (Z1Y B cols len m n h hm) (by rw[QS];exact Zk8) (Z10 _ _ _ h _ hm) fun p hp=> ?_
 rw[Jm _ _ _ h _ hm p hp]
 have e:=Z3q n m A B (fun t p=>ZO (cols.getD t ⟨#[]⟩) p) i p
 refine e.trans (ZQ fun j hj=> ?_)
 rw[XU _ _ _ _ _ _ hj,Jm _ _ _ h _ hm p hp]
 rfl
theorem JT(A:Nat->Nat->BitVec 8)(cols:List ByteArray)(len c r:Nat):WH A cols len c r=(Qn A cols len c r).map .string:=by
 unfold WH Qn
 rw[List.map_map]
 rfl
end
section
open Go.RowKit
theorem ZbU(r c ga oa n cap ah len:Nat)(la:Option Addr)(A:Nat->Nat->BitVec 8)(cols:List ByteArray)(w:World)(r1:1<=r)(r2:r<=255)(c1:1<=c)(c2:c<=255)(hn:n=r*c)(ak:n<=cap)(af:cap<=9223372036854775807)(hlen:cols.length=c)(ai:∀i,i<cols.length->(cols.getD i ⟨#[]⟩).size=len)(hl:len<=100000)
  (ha:Qu w ga oa r c A) (hL:Zw w la cols):
  Calls prog 162 #[.agg #[.int .i64 r,.int .i64 c,.slice (some ⟨ga,oa,none⟩) n cap],.slice la c ah] w fun e w'=>∃g aj,e=.returned (.tuple #[.slice (some ⟨g,0,none⟩) r aj,.nilIface])/\Zw w' (some ⟨g,0,none⟩) (Qn A cols len c r)/\Below w.heap.size w w':=by
 obtain⟨lg,lo,rfl,_,ag⟩:=hL.open (by omega)
 refine(Z32 r c ga oa n cap lg lo ah A cols w r1 r2 c1 c2 hn ak af hlen (fun i hi=>by rw[ai i hi];exact hl) ha ag).mono ?_
 rintro e w' ⟨h|h,hb⟩
 ·obtain⟨⟨i,hi,au⟩,_⟩:=h
  exact absurd (by rw[ai i hi,ai 0 (by omega)]) au
 ·obtain⟨aq,v,rfl,ae⟩:=h
  rw[ai 0 (by omega),JT] at ae
  rcases ae.2 with ⟨_,h0⟩|⟨g2,al,cur,rfl,_⟩
  ·omega
  ·exact⟨_,_,rfl,Zw.own ae,hb⟩
theorem ZbT(r c ga oa n cap ai len:Nat)(la:Option Addr)(A:Nat->Nat->BitVec 8)(cols:List ByteArray)(w:World)(r1:1<=r)(r2:r<=255)(c1:1<=c)(c2:c<=255)(hn:n=r*c)(ak:n<=cap)(ag:cap<=9223372036854775807)(hlen:cols.length=c)(aj:∀i,i<cols.length->(cols.getD i ⟨#[]⟩).size=len)(hl:len<=100000)
  (ha:Qu w ga oa r c A) (hL:Zw w la cols):
  Calls prog 162 #[.agg #[.int .i64 r,.int .i64 c,.slice (some ⟨ga,oa,none⟩) n cap],.slice la c ai] w fun e w'=>∃g af,e=.returned (.tuple #[.slice (some ⟨g,0,none⟩) r af,.nilIface])/\(Zw w' (some ⟨g,0,none⟩) (Qn A cols len c r)/\r<=af/\af<=9223372036854775807)/\Below w.heap.size w w':=by
 obtain⟨lg,lo,rfl,_,ah⟩:=hL.open (by omega)
 refine(Z32 r c ga oa n cap lg lo ai A cols w r1 r2 c1 c2 hn ak ag hlen (fun i hi=>by rw[aj i hi];exact hl) ha ah).mono ?_
 rintro e w' ⟨h|h,hb⟩
 ·obtain⟨⟨i,hi,au⟩,_⟩:=h
  exact absurd (by rw[aj i hi,aj 0 (by omega)]) au
 ·obtain⟨aq,v,rfl,ae⟩:=h
  rw[aj 0 (by omega),JT] at ae
  rcases ae.2 with ⟨_,h0⟩|⟨g2,al,cur,rfl,_⟩
  ·omega
  ·have hc:=Z9x ae
   exact⟨_,_,rfl,⟨Zw.own ae,hc.1,Zk1 hc.2.1 (by decide)⟩,hb⟩
end
end Go.Proofs.YthppfllkocphbaaGreatDoor
