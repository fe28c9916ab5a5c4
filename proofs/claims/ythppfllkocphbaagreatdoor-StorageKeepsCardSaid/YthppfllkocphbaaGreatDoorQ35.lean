/-
  Part 36 of the proof: lemmas about what the program computes.
-/
import Derived.Test.YthppfllkocphbaaGreatDoorQ28
import Derived.Test.YthppfllkocphbaaGreatDoorQ34
namespace Go.Proofs.YthppfllkocphbaaGreatDoor
set_option linter.unusedVariables false
set_option linter.unusedSimpArgs false
set_option maxHeartbeats 25600000
set_option maxRecDepth 100000
open Tryz
section
open Go.RowKit Go.Shelf
variable{B B' n:Nat}{G:Eg}{V:Ev}{bl:List Nat}{w:World}
theorem PD.low{p d:Nat}{P:Pw}{D:Dk}{L:List Nat}(h:PD B w p d n P D L)(hB:B'<=B):PD B' w p d n P D L:=⟨h.pw,h.pok,h.dk,h.ok,Zk1 hB h.bp,fun k hk=>Zk1 hB (h.bL k hk)⟩
theorem EAt.low(h:EAt B w G V bl)(hB:B'<=B):EAt B' w G V bl:=by
 obtain⟨Ls,Os,e,hp⟩:=h
 exact⟨Ls,Os,e,hp.set,hp.mem,hp.n1,hp.n16,fun i hi=>(hp.pd i hi).low hB,hp.dap,hp.at_,hp.oap,fun i hi k hk=>Zk1 hB (hp.bO i hi k hk),Zk1 hB hp.bs⟩
theorem Qj.low{R:Rg}{hv:Value}{ha:Option Addr}{hc:Nat}{hs:ZS}(h:Qj B w R G V bl hv ha hc hs)(hB:B'<=B):Qj B' w R G V bl hv ha hc hs:=
 ⟨h.room,h.drow,h.srow,h.held,h.set.low hB,Zk1 hB h.rB,h.gn,h.kn,h.k1⟩
structure KpS(W:World)(R:Rg)(gn:Nat)(hs:ZS)(wr:World):Prop where
 at_:∃G V bl hv ha hc,Qj W.heap.size wr R G V bl hv ha hc hs/\ZW K11 (2+2*gn) R.k R.m R.n gn (Hof hs) V
 ok:HOk K11 hs
 bel:Below W.heap.size W wr
theorem ZhN{base k:Nat}{e:TypeId}{v:Value}{xs:List Value}(h:w.ownsRow base e k v n xs):∃a c,v=.slice a n c:=by
 rcases h.2 with ⟨h0,h1⟩|⟨g,cap,cur,h0,_⟩
 ·exact⟨none,0,by rw[h0,h1]⟩
 ·exact⟨_,cap,h0⟩
theorem keeps_walk(a0 a1:Int)(a2:Option Addr)(c2:Nat)(ll:List (List En))(h0: -9223372036854775808<=a0)(h1:a0<=9223372036854775807)(h2: -9223372036854775808<=a1)(h3:a1<=9223372036854775807)(W:World)(hL:Z43 W a2 ll)(ht:Ty W)(hN:ll.length<=9223372036854775807):
  Calls prog 3 #[.int .i64 a0,.int .i64 a1,.slice a2 ll.length c2] W fun e W'=>e=.returned (.bool true)/\Below W.heap.size W W':=by
 have iu:=Z2D a0 (show 0<4 by omega)
 have ix:=Z2D a1 (show 0<4 by omega)
 have ey:∀w:World,Calls prog 9 #[.int .i64 a0,.int .i64 4] w fun e w'=>e=.returned (.int .i64 (Z1J a0 4:Nat))/\w=w':=fun w=>Z38 a0 4 w h0 h1 (by omega) (by omega)
 have ez:∀w:World,Calls prog 9 #[.int .i64 a1,.int .i64 4] w fun e w'=>e=.returned (.int .i64 (Z1J a1 4:Nat))/\w=w':=fun w=>Z38 a1 4 w h2 h3 (by omega) (by omega)
 obtain⟨ck,cj⟩:∃ck,Z1J a0 4=ck:=⟨_,rfl⟩
 obtain⟨cm,cn⟩:∃cm,Z1J a1 4=cm:=⟨_,rfl⟩
 rw[cj] at iu
 rw[cn] at ix
 simp only[cj] at ey
 simp only[cn] at ez
 have dj:=ht.lt
 have bg:∀w:World,Ty w->Calls prog 8 #[.int .i64 (1+(ck:Int)),.int .i64 (cm:Int),.int .i64 800] w fun e w'=>∃R G V bl h,e=.returned (.pointer (some ⟨R.r,0,none⟩))/\Qj w.heap.size w' R G V bl (.pointer (some ⟨h,0,none⟩)) none 0 []/\ZW K11 2 R.k R.m R.n 0 (fun _=>none) V/\R.k=1+ck/\R.m=cm/\Below w.heap.size w w':=fun w hw=>by
  have h9:=Z9H w (1+ck) cm (by omega) (by omega) (by omega) hw
  rw[show((1+ck:Nat):Int)=1+(ck:Int) from by omega] at h9
  exact h9
 obtain⟨N,er⟩:∃N,ll.length=N:=⟨_,rfl⟩
 have fi:=Zka ey
 have fj:=Zka ez
 have fm:=Zka bg
 have H:=Zka (Zkb hL er)
 rw[er] at hN⊢
 clear ey ez bg hL er cj cn
 go_enter func3,ntmps3
 go_wp2_with (first
  |(go_at_call 7;refine(Zc1 _ ht).mono ?_;rintro e w1 ⟨rfl,fu⟩;have R1:=Zka fu;clear fu)
  |(go_at_call 9;have S0:=fi;clear fi;refine(S0.out _).mono ?_;rintro e w2 ⟨rfl,rfl⟩)
  |(go_at_call 9;have S1:=fj;clear fj;refine(S1.out _).mono ?_;rintro e w2 ⟨rfl,rfl⟩)
  |(go_at_call 8;have S2:=fm;clear fm;refine(S2.out _ (ht.below R1.out)).mono ?_;rintro e w3 ⟨R,G,V,bl,hh,rfl,hR,cw,hk,hm,fw⟩;have ig:=Zka (show KpS W R 0 [] w3 from⟨⟨G,V,bl,_,_,_,hR.low R1.out.size,cw⟩,HOk.nil _,R1.out.trans (fw.mono R1.out.size)⟩);clear hR cw fw))
 go_loopw [9,10] (fun gv kv wr=>∃ (t gn:Nat) (hs:ZS),t<=N/\t<=20/\kv=.int .i64 t/\gv=.int .i64 gn/\gn<=t/\KpS W R gn hs wr) (fun _ kv _=>20- (intOf kv).toNat)
 case atStart=>exact⟨0,0,[],by omega,by omega,rfl,rfl,by omega,ig.out⟩
 case round=>
  obtain⟨t,gn,hs,jd,j7,rfl,rfl,j9,hS⟩:=hrel
  obtain⟨G,V,bl,hv,ha,hc,hR,cw⟩:=hS.at_
  have bz:=hS.bel
  have dm:=hS.ok
  have ay:=ht.below bz
  by_cases dx:t<N/\t<20
  ·obtain⟨dp,iw⟩:=dx
   have jc:(t:Int)<(N:Int):=by omega
   have ib:(t:Int)<20:=by omega
   obtain⟨b,o,A,C,rfl,de,bf,ak,fq,bq⟩:=H.out.1 t (by rw[H.out.2];exact dp)
   have fy:=(bz.cell (p:=⟨b,o+t,none⟩) de).trans bf
   obtain⟨l,hl⟩:∃l,ll[t]'(by rw[H.out.2];exact dp)=l:=⟨_,rfl⟩
   rw[hl] at fy bq ak
   have dw:=Z9h wr A C l (bq.after bz) (Zk1 ak fq)
   have cr:=Zc8 l
   have cu:=Zc9 l
   have dc:=Zca l
   obtain⟨cs,gj⟩:∃cs,WI l=cs:=⟨_,rfl⟩
   obtain⟨Ln,ft⟩:∃Ln,l.length=Ln:=⟨_,rfl⟩
   rw[gj] at dw cr cu dc
   rw[ft] at dw fy
   have ir:=dm.few Z8s
   have HX:=Zka (Zkb dw (Zkb hR (Zkb cw (Zkb dm (Zkb bz (Zkb ay (Zkb cu (Zkb dc cr))))))))
   clear dw hR cw dm bz ay cu dc hS bf bq ak fq hl gj ft de cr
   by_cases dy:cs=[]
   ·go_wp2_with (go_at_call 10;refine HX.out.1.mono ?_;rintro e w4 ⟨v,rfl,aq,bu⟩;obtain⟨a4,c4,rfl⟩:=ZhN aq;rw[dy];have H4:=Zka bu;clear aq bu)
    go_roundw
    case measure=>simp[intOf];omega
    case rel=>exact⟨t+1,gn,hs,by omega,by omega,by go_num,rfl,by omega,⟨G,V,bl,hv,ha,hc,HX.out.2.1.after H4.out,HX.out.2.2.1⟩,HX.out.2.2.2.1,HX.out.2.2.2.2.1.trans (H4.out.mono HX.out.2.2.2.2.1.size)⟩
   ·have dq:0<cs.length:=List.length_pos_iff.2 dy
    obtain⟨CL,eo⟩:∃CL,cs.length=CL:=⟨_,rfl⟩
    obtain⟨ah,ct⟩:∃q,Je hs cs=q:=⟨_,rfl⟩
    have fg:=HX.out.2.2.2.1.beh HX.out.2.2.2.2.2.2.1 HX.out.2.2.2.2.2.2.2.1
    rw[ct] at fg
    have bm:=Zka (Zkb dy (Zkb eo (Zkb ct fg)))
    rw[eo] at dq
    have im:CL<=4:=by have:=HX.out.2.2.2.2.2.2.2.2;omega
    clear dy eo ct fg
    go_wp2_with (first
     |(go_at_call 10;refine HX.out.1.mono ?_;rintro e w4 ⟨v,rfl,aq,bu⟩;obtain⟨gc,ek,ic,rfl, -,df, -,au⟩:=Xi aq (by rw[bm.out.2.1];exact dq);have h4:=HX.out.2.1.after bu;have d4:=h4.room.cell (j:=4) rfl;have cz:=HX.out.2.2.2.2.2.1.below bu;have fa:=HX.out.2.2.1.commitW h4.set h4.gn cz dj (by omega) (by omega) bm.out.1 HX.out.2.2.2.2.2.2.2.2 HX.out.2.2.2.2.2.2.1 HX.out.2.2.2.2.2.2.2.1 ⟨ic,au⟩ rfl df;rw[bm.out.2.1] at fa⊢;have H4:=Zka (Zkb h4 (Zkb fa (Zkb au (Zkb cz (HX.out.2.2.2.2.1.trans (bu.mono HX.out.2.2.2.2.1.size))))));clear aq bu h4 au cz fa)
     |(go_at_call 11;refine H4.out.2.1.mono ?_;rintro e w5 ⟨l5,V5,gy,rfl,dt,cy⟩;rw[ZeU gy,<-Zh6,bm.out.2.2.1,show 2+2*gn+2=2+2*(gn+1) from by omega] at cy;have bh:=dt.row H4.out.1.set H4.out.2.2.1 (by decide);have du:=Zf.ty dt H4.out.1.set H4.out.2.2.2.1 dj;have fx:=H4.out.2.2.2.2.trans (dt.below H4.out.1.set);obtain⟨fp,h5⟩:=H4.out.1.ran dt;have ew:=Zc2 w5 R.r ha hc hs gc CL ek cs (h5.room.cell (j:=6) rfl) h5.held (by omega) (Z14.rd ⟨ic,bh⟩) bm.out.2.1.symm (by omega);rw[bm.out.2.2.1] at ew;have H5:=Zka (Zkb h5 (Zkb cy (Zkb ew (Zkb du fx))));clear gy dt cy bh du fx h5 ew)
     |(go_at_call 12;refine H5.out.2.2.1.mono ?_;rintro e w6 ⟨a6,c6,rfl,gx,eu⟩;have h6:=H5.out.1.after eu;have k6:=h6.room.cell (j:=6) rfl;have f6:=h6.room.free (j:=6) (by simp[Z8v]);have b6:Below W.heap.size w6 (w6.setCell ⟨R.r,6,none⟩ (.slice a6 ah.length c6)):=h6.below _ 6;have b7:=(H5.out.2.2.2.2.trans (eu.mono H5.out.2.2.2.2.size)).trans b6;have HQ:=Zka (Zkb (h6.tell (ha':=a6) (hc':=c6) gx) (Zkb H5.out.2.1 (Zkb bm.out.2.2.2 (Zkb b7 (ht.below b7)))));clear gx eu h6 b6 b7)
     |(go_at_call 13;refine(Z4z W.heap.size _ R G V5 fp hv a6 c6 ah _ _ HQ.out.1 HQ.out.2.1 HQ.out.2.2.1 HQ.out.2.2.2.2 dj (by omega) (by omega)).mono ?_;have ef:=HQ;clear HQ;rintro e wq ⟨G,V5,fp,hv,rfl,az,ag,b9⟩;have b8:=ef.out.2.2.2.1.trans b9;have HQ:=Zka (Zkb az (Zkb ag (Zkb ef.out.2.2.1 (Zkb b8 (ht.below b8)))));have ie:=True.intro;clear az ag b9 b8 ef))
    all_goals clear k6 f6
    all_goals first
     |(have ja:=ie)
     |generalize w6.setCell ⟨R.r,6,none⟩ (.slice a6 ah.length c6)=wq at*
    all_goals
     have al:∀x:World,(∃ae,Qj W.heap.size x R G V5 ae hv a6 c6 ah)->Below W.heap.size W x->(x.cell? ⟨R.r,4,none⟩=some (.pointer (some ⟨G.s,0,none⟩))/\x.cell? ⟨R.r,6,none⟩=some (.slice a6 ah.length c6)/\(∃ae,Qj W.heap.size x R G V5 ae hv a6 c6 ah)/\Below W.heap.size W x):=by
      rintro x ⟨ae,h9⟩ hb
      exact⟨h9.room.cell (j:=4) rfl,h9.room.cell (j:=6) rfl,⟨ae,h9⟩,hb⟩
     have hs0:=al wq.drew ⟨_,HQ.out.1.after (Zk9.drew)⟩ HQ.out.2.2.2.1.drew
     have af:∀x:World,(x.cell? ⟨R.r,4,none⟩=some (.pointer (some ⟨G.s,0,none⟩))/\x.cell? ⟨R.r,6,none⟩=some (.slice a6 ah.length c6)/\(∃ae,Qj W.heap.size x R G V5 ae hv a6 c6 ah)/\Below W.heap.size W x)->Calls prog 14 #[.pointer (some ⟨G.s,0,none⟩),.slice a6 ah.length c6] x fun e w'=>e=.returned (.bool true)/\(w'.cell? ⟨R.r,4,none⟩=some (.pointer (some ⟨G.s,0,none⟩))/\w'.cell? ⟨R.r,6,none⟩=some (.slice a6 ah.length c6)/\(∃ae,Qj W.heap.size w' R G V5 ae hv a6 c6 ah)/\Below W.heap.size W w'):=by
      rintro x ⟨_,_,⟨ae,h9⟩,hb⟩
      refine(Z4r W.heap.size x G V5 ae K11 _ R.k R.m R.n (gn+1) ah a6 c6 HQ.out.2.1 HQ.out.2.2.1 h9.set h9.gn (ht.below hb) ht.lt h9.held).mono ?_
      rintro e w' ⟨rfl,hr⟩
      exact⟨rfl,al w' (h9.ran hr) (hb.trans (hr.below h9.set))⟩
     have ee:=Zka af
     clear al af
     go_region_held3 (fun x=>x.cell? ⟨R.r,4,none⟩=some (.pointer (some ⟨G.s,0,none⟩))/\x.cell? ⟨R.r,6,none⟩=some (.slice a6 ah.length c6)/\(∃ae,Qj W.heap.size x R G V5 ae hv a6 c6 ah)/\Below W.heap.size W x) (first|exact hs0|assumption)
      (first|(go_at_call 14;refine(ee.out _ (by assumption)).mono ?_;rintro e jb ⟨rfl,iy⟩))
     obtain⟨-, -,⟨fh,dz⟩,ia⟩:=iy
     have iz:=dz.room.cell (j:=4) rfl
     have dr:=dz.set.scell.cell (j:=3) rfl
     have fo:=Zka (Zkb dz ia)
     clear dz ia hs0
     rw[HQ.out.2.1.vg] at dr
     go_wp2_with (go_at_call 15;refine(Z5X G.s _ _ dr).mono ?_;rintro e w9 ⟨rfl,rfl⟩)
     go_roundw
     case measure=>simp[intOf];omega
     case rel=>exact⟨t+1,gn+1,ah,by omega,by omega,by go_num,by go_num,by omega,⟨G,V5,fh,hv,a6,c6,fo.out.1,HQ.out.2.1⟩,HQ.out.2.2.1,fo.out.2⟩
  ·have HQ:=Zka (Zkb hR (Zkb cw (Zkb dm (Zkb bz ay))))
   clear hR cw dm bz ay hS
   rcases Nat.lt_or_ge t N with h5|h5
   ·have h4:¬t<20:=fun h=>dx ⟨h5,h⟩
    have j8:decide ((t:Int)<20)=false:=by simp;omega
    have ik:(t:Int)<(N:Int):=by omega
    clear dx
    go_wp2_with (go_at_call 13;refine(Z4z W.heap.size _ R G V bl hv ha hc hs _ _ HQ.out.1 HQ.out.2.1 HQ.out.2.2.1 HQ.out.2.2.2.2 dj (by omega) (by omega)).mono ?_;rintro e w7 ⟨G7,V7,ij,aw,rfl,az,ag,b9⟩;have b8:=HQ.out.2.2.2.1.trans b9;have ai:=Zka (Zkb az (Zkb ag (Zkb HQ.out.2.2.1 (Zkb b8 (ht.below b8)))));clear az ag b9 b8)
    have al:∀x:World,(∃ae,Qj W.heap.size x R G7 V7 ae aw ha hc hs)->Below W.heap.size W x->(x.cell? ⟨R.r,4,none⟩=some (.pointer (some ⟨G7.s,0,none⟩))/\x.cell? ⟨R.r,6,none⟩=some (.slice ha hs.length hc)/\(∃ae,Qj W.heap.size x R G7 V7 ae aw ha hc hs)/\Below W.heap.size W x):=by
     rintro x ⟨ae,h9⟩ hb
     exact⟨h9.room.cell (j:=4) rfl,h9.room.cell (j:=6) rfl,⟨ae,h9⟩,hb⟩
    have hs0:=al w7.drew ⟨_,ai.out.1.after (Zk9.drew)⟩ ai.out.2.2.2.1.drew
    have af:∀x:World,(x.cell? ⟨R.r,4,none⟩=some (.pointer (some ⟨G7.s,0,none⟩))/\x.cell? ⟨R.r,6,none⟩=some (.slice ha hs.length hc)/\(∃ae,Qj W.heap.size x R G7 V7 ae aw ha hc hs)/\Below W.heap.size W x)->Calls prog 14 #[.pointer (some ⟨G7.s,0,none⟩),.slice ha hs.length hc] x fun e w'=>e=.returned (.bool true)/\(w'.cell? ⟨R.r,4,none⟩=some (.pointer (some ⟨G7.s,0,none⟩))/\w'.cell? ⟨R.r,6,none⟩=some (.slice ha hs.length hc)/\(∃ae,Qj W.heap.size w' R G7 V7 ae aw ha hc hs)/\Below W.heap.size W w'):=by
     rintro x ⟨_,_,⟨ae,h9⟩,hb⟩
     refine(Z4r W.heap.size x G7 V7 ae K11 _ R.k R.m R.n gn hs ha hc ai.out.2.1 ai.out.2.2.1 h9.set h9.gn (ht.below hb) ht.lt h9.held).mono ?_
     rintro e w' ⟨rfl,hr⟩
     exact⟨rfl,al w' (h9.ran hr) (hb.trans (hr.below h9.set))⟩
    have bj:=Zka af
    clear al af
    go_region_held3 (fun x=>x.cell? ⟨R.r,4,none⟩=some (.pointer (some ⟨G7.s,0,none⟩))/\x.cell? ⟨R.r,6,none⟩=some (.slice ha hs.length hc)/\(∃ae,Qj W.heap.size x R G7 V7 ae aw ha hc hs)/\Below W.heap.size W x) (first|exact hs0|assumption)
     (first|(go_at_call 14;refine(bj.out _ (by assumption)).mono ?_;rintro e iq ⟨rfl,fc⟩))
    obtain⟨-, -,⟨fe,ax⟩,dh⟩:=fc
    have ff:=ax.room.cell (j:=4) rfl
    have aj:=ax.set.scell.cell (j:=3) rfl
    have eh:=Zka (Zkb ax dh)
    clear ax dh hs0
    rw[ai.out.2.1.vg] at aj
    go_wp2_with (go_at_call 15;refine(Z5X G7.s _ _ aj).mono ?_;rintro e w9 ⟨rfl,rfl⟩)
    go_ret
    exact⟨rfl,eh.out.2⟩
   ·have ik:¬t<N:=by omega
    clear dx
    go_wp2_with (go_at_call 13;refine(Z4z W.heap.size _ R G V bl hv ha hc hs _ _ HQ.out.1 HQ.out.2.1 HQ.out.2.2.1 HQ.out.2.2.2.2 dj (by omega) (by omega)).mono ?_;rintro e w7 ⟨G7,V7,ij,aw,rfl,az,ag,b9⟩;have b8:=HQ.out.2.2.2.1.trans b9;have ai:=Zka (Zkb az (Zkb ag (Zkb HQ.out.2.2.1 (Zkb b8 (ht.below b8)))));clear az ag b9 b8)
    have al:∀x:World,(∃ae,Qj W.heap.size x R G7 V7 ae aw ha hc hs)->Below W.heap.size W x->(x.cell? ⟨R.r,4,none⟩=some (.pointer (some ⟨G7.s,0,none⟩))/\x.cell? ⟨R.r,6,none⟩=some (.slice ha hs.length hc)/\(∃ae,Qj W.heap.size x R G7 V7 ae aw ha hc hs)/\Below W.heap.size W x):=by
     rintro x ⟨ae,h9⟩ hb
     exact⟨h9.room.cell (j:=4) rfl,h9.room.cell (j:=6) rfl,⟨ae,h9⟩,hb⟩
    have hs0:=al w7.drew ⟨_,ai.out.1.after (Zk9.drew)⟩ ai.out.2.2.2.1.drew
    have af:∀x:World,(x.cell? ⟨R.r,4,none⟩=some (.pointer (some ⟨G7.s,0,none⟩))/\x.cell? ⟨R.r,6,none⟩=some (.slice ha hs.length hc)/\(∃ae,Qj W.heap.size x R G7 V7 ae aw ha hc hs)/\Below W.heap.size W x)->Calls prog 14 #[.pointer (some ⟨G7.s,0,none⟩),.slice ha hs.length hc] x fun e w'=>e=.returned (.bool true)/\(w'.cell? ⟨R.r,4,none⟩=some (.pointer (some ⟨G7.s,0,none⟩))/\w'.cell? ⟨R.r,6,none⟩=some (.slice ha hs.length hc)/\(∃ae,Qj W.heap.size w' R G7 V7 ae aw ha hc hs)/\Below W.heap.size W w'):=by
     rintro x ⟨_,_,⟨ae,h9⟩,hb⟩
     refine(Z4r W.heap.size x G7 V7 ae K11 _ R.k R.m R.n gn hs ha hc ai.out.2.1 ai.out.2.2.1 h9.set h9.gn (ht.below hb) ht.lt h9.held).mono ?_
     rintro e w' ⟨rfl,hr⟩
     exact⟨rfl,al w' (h9.ran hr) (hb.trans (hr.below h9.set))⟩
    have bj:=Zka af
    clear al af
    go_region_held3 (fun x=>x.cell? ⟨R.r,4,none⟩=some (.pointer (some ⟨G7.s,0,none⟩))/\x.cell? ⟨R.r,6,none⟩=some (.slice ha hs.length hc)/\(∃ae,Qj W.heap.size x R G7 V7 ae aw ha hc hs)/\Below W.heap.size W x) (first|exact hs0|assumption)
     (first|(go_at_call 14;refine(bj.out _ (by assumption)).mono ?_;rintro e iq ⟨rfl,fc⟩))
    obtain⟨-, -,⟨fe,ax⟩,dh⟩:=fc
    have ff:=ax.room.cell (j:=4) rfl
    have aj:=ax.set.scell.cell (j:=3) rfl
    have eh:=Zka (Zkb ax dh)
    clear ax dh hs0
    rw[ai.out.2.1.vg] at aj
    go_wp2_with (go_at_call 15;refine(Z5X G7.s _ _ aj).mono ?_;rintro e w9 ⟨rfl,rfl⟩)
    go_ret
    exact⟨rfl,eh.out.2⟩
end
end Go.Proofs.YthppfllkocphbaaGreatDoor
