/- Part 15: lemmas. -/
import Derived.Test.YthppfllkocphbaaGreatDoorV13
namespace Go.Proofs.YthppfllkocphbaaGreatDoor
set_option linter.all false
set_option maxHeartbeats 25600000
set_option maxRecDepth 100000
open Tryz Go.RowKit
open Go renaming World->Qs,Value->Qt,TypeId->Qu,Ending->Qv
section
open Go.Shelf
variable{B n hh hc:Nat}{P:Pw}{sv hv:Value}{w W:World}{G:Eg}{R:Rg}{V:Ev}{bl:List Nat}{ha:Option Addr}{hs:QY}{sd:Nat->Bool}
def Rn(W w:Qs)(R:Rg)(E:Nat)(o:Tn)(h:RmI W R E w)(ho:o.Ok W)(ht:Ty W)(hE:E<=900):Calls prog 21 #[R.r,.agg #[(o.kind:Int),(o.Zav:Int),(o.num:Int),(o.Zas:Int),.slice o.ea o.el.length o.ec,.slice o.ka o.kl.length o.kc,.slice o.ta o.tl.length o.tc]] w λe w'=>e=.returned true/\RmI W R (E+20) w':=by
 have⟨G,V,bl,hb,p,ha,hc,hs,sd,g,h⟩:=h;have eh:=ht.lt;have ai:=λ(x:Qs) (hR:RmI W R E x)=>hR.Zbv o ho ht Qw;obtain⟨ok,od,on,of,ea,el,ec,ka,kl,kc,ta,tl,tc⟩:=o;obtain⟨⟨z0,z1⟩,⟨d0,d1⟩,⟨n0,n1⟩,⟨f0,f1⟩,oe,ofw,okp,otn⟩:=ho;dsimp only at z0 z1 d0 d1 n0 n1 f0 f1 oe ofw okp otn ai⊢;have:=h.held.few By;have:R.n<=16:=by rw[<-h.rm.rm.gn];exact h.rm.rm.set.nle.2
 have dt:0<R.n:=by have:=h.pl;omega
 have au:=(Zu w w).alloc (Zt _) (.cells #[(ok:Int),(od:Int),(on:Int),(of:Int),.slice ea el.length ec,.slice ka kl.length kc,.slice ta tl.length tc] 56);have aw:=Z2 w 56 [.int .i64 ok,.int .i64 od,.int .i64 on,.int .i64 of,.slice ea el.length ec,.slice ka kl.length kc,.slice ta tl.length tc];have⟨EN,cw⟩:=ZK el.length;have⟨KN,cy⟩:=ZK kl.length;have⟨TN,cz⟩:=ZK tl.length;have ah:=λ(x:Qs) (hb:Below W W x)=>PV x ea ec el (oe.after hb) ofw;rw[cw] at au aw ah ai⊢;rw[cy,cz] at au aw ai⊢;have aj:Row (w.alloc (.cells #[(ok:Int),(od:Int),(on:Int),(of:Int),.slice ea EN ec,.slice ka KN kc,.slice ta TN tc] 56)) w 56 [.int .i64 ok,.int .i64 od,.int .i64 on,.int .i64 of,.slice ea EN ec,.slice ka KN kc,.slice ta TN tc]:=aw;have⟨cs,bq⟩:=ZK (JN el);rw[bq] at ah;have df:cs.length<=4/\(∀c∈cs,c.key∈K11)/\∀c∈cs,∀v,c.val=some v->v.length<=200:=by rw[<-bq];exact⟨O1 _,O2 _,O3 _⟩
 have⟨NC,az⟩:=ZK cs.length;rw[az] at ah;have⟨i,hi⟩:=ZK (J8 od R.n);have M:i<R.n:=by rw[<-hi];exact JA _ dt
 have:(i:Int)<(R.n:Int):=Qw;have bj:=λ(x:Qs)=>Af od R.n x d0 d1 dt Qw;rw[hi] at bj;have⟨nh,cj⟩:=ZK (J8 on 20);have:nh<20:=by rw[<-cj];exact JA _ Qw
 have bm:=λ(x:Qs)=>Af on 20 x n0 n1 Qw Qw;rw[cj] at bm;have H:=Q1 ht ah df az bj bm ai;have HA:=ZM (h.after au) aj;clear ht ah df az bj bm ai h au aw aj cw cy cz okp otn bq oe ofw hi cj;go_enter func21,ntmps21;go_upto_region 1 with fail;generalize w.alloc (.cells #[(ok:Int),(od:Int),(on:Int),(of:Int),.slice ea EN ec,.slice ka KN kc,.slice ta TN tc] 56)=w1 at*
 have⟨tb,dw⟩:=ZK w.heap.size;rw[dw] at HA⊢;clear dw;have t1:=HA.2.c1;have c1:=HA.1.rm.rm.room.c1;go_quiet ((go_at_call 9;exact Calls.quiet_of_same ((H.5 _).mono λe w' h=>⟨h.1,h.2.symm⟩)));have bf:=HA.1.after (YE (Zu _ w1) nq);have bg:=HA.2.after (YE (Zu _ w1) nq);generalize w1.drewN nq=wq at*
 clear t1 c1;have⟨mm,bz⟩:=ZK (CI sd R.n R.m i);have af:=Rb i bf.rm.rm M;rw[bz] at af;have t0:=bg.c0;have C:=ZY bf bg af bz;clear bf bg af bz;go_upto_block 0 with (go_at_call 54;refine C.3.mono ?_;rintro e w2 ⟨rfl,rfl⟩);have hR:=C.1;have t0:=C.2.c0;have t1:=C.2.c1;have t2:=C.2.c2;have t3:=C.2.c3;have t4:=C.2.c4;have t5:=C.2.c5;have t6:=C.2.c6;have c1:=hR.rm.rm.room.c1;have Z:=hR.rm.rm.Zby M;have dp:(V.Ds i).Zaq<=1000:=by have h9:(V.Ds i).Zaq<=(E:Int):=hR.set.ZaE.Zaq i M;omega
 have J:=ZI (hR.mono (show E<=E+20 by omega)).i;clear hR;go_cut [7,8] from 22 to 100 (λey _ wx=>ey=.bool true/\RmI W R (E+20) wx)
 case first=>
  cases mm
  all_goals
   go_wp2_with (first|(go_at_call 10;refine(H.2 _ C.1.bel).mono ?_;rintro e w5 ⟨v,rfl,cn,de⟩;obtain⟨ax,cx,rfl⟩:=Sb cn;have ak:=C.1.after de;have e4:=ak.rm.rm.room.c4;clear J;have J:=ZI (ak.mono (show E<=E+20 by omega)).i;have O:=ZM ak cn;clear cn de ak t0 t1 t2 t3 t4 t5 t6 c1 Z)|(go_at_call 26;refine(C.1.rm.kill M dp).mono ?_;rintro e w5 ⟨rfl,⟨dz,F⟩,hB5⟩;have⟨m7,eu,ew⟩:=F.ZcB M;clear J;have J:=ZI ((C.1.ZbD M C.4 (show(V.Ds i).Zaq+1<=(V.Ds i).Zaq+1 from Zff _) (PO _) F hB5).mono (show E+1<=E+20 by omega));clear F hB5 t0 t1 t2 t3 t4 t5 t6 c1 Z)|(go_at_call 23;refine(C.1.rm.ZcR M dp).mono ?_;rintro e w5 ⟨rfl,⟨dz,F⟩,hB5⟩;have⟨m7,eu,ew⟩:=F.ZcB M;clear J;have J:=ZI ((C.1.ZbD M C.4 (show(V.Ds i).Zaq+1<=(V.Ds i).Zaq+1 from Zff _) (Sw (C.1.al i M).1) F hB5).mono (show E+1<=E+20 by omega));clear F hB5 t0 t1 t2 t3 t4 t5 t6 c1 Z)|(go_at_call 55;refine(Z3L W wq R E G V bl hb p ha hc hs sd g i on C.1 M n0 n1 H.1 Qw).mono ?_;rintro e w5 ⟨rfl,F⟩;clear J;have J:=ZI (F.mono (show E<=E+20 by omega));clear F t0 t1 t2 t3 t4 t5 t6 c1 Z)|(go_at_call 24;refine(C.1.i.ZcE H.1 Qw (N:=nh) Qw).mono ?_;rintro e w5 ⟨rfl,F⟩;clear J;have J:=ZI (F.mono (show E+nh<=E+20 by omega));clear F t0 t1 t2 t3 t4 t5 t6 c1 Z)|(go_at_call 9;refine(H.6 _).mono ?_;rintro e w5 ⟨rfl,rfl⟩)|(go_at_call 56;refine(H.7 _ C.1.i).mono ?_;rintro e w5 ⟨rfl,F⟩;clear J;have J:=ZI (F.mono (show E+12<=E+20 by omega));clear F t0 t1 t2 t3 t4 t5 t6 c1 Z)|(go_at_call 13;refine(C.1.i.open H.1 Qw).mono ?_;rintro e w5 ⟨rfl,F⟩;clear J;have J:=ZI (F.mono (show E+1<=E+20 by omega));clear F t0 t1 t2 t3 t4 t5 t6 c1 Z)|(go_at_call 11;have h0:0<NC:=Qw;obtain⟨gx,ay,dy,dx, -,ee, -,cr⟩:=BE O.2 h0;obtain⟨rfl,rfl⟩:ax=some ⟨gx,0,none⟩/\cx=ay:=(by simpa using dx);refine(O.1.rm.Zb2 O.1.set O.1.gone (O.1.ty H.1) eh O.1.E1 Qw (by have:=O.1.gE;omega) (by intro e9;have h9:=H.4;rw[e9] at h9;simp at h9;omega) H.3.1 H.3.2.1 H.3.2.2 ⟨dy,cr⟩ H.4.symm ee).mono ?_;rintro e w6 ⟨ev,c,P2,D2,ez,rfl,dh, -, -, -, -,cu,dm,ae⟩;obtain⟨rfl,V6,fa,h6,h7,h8,h9⟩:=ae O.1.Zas;obtain rfl:=dh.zero;have g6:=h6.rm.room.c6;have U:=Q0 h6 h7 h8 h9 cu (dm _ _ _ Qz cr);clear h6 h7 h8 h9 cu dm ae dh cr dx e4)|(go_at_call 12;refine(NF w6 R.r ha hc hs gx NC cx cs g6 U.1.rm.held Qw (BR.rd ⟨dy,U.6⟩) H.4.symm (by have:=H.3.1;have:=H.4;omega)).mono ?_;rintro e w7 ⟨a7,ct,rfl,dj,bh⟩;have ag:=U.1.after bh;have:=ag.rm.room.c6;have:=ag.rm.room.free (j:=6) (by simp[BH]);clear J;have J:=ZI (show RmI W R (E+20) (w7.setCell ⟨R.r,6,none⟩ (.slice a7 (J6 hs cs).length ct)) from RmV.i (g:=g+1) ⟨ag.tell (hc':=ct) dj,by rw[Na];exact U.2.mono Qw,Zaa C.1.held H.3.2.1 H.3.2.2,U.3,U.4,C.1.pl,by have:=C.1.gE;omega,Qw,(O.1.bel.trans U.5).trans ((bh.mono U.1.rm.bw).trans ((Zu _ _).setCell (p:=⟨R.r,6,none⟩) ag.rm.rB _))⟩);clear ag dj bh g6))
   all_goals
    go_meet
    case rel=>exact⟨rfl,J.o⟩
 case rest=>
  obtain⟨rfl,hI⟩:=hcut;have dq:=hI.look H.1;have HL:=ZI dq;clear dq hI t0 t1 t2 t3 t4 t5 t6 c1 Z J;go_wp2_with (go_at_call 57;refine HL.o.mono ?_;rintro e w5 ⟨rfl,F⟩;have O:=ZI F;clear F);have⟨T,s,a9,N9,c9,z0,z1,z2,z3,z4⟩:=O.o.holds H.1;have bu:=z2 _ _ z0 ((Zu _ w5).drew);have hs0:=ZJ (z1 _ bu) bu;have HZ:=ZX z1 z3 z4;have⟨y4,y6⟩:=hs0.1;clear z0 z1 z2 z3 z4 bu;go_region_held3 (λx:Qs=>(x.cell? ⟨R.r,4,none⟩=s/\x.cell? ⟨R.r,6,none⟩=some (.slice a9 N9 c9))/\T x) (first|exact hs0|assumption)
   (first|(go_at_call 14;refine(HZ.3 _ (Zft (by assumption))).mono ?_;rintro e w6 ⟨rfl,aq⟩;have eo:=ZJ (HZ.1 _ aq) aq))
  have HT:=ZI aq;clear aq eo hs0 y4 y6;go_wp2;go_ret;exact⟨rfl,HZ.2 _ HT.o⟩
variable{B':Nat}
def IS(W:Qs)(a:Qm)(l:List Tn):Prop:=∀i (h:i<l.length),l[i].Ok W/\∃b o,a=some ⟨b,o,none⟩/\b<W.heap.size/\∀j v,l[i].cells[j]? =some v->W.cell? ⟨b,o+i*7+j,none⟩=some v
def PD.low{p d:Nat}{D:Dk}{L:Qj}(h:PD B w p d n P D L)(hB:B'<=B):PD B' w p d n P D L:=⟨h.pw,h.pok,h.dk,h.ok,Zq hB h.bp,λk C=>Zq hB (h.bL k C)⟩
def EAt.low(h:EAt B w G V bl)(hB:B'<=B):EAt B' w G V bl:=by have⟨Ls,Os,e,C⟩:=h;exact⟨Ls,Os,e,C.set,C.mem,C.n1,C.n16,λi hi=>(C.pd i hi).low hB,C.dap,C.at_,C.oap,λi hi k F=>Zq hB (C.bO i hi k F),Zq hB C.bs⟩
def Yr.low(h:Yr B w R G V bl sv hv ha hc hs sd)(hB:B'<=B):Yr B' w R G V bl sv hv ha hc hs sd:=⟨h.room,h.ZaY,h.Zb8,h.held,h.set.low hB,Zq hB h.rB,h.gn,h.kn,h.k1⟩
def RmI.start(C:Yr W w R G V bl (.pointer G.s) (.pointer hh) none 0 [] (λ_=>true))(h:Y1 K11 2 R.k R.m R.n 0 (λ_=>none) (λ_=>true) V)(J:W<=R.gs)(hB:W<=hh)(hl:Xb w hh G.s 0 [] false)(hb:Below W W w):RmI W R 2 w:=by
 have M:0<R.n:=by have:=C.kn;have:=C.k1;omega
 refine⟨G,V,bl,hh,(0,[],false),none,0,[],λ_=>true,0,⟨C,hl,hB,J⟩,QR.of h (λi hi hM=> ?_),HOk.nil K11,h.gone,h.Zas,M,Qw,Qw,hb⟩;obtain⟨S,F, -⟩:=h.snd i hi rfl;rw[hM] at F;cases F
open Go.ChangeShapes Go.WideShapes Go.Deep
variable{H:Type}{enc:TypeId×Value->H}
def Mp{T e:Qu}(hu:prog.underlying T=some (.slice e)){fuel:Nat}{v:Qt}{y:DataW H×List MemPlace}(h:DataW.trod enc prog W 0 (λ_=>true) true fuel T [v]=some y):∃A L C,v=.slice A L C:=by
 rcases open_slice hu h with ⟨F,_⟩|⟨x,l,c,m,n,D,J,F,_⟩
 .exact⟨none,0,0,by simpa using F⟩
 .exact⟨some x,l,c,by simpa using F⟩
def Z7N{fuel:Nat}{cs:Qk}{x:DataW H×List MemPlace}(h:DataW.trod enc prog W 0 (λ_=>true) true fuel 56 cs=some x):∃o:Tn,cs=o.cells/\o.Ok W:=by
 obtain⟨F,af,ae,hC,U⟩:∃F,prog.underlying 56=some (.struct F)/\oneCellFields prog F=true/\prog.cellsOf 56=F.size/\F.map (·.type)= #[3,3,3,3,29,45,46]:=⟨_,underlying56,Qy,Qy,Qy⟩;have⟨hl,C⟩:=ON af ae hC h;have hs:F.size=7:=by have:=ZF Array.size U;simpa using this
 rw[U] at C;rw[hs] at hl
 match cs,hl with
 |[c0,c1,c2,c3,c4,c5,c6],_=>have⟨_,_,_,e0,h0⟩:=C 0 _ rfl;have⟨_,_,_,e1,h1⟩:=C 1 _ rfl;have⟨_,_,_,e2,h2⟩:=C 2 _ rfl;have⟨_,_,_,e3,h3⟩:=C 3 _ rfl;have⟨_,_,_,e4,J⟩:=C 4 _ rfl;have⟨_,Z,n5,e5,M⟩:=C 5 _ rfl;have⟨_,y6,n6,e6,O⟩:=C 6 _ rfl;obtain rfl:c0=_:=ZdZ e0;obtain rfl:c1=_:=ZdZ e1;obtain rfl:c2=_:=ZdZ e2;obtain rfl:c3=_:=ZdZ e3;obtain rfl:c4=_:=ZdZ e4;obtain rfl:c5=_:=ZdZ e5;obtain rfl:c6=_:=ZdZ e6;obtain⟨m0,rfl,a0,b0⟩:=FC h0;obtain⟨m1,rfl,a1,b1⟩:=FC h1;obtain⟨m2,rfl,a2,b2⟩:=FC h2;obtain⟨m3,rfl,a3,b3⟩:=FC h3;obtain⟨A4,L4,C4,rfl⟩:=Mp underlying29 J;obtain⟨A5,L5,C5,rfl⟩:=Mp underlying45 M;obtain⟨A6,L6,C6,rfl⟩:=Mp underlying46 O;obtain⟨el,rfl,g1,g2,g3⟩:=KF J;obtain⟨kl,rfl,k3⟩:=VU (d:=Z.1) (p:=Z.2) ⟨n5,M⟩;obtain⟨tl,rfl,t3⟩:=Z7M (d:=y6.1) (p:=y6.2) ⟨n6,O⟩;exact⟨⟨m0,m1,m2,m3,A4,el,C4,A5,kl,C5,A6,tl,C6⟩,rfl,⟨a0,b0⟩,⟨a1,b1⟩,⟨a2,b2⟩,⟨a3,b3⟩,g3,Zq g1 g2,k3,t3⟩
theorem turns_open{a:Qm}{len cap:Nat}{d:DataW H}{p:List MemPlace}(h:DataW.Trod enc prog W 0 (λ_=>true) true 59 (.slice a len cap) d p):∃l:List Tn,len=l.length/\len<=cap/\cap<=maxLen/\IS W a l:=by
 have⟨fuel,hf⟩:=h;rcases open_slice underlying59 hf with ⟨C,_⟩|⟨x,l,c,m,n,D,Pl,C,_,hl,hm,ag,_,hi⟩
 .simp[Value.cells] at C;obtain⟨rfl,rfl,rfl⟩:=C;exact⟨[],rfl,Zt _,ZeT _,λi hi=>by simp at hi⟩
 .simp[Value.cells] at C;obtain⟨rfl,rfl,rfl⟩:=C;simp at ag;have h3:prog.cellsOf 56=7:=Qy;rw[h3] at hi;have hex:∀i,i<len->∃e:Tn,e.Ok W/\∀j v,e.cells[j]? =some v->W.cell? ((x.add (i*7)).add j)=some v:=by intro i af;have⟨ah,hc,ht⟩:=hi i Qw;obtain⟨e,rfl,M⟩:=Z7N ht;have⟨_,aj,ai⟩:=World.cells?_some hc;grind
  have:Inhabited Tn:=⟨⟨0,0,0,0,none,[],0,none,[],0,none,[],0⟩⟩;have⟨f,J⟩:=choose_lt (α:=Tn) hex;refine⟨(List.range len).map f,Qx,hl,hm,λi af=> ?_⟩;have U:i<len:=QB;have e0:((List.range len).map f)[i]=f i:=Qx;rw[e0];have⟨M,F⟩:=J i U;have Z:=F 0 _ rfl;have ae:=(J 0 Qw).2 0 _ rfl;have⟨b,o,spot⟩:=x;have O:spot=none:=by simpa[Addr.add] using ZgS ae
  subst O;have ea:∀j,((⟨b,o,none⟩:Addr).add (i*7)).add j=⟨b,o+i*7+j,none⟩:=by intro j;unfold Addr.add;grind
  refine⟨M,b,o,rfl,?_,λj v hj=> ?_⟩
  .have:=Z;rw[ea] at this;exact GG this
  .have:=F j v hj;rw[ea] at this;exact this
end
variable{E T g k m n:Nat}{H:Bs->Option Bs}{K L:List Bs}{V V':Ev}{key:Bs}{sd:Nat->Bool}{x:Nat×Nat}
def Z0A(l:List Bs)(hs:l.Pairwise (λa b=>a<=b)):(Lib.compact l).Pairwise (λa b=>a<=b):=by
 unfold Lib.compact Lib.compactUpTo;rw[Zev];refine Zg8 _ (Zej.2 λi j hi M F=> ?_);have h:i<l.length:=by simpa using hi
 have C:j<l.length:=by simpa using M
 have J:=Zej.1 hs i j h C F;simpa[h,C] using J
def Ld(V:Ev)(n:Nat):(Yx V n).Pairwise (λa b=>a<b):=by
 have hs:((Xx V [] n).mergeSort λx y=>decide (x<=y)).Pairwise (λa b=>a<=b):=by
  have C:=ZgR (le:=λx y:Bs=>decide (x<=y)) (λa b c F J=>by
   simp at*
   exact List.le_trans F J) (λa b=>by
   simp
   exact List.le_total a b) (Xx V [] n)
  simp_all
 have F:=Z0A _ hs;have J:=(Kl (Xx V [] n)).1;unfold Yx;exact(F.and J).imp fun{a b} h=>by
  rcases K9 a b with C|C|C
  .exact C
  .exact absurd C h.2
  .exact absurd C h.1
def Z79:∀{a b:List Bs},a.Pairwise (λx y=>x<y)->b.Pairwise (λx y=>x<y)->(∀x,x∈a↔x∈b)->a=b:=by
 intro a
 induction a with
 |nil=>
  intro b _ _ h;cases b with
  |nil=>rfl
  |cons y r=>exact absurd ((h y).2 Qx) Qx
 |cons x a ih=>
  intro b ha hb h;cases b with
  |nil=>exact absurd ((h x).1 Qx) Qx
  |cons y b=>
   rw[Ze9] at ha hb;have e:x=y:=by
    rcases Zk.1 ((h x).1 Qx) with h1|h1
    .exact h1
    .rcases Zk.1 ((h y).2 Qx) with h2|h2
     .exact h2.symm
     .exact absurd (DZ (hb.1 x h1) (ha.1 y h2)) (Av y)
   subst e;congr 1;refine ih ha.2 hb.2 λz=>⟨λC=> ?_,λC=> ?_⟩
   .rcases Zk.1 ((h z).1 (Zh _ C)) with rfl|h1
    .exact absurd (ha.1 z C) (Av z)
    .exact h1
   .rcases Zk.1 ((h z).2 (Zh _ C)) with rfl|h1
    .exact absurd (hb.1 z C) (Av z)
    .exact h1
def Ei(a b:Bs):gtB a b=true↔b<a:=by
 unfold gtB;rw[bytesLess_eq];simp;constructor
 .rintro⟨F,J⟩;rcases K9 a b with C|C|C
  .exact absurd C F
  .exact absurd C J
  .exact C
 .intro h;exact⟨λC=>Av a (DZ C h),λe=>by subst e;exact Av a h⟩
def ctH(L:List Bs)(key:Bs):Nat:=(L.filter λx=> !gtB x key).length
def Of(x:Bs)(L:List Bs)(key:Bs):ctH (x::L) key=(if gtB x key then 0 else 1)+ctH L key:=by
 unfold ctH;cases h:gtB x key<;>simp[h]
 omega
def Kn(h:∀x∈L,gtB x key=true):ctH L key=0:=by unfold ctH;rw[ZdW,ZfT];intro x hx;simp[h x hx]
def Z4i:∀{L:List Bs},L.Pairwise (λa b=>a<b)->CK L key=L[ctH L key]?:=by
 intro L
 induction L with
 |nil=>intro _;rfl
 |cons x r ih=>
  intro h;rw[Ze9] at h;rw[Of];unfold CK at ih⊢;rw[ZgY];cases F:gtB x key with
  |true=>have C:ctH r key=0:=Kn λy J=>(Ei y key).2 (DZ ((Ei x key).1 F) (h.1 y J));simp[C]
  |false=>rw[ih h.2];simp[ZfD 1]
def Z0I:∀{L:List Bs},L.Pairwise (λa b=>a<b)->∀ (q:Nat) (C:q<L.length),ctH L L[q]=q+1:=by
 intro L
 induction L with
 |nil=>intro _ q C;simp at C
 |cons x r ih=>
  intro h q C;rw[Ze9] at h;rw[Of];cases q with
  |zero=>
   have U:ctH r x=0:=Kn λy Z=>(Ei y x).2 (h.1 y Z);have F:gtB x x=false:=by
    cases J:gtB x x with
    |false=>rfl
    |true=>exact absurd ((Ei x x).1 J) (Av x)
   simp[U,F]
  |succ q=>
   have M:q<r.length:=(by simpa using C);have F:gtB x r[q]=false:=by
    cases J:gtB x r[q] with
    |false=>rfl
    |true=>exact absurd (DZ ((Ei x r[q]).1 J) (h.1 _ (Zl M))) (Av _)
   simp[ZgT];have O:=ih h.2 q M;simp[F,O];omega
def Z0J(L:List Bs)(key:Bs):ctH L key<=L.length:=ZdM _ _
def UN(L:List Bs)(key:Bs):L.any (λx=>gtB x key)=decide (ctH L key<L.length):=by rw[Zgd,Zf0,decide_eq_true_iff];unfold ctH;rw[List.length_filter_lt_length_iff_exists];simp
def nxD(n i:Nat):Nat:=if i+1=n then 0 else i+1
def X5(L:List Bs)(n:Nat)(p:Nat×Bs×Bool):Nat×Nat:=if p.2.2 then(if ctH L p.2.1<L.length then(p.1,1+ctH L p.2.1) else(nxD n p.1,0)) else(p.1,0)
def Bc(T n:Nat)(x:Nat×Nat):Nat×Nat:=if x.2+1<T then(x.1,x.2+1) else(nxD n x.1,0)
def RL{i:Nat}:X5 L n (WU n L i key)=if ctH L key<L.length then(i,1+ctH L key) else(nxD n i,0):=by
 unfold WU;rw[UN];by_cases h:ctH L key<L.length
 .rw[Zem h,Zx rfl,Zx h];unfold X5;simp[h]
 .rw[ZC h,Zw Qz,Zw h];rfl
def Xm(T:Nat)(x:Nat×Nat):Nat:=x.1*T+x.2
def KA(h:x.1<n)(F:x.2<T):Xm T x<n*T:=by have C:(x.1+1)*T<=n*T:=Zed T h;rw[Zfp,ZfM] at C;unfold Xm;omega
def Z1k(F:x.1<n)(M:x.2<T):Xm T (Bc T n x)=(Xm T x+1)%(n*T)/\(Bc T n x).1<n/\(Bc T n x).2<T:=by
 have:(x.1+1)*T<=n*T:=Zed T F;have:(x.1+1)*T=x.1*T+T:=by rw[Zfp,ZfM]
 unfold Bc nxD Xm;by_cases C:x.2+1<T
 .rw[Zx C];dsimp only;rw[ZeY Qw];exact⟨Qw,F,C⟩
 .rw[Zw C];dsimp only;have:x.2+1=T:=Qw;by_cases h:x.1+1=n
  .rw[Zx h];have e2:x.1*T+x.2+1=n*T:=by rw[<-h];omega
   rw[e2,Nat.mod_self];exact⟨Qx,Qw,Qw⟩
  .rw[Zw h];have:(x.1+1+1)*T<=n*T:=Zed T Qw;have:(x.1+1+1)*T=(x.1+1)*T+T:=(by rw[Zfp,ZfM]);have J:x.1*T+x.2+1=(x.1+1)*T:=Qw;rw[J,ZeY Qw];exact⟨Qx,Qw,Qw⟩
def Z1j{y:Nat×Nat}(hx:x.2<T)(F:y.2<T)(h:Xm T x=Xm T y):x=y:=by
 unfold Xm at h;have C:x.1=y.1:=by
  have e1:(x.1*T+x.2) / T=x.1:=by rw[Ze0,Zgf Qw,ZgI hx];rfl
  have e2:(y.1*T+y.2) / T=y.1:=by rw[Ze0,Zgf Qw,ZgI F];rfl
  rw[<-e1,h,e2]
 rw[C] at h;exact Prod.ext C Qw
def Z5T{x:Nat->Nat×Nat}(C:(x 0).1<n/\(x 0).2<T){N:Nat}(hs:∀t,t<N->x (t+1)=Bc T n (x t)){y:Nat×Nat}(U:y.1<n/\y.2<T)(u:Nat)(hu:u+n*T<=N):∃t,u<=t/\t<u+n*T/\x t=y:=by
 have F:∀t,t<=N->(x t).1<n/\(x t).2<T/\Xm T (x t)=(Xm T (x 0)+t)%(n*T):=by
  intro t
  induction t with
  |zero=>intro _;exact⟨C.1,C.2,(ZeY (KA C.1 C.2)).symm⟩
  |succ t ih=>intro O;have⟨a1,a2,a3⟩:=ih Qw;have⟨b1,b2,b3⟩:=Z1k a1 a2;rw[hs t Qw];refine⟨b2,b3,?_⟩;rw[b1,a3,Nat.mod_add_mod,ZeS]
 have J:=KA U.1 U.2;have ae:=KA (T:=T) C.1 C.2;have⟨M,hM⟩:=ZK (n*T);rw[hM] at J ae hu F⊢;have⟨c,hc⟩:=ZK (Xm T (x u));have:c<M:=by rw[<-hc,(F u Qw).2.2];exact Zg0 _ Qw
 have Z:c=(Xm T (x 0)+u)%M:=by rw[<-hc];exact(F u Qw).2.2
 have key:∀t,u+t<=N->Xm T (x (u+t))=(c+t)%M:=λt O=>by rw[(F _ O).2.2,Z,Nat.mod_add_mod,ZeS]
 have fin:∀t,t<M->(c+t)%M=Xm T y->∃t,u<=t/\t<u+M/\x t=y:=λt O he=>by refine⟨u+t,Qw,Qw,Z1j (F (u+t) Qw).2.1 U.2 ?_⟩;rw[key t Qw,he]
 by_cases h:c<=Xm T y
 .exact fin (Xm T y-c) Qw (by rw[show c+(Xm T y-c)=Xm T y from Qw];exact ZeY J)
 .exact fin (M-c+Xm T y) Qw (by rw[show c+(M-c+Xm T y)=Xm T y+M from Qw,Nat.add_mod_right];exact ZeY J)
def QR.ZbT{E':Nat}{C:Qr}(h:QR K E k m n g H sd V)(F:QR K E' k m n g H C V'):Yx V n=Yx V' n:=Z79 (Ld V n) (Ld V' n) λx=>by have J:x∈Yx V n↔H x≠none:=h.ZaE.keys.2 x;have M:x∈Yx V' n↔H x≠none:=F.ZaE.keys.2 x;rw[J,M]
def AR(k m:Nat)(V:Ev)(i:Nat)(x v:Bs):Prop:=∃S,V.Ms i=some S/\stR (V.Ds i).reads S.dir (nmD x)=some (some (shL k m i x v))
def QR.ZcA(h:QR K E k m n g H sd V)(ha:XO n V)(hp:V.P.gone=false)(hf:V.P.Zas<0){i:Nat}(hi:i<n){S:Sto}(hM:V.Ms i=some S){key v:Bs}(M:key∈K)(hv:v.length<=200):∃J,(Y3 V (i,λ_=>[YH k m i key v])).Ms=upd V.Ms i (some J)/\(∀j,j≠i->(Y3 V (i,λ_=>[YH k m i key v])).Ds j=V.Ds j)/\((Y3 V (i,λ_=>[YH k m i key v])).Ds i).dead=(V.Ds i).dead/\stR ((Y3 V (i,λ_=>[YH k m i key v])).Ds i).reads J.dir=λx=>if x=nmD key then some (some (shL k m i key v)) else stR (V.Ds i).reads S.dir x:=by
 have F:=h.ZaE;have⟨b1,b2⟩:=F.in_ i hi S hM;have U:=(ha i hi).2 (by rw[hM];rfl);have ok:=(ha i hi).1;have⟨d,f,C⟩:=Li (m:=m) (i:=i) b1 F.hK F.k1 M hv;have O:QU K E (V.Ds i) S:=b1;have⟨e1,e2⟩:=JB (V:=V) (x:=(i,λ_=>[YH k m i key v])) hM;rw[e2];dsimp only;rw[C.go,C.nx];have⟨Q,Z,ae,af⟩:=CR ok.fit U C.in_ (l:=S.ops [YH k m i key v] d f) (P:=V.P) ⟨hp,Zv hf⟩;have⟨g1,g2⟩:=O.did F.hK ok C;rw[Z];refine⟨_,rfl,λj hj=>QP _ _ hj,?_,?_⟩
 .rw[QX];exact IX _ _
 .rw[QX,g2];exact Lj _ _ _ _ _ _
def QR.ZcC(h:QR K E k m n g H sd V)(hK:∀x v,H x=some v->x∈K/\v.length<=200)(ha:XO n V)(hp:V.P.gone=false)(hf:V.P.Zas<0)(J:∀i,i<n->(V.Ds i).dead=false){L:List Bs}(hL:Yx V n=L){p:Nat×Bs×Bool}(hi:p.1<n){E':Nat}(M:QR K E' k m n g H sd (WS H V n g p).2.1):(∀i,i<n->((WS H V n g p).2.1.Ds i).dead=false)/\X5 L n (WS H V n g p).2.2=Bc (L.length+1) n (X5 L n p)/\(∀i,i<n->(V.Ms i).isSome=true->((WS H V n g p).2.1.Ms i).isSome=true)/\(∀i,i<n->∀x v,H x=some v->AR k m V i x v->AR k m (WS H V n g p).2.1 i x v)/\ ((X5 L n p).2=0->((WS H V n g p).2.1.Ms (X5 L n p).1).isSome=true)/\(∀r x v,(X5 L n p).2=r+1->L[r]? =some x->H x=some v->(V.Ms (X5 L n p).1).isSome=true->AR k m (WS H V n g p).2.1 (X5 L n p).1 x v):=by
 have az:L.Pairwise (λa b=>a<b):=by rw[<-hL];exact Ld V n
 have h0:=h.ZaE;have bz:V.k=k:=h0.vk;have cj:V.m=m:=h0.vm;have af:∀x,x∈L↔H x≠none:=λx=>by rw[<-hL];exact h.ZaE.keys.2 x
 have aq:ctH L []=0:=Kn λx hx=>(Ei x []).2 (by
  obtain⟨v,hv⟩:=ZdT.1 ((af x).1 hx);have Z:=(h0.hK.len x (hK x v hv).1).1;cases x with
  |nil=>simp at Z
  |cons a r=>exact List.Lex.nil)
 -- a visit to a Zav
 have hD:∀j,j<n->QR K E' k m n g H sd (WA V n g j).2.1->(∀i,i<n->((WA V n g j).2.1.Ds i).dead=false)/\X5 L n (WA V n g j).2.2=Bc (L.length+1) n (j,0)/\(∀i,i<n->(V.Ms i).isSome=true->((WA V n g j).2.1.Ms i).isSome=true)/\(∀i,i<n->∀x v,H x=some v->AR k m V i x v->AR k m (WA V n g j).2.1 i x v)/\((WA V n g j).2.1.Ms j).isSome=true:=λj U hs=>by
  have au:Yx (WA V n g j).2.1 n=L:=by rw[<-hL];exact hs.ZbT h
  have ai:X5 L n (WA V n g j).2.2=Bc (L.length+1) n (j,0):=by
   show X5 L n (WU n (Yx (WA V n g j).2.1 n) j [])=_;rw[au,RL,aq];unfold Bc;by_cases C:0<L.length
   .rw[Zx C,Zx Qw]
   .rw[Zw C,Zw Qw]
  rcases Kv V j with hc|hc|⟨hc,cn,hM⟩
  .unfold Ag at hc;rw[J j U] at hc;revert hc;cases (V.Ms j).isSome<;>simp
  .have e:(WA V n g j).2.1=V:=by unfold WA Go.Proofs.YthppfllkocphbaaGreatDoor.ZaW;rw[hc];rfl
   have bm:(V.Ms j).isSome=true:=by unfold Ag at hc;rw[J j U] at hc;revert hc;cases (V.Ms j).isSome<;>simp
   rw[e];exact⟨J,ai,λi hi C=>C,λi hi x v hx C=>C,bm⟩
  .have e:(WA V n g j).2.1=C7 V j g:=by unfold WA Go.Proofs.YthppfllkocphbaaGreatDoor.ZaW;rw[hc];rfl
   rw[e];unfold C7;refine⟨λi hi=> ?_,ai,λi hi C=> ?_,λi hi x v hx C=> ?_,by simp[QX]⟩
   .by_cases F:i=j
    .subst F;simp only[QX];rw[PG hp];unfold Yt;split
     .rw[(XK _ _ _).2,(XK _ _ _).2];exact J i hi
     .rw[(XK _ _ _).2];exact J i hi
    .simp only[QP _ _ F];exact J i hi
   .by_cases F:i=j
    .subst F;simp only[QX];rfl
    .simp only[QP _ _ F];exact C
   .have F:i≠j:=λF=>by subst F;obtain⟨S,Z, -⟩:=C;rw[hM] at Z;cases Z
    obtain⟨S,Z,h2⟩:=C;exact⟨S,by simp only[QP _ _ F];exact Z,by simp only[QP _ _ F];exact h2⟩
 obtain⟨i,key,fl⟩:=p;cases fl with
 |false=>obtain⟨a1,a2,a3,a4,a5⟩:=hD i hi M;exact⟨a1,a2,a3,a4,λ_=>a5,λr x v hr=>by cases hr⟩
 |true=>
  have bu:WS H V n g (i,key,true)=Bb H V n g i key:=rfl;rw[bu] at M⊢;have ay:CK (Yx V n) key=L[ctH L key]?:=by rw[hL];exact Z4i az
  by_cases ag:ctH L key<L.length
  .have hx:L[ctH L key]? =some L[ctH L key]:=Z8 ag;obtain⟨x,bf⟩:=ZK L[ctH L key];rw[bf] at hx;have aw:Bb H V n g i key=((Ws H V i x).1,(Ws H V i x).2,WU n (Yx (Ws H V i x).2 n) i x):=by unfold Bb;rw[ay,hx]
   rw[aw] at M⊢;have ae:X5 L n (i,key,true)=(i,1+ctH L key):=by unfold X5;simp[ag]
   rw[ae];dsimp only at M⊢;have au:Yx (Ws H V i x).2 n=L:=by rw[<-hL];exact M.ZbT h
   have bh:ctH L x=ctH L key+1:=by rw[<-bf];exact Z0I az _ ag
   have ai:X5 L n (WU n (Yx (Ws H V i x).2 n) i x)=Bc (L.length+1) n (i,1+ctH L key):=by
    rw[au,RL,bh];unfold Bc;dsimp only;by_cases C:ctH L key+1<L.length
    .rw[Zx C,Zx Qw];simp;omega
    .rw[Zw C,Zw Qw]
   obtain⟨v,hv⟩:=ZdT.1 ((af x).1 (Zfa hx));have bj:∀ (W:Ev),(Ws H V i x).2=W->((∀i,i<n->(W.Ds i).dead=false)/\(∀i,i<n->(V.Ms i).isSome=true->(W.Ms i).isSome=true)/\(∀i,i<n->∀x v,H x=some v->AR k m V i x v->AR k m W i x v)/\((V.Ms i).isSome=true->AR k m W i x v)):=by
    intro W O;unfold Ws at O;cases hM:V.Ms i with
    |none=>rw[Zx (by unfold YI;rw[hM];cases (V.Ds i).dead<;>rfl)] at O;subst O;exact⟨J,λ_ _ C=>C,λ_ _ _ _ _ C=>C,λC=>by cases C⟩
    |some S=>
     by_cases hs:AJ (YI V i x)=0
     .rw[Zx hs] at O;subst O;refine⟨J,λ_ _ C=>C,λ_ _ _ _ _ C=>C,λ_=>⟨S,hM,?_⟩⟩;obtain⟨-,hr⟩:=h0.in_ i hi S hM;have ah:YI V i x≠13/\YI V i x≠14:=⟨λe=>(by rw[e] at hs;cases hs),λe=>(by rw[e] at hs;cases hs)⟩;unfold YI at ah;rw[hM,hp] at ah;rcases hr.some_ x v hv with h3|h3|h3
      .have aj:stR (V.Ds i).reads S.dir (nmD x)=none:=h3;simp[aj] at ah
      .have aj:stR (V.Ds i).reads S.dir (nmD x)=some none:=h3;simp[aj] at ah
      .exact h3
     .rw[Zw hs,hv,bz,cj] at O;obtain⟨q1,q2⟩:=hK x v hv;obtain⟨S',r1,r2,r3,r4⟩:=h.ZcA ha hp hf hi hM q1 q2;have bg:Y3 V (i,λ_=>[YH k m i x v])=W:=O;rw[bg] at r1 r2 r3 r4;have ak:W.Ms i=some S':=(by rw[r1,QX]);refine⟨λj U=> ?_,λj U C=> ?_,λj U y u hy C=> ?_,λ_=>⟨S',ak,by rw[r4];simp⟩⟩
      .by_cases F:j=i
       .subst F;rw[r3];exact J j U
       .rw[r2 j F];exact J j U
      .by_cases F:j=i
       .subst F;rw[ak];rfl
       .rw[r1,QP _ _ F];exact C
      .obtain⟨S1,z1,z2⟩:=C;by_cases F:j=i
       .subst F;refine⟨S',ak,?_⟩;rw[r4];by_cases e8:nmD y=nmD x
        .have e7:=FH e8;subst e7;rw[hv] at hy;cases hy;simp
        .simp only[Zw e8];rw[hM] at z1;cases z1;exact z2
       .exact⟨S1,by rw[r1,QP _ _ F];exact z1,by rw[r2 j F];exact z2⟩
   obtain⟨a1,a2,a3,a4⟩:=bj _ rfl;refine⟨a1,ai,a2,a3,λC=>Qw,λr y u hr hy hu C=> ?_⟩;have F:r=ctH L key:=Qw;subst F;rw[hx] at hy;cases hy;rw[hv] at hu;cases hu;exact a4 C
  .have hx:L[ctH L key]? =none:=Zei Qw;have aw:Bb H V n g i key=WA V n g (nxD n i):=by unfold Bb;rw[ay,hx];rfl
   rw[aw] at M⊢;have ae:X5 L n (i,key,true)=(nxD n i,0):=by unfold X5;simp[ag]
   rw[ae];have bq:nxD n i<n:=by have cr:i<n:=hi;unfold nxD;split<;>omega
   obtain⟨a1,a2,a3,a4,a5⟩:=hD (nxD n i) bq M;exact⟨a1,a2,a3,a4,λ_=>a5,λr x v hr=>by cases hr⟩
def FF{s0:Ev×(Nat×Bs×Bool)}{N:Nat}(hK:∀x v,H x=some v->x∈K/\v.length<=200)(h:∀u,u<=N->Gr K (E+u) k m n g H sd (Wr H n g u s0))(hd:∀i,i<n->(s0.1.Ds i).dead=false)(hN:n*((Yx s0.1 n).length+1)+n*((Yx s0.1 n).length+1)<=N):(∀i,i<n->((Wr H n g N s0).1.Ds i).dead=false)/\(∀i,i<n->((Wr H n g N s0).1.Ms i).isSome=true)/\∀i,i<n->∀x v,H x=some v->AR k m (Wr H n g N s0).1 i x v:=by
 have⟨L,U⟩:=ZK (Yx s0.1 n);rw[U] at hN;have af:=(h 0 Qw).set;have aj:∀t,t<=N->Yx (Wr H n g t s0).1 n=L:=λt F=>by rw[<-U];exact(h t F).set.ZbT af
 have ai:∀t,t<N->(∀i,i<n->((Wr H n g t s0).1.Ds i).dead=false)->_:=λt F ak=>(h t Qw).set.ZcC hK (h t Qw).al (h t Qw).gone (h t Qw).Zas ak (aj t Qw) (h t Qw).pl (h (t+1) Qw).set;have ag:∀t,t<=N->∀i,i<n->((Wr H n g t s0).1.Ds i).dead=false:=by
  intro t
  induction t with
  |zero=>intro _;exact hd
  |succ t ih=>intro F;exact(ai t Qw (ih Qw)).1
 have J:=λt F=>ai t F (ag t Qw);have au:∀i,i<n->∀t u,t+u<=N->((Wr H n g t s0).1.Ms i).isSome=true->((Wr H n g (t+u) s0).1.Ms i).isSome=true:=λi hi t u=>by
  induction u with
  |zero=>intro _ C;exact C
  |succ u ih=>intro hu C;exact(J (t+u) Qw).2.2.1 i hi (ih Qw C)
 have aq:∀i,i<n->∀x v,H x=some v->∀t u,t+u<=N->AR k m (Wr H n g t s0).1 i x v->AR k m (Wr H n g (t+u) s0).1 i x v:=λi hi x v hx t u=>by
  induction u with
  |zero=>intro _ C;exact C
  |succ u ih=>intro hu C;exact(J (t+u) Qw).2.2.2.1 i hi x v hx (ih Qw C)
 have aw:(X5 L n (Wr H n g 0 s0).2).1<n/\(X5 L n (Wr H n g 0 s0).2).2<L.length+1:=by
  have M:=(h 0 Qw).pl;have hc:=Z0J L (Wr H n g 0 s0).2.2.1;obtain⟨⟨i0,ay,f0⟩,hp0⟩:∃p0,(Wr H n g 0 s0).2=p0:=⟨_,rfl⟩;rw[hp0] at M hc⊢;have M:i0<n:=M;unfold X5 nxD;dsimp only;split
  .split
   .exact⟨M,by show 1+_<_;omega⟩
   .refine⟨?_,by show 0<_;omega⟩;have C:(if i0+1=n then 0 else i0+1)<n:=by split<;>omega
    exact C
  .exact⟨M,by show 0<_;omega⟩
 have ah:=λ(y:Nat×Nat) (hy:y.1<n/\y.2<L.length+1)=>Z5T (x:=λt=>X5 L n (Wr H n g t s0).2) aw (λt F=>(J t F).2.1) hy;have Z:∀i,i<n->∀t,n*(L.length+1)<=t->t<=N->((Wr H n g t s0).1.Ms i).isSome=true:=λi hi t h1 h2=>by have⟨t1,a1,a2,a3⟩:=ah (i,0) ⟨hi,by show 0<_;omega⟩ 0 Qw;have a4:=(J t1 Qw).2.2.2.2.1;have O:X5 L n (Wr H n g t1 s0).2=(i,0):=a3;rw[O] at a4;have a5:=au i hi (t1+1) (t- (t1+1)) Qw (a4 rfl);rw[show t1+1+(t- (t1+1))=t from Qw] at a5;exact a5
 refine⟨ag N (Zt _),λi hi=>Z i hi N Qw (Zt _),λi hi x v hx=> ?_⟩;have ae:x∈L:=by rw[<-U];exact(af.ZaE.keys.2 x).2 (by rw[hx];simp)
 obtain⟨r,hr,rfl⟩:=Zez ae;have⟨t2,a1,a2,a3⟩:=ah (i,r+1) ⟨hi,by show r+1<_;omega⟩ (n*(L.length+1)) Qw;have a4:=(J t2 Qw).2.2.2.2.2;have O:X5 L n (Wr H n g t2 s0).2=(i,r+1):=a3;rw[O] at a4;have a5:=a4 r _ v rfl (Z8 hr) hx (Z i hi t2 a1 Qw);have a6:=aq i hi _ v hx (t2+1) (N- (t2+1)) Qw a5;rw[show t2+1+(N- (t2+1))=N from Qw] at a6;exact a6
open Go.Shelf
def Z2J{sx:Qr}(B:Nat)(w:Qs)(G:Eg)(bl:Qj)(h:QR K E k m n g H sx V)(hK:∀x v,H x=some v->x∈K/\v.length<=200)(he:EAt B w G V bl)(hn:G.n=n)(ht:Ty w)(ay:0<B)(hp:V.P.gone=false)(hd:∀i,i<n->Ag V i=0)(hf:∀i,i<n->∀x v,H x=some v->AJ (YI V i x)=0):Calls prog 25 #[G.s] w λe w'=>e=.returned (.tuple #[(),.nilIface])/\QG B G bl V w w':=by
 have hk:=h.keys he hn;have ae:∀x,x∈Yx V n↔H x≠none:=λx=>h.ZaE.keys.2 x;have⟨L,hL⟩:=ZK (Yx V n);rw[hL] at hk ae;have⟨Z,au⟩:=ZK L.length;rw[au] at hk;have:n<=16:=by rw[<-hn];exact he.nle.2
 have C:=Q5 hk h he ht ae au hn hd hf hK;go_enter func25,ntmps25;go_wp2_with (first|(go_at_call 43;go_fit (show Calls prog 43 #[G.s,.string ⟨#[]⟩] _ _ from C.1);rintro e w1 ⟨a1,c1,rfl,bg,bh,cj,ag⟩;have R1:=ZX ag bg bh)|(go_at_call 59;have m1:=R1.1;have⟨ah,e1,g1,f1⟩:=m1;go_fit (Oo B _ G V ah e1);rintro e w2 ⟨rfl,rfl⟩;rw[C.7]));go_loopw [6,23] (λlv kv wr=>∃t:Nat,t<=n/\lv=.slice none 0 0/\kv=(t:Int)/\QG B G bl V w wr/\Y9 wr a1 (L.map str)/\∀q o,a1=some ⟨q,o,none⟩->∃r,Row wr q 9 r) (λ_ kv _=>n- (intOf kv).toNat)
 .exact⟨0,Qw,rfl,rfl,R1.1,R1.2,R1.3⟩
 obtain⟨t,cu,rfl,rfl,J,M,O⟩:=hrel;by_cases ai:t<n
 .have:(t:Int)<(n:Int):=by omega
  have ak:=QG.ty J C.3 C.4 ay;have⟨ah,e1,g1,f1⟩:=J;have aw:=Fw B wr G V ah t e1 (by rw[C.7];exact ai);rw[C.8 t ai] at aw;have U:=Q0 aw e1 g1 f1 M O;go_wp2_with (go_at_call 60;go_fit U.1;rintro e w2 ⟨rfl,az⟩;have af:=QG.trans ⟨U.2,U.3,U.4⟩ az;have bq:=Iw U.5 U.6 U.2 az;have R2:=ZM af bq);go_loopw [6,39] (λlv kv wi=>∃q:Nat,q<=Z/\lv=.slice none 0 0/\kv=(q:Int)/\QG B G bl V w wi/\Y9 wi a1 (L.map str)/\∀q o,a1=some ⟨q,o,none⟩->∃r,Row wi q 9 r) (λ_ kv _=>Z- (intOf kv).toNat)
  .exact⟨0,Qw,rfl,rfl,R2.1,R2.2.1,R2.2.2⟩
  obtain⟨q,cr,rfl,rfl,J,M,O⟩:=hrel;by_cases hq:q<Z
  .have:(q:Int)<(Z:Int):=(by omega);have bj:q<L.length:=by rw[C.6];exact hq
   obtain⟨gk,ok,rfl,ck⟩:=M q (by rw[Zf];exact bj);rw[Zf1] at ck;have⟨v9,aq⟩:=ZdT.1 ((C.5 L[q]).1 (Zl bj));have⟨k1,k2⟩:=C.10 _ _ aq;have ak:=QG.ty J C.3 C.4 ay;have⟨ah,e1,g1,f1⟩:=J;have aj:=C.2.Zcl e1 C.7 ak ay ai aq k1 k2 hp;rw[C.9 t ai _ _ aq] at aj;have⟨kk,bf⟩:=ZK L[q];rw[bf] at ck aj;have F:=ZQ aj e1 g1 f1 M O;go_wp2_with (go_at_call 61;go_fit F.1;rintro e w3 ⟨rfl,af⟩;have bm:=QG.trans ⟨F.2.1,F.2.2.1,F.2.2.2.1⟩ af;have bu:=Iw F.2.2.2.2.1 F.2.2.2.2.2 F.2.1 af;have R3:=ZM bm bu);go_roundw
   .exact⟨q+1,Qw,rfl,QC,R3.1,R3.2.1,R3.2.2⟩
   simp[intOf];omega
  .obtain rfl:q=Z:=(by omega);have F:=ZN J M O;go_wp2;go_roundw
   .exact⟨t+1,Qw,rfl,QC,F.1,F.2.1,F.2.2⟩
   simp[intOf];omega
 .obtain rfl:t=n:=by omega
  have F:=ZI J;go_wp2;go_ret2;exact⟨rfl,F.o⟩
variable{G:Eg}{R:Rg}{W w w':World}{bl:List Nat}{ha:Option Addr}{hb hc i:Nat}{hs:QY}{p:Nat×Bs×Bool}{sx:Nat->Bool}
def RmV.dead(h:RmV W R E w G V bl hb p ha hc hs sd sx g)(hi:i<R.n):Calls prog 22 #[.pointer (some ⟨G.ds i,0,none⟩)] w λe w'=>e=.returned (.bool (V.Ds i).dead)/\w=w':=by obtain⟨J,L,F⟩:=h.rm.rm.set.dsk (by rw[h.rm.rm.gn];exact hi);obtain⟨gh,v, -,C⟩:=F.dk;exact BY _ _ gh v _ _ C
def RmV.ZbJ(h:RmV W R E w G V bl hb p ha hc hs sd sx g)(hi:i<R.n)(hm:R.k<=YG (upd sx i false) R.n){D:Dk}(hl:D.Zaq<=(V.Ds i).Zaq+1)(F:Jy D){bl':Qj}(J:RmH W w' R G {V with Ds:=upd V.Ds i D,Ms:=upd V.Ms i none} bl' hb p ha hc hs sd)(hB:Below W w w'):RmV W R (E+1) w' G {V with Ds:=upd V.Ds i D,Ms:=upd V.Ms i none} bl' hb p ha hc hs sd (upd sx i false) g:=by have C:=h.set.ZaE;have:(V.Ds i).Zaq<=(E:Int):=C.Zaq i hi;exact⟨J,h.set.ZbJ (i:=i) (D:=D) Qw hm F,h.held,h.gone,h.Zas,h.pl,by have:=h.gE;omega,Qw,h.bel.trans hB⟩
def RmV.Zaq(h:RmV W R E w G V bl hb p ha hc hs sd sx g)(hi:i<R.n)(F:E<=1000):(V.Ds i).Zaq<=1000:=by have:(V.Ds i).Zaq<=(E:Int):=h.set.ZaE.Zaq i hi;omega
def CmB(W:Qs)(R:Rg)(E t:Nat)(w:Qs):Prop:=∃G V bl hb p ha hc hs sd sx g,RmV W R E w G V bl hb p ha hc hs sd sx g/\∀j,j<t->(V.Ds j).dead=false
def RmV.replace(h:RmV W R E w G V bl hb p ha hc hs sd sx g)(hi:i<R.n)(O:E<=1000)(U:(V.Ds i).dead=true)(Z:∀j,j<i->(V.Ds j).dead=false):Calls prog 23 #[.pointer (some ⟨G.ds i,0,none⟩)] w λe w'=>e=.returned (.tuple #[])/\CmB W R (E+1) (i+1) w':=by
 have hM:V.Ms i=none:=by
  cases hM:V.Ms i with
  |none=>rfl
  |some S=>have F:=(h.al i hi).2 (by rw[hM];rfl);rw[U] at F;cases F
 have J:=h.set.ZbK hi hM;have e:upd sx i false=sx:=by
  funext j
  by_cases e:j=i
  .subst e;rw[QX,J]
  .rw[QP _ _ e]
 go_fit (h.rm.ZcR hi (h.Zaq hi O));rintro e' w' ⟨rfl,⟨bl',M⟩,hB⟩;refine⟨rfl,_,_,_,_,_,_,_,_,_,_,_,h.ZbJ hi (by rw[e];exact h.set.ZaE.many) (Zff _) (Sw (h.al i hi).1) M hB,λj ae=> ?_⟩;by_cases C:j=i
 .subst C;simp[QX];rfl
 .simp[QP _ _ C];exact Z j Qw
def CmF(W:Qs)(R:Rg)(E:Nat)(w:Qs):Prop:=∃G V bl hb p ha hc hs sd g,RmV W R E w G V bl hb p ha hc hs sd (λ_=>true) g/\(∀i,i<R.n->Ag V i=0)/\∀i,i<R.n->∀x v,Hof hs x=some v->AJ (YI V i x)=0
def RmV.Zdh(h:RmV W R E w G V bl hb p ha hc hs sd sx g)(hd:∀j,j<R.n->(V.Ds j).dead=false)(M:Ty W)(hE:E<=1000000){N:Nat}(hN:2*R.n*(hs.length+1)<=N)(O:N<=1000):Calls prog 24 #[R.r,(N:Int)] w λe w'=>e=.returned true/\CmF W R (E+N) w':=by
 have⟨q1,q2,q3⟩:=BS h.held;have:=h.gE;have hK:=λx v hx=>(q1 x v hx).symm;have U:(Yx V R.n).length=hs.length:=PN h.held.nd (Kl _).1 λx=>h.set.ZaE.keys.2 x;go_fit (Pi W w R G bl hb p ha hc hs sd N h.rm h.set hK h.rm.rm.gn (h.ty M) M.lt h.pl h.gone h.Zas Qw h.E1 O Qw);rintro e w' ⟨rfl,⟨bl',F⟩,h2,hB⟩;have C:=h2 N (Zt _);have⟨m1,m2,m3⟩:=FF (s0:=(V,p)) (N:=N) hK h2 hd (by show R.n*((Yx V R.n).length+1)+R.n*((Yx V R.n).length+1)<=N;rw[U,<-Nat.two_mul,<-Nat.mul_assoc];exact hN);have⟨s1,Z⟩:=ZK (Wr (Hof hs) R.n g N (V,p));rw[Z] at F C m1 m2 m3;refine⟨rfl,G,s1.1,bl',hb,s1.2,ha,hc,hs,sd,g,⟨F,C.set.marks (λi hi _=> ?_) ?_,h.held,C.gone,C.Zas,C.pl,Qw,by have:=h.E1;omega,h.bel.trans hB⟩,λi hi=> ?_,λi hi x v hx=> ?_⟩
 .have⟨S,J⟩:=ZdQ.1 (m2 i hi);refine⟨S,J,λx v hx=> ?_⟩;have⟨S',e1,e2⟩:=m3 i hi x v hx;rw[J] at e1;cases e1;exact e2
 .have:=h.rm.rm.kn;rw[Ki];omega
 .unfold Ag;rw[m1 i hi,m2 i hi];rfl
 .have⟨S,e1,e2⟩:=m3 i hi x v hx;unfold YI;rw[e1,C.gone];simp[e2,AJ]
def RmV.scan(h:RmV W R E w G V bl hb p ha hc hs sd (λ_=>true) g)(F:∀i,i<R.n->Ag V i=0)(J:∀i,i<R.n->∀x v,Hof hs x=some v->AJ (YI V i x)=0)(C:Ty W):Calls prog 25 #[G.s] w λe w'=>e=.returned (.tuple #[(),.nilIface])/\∃bl',RmV W R E w' G V bl' hb p ha hc hs sd (λ_=>true) g:=by have⟨U,Z,q3⟩:=BS h.held;go_fit (Z2J W w G bl h.set (λx v hx=>(U x v hx).symm) h.rm.rm.set h.rm.rm.gn (h.ty C) C.lt h.gone F J);rintro e w' ⟨rfl,O⟩;obtain⟨⟨bl',M⟩,hB⟩:=h.rm.ran O;exact⟨rfl,bl',M,h.set,h.held,h.gone,h.Zas,h.pl,h.gE,h.E1,h.bel.trans hB⟩
def CmK(W:Qs)(R:Rg)(E t:Nat)(w:Qs):Prop:=∃G V bl hb p ha hc hs sd sx g,RmV W R E w G V bl hb p ha hc hs sd sx g/\R.n<=YG sx R.n+t
def RmV.kill(h:RmV W R E w G V bl hb p ha hc hs sd sx g)(hi:i<R.n)(F:E<=1000){t:Nat}(J:R.n<=YG sx R.n+t)(Z:t<R.m):Calls prog 26 #[.pointer (some ⟨G.ds i,0,none⟩)] w λe w'=>e=.returned (.tuple #[])/\CmK W R (E+1) (t+1) w':=by have:=Oa sx i R.n;have:=h.rm.rm.kn;go_fit (h.rm.kill hi (h.Zaq hi F));rintro M w' ⟨rfl,⟨bl',C⟩,hB⟩;exact⟨rfl,_,_,_,_,_,_,_,_,_,_,_,h.ZbJ hi Qw (Zff _) (PO _) C hB,Qw⟩
def Z2I{sv hv:Qt}(hr:Yr W w R G V bl sv hv ha hc hs sd)(hx:QR K11 E R.k R.m R.n g (Hof hs) sx V)(Z:V.P.gone=false)(U:V.P.Zas<0)(J:HOk K11 hs)(M:Below W W w)(C:Ty W):∃T:Qs->Prop,T w/\(∀x,T x->x.cell? ⟨R.r,6,none⟩=some (.slice ha hs.length hc))/\(∀x y,T x->Below x.heap.size x y->T y)/\(∀x,T x->Below W W x)/\∀x,T x->Calls prog 14 #[G.s,.slice ha hs.length hc] x λe w'=>e=.returned true/\T w':=by
 have⟨q1,q2,q3⟩:=BS J;refine⟨λx=>(∃bl',Yr W x R G V bl' sv hv ha hc hs sd)/\Below W W x,⟨⟨bl,hr⟩,M⟩,?_,?_,λx hx=>hx.2,?_⟩
 .rintro x ⟨⟨bl',h⟩, -⟩;exact h.room.c6
 .rintro x y ⟨⟨bl',h⟩,h2⟩ hb;exact⟨⟨bl',h.after hb⟩,h2.trans (hb.mono h.bw)⟩
 .rintro x ⟨⟨bl',h⟩,h2⟩;go_fit (KX W x G V bl' K11 E R.k R.m R.n g (Hof hs) sx hs ha hc (hx.set V.P Z U) (λx v hx=>(q1 x v hx).1) J h.set h.gn (RmH.ty C C.lt h2) C.lt h.held);rintro e w' ⟨b,rfl,b1, -,F⟩;rw[b1 λ_=>rfl];obtain⟨ae, -, -,O⟩:=id F;exact⟨rfl,h.ran F,h2.trans (O.below h.bw h.set.ge)⟩
def RmV.holds(h:RmV W R E w G V bl hb p ha hc hs sd sx g)(J:Ty W):∃T:Qs->Prop,T w/\(∀x,T x->x.cell? ⟨R.r,4,none⟩=(G.s)/\x.cell? ⟨R.r,6,none⟩=some (.slice ha hs.length hc))/\(∀x y,T x->Below x.heap.size x y->T y)/\(∀x,T x->∃bl',RmV W R E x G V bl' hb p ha hc hs sd sx g)/\∀x,T x->Calls prog 14 #[G.s,.slice ha hs.length hc] x λe w'=>e=.returned true/\T w':=by
 have⟨Z,q2,q3⟩:=BS h.held;refine⟨λx=>∃bl',RmV W R E x G V bl' hb p ha hc hs sd sx g,⟨bl,h⟩,?_,?_,λx hx=>hx,?_⟩
 .rintro x ⟨bl',C⟩;have F:=C.rm.rm.room;exact⟨F.c4,F.c6⟩
 .rintro x y ⟨bl',C⟩ hb;exact⟨bl',C.after hb⟩
 .rintro x ⟨bl',C⟩;go_fit (KX W x G V bl' K11 E R.k R.m R.n g (Hof hs) sx hs ha hc (C.set.set V.P C.gone C.Zas) (λx v hx=>(Z x v hx).1) C.held C.rm.rm.set C.rm.rm.gn (C.ty J) J.lt C.rm.rm.held);rintro e w' ⟨b,rfl,b1, -,M⟩;rw[b1 λ_=>rfl];obtain⟨⟨O,U⟩,hB⟩:=C.rm.ran M;exact⟨rfl,O,U,C.set,C.held,C.gone,C.Zas,C.pl,C.gE,C.E1,C.bel.trans hB⟩
def RmV.opens(h:RmV W R E w G V bl hb p ha hc hs sd sx g)(F:Ty W)(hE:E<=1000000):Calls prog 27 #[.slice (some ⟨R.gd,0,none⟩) R.n R.cd,(R.k:Int),(R.m:Int)] w λe w'=>∃s,e=.returned (.tuple #[(s:Nat),.nilIface])/\∃T:Qs->Prop,T w'/\(∀x,T x->x.cell? ⟨R.r,6,none⟩=some (.slice ha hs.length hc))/\(∀x y,T x->Below x.heap.size x y->T y)/\(∀x,T x->Below W W x)/\∀x,T x->Calls prog 14 #[(s:Nat),.slice ha hs.length hc] x λe w'=>e=.returned true/\T w':=by have:=h.gE;have J:=h.set.ZaE;obtain⟨bl',C, -⟩:=h.rm.rm.d;go_fit (C.opens (E:=E) (g:=g) (H:=Hof hs) (sx:=sx) (h.ty F) F.lt J.many h.E1 Qw Qw ⟨Fr.refl _ _,V.P,V.Ds,bl',C.at_,C.pw,h.gone,h.Zas,λq hq=>Zv hq,(h.set.mono (ZeE E)).rkD h.al Qw,λi hi=>J.Zaq i hi⟩);rintro e w' ⟨U,V',ae,rfl,he,⟨Z,O,M⟩,e1,e2,e3,hg,hf, -⟩;refine⟨U.s,rfl,Z2I (C.made hf he e2 e3 e1) Z O M h.held (h.bel.trans (hf.below C.bw C.ge)) F⟩
def calm_walk(k m:Int)(a:Qm)(cp:Nat)(l:List Tn)(a3:Qm)(du:Nat)(l3:List Int)(k0: -9223372036854775808<=k)(k1:k<=9223372036854775807)(m0: -9223372036854775808<=m)(m1:m<=9223372036854775807)(W:Qs)(hl:IS W a l)(hn:l.length<=9223372036854775807)(h3:Au W W a3 l3)(ek:l3.length<=9223372036854775807)(dt:∀z∈l3, -9223372036854775808<=z/\z<=9223372036854775807)(ht:Ty W):Calls prog 6 #[k,m,.slice a l.length cp,.slice a3 l3.length du] W λe W'=>e=.returned true/\Below W W W':=by
 have:=ht.lt;have⟨N,hN⟩:=ZK l.length;have⟨N3,az⟩:=ZK l3.length;have⟨kk,bz⟩:=ZK (J8 k 3);have⟨mm,cn⟩:=ZK (J8 m 4);have:kk<3:=by rw[<-bz];exact JA _ Qw
 have:mm<4:=by rw[<-cn];exact JA _ Qw
 have bg:=λ(x:Qs)=>Af k 3 x k0 k1 Qw Qw;have bh:=λ(x:Qs)=>Af m 4 x m0 m1 Qw Qw;rw[bz] at bg;rw[cn] at bh;have⟨k9,eh⟩:=ZK (1+kk);have:(1:Int)+(kk:Int)=(k9:Int):=Qw;have dp:=λ(x:Qs) (hx:Ty x)=>Mb x k9 mm Qw Qw Qw hx;have H:=ZZ hl ht dp hN hn;have H3:=ZX h3 dt az;have MK:=ZI bg;have MM:=ZI bh;rw[hN] at hn⊢;rw[az] at ek⊢;have:k9<=3:=Qw;clear hl ht bg bh dp hN bz cn eh h3 dt az;go_enter func6,ntmps6;go_upto_block 0 with (first|(go_at_call 7;go_fit (NE _ H.2);rintro e w1 ⟨rfl,cw⟩;have R1:=ZI cw;clear cw)|(go_at_call 9;have m9:=MK;clear MK;go_fit (m9.o _);rintro e w2 ⟨rfl,rfl⟩;clear m9)|(go_at_call 9;have m9:=MM;clear MM;go_fit (m9.o _);rintro e w2 ⟨rfl,rfl⟩;clear m9)|(go_at_call 8;go_fit (H.3 _ (H.2.below R1.o));rintro e w2 ⟨R,G,V,bl,hh,rfl,hR,dj,hk,hm,hg,hB,hl,cy⟩;have ct:=hR.low R1.o.size;have c5:=hR.room.c5;have:R.n<=6:=(by have:=hR.kn;omega);have R2:=ZI (RmI.start ct dj (Zq R1.o.size hg) (Zq R1.o.size hB) hl (R1.o.trans (cy.mono R1.o.size)));clear hR dj hk hm hg hB hl cy ct));go_cut [11,12] from 43 to 60 (λ_ _ wx=>RmI W R 402 wx)
 case first=>
  go_wp2;go_loopw [11,12] (λiv _ wr=>∃t:Nat,t<=N/\t<=20/\iv=(t:Int)/\RmI W R (2+20*t) wr) (λiv _ _=>20- (intOf iv).toNat)
  .exact⟨0,Qw,Qw,rfl,R2.o⟩
  obtain⟨t,ey,ew,rfl,hI⟩:=hrel;by_cases C:t<N/\t<20
  .have⟨C,fh⟩:=C;have aq:(t:Int)<(N:Int):=Qw;have:(t:Int)<20:=Qw;have au:t<l.length:=by rw[H.4];exact C
   obtain⟨ho,b,of,rfl,hb,ae⟩:=H.1 t au;have⟨x,hx⟩:=ZK l[t];rw[hx] at ho ae;have⟨G,V,bl,dz,p9,dy,ef,eu,fa,g9,ai⟩:=id hI;have ah:=ai.bel;have O:=λ(j:Nat) (v:Qt) (U:x.cells[j]? =some v)=>(ah.cell (p:=⟨b,of+t*7+j,none⟩) hb).trans (ae j v U);have q0:=O 0 _ rfl;have q1:=O 1 _ rfl;have q2:=O 2 _ rfl;have q3:=O 3 _ rfl;have q4:=O 4 _ rfl;have:=O 5 _ rfl;have:=O 6 _ rfl;rw[Zfc] at q0;have dq:=Rn W wr R (2+20*t) x hI ho H.2 Qw;have HT:=ZI dq;clear O ae ah ai hx ho hI dq;go_wp2_with (go_at_call 21;go_fit HT.o;rintro e w5 ⟨rfl,h5⟩;have R5:=ZI h5;clear h5);go_roundw
   .exact⟨t+1,Qw,Qw,QC,by have U:=R5.o;rw[show 2+20*(t+1)=2+20*t+20 from Qw];exact U⟩
   simp[intOf];omega
  .have HT:=ZI (hI.mono (show 2+20*t<=402 by omega));clear hI;rcases(show(t<N/\t=20)∨t=N by omega) with ⟨cj,rfl⟩|rfl
   .have aq:(20:Int)<(N:Int):=(by omega);clear C;go_wp2;go_meet
    case rel=>exact HT.o
   .clear C;go_wp2;go_meet
    case rel=>exact HT.o
 case rest=>
  clear R2 c5 R1;have⟨G,V,bl,dz,p9,dy,ef,eu,fa,g9,ai⟩:=hcut;have HS:=ZI ai;clear ai;go_wp2;go_loopw [13] (λiv wr=>∃t:Nat,t<=R.n/\iv=(t:Int)/\CmB W R (402+t) t wr) (λiv _=>R.n- (intOf iv).toNat)
  .exact⟨0,Qw,rfl,_,_,_,_,_,_,_,_,_,_,_,HS.o,λj Z=>absurd Z (Nat.not_lt_zero j)⟩
  obtain⟨t,gj,rfl,G,V,bl,hb,p,ha,hc,hs,sd,sx,g,hv,Z⟩:=hrel;clear HS;have c1:=hv.rm.rm.room.c1;by_cases C:t<R.n
  .have aq:(t:Int)<(R.n:Int):=(by omega);have dc:=hv.rm.rm.Zby C;have af:=hv.dead C;have cr:=hv.replace C Qw;have⟨dd,ag⟩:=ZK (V.Ds t).dead;rw[ag] at af cr;have F:=ZP af cr hv Z ag;clear af cr hv Z ag;cases dd
   .go_wp2_with (go_at_call 22;go_fit F.1;rintro e w5 ⟨rfl,rfl⟩);go_roundw
    case measure=>simp[intOf];omega
    case rel=>exact⟨t+1,Qw,QC,_,_,_,_,_,_,_,_,_,_,_,F.2.2.1.mono Qw,λj Z=>by
     rcases Zfg.1 Z with U|rfl
     .exact F.2.2.2.1 j U
     .exact F.2.2.2.2⟩
   .go_wp2_with (first|(go_at_call 22;go_fit F.1;rintro e w5 ⟨rfl,rfl⟩)|(go_at_call 23;go_fit (F.2.1 (by trivial) F.2.2.2.1);rintro e w6 ⟨rfl,J⟩;have R6:=ZI J;clear J));go_roundw
    .exact⟨t+1,Qw,QC,R6.o⟩
    simp[intOf];omega
  .obtain rfl:t=R.n:=(by omega);have bq:=hv.held.few By;have⟨LH,ay⟩:=ZK hs.length;have c6:=hv.rm.rm.room.c6;rw[ay] at bq c6;have dx:2*R.n*(LH+1)<=228:=Zq (Ze2 (show 2*R.n<=12 by omega) (show LH+1<=19 by omega)) Qw;have⟨NN,aj⟩:=ZK (2*R.n*(LH+1));rw[aj] at dx;have dw:2*(R.n:Int)*((LH:Int)+1)=(NN:Int):=by rw[<-aj];simp
   have i1:=Zr (2*(R.n:Int)) Qw;have i2:=Zr ((LH:Int)+1) Qw;have i3:=Zr (NN:Int) Qw;have df:=λ(x:Qs) (hb:Below wr wr x)=>(hv.after hb).Zdh Z H.2 Qw (N:=NN) (by rw[ay,aj];exact Zt _) Qw;have HM:=ZI df;clear df hv Z ay aj;go_upto_region 16 with fail;go_cut [14] from 86 to 100 (λez wx=>ez=.bool true/\CmF W R (402+R.n+NN) wx)
   case first=>
    go_region_law ((try go_simp);go_at_call 24;go_fit (HM.o _ ((Zu _ _).drew));rintro e w7 ⟨rfl,h7⟩;have M:=ZI h7;clear h7)
    all_goals
     go_wp2;go_meet
     case rel=>exact⟨rfl,M.o⟩
   case rest=>
    obtain⟨rfl,G,V7,fe,hb,p7,ha,hc,hs,sd,g,h7,h8,U⟩:=hcut;have c4:=h7.rm.rm.room.c4;have M:=ZN h7 h8 U;clear HM c1 c6 i1 i2 i3 dw h7 h8 U;go_upto_block 4 with (go_at_call 25;go_fit (M.1.scan M.2.1 M.2.2 H.2);rintro e w8 ⟨rfl,fg,h8⟩;have R8:=ZI (show CmK W R (646+0) 0 w8 from⟨_,_,_,_,_,_,_,_,_,_,_,h8.mono Qw,by rw[Ki];omega⟩);clear h8);clear M c4;go_cut [17,18,19] from 120 to 156 (λ_ _ _ wx=>CmK W R 652 R.m wx)
    case first=>
     go_wp2;go_loopw [17,18,19] (λmv iv _ wr=>∃t q:Nat,t<=N3/\q<=R.m/\mv=(q:Int)/\iv=(t:Int)/\CmK W R (646+q) q wr) (λ_ iv _ _=>N3- (intOf iv).toNat)
     .exact⟨0,0,Qw,Qw,rfl,rfl,R8.o⟩
     obtain⟨t,q,ey,hq,rfl,rfl,G,V,bl,hb,p,ha,hc,hs,sd,sx,g,hv,cz⟩:=hrel;have c3:=hv.rm.rm.room.c3;have:=hv.rm.rm.kn;have:=hv.rm.rm.k1;by_cases C:t<N3/\q<R.m
     .have⟨C,eo⟩:=C;have aq:(t:Int)<(N3:Int):=Qw;have:(q:Int)<(R.m:Int):=Qw;have au:t<l3.length:=by rw[H3.3];exact C
      obtain⟨b,o,rfl,ee,ae⟩:=H3.1 t au;have⟨z0,z1⟩:=H3.2 _ (Zl au);have⟨x,hx⟩:=ZK l3[t];rw[hx] at ae z0 z1;have cx:=(hv.bel.cell (p:=⟨b,o+t,none⟩) ee).trans ae;have dh:0<R.n:=Qw;have⟨i,hi⟩:=ZK (J8 x R.n);have bu:i<R.n:=by rw[<-hi];exact JA _ dh
      have:(i:Int)<(R.n:Int):=Qw;have bf:=λ(y:Qs)=>Af x R.n y z0 z1 dh Qw;rw[hi] at bf;have c1:=hv.rm.rm.room.c1;have dc:=hv.rm.rm.Zby bu;have HV:=ZX hv cz bf;clear hv cz bf hx ae hi;go_upto_region 24 with fail;go_quiet ((go_at_call 9;exact Calls.quiet_of_same ((HV.3 _).mono λe w' h=>⟨h.1,h.2.symm⟩)));have aw:=HV.1.after (YE (Zu _ wr) nq);have bj:=HV.2;clear HV cx c1 c3 dc;generalize wr.drewN nq=wq at*
      have af:=aw.dead bu;have de:=aw.kill bu Qw bj eo;have⟨dd,ag⟩:=ZK (V.Ds i).dead;rw[ag] at af;have F:=ZO af de aw bj;clear af de aw bj ag;cases dd
      .go_wp2_with (first|(go_at_call 22;go_fit F.1;rintro e w5 ⟨rfl,rfl⟩)|(go_at_call 26;go_fit F.2.1;rintro e w6 ⟨rfl,J⟩;have R6:=ZI J;clear J));go_roundw
       .exact⟨t+1,q+1,Qw,Qw,QC,QC,R6.o⟩
       simp[intOf];omega
      .go_wp2_with (go_at_call 22;go_fit F.1;rintro e w5 ⟨rfl,rfl⟩);go_roundw
       .exact⟨t+1,q,Qw,Qw,rfl,QC,_,_,_,_,_,_,_,_,_,_,_,F.2.2.1,F.2.2.2⟩
       simp[intOf];omega
     .have HT:=ZI (show CmK W R 652 R.m wr from⟨_,_,_,_,_,_,_,_,_,_,_,hv.mono Qw,Qw⟩);clear hv;rcases(show(t<N3/\q=R.m)∨t=N3 by omega) with ⟨cj,rfl⟩|rfl
      .have aq:(t:Int)<(N3:Int):=(by omega);clear C;go_wp2;go_meet
       case rel=>exact HT.o
      .clear C;go_wp2;go_meet
       case rel=>exact HT.o
    case rest=>
     clear R8;obtain⟨G,V,bl,hb,p,ha,hc,hs,sd,sx,g,hv, -⟩:=hcut;have⟨T,t0,t1,t2,t3,t4⟩:=hv.holds H.2;have bm:=t2 _ _ t0 ((Zu _ wc).drew);have hs0:=ZJ (t1 _ bm) bm;have HZ:=ZX t1 t3 t4;have⟨y4,y6⟩:=hs0.1;clear t0 t1 t2 t3 t4 bm hv;go_upto_region 28 with fail;go_region_held3 (λx:Qs=>(x.cell? ⟨R.r,4,none⟩=(G.s)/\x.cell? ⟨R.r,6,none⟩=some (.slice ha hs.length hc))/\T x) (first|exact hs0|assumption)
      (first|(go_at_call 14;go_fit (HZ.3 _ (Zft (by assumption)));rintro e w6 ⟨rfl,ak⟩;have er:=ZJ (HZ.1 _ ak) ak))
     have⟨fc,J⟩:=HZ.2 _ ak;clear ak er hs0 y4 y6 HZ;have c1:=J.rm.rm.room.c1;have c2:=J.rm.rm.room.c2;have c3:=J.rm.rm.room.c3;have dm:=λ(x:Qs) (hb:Below w6 w6 x)=>(J.after hb).opens H.2 Qw;have HO:=ZI dm;clear dm J;go_upto_region 29 with fail;go_region_law ((try go_simp);go_at_call 27;go_fit (HO.o _ ((Zu _ _).drew));rintro e w7 ⟨s7,rfl,T7,q0,q1,q2,q3,q4⟩;have:=q1 _ q0;have M:=ZN q0 q3 q4;clear q0 q1 q2 q3 q4);clear c1 c2 c3 HO;go_wp2_with (go_at_call 14;go_fit (M.2.2 _ M.1);rintro e w8 ⟨rfl,cu⟩;have R8:=ZI cu;clear cu)
     all_goals
      go_ret;exact⟨rfl,M.2.1 _ R8.o⟩
