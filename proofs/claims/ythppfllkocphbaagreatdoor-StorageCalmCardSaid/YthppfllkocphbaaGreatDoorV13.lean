/- Part 14: lemmas. -/
import Derived.Test.YthppfllkocphbaaGreatDoorV12
namespace Go.Proofs.YthppfllkocphbaaGreatDoor
set_option linter.all false
set_option maxHeartbeats 25600000
set_option maxRecDepth 100000
open Tryz Go.RowKit
open Go renaming World->Qs,Value->Qt,TypeId->Qu,Ending->Qv
open Go.Shelf
variable{B k m n p r s t td tl ts:Nat}{P:Pw}{ds gh xs:Nat->Nat}{dv sv:Value}{w' w0 w2 w3 w8 wr:World}
def Z28(n:Nat):(Dk.fresh n).wait.length<=1000:=ZeT _
def Z26(n:Nat):(Dk.fresh n).Zaq<=2:=by show(0:Int)<=2;omega
structure RmB(B:Nat)(P:Pw)(w0:Qs)(r p k m td:Nat)(dv sv:Qt)(ds gh:Nat->Nat)(wr:Qs):Prop where
 room:Row wr r 39 [p,dv,(k:Int),(m:Int),.pointer none,.pointer none,(),sv]
 pw:Y6 wr p P
 dk:∀i,i<td->Y7 wr p (ds i) (gh i) (.slice none 0 0) (Dk.fresh 800)
 ge:∀i,i<td->w0.heap.size<=ds i/\w0<=gh i
 ap:∀i j,i<td->j<td->i≠j->ds i≠ds j/\gh i≠gh j
 rge:w0<=r
 pge:B<=p
 pok:P.ok
 bw:B<=w0
 bel:Below w0 w0 wr
def RmB.fr(h:RmB B P w0 r p k m td dv sv ds gh wr){X:Qj}(C:Fr X wr w')(F:QL wr X [47,4])(O:∀x∈X,w0.heap.size<=x):RmB B P w0 r p k m td dv sv ds gh w':=by refine⟨h.room.fr C (F.Zap h.room Qx),h.pw.fr C (F.Zap h.pw Qx),λi hi=> ?_,h.ge,h.ap,h.rge,h.pge,h.pok,h.bw,h.bel.trans (C.below h.bel.size O)⟩;have J:=h.dk i hi;obtain⟨l,M⟩:∃l,Row wr (gh i) 5 l:=⟨_,J.bytes.row⟩;exact J.fr C (F.Zap J.top Qx) (F.Zap M Qx) (λg U=>by cases U)
def RmB.after(h:RmB B P w0 r p k m td dv sv ds gh wr)(hb:Below wr wr w'):RmB B P w0 r p k m td dv sv ds gh w':=h.fr (X:=[]) (Z1 (L:=[]) hb) (λk C=>by cases C) (λk C=>by cases C)
def RmB.put(h:RmB B P w0 r p k m td dv sv ds gh wr){M O:Qt}{l:Qk}(hr:Row w' r 39 [p,M,(k:Int),(m:Int),.pointer none,.pointer none,(),O])(F:Fr [r] wr w'):RmB B P w0 r p k m td M O ds gh w':=by have J:QL wr [r] [39]:=QL.row h.room Qx;refine⟨hr,h.pw.fr F (J.Zap h.pw Qx),λi hi=> ?_,h.ge,h.ap,h.rge,h.pge,h.pok,h.bw,h.bel.trans (F.below h.bel.size (λk U=>by rw[Z6] at U;subst U;exact h.rge))⟩;have C:=h.dk i hi;obtain⟨l,Z⟩:∃l,Row wr (gh i) 5 l:=⟨_,C.bytes.row⟩;exact C.fr F (J.Zap C.top Qx) (J.Zap Z Qx) (λg hg=>by cases hg)
def RmB.more(h:RmB B P w0 r p k m td dv sv ds gh wr)(hb:Below wr wr w'){d g:Nat}(Z:Y7 w' p d g (.slice none 0 0) (Dk.fresh 800))(h1:wr<=d)(O:wr<=g):RmB B P w0 r p k m (td+1) dv sv (upd ds td d) (upd gh td g) w':=by
 have C:=h.after hb;have:=h.bel.size
 have M:∀i,i<td->ds i<wr.heap.size/\gh i<wr.heap.size:=λi hi=>⟨(h.dk i hi).top.lt,by
  obtain⟨l,O⟩:∃l,Row wr (gh i) 5 l:=⟨_,(h.dk i hi).bytes.row⟩
  exact O.lt⟩
 refine⟨C.room,C.pw,λi hi=> ?_,λi hi=> ?_,λi j hi hj U=> ?_,h.rge,h.pge,h.pok,h.bw,C.bel⟩
 .by_cases e:i=td
  .subst e;rw[QX,QX];exact Z
  .rw[QP _ _ e,QP _ _ e];exact C.dk i Qw
 .by_cases e:i=td
  .subst e;rw[QX,QX];omega
  .rw[QP _ _ e,QP _ _ e];exact h.ge i Qw
 .by_cases F:i=td
  .subst F;have hl:=M j Qw;rw[QX,QX,QP _ _ Qw,QP _ _ Qw];omega
  .have hl:=M i Qw;rw[QP ds _ F,QP gh _ F];by_cases J:j=td
   .subst J;rw[QX,QX];omega
   .rw[QP _ _ J,QP _ _ J];exact h.ap i j Qw Qw U
theorem RmB.pd(h:RmB B P w0 r p k m td dv sv ds gh wr){i:Nat}(hi:i<td):PD B wr p (ds i) 800 P (Dk.fresh 800) [ds i,gh i]:=by have:=h.ge i hi;have:=h.bw;refine⟨h.pw,h.pok,⟨gh i,.slice none 0 0,by simp[QV,Value.ownBlock],h.dk i hi⟩,Za7 Qw Qw,h.pge,λq F=> ?_⟩;grind
theorem RmB.dap(h:RmB B P w0 r p k m td dv sv ds gh wr){i j:Nat}(hi:i<td)(C:j<td)(M:i≠j):∀q∈[ds i,gh i],q∉[ds j,gh j]:=λq O hm=>by have:=h.ap i j hi C M;obtain⟨l,F⟩:∃l,Row wr (gh i) 5 l:=⟨_,(h.dk i hi).bytes.row⟩;obtain⟨l,J⟩:∃l,Row wr (gh j) 5 l:=⟨_,(h.dk j C).bytes.row⟩;have:=Row.ne (h.dk i hi).top J Qx;have:=Row.ne (h.dk j C).top F Qx;grind
structure RmS(B:Nat)(P:Pw)(w0:Qs)(r p k m td tl ts:Nat)(dv sv:Qt)(ds gh:Nat->Nat)(wr:Qs):Prop where
 b:RmB B P w0 r p k m td dv sv ds gh wr
 down:wr.ownsRow w0 47 1 dv tl (Wv tl ds)
 Zbf:wr.ownsRow w0 4 1 sv ts (List.replicate ts (.bool true))
 sz:ZSp wr sv ts (.bool false)
theorem I4{w:Qs}{base:Nat}{e:Qu}{v:Qt}{xs:Qk}(h:w.ownsRow base e k v n xs){ts:List Qu}(he:e∈ts):QL w (QV v) ts:=λq C=>by have⟨l,f,F,_⟩:=YS h q C;grind
def RmS.after(h:RmS B P w0 r p k m td tl ts dv sv ds gh wr)(hb:Below wr wr w'):RmS B P w0 r p k m td tl ts dv sv ds gh w':=⟨h.b.after hb,Jr h.down hb,Jr h.Zbf hb,h.sz.fr (Z1 (L:=[]) hb) Qx (λq C=>by have⟨l,r⟩:=YS h.Zbf q C;exact r.lt)⟩
def RmS.more(h:RmS B P w0 r p k m t t ts dv sv ds gh wr)(hb:Below wr wr w'){d g:Nat}(J:Y7 w' p d g (.slice none 0 0) (Dk.fresh 800))(C:wr<=d)(F:wr<=g):RmS B P w0 r p k m (t+1) t ts dv sv (upd ds t d) (upd gh t g) w':=by
 refine⟨h.b.more hb J C F,?_,Jr h.Zbf hb,h.sz.fr (Z1 (L:=[]) hb) Qx (λq M=>by have⟨l,r⟩:=YS h.Zbf q M;exact r.lt)⟩;have e:Wv t (upd ds t d)=Wv t ds:=Zea λi hi=>by rw[ZdS] at hi;rw[QP _ _ Qw]
 rw[e];exact Jr h.down hb
def RmS.Zdp(h:RmS B P w0 r p k m (t+1) t ts dv sv ds gh w2)(hb:Below w2 w2 w3){g2 c2:Nat}(ho:w8.ownsRow w0 47 1 (.slice g2 (t+1) c2) (t+1) (Wv t ds++[.pointer (some ⟨ds t,0,none⟩)]))(Z:Fr (QV dv) w3 w8):RmS B P w0 r p k m (t+1) (t+1) ts (.slice g2 (t+1) c2) sv ds gh (w8.setCell ⟨r,1,none⟩ (.slice g2 (t+1) c2)):=by
 have C:=h.after hb;have ht:=I4 C.down (ts:=[47,4]) Qx;have af:=Ai C.down;have U:=C.b.fr Z ht af;have ae:∀q∈QV sv,q∉QV dv:=λq F hm=>by have⟨l1,r1⟩:=YS C.Zbf q F;have⟨l2,r2⟩:=YS C.down q hm;exact Row.ne r1 r2 Qx rfl
 have M:=JY C.Zbf Z ae;have J:Fr [r] w8 (w8.setCell ⟨r,1,none⟩ (.slice g2 (t+1) c2)):=(Fr.refl _ _).setCell (Zv Qx) _;have O:∀{e:Qu} {v:Qt} {n:Nat} {xs:Qk},w8.ownsRow w0 e 1 v n xs->e≠39->∀q∈QV v,q∉[r]:=fun{e v n xs} hh he q F hm=>by rw[Z6] at hm;subst hm;have⟨l1,r1⟩:=YS hh q F;exact Row.ne r1 U.room he rfl
 have ag:Wv (t+1) ds=Wv t ds++[.pointer (some ⟨ds t,0,none⟩)]:=by unfold Wv;rw[ZdX,Zo];rfl
 refine⟨U.put (l:=[]) (U.room.set 1 _) J,?_,JY M J (O M Qx),(C.sz.fr Z ae (λq F=>by have⟨l,r⟩:=YS C.Zbf q F;exact r.lt)).fr J (O M Qx) (λq F=>by have⟨l,r⟩:=YS M q F;exact r.lt)⟩;rw[ag];exact JY ho J (O ho Qx)
def RmS.Zdq(h:RmS B P w0 r p k m td tl t dv sv ds gh w2)(hb:Below w2 w2 w3){g2 c2:Nat}(M:w8.ownsRow w0 4 1 (.slice g2 (t+1) c2) (t+1) (List.replicate t (.bool true)++[.bool true]))(hf:Fr (QV sv) w3 w8)(hz:ZSp w8 (.slice g2 (t+1) c2) (t+1) (.bool false)):RmS B P w0 r p k m td tl (t+1) dv (.slice g2 (t+1) c2) ds gh (w8.setCell ⟨r,7,none⟩ (.slice g2 (t+1) c2)):=by
 have C:=h.after hb;have ht:=I4 C.Zbf (ts:=[47,4]) Qx;have af:=Ai C.Zbf;have U:=C.b.fr hf ht af
 have ae:=JY C.down hf (λq F hm=>by
  have⟨l1,Z⟩:=YS C.down q F;have⟨l2,r2⟩:=YS C.Zbf q hm
  exact Row.ne Z r2 Qx rfl)
 have J:Fr [r] w8 (w8.setCell ⟨r,7,none⟩ (.slice g2 (t+1) c2)):=(Fr.refl _ _).setCell (Zv Qx) _;have O:∀{e:Qu} {v:Qt} {n:Nat} {xs:Qk},w8.ownsRow w0 e 1 v n xs->e≠39->∀q∈QV v,q∉[r]:=fun{e v n xs} hh he q F hm=>by rw[Z6] at hm;subst hm;have⟨l1,Z⟩:=YS hh q F;exact Row.ne Z U.room he rfl
 have ag:List.replicate (t+1) (Value.bool true)=List.replicate t (.bool true)++[.bool true]:=List.replicate_succ';refine⟨U.put (l:=[]) (U.room.set 7 _) J,JY ae J (O ae Qx),?_,hz.fr J (O M Qx) (λq F=>by have⟨l,r⟩:=YS M q F;exact r.lt)⟩;rw[ag];exact JY M J (O M Qx)
theorem Z1T{n ps s:Nat}{xs:Nat->Nat}{G:Eg}{Ls:Nat->List Nat}{w1:Qs}(hb:Below wr wr w1)(F:Fr (G.p::Wx G Ls (λi=>[G.xs i])) w1 w'){y:Nat}{e:Qu}{l:Qk}(C:Row wr y e l)(O:y≠G.p)(M:∀i,i<G.n->y∉Ls i)(hs:wr<=G.s)(hx:∀i,i<G.n->wr.heap.size<=G.xs i):Row w' y e l:=by
 have:=C.lt;refine(C.after hb).fr F (λhm=> ?_);rcases Zk.1 hm with h|hm
 .omega
 .rcases WL.1 hm with h|⟨i,hi,h⟩|⟨i,hi,h⟩
  .omega
  .simp_all
  .grind
def RmS.d8(h:RmS B P w0 r p k m td tl ts dv sv ds gh w2)(hb:Below w2 w2 w3)(F:Fr (QV dv) w3 w8):RmB B P w0 r p k m td dv sv ds gh w8:=by have C:=h.after hb;exact C.b.fr F (I4 C.down (ts:=[47,4]) Qx) (Ai C.down)
def RmS.s8(h:RmS B P w0 r p k m td tl ts dv sv ds gh w2)(hb:Below w2 w2 w3)(F:Fr (QV sv) w3 w8):RmB B P w0 r p k m td dv sv ds gh w8:=by have C:=h.after hb;exact C.b.fr F (I4 C.Zbf (ts:=[47,4]) Qx) (Ai C.Zbf)
theorem Z5N{w4:Qs}{N gd cd gs cs ms c:Nat}{V:Ev}(h:RmS B P w0 r p k m N N N (.slice gd N cd) (.slice gs N cs) ds gh wr)(M:∃sp,Row wr gd 47 (Wv N ds++sp))(O:∃sp,Row wr gs 4 (List.replicate N (.bool true)++sp)/\∀v,sp[0]? =some v->v=.bool false)(J:Below wr wr w3)(hE:QG B ⟨N,p,s,ms,c,xs,ds⟩ (Wx ⟨N,p,s,ms,c,xs,ds⟩ (λi=>[ds i,gh i]) (λi=>[xs i])) V w3 w4)(hs:wr<=s)(hx:∀i,i<N->wr.heap.size<=xs i)(af:N=k+m)(ae:1<=k):∃bl,Yr B w4 ⟨r,gd,cd,gs,cs,k,m,N⟩ ⟨N,p,s,ms,c,xs,ds⟩ V bl (.pointer none) (.pointer none) none 0 [] (λ_=>true)/\(∀q∈bl,w0.heap.size<=q)/\Fr [p] w0 w4:=by
 have⟨ai,M⟩:=M;have⟨aj,O,ag⟩:=O;have⟨bl,he,hg,hf⟩:=hE;have F:∀{y:Nat} {e:Qu} {l:Qk},Row wr y e l->e≠112->e≠109->e≠5->Row w4 y e l:=fun{y e l} hr h1 h2 h3=>by
  refine Z1T (n:=N) (ps:=p) (s:=s) (xs:=xs) (G:=⟨N,p,s,ms,c,xs,ds⟩) (Ls:=λi=>[ds i,gh i]) J hf hr (Row.ne hr h.b.pw h1) (λi hi hm=> ?_) hs hx;have Z:=h.b.dk i hi;simp at hm;rcases hm with C|C
  .exact Row.ne hr Z.top h2 C
  .exact Row.ne hr Z.bytes.row h3 C
 have ah:=h.b.bel.size;have:=J.size;have:∀q∈Wx ⟨N,p,s,ms,c,xs,ds⟩ (λi=>[ds i,gh i]) (λi=>[xs i]),w0.heap.size<=q:=λq U=>by
  rcases WL.1 U with C|⟨i,hi,C⟩|⟨i,hi,C⟩
  .grind
  .have:=h.b.ge i hi;grind
  .grind
 refine⟨bl,⟨F h.b.room Qx Qx Qx,⟨ai,F M Qx Qx Qx⟩,⟨aj,?_,ag⟩,YZ.nil _ _,he,Zq h.b.bw h.b.rge,rfl,af.symm,ae⟩,λq U=> ?_,(Z1 (L:=[p]) (h.b.bel.trans (J.mono ah))).trans hf (λq U aq=> ?_)⟩
 .have C:=F O Qx Qx Qx;have e:sdC (λ_=>true) N=List.replicate N (.bool true):=by simp[sdC,List.map_const']
  simp_all
 .grind
 .grind
def Mb(w:Qs)(k m:Nat)(ah:1<=k)(du:k<=4)(dx:m<=3)(ht:Ty w):Calls prog 8 #[(k:Int),(m:Int),(800:Int)] w λe w'=>∃R G V bl h,e=.returned R.r/\Yr w w' R G V bl (.pointer G.s) (.pointer (h:Nat)) none 0 [] (λ_=>true)/\Y1 K11 2 R.k R.m R.n 0 (λ_=>none) (λ_=>true) V/\R.k=k/\R.m=m/\w<=R.gs/\w.heap.size<=h/\Xb w' h G.s 0 [] false/\Below w w w':=by
 obtain⟨N,hN⟩:=ZL (k+m);have d6:IntKind.i64.wrap ((k:Int)+(m:Int))=(N:Int):=by rw[Zr _ Qw];omega
 have aq:1<=N:=Qw;have dt:N<=7:=Qw;have df:=ht.lt;have H:=ZM ht hN;clear ht hN;go_enter func8,ntmps8;go_wp2_with (go_at_call 29;refine(Z4g _).mono ?_;rintro e w1 ⟨p,rfl,bz,cj,au⟩;have U:=ZX bz cj au;clear bz cj au);have I0:RmS w ⟨false, -1,0⟩ w w1 p k m 0 0 0 (.slice none 0 0) (.slice none 0 0) (λ_=>0) (λ_=>0) (w1.alloc (.cells #[p,(),(k:Int),(m:Int),.pointer none,.pointer none,(),()] 39)):=by have aw:=(Zu w1 w1).alloc (Zt _) (.cells #[p,(),(k:Int),(m:Int),.pointer none,.pointer none,(),()] 39);exact⟨⟨Z2 w1 _ _,U.2.after aw,λi hi=>Qw,λi hi=>Qw,λi j hi=>Qw,U.3.size,U.1,⟨Qz,Qz⟩,Zt _,U.3.trans (aw.mono U.3.size)⟩,ZA _ _ _ _,ZA _ _ _ _,ZSp.nil _ _ _⟩
 have HI:=ZI I0;clear I0;generalize w1.alloc (.cells #[p,(),(k:Int),(m:Int),.pointer none,.pointer none,(),()] 39)=w2 at*
 generalize w1.heap.size=r at*
 clear U;go_loopw [8] (λkv wr=>∃ (t:Nat) (dv sv:Qt) (ds gh:Nat->Nat),t<=N/\kv=(t:Int)/\RmS w ⟨false, -1,0⟩ w r p k m t t t dv sv ds gh wr) (λkv _=>N- (intOf kv).toNat)
 .exact⟨0,_,_,_,_,Qw,rfl,HI.o⟩
 obtain⟨t,dv,sv,ds,gh,dz,rfl,C⟩:=hrel;by_cases dw:t<N
 .have dy:(t:Int)<(N:Int):=by omega
  have c0:=C.b.room.c0;have HS:=ZI C;clear C;go_wp2_with (first|(go_at_call 16;refine(Z4h p 800 _ Qw Qw).mono ?_;rintro e w3 ⟨d,g,rfl,bf,bg,bh,hb⟩;have hM:=HS.o.more hb bh bf bg;have c1:=hM.b.room.c1;have ha:=(Zu w3 w3).alloc (Zt _) (.cells #[d] 47);have cr:Row (w3.alloc (.cells #[d] 47)) w3 47 [.pointer d]:=Z2 w3 _ _;have HM:=ZN hM ha cr;clear bf bg bh hb hM ha cr c0)|(at_builtin;have F:=HM;clear HM;refine Bg _ rfl (.tmp 40) (.tmp 42) 33 47 rfl underlying33 Z11 rfl Qw Qw w.heap.size dv t (Wv t ds) rfl (by have h9:=(F.1.after F.2.1).down;have e9:Wv t (upd ds t d)=Wv t ds:=Zea (λi hi=>by rw[ZdS] at hi;rw[QP _ _ Qw]);rw[e9] at h9;exact h9) w3.heap.size 1 [.pointer d] rfl Qw Qw rfl F.2.2 (by simp[Value.oneCell']) (by have:=F.1.b.bel.size;simp;omega) Qw ?_;intro g2 ae w8 ho J _ _ _;have h8:=(F.1.d8 F.2.1 J).room;have k8:=h8.c1;have f8:=h8.free (j:=1) Qx;have ai:=F.1.Zdp F.2.1 (by rw[QX];have e9:Wv t (upd ds t d)=Wv t ds:=Zea (λi hi=>by rw[ZdS] at hi;rw[QP _ _ Qw]);rw[e9];exact ho) J;have c7:=ai.b.room.c7;have HP:=ZI ai;clear ho J h8 ai c1)|(at_builtin;have M:=HP;clear HP;have O:=(Zu _ (w8.setCell ⟨r,1,none⟩ (.slice g2 (t+1) ae))).alloc (Zt _) (.cells #[true] 4);have af:=Z2 (w8.setCell ⟨r,1,none⟩ (.slice g2 (t+1) ae)) 4 [.bool true];have cw:=M.o.b.bel.size;have dj:(w8.setCell ⟨r,1,none⟩ (.slice g2 (t+1) ae)).heap.size=w8.heap.size:=Qx;rw[dj] at af;refine Z8D _ rfl (.tmp 50) (.tmp 51) 37 4 rfl underlying37 NQ rfl Qw w.heap.size sv t (List.replicate t (.bool true)) rfl (Jr M.o.Zbf O) (M.o.sz.fr (Z1 (L:=[]) O) Qx (λq hq=>by obtain⟨l,r⟩:=YS M.o.Zbf q hq;exact r.lt)) w8.heap.size [.bool true] rfl rfl af (by simp[Value.oneCell']) (Zq cw O.size) Qw ?_;intro g3 cy w9 ho J _ cu;have h9:=(M.o.s8 O J).room;have k9:=h9.c7;have f9:=h9.free (j:=7) Qx;have R9:=ZI (M.o.Zdq O ho J cu);clear ho J h9 O af cw cu));go_roundw
  .exact⟨t+1,_,_,_,_,Qw,QC,R9.o⟩
  simp[intOf];omega
 .obtain rfl:t=N:=by omega
  obtain⟨gd,cd,dp,rfl, -, -, -,ag⟩:=BE C.down aq;obtain⟨gs,cs,dq,rfl, -, -, -,ak⟩:=BE C.Zbf aq;have cz:w<=gs:=AF C.Zbf (by rfl);have ct:=C.sz.row ak Qx;have c1:=C.b.room.c1;have bj:=Z16 w wr K11 gd t cd k m p ds ⟨false, -1,0⟩ (λ_=>Dk.fresh 800) (λi=>[ds i,gh i]) (λi hi=>ag.cell (by rw[Za (by rw[BG];exact hi)];exact BF _ _ _ hi)) ag.lt ah H.2 Qw C.b.bel.size (λi hi=>C.b.pd hi) (λi j hi hj dh=>C.b.dap hi hj dh) (H.1.below C.b.bel) df By rfl Qx (λi hi=>⟨rfl,Z28 800⟩);have HF:=ZP bj C ag ak ct;clear bj C ag ak HI ct;go_wp2_with (first|(go_at_call 17;refine HF.1.mono ?_;rintro e w4 ⟨s,ms,c,xs,V,w3,rfl,ay,hE,hF,hs,hx⟩;obtain⟨bl,hR,de,bm⟩:=Z5N HF.2.1 ⟨dp,HF.2.2.1⟩ ⟨dq,HF.2.2.2⟩ ay hE hs hx H.2 ah;have f4:=hR.room.free (j:=4) (by simp[BH]);have c4:=hR.room.c4;have az:Below w w w4:=bm.below (Zt _) (λq hq=>(by rw[Z6] at hq;subst hq;exact HF.2.1.b.pge));have HD:=ZX (hR.Zd2 (.pointer s)) hF (az.trans (hR.below (.pointer s) 4));clear hR de bm ay hE hF hs hx az)|(go_at_call 30;refine(Ph _ s).mono ?_;rintro e w5 ⟨hh,rfl,bq,⟨dm,aj⟩,hb5⟩;have Z:=HD.1.after hb5;have cn:=aj.fr (L:=[r]) ((Fr.refl [r] w5).setCell (a:=w5) (p:=⟨r,5,none⟩) (Zv Qx) (.pointer hh)) (by rw[Z6];exact Row.ne aj Z.room Qz);have bu:w<=hh:=Zq HD.1.bw (Zq Qx bq);have HL:=ZM bu cn;have f5:=Z.room.free (j:=5) (by simp[BH]);have c5:=Z.room.c5;have HR:=ZM (Z.Zbw (.pointer hh)) ((HD.3.trans (hb5.mono HD.1.bw)).trans (Z.below (.pointer hh) 5));clear Z hb5 bq aj cn bu));go_ret;exact⟨⟨r,gd,cd,gs,cs,k,m,t⟩,⟨t,p,s,ms,c,xs,ds⟩,V,bl,hh,rfl,HR.1,HD.2.set By ah H.2.symm (λi hi=>Z26 800),rfl,rfl,cz,HL.1,⟨dm,HL.2⟩,HR.2⟩
variable{Ds Ds':Nat->Dk}{G:Eg}{L:List Bs}{P':Pw}{R:Rg}{V:Ev}{bl bl' bl0:List Nat}{ha ka:Option Addr}{hc hh:Nat}{hs:QY}{hv:Value}{sd:Nat->Bool}{w:World}
structure RmD(B:Nat)(w:Qs)(R:Rg)(p:Nat)(ds:Nat->Nat)(P:Pw)(Ds:Nat->Dk)(bl:Qj)(sv hv:Qt)(ha:Qm)(hc:Nat)(hs:QY)(sd:Qr):Prop where
 room:Row w R.r 39 (BH R p sv hv ha hs.length hc)
 ZaY:∃sp,Row w R.gd 47 (Wv R.n ds++sp)
 Zb8:∃sp,Row w R.gs 4 (sdC sd R.n++sp)/\∀v,sp[0]? =some v->v=.bool false
 held:YZ w ha hs
 at_:DAt B w p R.n ds P Ds bl
 pw:Y6 w p P
 pB:B<=p
 rB:B<=R.r
 bw:B<=w
 kn:R.k+R.m=R.n
 k1:1<=R.k
 n16:R.n<=16
def Yr.d(h:Yr B w R G V bl sv hv ha hc hs sd):∃bl',RmD B w R G.p G.ds V.P V.Ds bl' sv hv ha hc hs sd/\∀q∈bl',q∈bl:=by have:=h.set.nle;have F:=h.bw;have:=h.gn;obtain⟨Ls,Os,rfl,he⟩:=h.set;refine⟨(List.range R.n).flatMap Ls,⟨h.room,h.ZaY,h.Zb8,h.held,⟨Ls,rfl,λi hi=>he.pd i Qw,λi j hi O=>he.dap i j Qw Qw⟩,he.pw,(he.pd 0 he.n1).bp,h.rB,F,h.kn,h.k1,Qw⟩,λq C=> ?_⟩;have⟨i,hi,C⟩:=Dx.1 C;exact WL.2 (Zy (Zv ⟨i,Qw,C⟩))
def RmD.tyd(h:RmD B w R p ds P Ds bl sv hv ha hc hs sd):QL w (p::bl) Az:=QL.cons h.pw Qz (h.at_.typed.mono (λ_ hi=>hi) Qz)
def RmD.ge(h:RmD B w R p ds P Ds bl sv hv ha hc hs sd):∀q∈p::bl,B<=q:=λq C=>by
 rcases Zk.1 C with rfl|C
 .exact h.pB
 .exact h.at_.ge q C
def RmD.fr(h:RmD B w R p ds P Ds bl sv hv ha hc hs sd){X:Qj}{ts:List Qu}(C:Fr X w w')(F:QL w X ts)(M:R.r∉X)(O:47∉ts)(U:4∉ts)(Z:105∉ts)(hd:DAt B w' p R.n ds P' Ds' bl')(hp:Y6 w' p P'):RmD B w' R p ds P' Ds' bl' sv hv ha hc hs sd:=by
 have⟨s1,d1⟩:=h.ZaY;have⟨s2,d2,z2⟩:=h.Zb8;refine⟨h.room.fr C M,⟨s1,d1.fr C (F.Zap d1 O)⟩,⟨s2,d2.fr C (F.Zap d2 U),z2⟩,?_,hd,hp,h.pB,h.rB,Zq h.bw C.size,h.kn,h.k1,h.n16⟩;rcases h.held with h9|⟨g,sp,e,J⟩
 .exact Zv h9
 .exact Zy ⟨g,sp,e,J.fr C (F.Zap J Z)⟩
def RmD.after(h:RmD B w R p ds P Ds bl sv hv ha hc hs sd)(hb:Below w w w'):RmD B w' R p ds P Ds bl sv hv ha hc hs sd:=h.fr (X:=[]) (ts:=[]) (Z1 hb) (λk C=>by cases C) Qx Qx Qx Qx (h.at_.after hb) (Row.after h.pw hb)
def RmD.Zby(h:RmD B w R p ds P Ds bl sv hv ha hc hs sd){i:Nat}(hi:i<R.n):w.cell? ⟨R.gd,i,none⟩=some (.pointer (some ⟨ds i,0,none⟩)):=by have⟨s1,C⟩:=h.ZaY;exact C.cell (by rw[Za (by rw[BG];exact hi)];exact BF _ _ _ hi)
def RmD.made(h:RmD B w R p ds P Ds bl sv hv ha hc hs sd)(C:Fr (p::bl) w w')(he:EAt B w' G V bl')(U:G.p=p)(M:G.ds=ds)(O:G.n=R.n):Yr B w' R G V bl' sv hv ha hc hs sd:=by
 have⟨s1,d1⟩:=h.ZaY;have⟨s2,d2,z2⟩:=h.Zb8;have F:=h.tyd;refine⟨by rw[U];exact h.room.fr C (F.Zap h.room Qz),⟨s1,by rw[M];exact d1.fr C (F.Zap d1 Qz)⟩,⟨s2,d2.fr C (F.Zap d2 Qz),z2⟩,?_,he,h.rB,O,h.kn,h.k1⟩;rcases h.held with h9|⟨g,sp,e,J⟩
 .exact Zv h9
 .exact Zy ⟨g,sp,e,J.fr C (F.Zap J Qz)⟩
def Ty.fr{X:Qj}(h:Ty w)(F:Fr X w w')(C:∀q∈X,B<=q)(hB:B<=w)(J:0<B):Ty w':=by unfold Ty at h⊢;rw[(F.below hB C).cell (p:=⟨0,0,none⟩) J];omega
structure OpL(B:Nat)(w0:Qs)(bl0:Qj)(R:Rg)(G:Eg)(V:Ev)(hh:Nat)(ha:Qm)(hc:Nat)(hs:QY)(sd:Qr)(ka:Qm)(L:List Bs)(wr:Qs):Prop where
 at_:∃bl,Yr B wr R G V bl (.pointer G.s) (.pointer hh) ha hc hs sd/\∀q∈bl,q∈bl0∨w0.heap.size<=q
 ks:Y9 wr ka (L.map str)/\∀g o,ka=some ⟨g,o,none⟩->∃r,Row wr g 9 r
 fr:Fr (R.r::G.p::bl0) w0 wr
 ty:Ty wr
 hl:Xb wr hh G.s 0 [] false
theorem RP(h:Yr B wr R G V bl (.pointer G.s) (.pointer hh) ha hc hs sd)(hg:∀q∈bl,q∈bl0∨w0.heap.size<=q)(F:Fr (R.r::G.p::bl0) w0 wr)(Z:Ty wr)(O:Xb wr hh G.s 0 [] false)(C:QG B G bl V wr w')(U:Y9 w' ka (L.map str)/\∀g o,ka=some ⟨g,o,none⟩->∃r,Row w' g 9 r)(M:0<B):OpL B w0 bl0 R G V hh ha hc hs sd ka L w':=by
 have⟨J,he,ae,hf⟩:=id C;have:=F.size;have⟨s1,d1⟩:=h.ZaY;have⟨s2,d2,z2⟩:=h.Zb8;refine⟨⟨J,⟨C.row h.set h.room Qz,⟨s1,C.row h.set d1 Qz⟩,⟨s2,C.row h.set d2 Qz,z2⟩,h.held.ran C h.set,he,h.rB,h.gn,h.kn,h.k1⟩,λq hq=> ?_⟩,U,F.trans hf (λq hq af=> ?_),QG.ty C h.set Z M,by have⟨rd,h9⟩:=O;exact⟨rd,C.row h.set h9 Qz⟩⟩
 .grind
 .grind
def OpL.ran(h:OpL B w0 bl0 R G V hh ha hc hs sd ka L wr)(F:Yr B wr R G V bl (.pointer G.s) (.pointer hh) ha hc hs sd)(M:∀q∈bl,q∈bl0∨w0.heap.size<=q)(C:QG B G bl V wr w')(J:0<B):OpL B w0 bl0 R G V hh ha hc hs sd ka L w':=RP F M h.fr h.ty h.hl C (Iw h.ks.1 h.ks.2 F.set C) J
def Z3H(B:Nat)(w:Qs)(R:Rg)(p:Nat)(ds:Nat->Nat)(P:Pw)(Ds:Nat->Dk)(bl:Qj)(sv hv:Qt)(ha:Qm)(hc:Nat)(hs:QY)(sd:Qr)(E g:Nat)(H:Bs->Option Bs)(h:RmD B w R p ds P Ds bl sv hv ha hc hs sd)(dh:∀x v,H x=some v->v.length<=200/\x∈K11)(ht:Ty w)(ah:0<B){Q:Ev->Prop}(hQ:∀V,Q V->Y1 K11 E R.k R.m R.n g H sd V){OpW:Qs->Prop}(dj:OpW w)(dm:∀x y,OpW x->Below x.heap.size x y->OpW y)(ek:∀wx,OpW wx->Calls prog 27 #[.slice (some ⟨R.gd,0,none⟩) R.n R.cd,(R.k:Int),(R.m:Int)] wx λe w'=>∃F V' bl',e=.returned (.tuple #[F.s,.nilIface])/\EAt B w' F V' bl'/\Q V'/\F.n=R.n/\F.p=p/\F.ds=ds/\(∀q∈bl',q∈bl∨w.heap.size<=q)/\Fr (p::bl) w w'/\OpW w'):Calls prog 13 #[R.r] w λe w'=>∃F V' bl' hh,e=.returned true/\Yr B w' R F V' bl' (.pointer F.s) (.pointer (hh:Nat)) ha hc hs sd/\Xb w' hh F.s 0 [] false/\w.heap.size<=hh/\Q V'/\F.p=p/\F.ds=ds/\(∀q∈bl',q∈bl∨w.heap.size<=q)/\Fr (R.r::p::bl) w w':=by
 have c1:=h.room.c1;have c2:=h.room.c2;have c3:=h.room.c3;have:=h.n16;have cr:∀A C:Qs,(A.cell? ⟨R.r,1,none⟩=some (.slice (some ⟨R.gd,0,none⟩) R.n R.cd)/\A.cell? ⟨R.r,2,none⟩=(R.k:Int)/\A.cell? ⟨R.r,3,none⟩=(R.m:Int)/\OpW A)->Below A A C->(C.cell? ⟨R.r,1,none⟩=some (.slice (some ⟨R.gd,0,none⟩) R.n R.cd)/\C.cell? ⟨R.r,2,none⟩=(R.k:Int)/\C.cell? ⟨R.r,3,none⟩=(R.m:Int)/\OpW C):=by rintro A C ⟨h0,h1,h2,h7⟩ hb;have key:∀{p:Addr} {v:Qt},A.cell? p=some v->C.cell? p=some v:=λh=>(hb.cell (Z9 A _ h)).trans h;exact⟨key h0,key h1,key h2,dm _ _ h7 hb⟩
 have hs0:=cr w w.drew ⟨c1,c2,c3,dj⟩ ((Zu _ _).drew);have ey:R.r∉p::bl:=h.tyd.Zap h.room Qz;have dy:∀x:Qs,Fr (p::bl) w x->OpW x->(x.cell? ⟨R.r,1,none⟩=some (.slice (some ⟨R.gd,0,none⟩) R.n R.cd)/\x.cell? ⟨R.r,2,none⟩=(R.k:Int)/\x.cell? ⟨R.r,3,none⟩=(R.m:Int)/\OpW x):=λx hf ho=>by have h9:=h.room.fr hf ey;exact⟨h9.c1,h9.c2,h9.c3,ho⟩
 have HK:=ZM cr dy;have H:=ZO h dh ht ek;go_enter func13,ntmps13;go_wp2;go_region_held3 (λx=>x.cell? ⟨R.r,1,none⟩=some (.slice (some ⟨R.gd,0,none⟩) R.n R.cd)/\x.cell? ⟨R.r,2,none⟩=(R.k:Int)/\x.cell? ⟨R.r,3,none⟩=(R.m:Int)/\OpW x) (first|exact hs0|(exact HK.1 _ _ (by assumption) (by assumption))|(exact HK.2 _ bh eh))
  (first|(go_at_call 27;go_fit (H.2.2.2 _ (Zft (Zft (Zft (by assumption)))));rintro e w8 ⟨F,V',bl',rfl,dp,ak,cy,aq,cn,dt,bh,eh⟩))
 have bf:=H.1.made bh dp aq cn cy;have:=bf.room.free (j:=4) (by simp[BH]);have c4:=bf.room.c4;have af:Fr (R.r::F.p::bl) w (w8.setCell ⟨R.r,4,none⟩ (.pointer F.s)):=by rw[aq];exact(bh.mono (λk hk _=>Zh _ hk)).setCell (Zv Qx) _
 have hX:∀q∈R.r::F.p::bl,B<=q:=λq hq=>by
  rw[aq] at hq;rcases Zk.1 hq with rfl|hq
  .exact H.1.rB
  .exact H.1.ge q hq
 have J:=Q3 (bf.Zd2 (.pointer F.s)) ak cy dt af hX aq cn;go_wp2_with (first|(go_at_call 30;go_fit (Ph _ F.s);rintro e w9 ⟨hh,rfl,ai,du,bg⟩;have aj:=(show Xb (w9.setCell ⟨R.r,5,none⟩ (.pointer (hh:Nat))) hh F.s 0 [] false from(by have⟨rd,h8⟩:=du;exact⟨rd,h8.fr ((Fr.refl [R.r] w9).setCell (Zv Qx) _) (by rw[Z6];exact Row.ne h8 (J.1.after bg).room Qz)⟩));have h9:=J.1.after bg;have:=h9.room.free (j:=5) (by simp[BH]);have c5:=h9.room.c5;have af:=(J.5.trans (Z1 (L:=[]) bg) Qx).setCell (p:=⟨R.r,5,none⟩) (Zv Qx) (.pointer (hh:Nat));have H9:=ZZ (h9.Zbw (.pointer (hh:Nat))) af (H.2.2.1.fr af J.6 H.1.bw ah) aj (Zq J.5.size (by have h7:=ai;simpa using h7)))|(go_at_call 43;go_fit (show Calls prog 43 #[F.s,.string ⟨#[]⟩] _ _ from(hQ _ J.2).ZcL H9.1.set J.3);rintro e de ⟨v,L,rfl,bq,ef,ae,ay⟩;obtain⟨a1,fa,rfl⟩:=bq.sl;have ee:Y9 de a1 (L.map str)/\∀g o,a1=some ⟨g,o,none⟩->∃r,Row de g 9 r:=⟨bq.rd,λg o e=>(by subst e;exact YS bq g (YV.2 rfl))⟩;have hL:OpL B w bl R F V' hh ha hc hs sd a1 L de:=RP H9.1 J.4 H9.2 H9.3 H9.4 ay ee ah;have hlen:=ef.length_le_of_subset (l₂:=K11) (λx hx=>(by have⟨v,hv⟩:=ZdT.1 ((ae x).1 hx);exact(H.2.1 x v hv).2));have eu:K11.length<=18:=Qz;have⟨Z,bz⟩:=ZK L.length;have:Z<=18:=Qw;have bu:=ZX hL ae bz;rw[bz]));go_loopw [7] (λkv wr=>∃t:Nat,t<=R.n/\kv=(t:Int)/\OpL B w bl R F V' hh ha hc hs sd a1 L wr) (λkv _=>R.n- (intOf kv).toNat)
 .exact⟨0,Qw,rfl,bu.1⟩
 obtain⟨t,fh,rfl,M⟩:=hrel;have⟨df,U,ag⟩:=M.at_;have c1:=U.room.c1;by_cases bm:t<R.n
 .have:(t:Int)<(R.n:Int):=by omega
  have c7:=U.room.c7;have cs:=U.Zaz bm;cases az:sd t with
  |false=>
   rw[az] at cs;have O:=ZI M;go_wp2;go_roundw
   .exact⟨t+1,Qw,QC,O.o⟩
   simp[intOf];omega
  |true=>
   rw[az] at cs;have dx:(V'.Ms t).isSome=true:=by have⟨S,h1,_⟩:=(hQ _ J.2).snd t bm az;rw[h1];rfl
   have bj:=Ky B wr F V' df t U.set (by rw[J.3];exact bm);rw[dx] at bj;have O:=ZP M U ag bj az;go_wp2_with (go_at_call 44;go_fit O.2.2.2.1;rintro e fi ⟨rfl,au⟩;have eo:=ZI (O.1.ran O.2.1 O.2.2.1 au ah));go_loopw [8] (λkv wi=>∃i:Nat,i<=Z/\kv=(i:Int)/\OpL B w bl R F V' hh ha hc hs sd a1 L wi) (λkv _=>Z- (intOf kv).toNat)
   .exact⟨0,Qw,rfl,eo.o⟩
   obtain⟨i,bj,rfl,M⟩:=hrel;by_cases cu:i<Z
   .have:(i:Int)<(Z:Int):=(by omega);have dw:i<L.length:=by rw[bu.3];exact cu
    have⟨ez,cj,dq⟩:=M.at_;obtain⟨gk,ok,rfl,ck⟩:=M.ks.1 i (by rw[Zf];exact dw);rw[Zf1] at ck;have⟨v9,cz⟩:=ZdT.1 ((bu.2 L[i]).1 (Zl dw));have cw:=H.2.1 _ _ cz;have ct:=(hQ _ J.2).look cj.set J.3 M.ty ah cz cw.2 cw.1 bm O.2.2.2.2;have⟨kk,dz⟩:=ZK L[i];rw[dz] at ck ct;have HI:=ZO M cj dq ct;go_wp2_with (go_at_call 45;go_fit HI.2.2.2;rintro e fj ⟨rfl,aw⟩;have er:=ZI (HI.1.ran HI.2.1 HI.2.2.1 aw ah));go_roundw
    .exact⟨i+1,Qw,QC,er.o⟩
    simp[intOf];omega
   .obtain rfl:i=Z:=(by omega);have HI:=ZI M;go_wp2;go_roundw
    .exact⟨t+1,Qw,QC,HI.o⟩
    simp[intOf];omega
 .obtain rfl:t=R.n:=by omega
  have O:=ZN M U ag;go_wp2;go_ret;exact⟨F,V',df,hh,rfl,O.2.1,O.1.hl,H9.5,J.2,J.7,J.8,O.2.2,by rw[<-J.7];exact O.1.fr⟩
def Hg:Bs:=[104,101,108,108,111]
def KV:List Chg:=[⟨[97],some Hg⟩]
def Z2E:JS (λ_=>none) KV [97]=some Hg:=by simp[JS,KV]
def Y1.o{K:List Bs}{E g:Nat}{H:Bs->Option Bs}(h:Y1 K E k m n g H sd V){i:Nat}{D:Dk}(hl:D.Zaq<=(E:Int)+1)(hm:k<=YG (upd sd i false) n):Y1 K (E+1) k m n g H (upd sd i false) {V with Ds:=upd V.Ds i D,Ms:=upd V.Ms i none}:=by
 refine⟨h.hK,h.k1,h.kn,h.vk,h.vm,h.vg,h.gone,h.Zas,λj C=> ?_,λj C S hM=> ?_,λj C hs=> ?_,hm⟩<;>by_cases e:j=i
 .subst e;simp only[QX];omega
 .simp only[QP _ _ e];have:=h.Zaq j C;omega
 .subst e;simp only[QX] at hM;cases hM
 .simp only[QP _ _ e] at hM⊢;exact⟨(h.in_ j C S hM).1.mono Qw,(h.in_ j C S hM).2⟩
 .subst e;rw[QX] at hs;cases hs
 .simp only[QP _ _ e] at hs⊢;exact h.snd j C hs
def NE(w:Qs)(ht:Ty w):Calls prog 7 #[] w λe w'=>e=.returned true/\Below w w w':=by
 have O:=ht.lt;have HT:=ZI ht;have:((str Hg).toList==[104,101,108,108,111])=true:=by rw[Zeb,Yp];rfl
 go_enter func7,ntmps7;go_wp2_with (first|(go_at_call 8;go_fit (show Calls prog 8 #[(2:Int),(1:Int),(800:Int)] _ _ from Mb _ 2 1 Qw Qw Qw HT.o);rintro e w1 ⟨R,G,V,bl,hh,rfl,F,ak,hk,hm, -, -, -,hb⟩;have c4:=F.room.c4;have c5:=F.room.c5;have aj:R.n=3:=(by have:=F.kn;omega);have:0<R.n:=Qw;rw[hk,hm,aj] at ak;have ai:=F.gn;rw[aj] at ai;have M:=(Zu w1 w1).alloc (Zt _) (.cells #[.string ⟨#[97]⟩,.string ⟨#[104,101,108,108,111]⟩,false] 68);have ag:BR (w1.alloc (.cells #[.string ⟨#[97]⟩,.string ⟨#[104,101,108,108,111]⟩,false] 68)) w1 KV:=⟨[],Z2 w1 _ _⟩;have bf:=(Ty.below HT.o hb).below M;have h:=Q0 (F.after M) ak ai (hb.trans (M.mono hb.size)) ag bf)|(go_at_call 11;go_fit (h.2.ZcQ h.1.set h.3 h.6 O Qw Qw Qz Qz Qz Qz h.5 rfl (Zt _));rintro e w3 ⟨l,V3,hl,rfl,U,ae⟩;rw[MQ hl] at ae;have ay:=QG.ty U h.1.set h.6 O;have aq:=U.below h.1.set;have⟨bg,J⟩:=h.1.ran U;have c1:=J.room.c1;have:=J.Zby (i:=0) (by have:=J.gn;have h2:=h.3;omega);have C:=ZY J ae ay (h.4.trans aq))|(go_at_call 26;refine(Ot _ _ G V3 bg 0 C.1.set (by have h2:=h.3;omega) (by have:=C.2.Zaq 0 Qw;omega)).mono ?_;rintro e w4 ⟨rfl,Z⟩;have az:=QG.ty Z C.1.set C.3 O;have au:=Z.below C.1.set;have⟨bh,ah⟩:=C.1.ran Z;have:=ah.room.c4;have R4:=ZX ah az au)|(go_at_call 28;have af:=C.2.o (i:=0) (D:=(V3.Ds 0).ZaV) (by have:=C.2.Zaq 0 Qw;show(V3.Ds 0).Zaq+1<=_;omega) Qz;go_fit (show Calls prog 28 #[G.s,.string ⟨#[97]⟩] _ _ from af.get R4.1.set h.3 R4.2 O (key:=[97]) (v:=Hg) Z2E Qz Qz);rintro e w5 ⟨rfl,aw⟩;have R5:=ZI ((C.4.trans R4.3).trans (aw.below R4.1.set))));go_ret;exact⟨rfl,R5.o⟩
variable{D:Dk}{E g:Nat}{H:Bs->Option Bs}{K:List Bs}{S:Sto}{cs l:List Chg}{s:Bool}
def OE(l:List Wt):∀ (V:Ev) (i:Nat),V.Ms i=none->(QT l V).2.Ms i=none/\(QT l V).2.Ds i=V.Ds i:=by
 induction l with
 |nil=>intro V i h;exact⟨h,rfl⟩
 |cons x r ih=>
  intro V i h;have C:(Y3 V x).Ms i=none/\(Y3 V x).Ds i=V.Ds i:=by
   unfold Y3;split
   .rename_i S F;have e:i≠x.1:=λe=>by subst e;rw[h] at F;cases F
    exact⟨(QP _ _ e).trans h,QP _ _ e⟩
   .exact⟨h,rfl⟩
  unfold QT;split
  .have⟨J,M⟩:=ih _ i C.1;exact⟨J,M.trans C.2⟩
  .exact C
def Z1v(l:List Wt):∀ (V:Ev) (i:Nat),((QT l V).2.Ds i).dead=(V.Ds i).dead:=by
 induction l with
 |nil=>intro V i;rfl
 |cons x r ih=>
  intro V i;have h:((Y3 V x).Ds i).dead=(V.Ds i).dead:=by
   unfold Y3;split
   .simp only;by_cases e:i=x.1
    .subst e;rw[QX,(XK _ _ _).2]
    .rw[QP _ _ e]
   .rfl
  unfold QT;split
  .rw[ih,h]
  .exact h
section
variable{X:QM}{i:Nat}
def Za9(C:X.Ok n)(hi:i<n)(O:X.g<=1000000000)(M:D.dead=false)(hs:s=true->Xt X.k X.m i X.H (X.T i))(h:X.q0 i D S∨X.p1 i D S):We X.K (X.E+2) X.k X.m X.g i X.H s D (some S) (some S) X.g (acts0 S.dir):=by
 have key:(acts0 S.dir).foldl Ac.on (stR D.reads S.dir)=X.T i->(acts0 S.dir≠[]->∃d f,Ym X.K S (acts0 S.dir) d f)->∀T,some S=some T->(acts0 S.dir≠[]->∃d f,Ym X.K T (acts0 S.dir) d f)/\Wn X.k X.m i X.g X.H ((acts0 S.dir).foldl Ac.on (stR D.reads T.dir))/\(s=true->Xt X.k X.m i X.H ((acts0 S.dir).foldl Ac.on (stR D.reads T.dir))):=λe ha T Z=>by cases Z;rw[e];exact⟨ha,C.rest i hi,hs⟩
 rcases h with h|h
 .have⟨F,J⟩:=Z9z C hi O M h;exact⟨F,λe=>(by cases e),key (by rw[J];exact h.2) (λU=>absurd J U)⟩
 .have⟨F,d,ha⟩:=QM.Zc0 C hi O M h;exact⟨F,λe=>(by cases e),key (funext (Lv (C.rest i hi) h.2 h.1.sorted (λn=>XA)).2) (λ_=>⟨d,[],ha⟩)⟩
def Z9N(F:X.Ok n)(hi:i<n)(U:X.g<=999999999)(O:D.dead=false)(hs:s=true->Xt X.k X.m i X.H (X.T i))(h:X.p1 i D S∨X.p2 i D S):∃γ A,We X.K (X.E+2) X.k X.m (X.g+1) i (upH X.H X.l) s D (some S) (some S) γ A/\(X.p2 i D S->γ=((X.g+1:Nat):Int)):=by
 by_cases C:X.p2 i D S
 .have⟨J,Z⟩:=QM.Zc1 F U O C;refine⟨_,_,⟨J,λe=>(by cases e),λT M=> ?_⟩,λ_=>rfl⟩;cases M;rw[Z];exact⟨λh=>absurd rfl h,C.2.1,λh=>C.2.2 (hs h)⟩
 .have h:=h.resolve_right C;have⟨J,d,ha⟩:=Z9x F hi U O h;obtain⟨-,r2,r3⟩:=FX F.hl.nd (F.rest i hi) h.2 h.1.sorted (λ_=>XA);refine⟨_,_,⟨J,λe=>(by cases e),λT M=> ?_⟩,λh8=>absurd h8 C⟩;cases M;exact⟨λ_=>⟨d,[],ha⟩,r2,λh=>r3 (hs h)⟩
end
def QR.pre(h:QR K E k m n g H sd V)(hp:V.P.gone=false)(U:E<=1900000000)(Z:g<=1000000000)(O:cs≠[])(F:cs.length<=4)(J:∀c∈cs,c.key∈K)(M:∀c∈cs,∀v,c.val=some v->v.length<=200):Bi (Z5 K E k m g H V) n V cs:=by have C:=h.ZaE.pre U Z O F J M;exact⟨C.hK,C.k1,C.rest,C.vk,C.vm,C.vg,C.kn,hp,C.at_,C.many,C.ep,C.gb,C.ne,C.few,C.key,C.val⟩
def QR.Zcg(h:QR K E k m n g H sd V){i:Nat}(hi:i<n)(hs:sd i=true):Xt k m i H (Cl k m g V i):=by have⟨S,F,J⟩:=h.ZaE.snd i hi hs;have C:V.Ms i=some S:=F;unfold Cl;rw[C];exact J
def QR.Zdo(h:QR K E k m n g H sd V)(ha:XO n V)(hn:G.n=n)(he:EAt B w G V bl)(hp:Bi (Z5 K E k m g H V) n V cs)(hl:l.Perm (Wk cs))(hg:g<=999999999)(hE:1<=E){r:Int×Ev}(U:QT (YW ((Z5 K E k m g H V).chg l) (Yj V n)) V=r):((r.1=0/\r.2.P.gone=false)∨(r.1=10/\r.2.P.gone=true))/\∀ (keep:Nat->List Bool) (F:Nat->Int),(r.1≠0/\Rk K (E+2) k m g n H sd (λj=>(r.2.Ds j).lost (keep j) (F j)))∨Rk K (E+2) k m (g+1) n (upH H l) sd (λj=>(r.2.Ds j).lost (keep j) (F j)):=by
 subst hn;have h0:=h.ZaE;have hX:=hp.ok hl;have aw:=hp.start (l:=l) he;have ak:∀j,j<G.n->(V.Ms j).isSome=true->∀ (kp:Qn) (t:Int),((r.2.Ds j).lost kp t).dead=false:=λj C hM kp t=>by show(r.2.Ds j).dead=false;rw[<-U,Z1v];exact(ha j C).2 hM
 have ag:∀j,j<G.n->V.Ms j=none->∀ (kp:Qn) (t:Int) (g':Nat) (H':Bs->Option Bs),∃S I γ A,We K (E+2) k m g' j H' (sd j) ((r.2.Ds j).lost kp t) S I γ A:=λj C hM kp t g' H'=>by rw[<-U,(OE _ V j hM).2,h.ZbK C hM];have⟨S,J⟩:=FK (K:=K) (E:=E+2) (k:=k) (m:=m) (g:=g') (i:=j) (H:=H') ((h.o j C hM).lost kp t) (Hu (ha j C).1 _ _) Qw;exact⟨S,_,_,_,J⟩
 have⟨i0,ai,hs0⟩:=Kj (Zq h0.k1 h0.many);have ah:(V.Ms i0).isSome=true:=by have⟨S,O,_⟩:=h0.snd i0 ai hs0;rw[show V.Ms i0=some S from O];rfl
 have af:∀ (keep:Nat->List Bool) (F:Nat->Int),(∀j,j<G.n->(V.Ms j).isSome=true->∃S,((Z5 K E k m g H V).chg l).p1 j ((r.2.Ds j).lost (keep j) (F j)) S∨((Z5 K E k m g H V).chg l).p2 j ((r.2.Ds j).lost (keep j) (F j)) S)->(∃j,j<G.n/\(V.Ms j).isSome=true/\∃S,((Z5 K E k m g H V).chg l).p2 j ((r.2.Ds j).lost (keep j) (F j)) S)->Rk K (E+2) k m (g+1) G.n (upH H l) sd (λj=>(r.2.Ds j).lost (keep j) (F j)):=λkeep F O h2=>by
  have⟨i1,ay,aq,S1,au⟩:=h2;refine⟨i1,ay,λj C=> ?_⟩;cases hM:V.Ms j with
  |none=>have⟨S,I,γ,A,J⟩:=ag j C hM (keep j) (F j) (g+1) (upH H l);exact⟨S,I,γ,A,J.e,λe=>by subst e;rw[hM] at aq;cases aq⟩
  |some T=>
   have Z:(V.Ms j).isSome=true:=by rw[hM];rfl
   by_cases e:j=i1
   .subst e;have⟨γ,A,h8,J⟩:=Z9N hX C hg (ak j C Z (keep j) (F j)) (λhs=>h.Zcg C hs) (Zy au);exact⟨_,_,γ,A,h8.e,λ_=>J au⟩
   .have⟨S,M⟩:=O j C Z;have⟨γ,A,h8,J⟩:=Z9N hX C hg (ak j C Z (keep j) (F j)) (λhs=>h.Zcg C hs) M;exact⟨_,_,γ,A,h8.e,λe9=>absurd e9 e⟩
 have ae:∀ (keep:Nat->List Bool) (F:Nat->Int),(∀j,j<G.n->(V.Ms j).isSome=true->∃S,((Z5 K E k m g H V).chg l).q0 j ((r.2.Ds j).lost (keep j) (F j)) S∨((Z5 K E k m g H V).chg l).p1 j ((r.2.Ds j).lost (keep j) (F j)) S)->Rk K (E+2) k m g G.n H sd (λj=>(r.2.Ds j).lost (keep j) (F j)):=λkeep F O=>by
  refine⟨i0,ai,λj C=> ?_⟩;cases hM:V.Ms j with
  |none=>have⟨S,I,γ,A,J⟩:=ag j C hM (keep j) (F j) g H;exact⟨S,I,γ,A,J.e,λe=>by subst e;rw[hM] at ah;cases ah⟩
  |some T=>
   have Z:(V.Ms j).isSome=true:=by rw[hM];rfl
   have⟨S,M⟩:=O j C Z;exact⟨_,_,_,_,(Za9 hX C (by show g<=1000000000;omega) (ak j C Z (keep j) (F j)) (λhs=>h.Zcg C hs) M).e,λ_=>rfl⟩
 by_cases hz:r.1=0
 .have aj:=(QM.Zb2 hX aw).1 (by rw[U];exact hz);rw[U] at aj;refine⟨Zv ⟨hz,aj.gone⟩,λkeep F=>Zy (af keep F (λj C hM=> ?_) ⟨i0,ai,ah,?_⟩)⟩
  all_goals
   have key:∀j,j<G.n->(V.Ms j).isSome=true->∃S,((Z5 K E k m g H V).chg l).p2 j ((r.2.Ds j).lost (keep j) (F j)) S:=λj C hM=>by have hs:=Eb (YW ((Z5 K E k m g H V).chg l) (Yj V G.n)) V j;rw[U,hM] at hs;have⟨S,M⟩:=ZdQ.1 hs;have h2:=(aj.at_ j C S M).1;rw[Dt h2.1.wait];exact⟨S,h2⟩
  .exact(key j C hM).imp λS M=>Zy M
  .exact key i0 ai ah
 .have hc:=QM.Zbv hX aw (by rw[U];exact hz);rw[U] at hc;refine⟨Zy (hc (λ_=>[]) (λ_=>0)).2,λkeep F=> ?_⟩;rcases(hc keep F).1 with O|O
  .exact Zv ⟨hz,ae keep F λj C hM=>(O j C hM).imp λS M=>M.imp (λJ=>⟨J.1.mono (by show E<=E+2;omega),J.2⟩) id⟩
  .by_cases J:∃j,j<G.n/\(V.Ms j).isSome=true/\∃S,((Z5 K E k m g H V).chg l).p2 j ((r.2.Ds j).lost (keep j) (F j)) S
   .exact Zy (af keep F O J)
   .exact Zv ⟨hz,ae keep F λj C hM=>(O j C hM).imp λS M=>Zy (M.resolve_right λh8=>J ⟨j,C,hM,S,h8⟩)⟩
def QR.Zb2(h:QR K E k m n g H sd V)(hf:V.P.Zas<0)(ae:V.P.gone=false)(hn:G.n=n)(he:EAt B w G V bl)(hp:Bi (Z5 K E k m g H V) n V cs)(hl:l.Perm (Wk cs)){r:Int×Ev}(hr:QT (YW ((Z5 K E k m g H V).chg l) (Yj V n)) V=r):r.1=0/\r.2.P.gone=false/\r.2.P.Zas<0/\QR K (E+2) k m n (g+1) (upH H l) sd {r.2 with gen:=V.gen+1}:=by
 subst hn;have hX:=hp.ok hl;have⟨c1,c2⟩:=QM.Zb2 hX (hp.start (l:=l) he);rw[hr] at c1 c2;have⟨d1,d2⟩:=c2 hf;have M:=c1 d1;have⟨s1,s2,s3,F⟩:=KK (YW ((Z5 K E k m g H V).chg l) (Yj V G.n)) V;have O:=KJ (YW ((Z5 K E k m g H V).chg l) (Yj V G.n)) V;have ho:=OE (YW ((Z5 K E k m g H V).chg l) (Yj V G.n)) V;rw[hr] at s1 s2 s3 F ho O;refine⟨d1,M.gone,d2,λP U Z=> ?_,λi hi hM=> ?_⟩
 .exact(h.set P U Z).did (l:=l) (V':={{r.2 with gen:=V.gen+1} with P:=P}) s1 s2 rfl U Z O F (λi hi S hM=>by
   have C:=(M.at_ i hi S hM).1
   exact C)
 .have J:V.Ms i=none:=by
   have C:=F i;rw[show r.2.Ms i=none from hM] at C;cases hV:V.Ms i with
   |none=>rfl
   |some S=>rw[hV] at C;cases C
  show Jy (r.2.Ds i);rw[(ho i J).2];exact h.o i hi J
variable{R R':Nat->ByteArray}
def QR.ZbJ(h:QR K E k m n g H sd V){i:Nat}{D:Dk}(hl:D.Zaq<=(E:Int)+1)(hm:k<=YG (upd sd i false) n)(M:Jy D):QR K (E+1) k m n g H (upd sd i false) {V with Ds:=upd V.Ds i D,Ms:=upd V.Ms i none}:=by
 refine⟨λP C F=>(h.set P C F).o hl hm,λj J hM=> ?_⟩;by_cases e:j=i
 .subst e;simp[QX];exact M
 .simp[QP _ _ e] at hM⊢;exact h.o j J hM
def PO(D:Dk):Jy D.ZaV:=Zv rfl
def Sw(ok:D.ok 800):Jy D.ZaJ:=by
 have h:∀a,a<800->D.ZaJ.reads a=YY:=λa ha=>by rw[B6 rfl];unfold Dk.ZaB Dk.ZaJ YY str;simp only[ok.len];rw[List.drop_replicate,List.take_replicate,ZeN Qw]
 exact Zy ⟨rfl,rfl,Zv (by rw[h 0 Qw];exact AA),by rw[h 1 Qw];exact AA,by rw[h 100 Qw];exact AA⟩
theorem Tm(l:Ql)(a i j:Nat)(u:UInt8)(hi:i<64):sec (l.set (a*64+i) u) j=if a=j then(sec l a).set i u else sec l j:=by
 apply ZeB;intro k;by_cases e:a=j
 .subst e;rw[Zx rfl,Zfb,Ci,Ci,Zfb];unfold sec;rw[Zg,Zek];grind
 .rw[Zw e,Ci,Ci,Zfb];grind
def Z7P(u:UInt8){k:Nat}(O:k<8):Cm u k≠u:=λh=>by
 have C:u^^^UInt8.ofNat (2^k)=u:=h;have F:UInt8.ofNat (2^k)=0:=by have J:=ZF (λx=>u^^^x) C;simpa[<-UInt8.xor_assoc] using J
 have M:∀k:Fin 8,UInt8.ofNat (2^k.val)≠0:=Qz;exact M ⟨k,O⟩ F
def Z5S(hw:D.wait=[]){a b c:Nat}(hb:b<512)(hc:c≠a):(D.ZaU a b).reads c=D.reads c:=by rw[B6 hw,B6 (D:=D.ZaU a b) hw,Eo,Eo];unfold Dk.ZaU;rw[Tm _ _ _ _ _ Qw,Zw (λe=>hc e.symm)]
def Z5R(ok:D.ok 800)(hw:D.wait=[]){a b:Nat}(ha:a<800)(hb:b<512):∃p u q,(D.reads a).data.toList=p++u::q/\((D.ZaU a b).reads a).data.toList=p++Cm u (b%8)::q:=by
 rw[B6 hw,B6 (D:=D.ZaU a b) hw,Eo,Eo];unfold Dk.ZaU;rw[Tm _ _ _ _ _ Qw,Zx rfl];have:=Ij D.has 800 a ok.len ha;have hi:b / 8<(sec D.has a).length:=Qw;have hu:D.has.getD (a*64+b / 8) 0=(sec D.has a)[b / 8]:=by have h:=Ci D.has a (b / 8);rw[Zx Qw,Z8 hi] at h;rw[Z7,<-h];rfl
 refine⟨(sec D.has a).take (b / 8),(sec D.has a)[b / 8],(sec D.has a).drop (b / 8+1),?_,?_⟩
 .show sec D.has a=_;rw[<-Ze1 hi,ZdH]
 .show(sec D.has a).set (b / 8) _=_;rw[List.set_eq_take_append_cons_drop,Zx hi,hu]
def Z8g{e:Ent}{a:Nat}{rest:Qj}(h:e.Zat=a::rest)(C:e.Zat.Nodup)(U:∀c,c≠a->R' c=R c){p q:Bs}{u v:UInt8}(hp:(R a).data.toList=p++u::q)(M:(R' a).data.toList=p++v::q)(J:u≠v):X4 R' e=X4 R e∨WD (X4 R' e)≠WD (X4 R e):=by
 have Z:rest.flatMap (λa=>(R' a).data.toList)=rest.flatMap (λa=>(R a).data.toList):=by rw[h] at C;rw[List.flatMap_def,List.flatMap_def,Zea λc hc=>by rw[U c (λe=>(ZdR.1 C).1 (e▸hc))]]
 unfold X4;rw[h,Zm,Zm,Z,hp,M];have⟨F,hF⟩:=ZK (rest.flatMap (λa=>(R a).data.toList));rw[hF];by_cases hs:e.size<=p.length
 .left;rw[Zd,Zd,Ze6 hs,Ze6 hs]
 .right;obtain⟨t,ht⟩:∃t,e.size=p.length+(t+1):=⟨e.size-p.length-1,Qw⟩;have key:∀x:UInt8,((p++x::q)++F).take e.size=p++x::(q++F).take t:=λx=>by rw[ht,Zd,List.take_length_add_append];rfl
  rw[key,key];intro O;exact Z0H p ((q++F).take t) J.symm (ZfU O)
def Z7h{d:Dir}(hs:d.Zax)(O:d.Zat.Nodup){nm:Bs}{e:Ent}(U:d.get nm=some e){a:Nat}{rest:Qj}(J:e.Zat=a::rest)(M:∀c,c≠a->R' c=R c){p q:Bs}{u v:UInt8}(hp:(R a).data.toList=p++u::q)(af:(R' a).data.toList=p++v::q)(ae:u≠v)(F:JP R e≠none):(∀x,x≠nm->stR R' d x=stR R d x)/\(stR R' d nm=stR R d nm∨stR R' d nm=some none):=by
 have hm:=Z4 U;refine⟨λx hx=> ?_,?_⟩
 .unfold stR;cases ag:d.get x with
  |none=>rfl
  |some e2=>
   have C:X4 R' e2=X4 R e2:=IH λc hc=>M c (λC=>by
    subst C
    exact Mj O hs (Z4 ag) hm hx hc (by rw[J];simp))
   simp[ZeO,JP,C]
 .unfold stR;rw[U];simp[ZeO];have Z:WD (X4 R e)=e.sum:=by
   unfold JP at F;by_cases h:WD (X4 R e)=e.sum
   .exact h
   .rw[Zw h] at F;exact absurd rfl F
  rcases Z8g J (KD O hm) M hp af ae with h|h
  .left;unfold JP;rw[h]
  .right;unfold JP;rw[Zw (by rw[<-Z];exact h)]
def Wn.rot{i:Nat}{T J:Tab}{key v:Bs}(h:Wn k m i g H T)(C:∀x,x≠nmD key->J x=T x)(F:J (nmD key)=T (nmD key)∨J (nmD key)=some none)(M:H key=some v)(O:T (nmD key)≠none):Wn k m i g H J:=by
 refine⟨?_,?_,?_,λx=> ?_,λx hx=> ?_,λx w hx=> ?_,λx hx=> ?_⟩
 .rw[C _ (by simp[nmC,nmD])];exact h.Zbl
 .rw[C _ (by simp[nmN,nmD])];exact h.next
 .rw[C _ (by simp[nmT,nmD])];exact h.under
 .rw[C _ (by simp[nmS,nmD])];exact h.Zba x
 .rw[C _ (λe=>by rw[FH e,M] at hx;cases hx)];exact h.none_ x hx
 .by_cases e:nmD x=nmD key
  .rw[e];rcases F with F|F
   .rw[F,<-e];exact h.some_ x w hx
   .exact Zy (Zv F)
  .rw[C _ e];exact h.some_ x w hx
 .by_cases e:x=nmD key
  .exact Zy ⟨key,e⟩
  .rw[C _ e] at hx;exact h.other x hx
def QR.rot(h:QR K E k m n g H sd V)(ha:XO n V){i:Nat}(hi:i<n)(hs:sd i=true)(hm:k<=YG (upd sd i false) n){S:Sto}{key v:Bs}{e:Ent}{b:Nat}(hM:V.Ms i=some S)(hH:H key=some v)(hg:S.dir.get (nmD key)=some e){r:Nat×Nat}{rs:List (Nat×Nat)}(hr:e.runs=r::rs)(hb:b<512):r.1<800/\QR K E k m n g H (upd sd i false) {V with Ds:=upd V.Ds i ((V.Ds i).ZaU r.1 b)}:=by
 have h0:=h.ZaE;obtain⟨b1,b2⟩:=h0.in_ i hi S hM;have M:QU K E (V.Ds i) S:=b1;have aj:Wn k m i g H (stR (V.Ds i).reads S.dir):=b2;obtain⟨q1,q2,q3⟩:=M.runs hg;obtain⟨m1,m2,m3⟩:=q1.many r (by rw[hr];simp);have ag:∃rest,e.Zat=r.1::rest:=by unfold Ent.Zat;rw[hr,Zm];obtain⟨t,ht⟩:∃t,r.2=t+1:=⟨r.2-1,Qw⟩;rw[ht,ZgO];exact⟨_,rfl⟩
 obtain⟨rest,af⟩:=ag;obtain⟨Zau,ai⟩:=M.img;have ae:=ai.ok;obtain⟨p,u,q,x1,x2⟩:=Z5R (ha i hi).1 M.wait (a:=r.1) (b:=b) Qw hb;have hR:∀c,c≠r.1->((V.Ds i).ZaU r.1 b).reads c=(V.Ds i).reads c:=λc hc=>Z5S M.wait hb hc;have au:=h0.snd i hi hs;obtain⟨S',y1,y2⟩:=au;rw[show V.Ms i=some S' from y1] at hM;cases hM;have O:stR (V.Ds i).reads S.dir (nmD key)=_:=y2 key v hH;have aq:JP (V.Ds i).reads e≠none:=by unfold stR at O;rw[hg] at O;intro h9;simp only[ZeO,h9] at O;cases O
 obtain⟨t1,t2⟩:=Z7h ae.sorted ae.apart hg af hR x1 x2 (Z7P u Qw).symm aq;have hB:QU K E ((V.Ds i).ZaU r.1 b) S:=⟨⟨Zau,ai.congr Qw (λc hc=>hR c Qw)⟩,M.sm,M.wait,M.ep⟩;have ak:=aj.rot t1 t2 hH (by rw[O];simp);have Z:V.Ms i=some S:=y1;refine⟨Qw,λP h1 h2=> ?_,λj J ah=> ?_⟩
 .have C:=h.set P h1 h2;refine⟨C.hK,C.k1,C.kn,C.vk,C.vm,C.vg,h1,h2,λj J=> ?_,λj J T hT=> ?_,λj J U=> ?_,hm⟩<;>by_cases F:j=i
  .subst F;simp only[QX];exact C.Zaq j J
  .simp only[QP _ _ F];exact C.Zaq j J
  .subst F;simp only[QX] at hT⊢;rw[show V.Ms j=some T from hT] at Z;cases Z;exact⟨hB,ak⟩
  .simp only[QP _ _ F] at hT⊢;exact C.in_ j J T hT
  .subst F;rw[QX] at U;cases U
  .simp only[QP _ _ F] at U⊢;exact C.snd j J U
 .by_cases F:j=i
  .subst F;rw[show V.Ms j=none from ah] at Z;cases Z
  .simp only[QP _ _ F];exact h.o j J ah
def Z1p(B:Nat)(w:Qs)(G:Eg)(V:Ev)(bl:Qj)(i a b:Nat)(h:EAt B w G V bl)(hi:i<G.n)(hd:(V.Ds i).dead=false){S:Sto}(hM:V.Ms i=some S)(ha:a<800)(hb:b<512):Calls prog 104 #[.pointer (some ⟨G.ds i,0,none⟩),(a:Int),(b:Int)] w λe w'=>e=.returned .nilIface/\QG B G bl {V with Ds:=upd V.Ds i ((V.Ds i).ZaU a b)} w w':=by
 obtain⟨Ls,Os,rfl,U⟩:=h;have C:=U.pd i hi;have⟨gh,v,hL,Z⟩:=C.dk;go_fit (Z5O G.p (G.ds i) gh v (V.Ds i) 800 a b w Z C.ok hd ha hb);rintro e w' ⟨rfl,ah,O⟩;have aj:gh∈Ls i:=by rw[hL];simp
 have M:QL w [gh] [5]:=by obtain⟨l,af⟩:∃l,Row w gh 5 l:=⟨_,Z.bytes.row⟩;exact QL.row af Qx
 have J:=U.at_ i hi;rw[hM] at J;have hO:∀k∈Os i,k∉[gh]:=λk F hm=>by rw[Z6] at hm;subst hm;exact(J.typed.Zb5 M Qz) k F Qx
 have ae:=J.fr O M Qz Qz hO;have e:({V with Ds:=upd V.Ds i ((V.Ds i).ZaU a b)}:Ev)={V with P:=V.P,Ds:=upd V.Ds i ((V.Ds i).ZaU a b),Ms:=upd V.Ms i (some S)}:=by rw[<-hM,IF]
 rw[e];refine⟨rfl,U.step hi (X:=[]) (L':=Ls i) (O':=Os i) (O.mono (λk F _=>by rw[Z6] at F;subst F;exact Zh _ aj)) Qx ⟨C.pw.fr O (M.Zap C.pw Qz),C.pok,⟨gh,v,hL,ah⟩,Za2 C.ok a b,C.bp,C.bL⟩ ?_ (λk F=>Zv F) (λk F=>Zv F)⟩;have⟨s,j,ag,hr,hs,ai⟩:=ae;exact⟨s,j,ag,hr,hs,ai⟩
def Z2F(l:QY)(c:Chg):(l.filter λp=>p.1 !=c.key)++(if c.val.isNone=true then[] else[(c.key,c.val.getD [])])=JV l c:=by unfold JV;cases c.val<;>rfl
def VI(l:QY)(cs:List Chg)(t:Nat)(h:t<cs.length):J6 l (cs.take (t+1))=JV (J6 l (cs.take t)) cs[t]:=by unfold J6;rw[Zfe,Z8 h,Zeh];rfl
def VH(cs:List Chg):∀l:QY,(J6 l cs).length<=l.length+cs.length:=by
 induction cs with
 |nil=>intro l;exact Zt _
 |cons c r ih=>intro l;have:=ih (JV l c);have:=Z2G l c;show(J6 (JV l c) r).length<=_;rw[Ze];omega
def NF(w:Qs)(r:Nat)(a:Qm)(cp:Nat)(hs:QY)(gc n cap:Nat)(cs:List Chg)(c6:w.cell? ⟨r,6,none⟩=some (.slice a hs.length cp))(h:YZ w a hs)(hl:hs.length<=100)(au:BQ w gc cs)(hn:n=cs.length)(bj:n<=100):Calls prog 12 #[r,.slice gc n cap] w λe w'=>∃O U,e=.returned (.slice O (J6 hs cs).length U)/\YZ w' O (J6 hs cs)/\Below w w w':=by
 have H:=ZX h au hn;clear h au hn;go_enter func12,ntmps12;go_wp2_with fail;go_loopw [5,6] (λv kv wr=>∃ (t:Nat) (O:Qm) (L' U:Nat),t<=n/\kv=(t:Int)/\v=.slice O L' U/\L'=(J6 hs (cs.take t)).length/\YZ wr O (J6 hs (cs.take t))/\Below w w wr) (λ_ kv _=>n- (intOf kv).toNat)
 .exact⟨0,a,hs.length,cp,Qw,rfl,rfl,rfl,H.1,Zu _ _⟩
 obtain⟨t,O,L',U,bq,rfl,rfl,hL,hh,hb⟩:=hrel;by_cases bh:t<n
 .have af:t<cs.length:=by rw[<-H.3];exact bh
  have bm:(t:Int)<(n:Int):=Qw;obtain⟨q0,q1,q2⟩:=H.2.2 t af;have ai:=H.2.1;have d0:=(hb.cell (p:=⟨gc,t*3,none⟩) ai).trans q0;have d1:=(hb.cell (p:=⟨gc,t*3+1,none⟩) ai).trans q1;have d2:=(hb.cell (p:=⟨gc,t*3+2,none⟩) ai).trans q2;have M:=VI hs cs t af;rw[<-Z2F] at M;have ah:(J6 hs (cs.take t)).length<=1000:=by
   have h1:=VH (cs.take t) hs;have h2:(cs.take t).length<=t:=by rw[Zg];omega
   omega
  obtain⟨P,hP⟩:=ZK (J6 hs (cs.take t));obtain⟨ck,aq⟩:=ZK cs[t].key;obtain⟨J,aw⟩:=ZK (cs[t].val.getD []);obtain⟨F,ak⟩:=ZK cs[t].val.isNone;rw[hP] at hL hh M ah;rw[aq] at d0 M;rw[aw] at d1 M;rw[ak] at d2 M;subst hL;have hd:=(Zu wr wr).drew;obtain⟨PP,ag⟩:=ZK ((P.filter λp=>p.1 !=ck)++(if F=true then[] else[(ck,J)]));rw[ag] at M;have ae:∀x:Qs,(x.cell? ⟨gc,t*3,none⟩=ck/\x.cell? ⟨gc,t*3+1,none⟩=J/\x.cell? ⟨gc,t*3+2,none⟩=F/\Below wr wr x)->Calls prog 42 #[.slice O P.length U,ck,J,F] x λe w'=>∃aj bf,e=.returned (.slice aj PP.length bf)/\YZ w' aj PP/\Below x x w':=λx hx=>by have h9:=Z2H x O U P ck J F (hh.after hx.2.2.2) ah;rw[ag] at h9;exact h9
  have az:∀x y:Qs,(x.cell? ⟨gc,t*3,none⟩=ck/\x.cell? ⟨gc,t*3+1,none⟩=J/\x.cell? ⟨gc,t*3+2,none⟩=F/\Below wr wr x)->Below x x y->(y.cell? ⟨gc,t*3,none⟩=ck/\y.cell? ⟨gc,t*3+1,none⟩=J/\y.cell? ⟨gc,t*3+2,none⟩=F/\Below wr wr y):=by rintro A C ⟨h0,h1,h2,h7⟩ hb;have key:∀{p:Addr} {v:Qt},A.cell? p=some v->C.cell? p=some v:=λh=>(hb.cell (Z9 A _ h)).trans h;exact⟨key h0,key h1,key h2,h7.trans (hb.mono h7.size)⟩
  have HK:=ZI az;clear az;have Z:=ZY ae hb M hd;clear ae hb M hh hP aq aw ak q0 q1 q2 ah ag;have hs0:(wr.drew.cell? ⟨gc,t*3,none⟩=ck/\wr.drew.cell? ⟨gc,t*3+1,none⟩=J/\wr.drew.cell? ⟨gc,t*3+2,none⟩=F/\Below wr wr wr.drew):=⟨d0,d1,d2,hd⟩;go_wp2_with fail;go_region_held3 (λx=>x.cell? ⟨gc,t*3,none⟩=ck/\x.cell? ⟨gc,t*3+1,none⟩=J/\x.cell? ⟨gc,t*3+2,none⟩=F/\Below wr wr x) (first|exact hs0|(exact HK.o _ _ (by assumption) (by assumption)))
   (first|(go_at_call 42;refine(Z.1 _ (by assumption)).mono ?_;rintro e w8 ⟨a8,c8,rfl,ay,bg⟩))
  rename_i hHeld;have HY:=ZM ay hHeld.2.2.2;clear ay bg hHeld hs0 d0 d1 d2;go_wp2_with fail;go_roundw
  .exact⟨t+1,a8,_,c8,Qw,QC,rfl,by rw[Z.3],by rw[Z.3];exact HY.1,Z.2.trans (HY.2.mono Z.2.size)⟩
  simp[intOf];omega
 .obtain rfl:t=n:=by omega
  have e9:cs.take t=cs:=Zi (by rw[H.3];exact Zt _);rw[e9] at hL hh;subst hL;have HE:=ZM hh hb;clear hh hb;go_wp2_with fail;go_ret;exact⟨_,_,rfl,HE.1,HE.2⟩
variable{l:List En}{v:Value}
structure ChL(w:Qs)(l:List En)(t:Nat)(v:Qt)(wr:Qs):Prop where
 own:wr.ownsRow w 68 3 v t (((l.take t).map Aw).flatMap apC)
 bel:Below w w wr
def ChL.after(h:ChL w l t v wr)(hb:Below wr wr w'):ChL w l t v w':=⟨Jr h.own hb,h.bel.trans (hb.mono h.bel.size)⟩
def ChL.put(h:ChL w l t v wr)(hb:Below wr wr w')(M:t<l.length){g2 c2:Nat}(J:w8.ownsRow w 68 3 (.slice g2 (t+1) c2) (t+1) ((((l.take t).map Aw).flatMap apC)++apC (Aw l[t])))(F:Fr (QV v) w' w8):ChL w l (t+1) (.slice g2 (t+1) c2) w8:=by have C:=h.after hb;refine⟨?_,C.bel.trans (F.below C.bel.size (Ai C.own))⟩;rw[Zfe,Z8 M];simp only[Zf6,Zo,Zn,Zf9,ZdY,Zm,ZgM,ZdJ];exact J
def ChL.Zd3(h:ChL w l t v wr):∀y∈QV v,y<wr.heap.size:=λy F=>by have⟨J,C⟩:=YS h.own y F;exact C.lt
def Z4L{base:Nat}{e:Qu}{xs:Qk}(h:w.ownsRow base e k v n xs):w.drew.ownsRow base e k v n xs:=h
def Z8h(s:Qq):s.extract 0 (min s.size 200)=str (s.data.toList.take 200):=by apply JJ;rw[Yp];simp[ZgU];omega
def GH{a:Addr}(h:w.cell? a=some v)(o:Obj):(w.alloc o).cell? a=some v:=(((Zu w w).alloc (Zt _) o).cell (Z9 w _ h)).trans h
def Z0l(wr:Qs)(o:Obj)(K:Qq)(g:Bool):Row ((wr.alloc o).alloc (.cells #[.string K,.string ⟨#[]⟩,g] 68)).drew (wr.heap.size+1) 68 [.string K,.string ⟨#[]⟩,.bool g]/\wr<=wr.heap.size+1/\Below wr wr ((wr.alloc o).alloc (.cells #[.string K,.string ⟨#[]⟩,g] 68)).drew:=by have h:=Z2 (wr.alloc o) 68 [.string K,.string ⟨#[]⟩,.bool g];rw[show(wr.alloc o).heap.size=wr.heap.size+1 from Qx] at h;exact⟨h,Qw,(((Zu wr wr).alloc (Zt _) o).alloc Qx _).drew⟩
def Z0m(wr:Qs)(o:Obj)(K:Qq)(g:Bool):Row ((wr.alloc (.cells #[.string K,.string ⟨#[]⟩,g] 68)).alloc o).drew wr.heap.size 68 [.string K,.string ⟨#[]⟩,.bool g]/\wr<=wr.heap.size/\Below wr wr ((wr.alloc (.cells #[.string K,.string ⟨#[]⟩,g] 68)).alloc o).drew:=⟨(Z2 wr 68 [.string K,.string ⟨#[]⟩,.bool g]).alloc o,Zt _,(((Zu wr wr).alloc (Zt _) _).alloc Qx o).drew⟩
def PM(W:Qs)(C:Nat)(h:C<256):(convert 75 9 (.slice (some ⟨W,0,none⟩) 1 1)).run prog (W.alloc (.cells #[.int .u8 (C:Int)] 5))=.ok (.string (str [UInt8.ofNat C])) (W.alloc (.cells #[.int .u8 (C:Int)] 5)):=by have F:=Z2 W 5 [.int .u8 (C:Int)];refine BJ _ 75 9 5 underlying75 underlying5 underlying9 F 0 1 1 [UInt8.ofNat C] rfl ?_;simp[QJ];omega
def Z3n(W:Qs)(o:Obj)(C:Nat)(h:C<256):(convert 75 9 (.slice (some ⟨W,0,none⟩) 1 1)).run prog ((W.alloc (.cells #[.int .u8 (C:Int)] 5)).alloc o)=.ok (.string (str [UInt8.ofNat C])) ((W.alloc (.cells #[.int .u8 (C:Int)] 5)).alloc o):=by have F:=(Z2 W 5 [.int .u8 (C:Int)]).alloc o;refine BJ _ 75 9 5 underlying75 underlying5 underlying9 F 0 1 1 [UInt8.ofNat C] rfl ?_;simp[QJ];omega
def Z06{z:Int}(h:0<=z)(C:z<=255):IntKind.u8.wrap z=z:=by unfold IntKind.wrap;simp[IntKind.signed,IntKind.bits];omega
def PV(w:Qs)(a:Qm)(cp:Nat)(l:List En)(h:Ap w a l)(hl:l.length<=9223372036854775807):Calls prog 10 #[.slice a l.length cp] w λe w'=>∃v,e=.returned v/\w'.ownsRow w 68 3 v (JN l).length ((JN l).flatMap apC)/\Below w w w':=by
 obtain⟨N,hN⟩:=ZK l.length;have H:=ZM h hN;have I0:=ZI (show ChL w l 0 (.slice none 0 0) w from⟨ZA _ _ _ _,Zu _ _⟩);rw[hN] at hl⊢;clear h hN;go_enter func10,ntmps10;go_wp2_with fail;go_loopw [3,4] (λv kv wr=>∃t:Nat,t<=N/\t<=4/\kv=(t:Int)/\ChL w l t v wr) (λ_ kv _=>4- (intOf kv).toNat)
 .exact⟨0,Qw,Qw,rfl,I0.o⟩
 obtain⟨t,ht,cy,rfl,hS⟩:=hrel;have J:=ZI hS;clear hS;by_cases O:t<N/\t<4
 .have af:t<l.length:=by rw[H.2];exact O.1
  obtain⟨bm,b,o,rfl,hb,Yw⟩:=H.1 t af;have q0:=Yw 0 _ rfl;have q1:=Yw 1 _ rfl;have q2:=Yw 2 _ rfl;obtain⟨x,hx⟩:=ZK l[t];rw[hx] at bm q0 q1 q2;have d0:=(J.o.bel.cell (p:=⟨b,o+t*3+0,none⟩) hb).trans q0;have d1:=(J.o.bel.cell (p:=⟨b,o+t*3+1,none⟩) hb).trans q1;have d2:=(J.o.bel.cell (p:=⟨b,o+t*3+2,none⟩) hb).trans q2;have hz:=J.o.bel.size;have cz:(t:Int)<(N:Int):=Qw;have cu:(t:Int)<4:=Qw;have df:=O.1;have de:=O.2;have hk:=JA x.key (show 0<10 by omega);obtain⟨ck,bh⟩:=ZK (J8 x.key 10);rw[bh] at hk;have Z:=ZX bm bh hx;rw[Zfc] at d0;clear q0 q1 q2 bm bh hx Yw O;have bz:∀W,Calls prog 9 #[(x.key:Int),(10:Int)] W λe w'=>e=.returned (ck:Int)/\W=w':=λW=>by have h9:=Af x.key 10 W Z.1.k0 Z.1.k1 Qw Qw;rw[Z.2] at h9;exact h9
  have cn:=ZI bz;clear bz;obtain⟨C,cj⟩:=ZK (48+ck);have e0:∀M,(wr.alloc M).cell? ⟨b,o+t*3,none⟩=(x.key:Int):=λM=>GH d0 M;have e2:∀M,(wr.alloc M).cell? ⟨b,o+t*3+2,none⟩=(x.gone):=λM=>GH d2 M;have f2:∀M o2,((wr.alloc M).alloc o2).cell? ⟨b,o+t*3+2,none⟩=(x.gone):=λM o2=>GH (GH d2 M) o2;have w1:IntKind.i64.wrap (48+(ck:Int))=(C:Int):=by rw[Zr _ Qw];omega
  have w2:IntKind.u8.wrap (C:Int)=(C:Int):=Z06 Qw Qw;have kA:(convert 75 9 (.slice (some ⟨wr,0,none⟩) 1 1)).run prog (wr.alloc (.cells #[.int .u8 (C:Int)] 5)).drew=.ok (.string (str [UInt8.ofNat C])) (wr.alloc (.cells #[.int .u8 (C:Int)] 5)).drew:=PM wr.drew C Qw;have kB:(convert 75 9 (.slice (some ⟨wr.heap.size+1,0,none⟩) 1 1)).run prog ((wr.alloc (.cells #[.string ⟨#[]⟩,.string ⟨#[]⟩,false] 68)).alloc (.cells #[.int .u8 (C:Int)] 5)).drew=.ok (.string (str [UInt8.ofNat C])) ((wr.alloc (.cells #[.string ⟨#[]⟩,.string ⟨#[]⟩,false] 68)).alloc (.cells #[.int .u8 (C:Int)] 5)).drew:=by have h9:=PM (wr.drew.alloc (.cells #[.string ⟨#[]⟩,.string ⟨#[]⟩,false] 68)) C Qw;rw[show(wr.drew.alloc (.cells #[.string ⟨#[]⟩,.string ⟨#[]⟩,false] 68)).heap.size=wr.heap.size+1 from Qx] at h9;exact h9
  have kC:(convert 75 9 (.slice (some ⟨wr,0,none⟩) 1 1)).run prog ((wr.alloc (.cells #[.int .u8 (C:Int)] 5)).alloc (.cells #[.string ⟨#[]⟩,.string ⟨#[]⟩,false] 68)).drew=.ok (.string (str [UInt8.ofNat C])) ((wr.alloc (.cells #[.int .u8 (C:Int)] 5)).alloc (.cells #[.string ⟨#[]⟩,.string ⟨#[]⟩,false] 68)).drew:=Z3n wr.drew _ C Qw;obtain⟨X,hX⟩:=ZK (str [UInt8.ofNat C]);rw[hX] at kA kB kC;have kP:∀W,(Op.stringOp .add ⟨#[107,101,121]⟩ X).run prog W=.ok (.string (str (Dq ck))) W:=λW=>by
   have h9:(⟨#[107,101,121]⟩:Qq)++X=str (Dq ck):=by rw[<-hX,Mz,Yp];unfold Dq;rw[cj];rfl
   rw[<-h9];exact ZdO W _ _ (by rw[<-hX,QW];show 3+1<=9223372036854775807;omega)
  obtain⟨KY,ay⟩:=ZK (str (Dq ck));rw[ay] at kP;have bq:=ZM ay hX;clear cj ay hX;go_wp2_with fail;go_cut [5] from 16 to 32 (λv wx=>∃q,v=.pointer (q:Nat)/\Row wx q 68 [.string KY,.string ⟨#[]⟩,x.gone]/\wr.heap.size<=q/\Below wr wr wx)
  case first=>
   go_region_with (go_at_call 9;refine(cn.o _).mono ?_;rintro e w2 ⟨rfl,rfl⟩)
   all_goals go_wp2_with fail
   all_goals go_meet
   all_goals first
    |exact⟨_,rfl,Z0l _ _ _ _⟩
    |exact⟨_,rfl,Z0m _ _ _ _⟩
  case rest=>
   obtain⟨q,rfl,ag,hq,aq⟩:=hcut;have g2:=ag.c2;have bg:b<wr:=Qw;have cr:=(aq.cell (p:=⟨b,o+t*3+1,none⟩) bg).trans d1;have ak:=Jr J.o.own aq;have ah:∀y,y=x.gone->y=true->apC (Aw l[t])=[.string KY,.string ⟨#[]⟩,.bool true]:=λy h1 h2=>by rw[Z.3];unfold Aw;rw[Z.2,<-h1,h2,<-bq.1];rfl
   have ai:x.gone=false->apC (Aw l[t])=[.string KY,.string (x.val.extract 0 (min x.val.size 200)),.bool false]:=λh1=>by rw[Z.3,Z8h];unfold Aw;rw[Z.2,h1,<-bq.1];rfl
   have F:=Q0 ag hq aq ak ah ai;clear ak ah ai hq aq kA kB kC kP e0 e2 f2 d0 d1 d2 ag;by_cases aj:x.gone=true
   .rw[aj] at g2;have c0:=F.1.c0;have c1:=F.1.c1;have HG:=ZI aj;clear aj;go_wp2_with (at_builtin;refine Bg _ rfl (.tmp 50) (.tmp 52) 27 68 rfl underlying27 Np rfl Qw Qw w.heap.size _ t (((l.take t).map Aw).flatMap apC) rfl (Jr F.4 ((Zu wc wc).alloc (Zt _) _)) wc.heap.size 1 [.string KY,.string ⟨#[]⟩,.bool true] rfl Qw Qw rfl (Z2 wc _ _) (by simp[Value.oneCell']) (by have:=F.3.size;simp;omega) Qw ?_;intro g2 aw w8 ho hf _ _ _;have R8:=ZI (J.o.put (F.3.trans (((Zu wc wc).alloc (Zt _) _).mono F.3.size)) af (by rw[F.5 _ rfl HG.o];exact ho) hf);clear ho hf);go_roundw
    .exact⟨t+1,Qw,Qw,QC,R8.o⟩
    simp[intOf];omega
   .have bj:x.gone=false:=(by simpa using aj);rw[bj] at g2;have HG:=ZI bj;clear aj;have dh:x.val.size<=9223372036854775807:=Z.1.v;have f1:=F.1.free (j:=1) Qx;have g1:=F.1.c1;have m1:(min (x.val.size:Int) 200).toNat=min x.val.size 200:=Qw;go_wp2_with fail;have au:=F.1.set 1 (.string (x.val.extract 0 (min x.val.size 200)));have bf:Below wr wr (wc.setCell ⟨q,1,none⟩ (.string (x.val.extract 0 (min x.val.size 200)))):=F.3.setCell F.2 _;obtain⟨XV,bu⟩:=ZK (x.val.extract 0 (min x.val.size 200));have az:=F.6 HG.o;rw[bj] at au;rw[bu] at au bf az
    have ae:=JY F.4 (L:=[q]) ((Fr.refl [q] wc).setCell (p:=⟨q,1,none⟩) (Zv Qx) (.string XV)) (λy hy hm=>by
     rw[Z6] at hm;subst hm;have:=(J.o.Zd3 y hy);have:=F.2
     omega)
    have U:=ZY au.drew bf.drew az (Z4L ae);clear au bf az ae;go_region;generalize (wc.setCell ⟨q,1,none⟩ (.string XV)).drew=wd at*
    have c0:wd.cell? (q:Nat)=some (.string KY):=U.1.c0;have c1:wd.cell? ⟨q,1,none⟩=some (.string XV):=U.1.c1;have c2:wd.cell? ⟨q,2,none⟩=false:=U.1.c2;clear g1 g2 f1 cr m1 bu;go_wp2_with (at_builtin;refine Bg _ rfl (.tmp 50) (.tmp 52) 27 68 rfl underlying27 Np rfl Qw Qw w.heap.size _ t (((l.take t).map Aw).flatMap apC) rfl (Jr U.4 ((Zu wd wd).alloc (Zt _) _)) wd.heap.size 1 [.string KY,.string XV,.bool false] rfl Qw Qw rfl (Z2 wd _ _) (by simp[Value.oneCell']) (by have:=U.2.size;simp;omega) Qw ?_;intro g2 aw w8 ho hf _ _ _;have R8:=ZI (J.o.put (U.2.trans (((Zu wd wd).alloc (Zt _) _).mono U.2.size)) af (by rw[U.3];exact ho) hf);clear ho hf);go_roundw
    .exact⟨t+1,Qw,Qw,QC,R8.o⟩
    simp[intOf];omega
 .have e9:(JN l).length=t/\((l.take t).map Aw)=JN l:=by
   have hle:l.length=N:=H.2;have e1:l.take t=l.take 4:=by
    rcases ZeF t 4 with h4|h4
    .have:t=N:=by
      rcases ZeF t N with h5|h5
      .exact absurd ⟨h5,h4⟩ O
      .omega
     rw[Zi Qw,Zi Qw]
    .rw[show t=4 from Qw]
   refine⟨?_,by unfold JN;rw[e1]⟩;unfold JN;rw[<-e1,Zf,Zg];omega
  have HE:=ZI e9;clear e9;rcases ZeF t N with h5|h5
  .have h4:¬t<4:=λh=>O ⟨h5,h⟩;have cw:decide ((t:Int)<4)=false:=by simp;omega
   have ct:(t:Int)<(N:Int):=Qw;clear O;go_wp2_with fail;go_ret;exact⟨_,rfl,by rw[HE.1,<-HE.2];exact J.o.own,J.o.bel⟩
  .have ct:¬t<N:=(by omega);clear O;go_wp2_with fail;go_ret;exact⟨_,rfl,by rw[HE.1,<-HE.2];exact J.o.own,J.o.bel⟩
variable{D D2:Nat->Dk}{P2:Pw}{R:Rg}{V':Ev}{hb:Nat}{p':Nat×Bs×Bool}
def EAt.pok(h:EAt B w G V bl):Y6 w G.p V.P/\V.P.ok:=by obtain⟨Ls,Os,rfl,h⟩:=h;exact⟨h.pw,(h.pd 0 h.n1).pok⟩
def Da(E k m n g:Nat)(H H':Bs->Option Bs)(sd:Qr)(c:Int)(D:Nat->Dk):Prop:=∀ (keep:Nat->List Bool) (tn:Nat->Int),(c≠0/\Rk K11 E k m g n H sd (λj=>(D j).lost (keep j) (tn j)))∨∃g',g'<=g+1/\Rk K11 E k m g' n H' sd (λj=>(D j).lost (keep j) (tn j))
def Rk.mono{E':Nat}(h:Rk K E k m g n H sd D)(he:E<=E'):Rk K E' k m g n H sd D:=by have⟨i0,F,h⟩:=h;refine⟨i0,F,λi hi=> ?_⟩;have⟨S,I,γ,A,C,J⟩:=h i hi;exact⟨S,I,γ,A,⟨C.1.mono Qw,λM=>(C.2 M).mono he⟩,J⟩
def Rk.congr{D':Nat->Dk}(h:Rk K E k m g n H sd D)(he:∀i,i<n->D i=D' i):Rk K E k m g n H sd D':=by have⟨i0,C,h⟩:=h;exact⟨i0,C,λi hi=>by rw[<-he i hi];exact h i hi⟩
def QR.rkD(h:QR K (E+1) k m n g H sd V)(ha:XO n V)(hg:g<=1000000000):Rk K E k m g n H sd V.Ds:=by
 have F:=h.ZaE;have⟨i0,J,hs0⟩:=Kj (Zq F.k1 F.many);refine⟨i0,J,λj C=> ?_⟩;cases hM:V.Ms j with
 |none=>
  have⟨S,Z⟩:=FK (K:=K) (E:=E+1) (k:=k) (m:=m) (g:=g) (i:=j) (H:=H) (h.o j C hM) (ha j C).1 Qw;rw[h.ZbK C hM]
  exact⟨S,none, -1,[],⟨Z,λe=>absurd rfl e⟩,λe2=>by
   subst e2
   rw[h.ZbK C hM] at hs0;cases hs0⟩
 |some T=>have⟨O,U⟩:=F.in_ j C T hM;refine⟨_,_,_,_,⟨Es O ((ha j C).2 (by rw[hM];rfl)) U (λhs=> ?_) hg,λe=>absurd rfl e⟩,λ_=>rfl⟩;have⟨M,e1,e2⟩:=F.snd j C hs;rw[show V.Ms j=some M from e1] at hM;cases hM;exact e2
def FZ:List Qu:=39::138::J9
def Wc(w w':Qs):Prop:=∀ (g:Nat) (e:Qu) (l:Qk),e∉FZ->Row w g e l->Row w' g e l
def Wc.of{X:Qj}{ts:List Qu}(F:Fr X w w')(J:QL w X ts)(hs:∀e∈ts,e∈FZ):Wc w w':=λg e l he C=>C.fr F (J.Zap C (λh=>he (hs _ h)))
def Wc.trans{w1:Qs}(h:Wc w w1)(C:Wc w1 w2):Wc w w2:=λg e l he F=>C g e l he (h g e l he F)
def Wc.after(hb:Below w w w'):Wc w w':=λg e l he h=>h.after hb
def OB:∀e∈J9,e∈FZ:=λe he=>Zh _ (Zh _ he)
def Kr:∀e∈Az,e∈FZ:=Qz
def Wc.held(h:Wc w w'){a:Qm}{l:QY}(hh:YZ w a l):YZ w' a l:=by
 rcases hh with h9|⟨g,sp,e,C⟩
 .exact Zv h9
 .exact Zy ⟨g,sp,e,h g _ _ Qz C⟩
section
variable{p:Nat×Bs×Bool}
def Yr.left(h:Yr B w R G V bl sv hv ha hc hs sd){X:Qj}{ts:List Qu}(hf:Fr X w w')(ht:QL w X ts)(J:R.r∉X)(M:47∉ts)(O:4∉ts)(U:105∉ts){C:Qj}(F:DAt B w' G.p G.n G.ds P2 D2 C)(hp:Y6 w' G.p P2):RmD B w' R G.p G.ds P2 D2 C sv hv ha hc hs sd:=by obtain⟨bl0,Z, -⟩:=h.d;rw[h.gn] at F;exact Z.fr hf ht J M O U F hp
def Yr.Zdb(h:Yr B w R G V bl sv hv ha hc hs sd)(J:Ye B G bl P2 D2 w w'):∃C,RmD B w' R G.p G.ds P2 D2 C sv hv ha hc hs sd/\Below B w w'/\Wc w w':=by
 have F:=h.set.typed;have O:Y6 w' G.p P2:=by have⟨Ls,g1,_⟩:=J;exact(g1 0 h.set.nle.1).pw
 have⟨C,g1,g2⟩:=J.at_;obtain⟨-, -, -, -,M⟩:=J;exact⟨C,h.left M F (F.Zap h.room Qz) Qz Qz Qz g1 O,M.below h.bw h.set.ge,Wc.of M F OB⟩
def RmH.bad(h:RmH B w R G V bl hb p ha hc hs sd)(hB:Jk B G hb bl P2 D2 w w'):∃J,RmD B w' R G.p G.ds P2 D2 J (.pointer G.s) (.pointer hb) ha hc hs sd/\Below B w w'/\Wc w w':=by
 obtain⟨O,⟨M,U,Z⟩,hf⟩:=hB;have⟨rd,hl⟩:=h.hl;have C:QL w (hb::G.p::bl) (138::J9):=QL.cons hl Qx (h.rm.set.typed.mono (λ_ hi=>hi) (λe he=>Zh _ he));refine⟨M,h.rm.left hf C (C.Zap h.rm.room Qz) Qz Qz Qz U O,hf.below h.rm.bw (λq F=> ?_),Wc.of hf C Qz⟩;rcases Zk.1 F with rfl|F
 .exact h.hB
 .exact h.rm.set.ge q F
def RmH.Zdc(h:RmH B w R G V bl hb p ha hc hs sd)(C:HAt B G hb bl V' p' w w'):(∃bl',RmH B w' R G V' bl' hb p' ha hc hs sd)/\Below B w w'/\Wc w w':=by have⟨J,M⟩:=h.step C;have⟨rd,hl⟩:=h.hl;obtain⟨bl', -, -,O⟩:=C.set;have F:QL w (hb::G.p::bl) (138::J9):=QL.cons hl Qx (h.rm.set.typed.mono (λ_ hi=>hi) (λe he=>Zh _ he));exact⟨J,M,Wc.of O F Qz⟩
def RmH.Zas(h:RmH B w R G V bl hb p ha hc hs sd)(n:Int)(hn:n<=9223372036854775807):Calls prog 18 #[G.p,n] w λe w'=>e=.returned (.tuple #[])/\RmH B w' R G {V with P:={V.P with Zas:=max n (-1)}} bl hb p ha hc hs sd/\Below B w w'/\Wc w w':=by
 have⟨O,ag⟩:=h.rm.set.pok;go_fit (OW G.p V.P n w O);rintro e w' ⟨rfl,hp,C⟩;have J:QL w [G.p] [112]:=QL.row O Qx;have ae:Pw.ok {V.P with Zas:=max n (-1)}:=⟨by show -1<=max n (-1);omega,by show max n (-1)<=_;omega⟩;have⟨s1,d1⟩:=h.rm.ZaY;have⟨s2,d2,z2⟩:=h.rm.Zb8;have⟨rd,hl⟩:=h.hl;refine⟨rfl,⟨⟨h.rm.room.fr C (J.Zap h.rm.room Qz),⟨s1,d1.fr C (J.Zap d1 Qz)⟩,⟨s2,d2.fr C (J.Zap d2 Qz),z2⟩,?_,?_,h.rm.rB,h.rm.gn,h.rm.kn,h.rm.k1⟩,⟨rd,hl.fr C (J.Zap hl Qz)⟩,h.hB,h.gB⟩,C.below h.rm.bw (λq U=>by rw[Z6] at U;subst U;exact h.rm.set.ge _ Qx),Wc.of C J Qz⟩
 .rcases h.rm.held with h9|⟨g,sp,e,Z⟩
  .exact Zv h9
  .exact Zy ⟨g,sp,e,Z.fr C (J.Zap Z Qz)⟩
 .have he:=h.rm.set;have af:G.p∉bl:=by
   intro hm;obtain⟨Ls,Os,rfl,he⟩:=he;rcases WL.1 hm with e|⟨i,hi,F⟩|⟨i,hi,F⟩
   .exact Row.ne he.pw he.set Qx e
   .exact(he.pd i hi).Zb3.Zap he.pw Qz F
   .exact(he.at_ i hi).typed.Zap he.pw Qz F
  obtain⟨Ls,Os,rfl,he⟩:=he;have⟨sp,hm⟩:=he.mem;have M:∀k∈Wx G Ls Os,k∉[G.p]:=λk F hm=>by rw[Z6] at hm;subst hm;exact af F
  exact⟨Ls,Os,rfl,he.set.fr C (M _ (by simp[Wx])),⟨sp,hm.fr C (J.Zap hm Qz)⟩,he.n1,he.n16,λi hi=>(he.pd i hi).Zay C (λk F=>M k (WL.2 (Zy (Zv ⟨i,hi,F⟩)))) hp ae,he.dap,λi hi=>(he.at_ i hi).fr C J Qz Qz (λk F=>M k (WL.2 (Zy (Zy ⟨i,hi,F⟩)))),he.oap,he.bO,he.bs⟩
def RmH.ty(h:Ty w)(C:0<B)(hb:Below B w w'):Ty w':=by unfold Ty at h⊢;rw[hb.cell (p:=⟨0,0,none⟩) C];exact h
def RmH.Zb2{gc nc cap:Nat}(h:RmH B w R G V bl hb p ha hc hs sd)(hx:QR K11 E R.k R.m R.n g H sd V)(hp:V.P.gone=false)(ht:Ty w)(aq:0<B)(ak:1<=E)(hE:E<=1900000000)(ay:g<=900000000)(aw:cs≠[])(af:cs.length<=4)(ag:∀c∈cs,c.key∈K11)(ah:∀c∈cs,∀v,c.val=some v->v.length<=200)(C:BR w gc cs)(au:nc=cs.length)(ae:nc<=cap):Calls prog 11 #[G.s,.slice gc nc cap] w λe w'=>∃ev c P2 D2 M,e=.returned ev/\QK w' w c ev/\((c=0/\P2.gone=false)∨(c=10/\P2.gone=true))/\Da (E+2) R.k R.m R.n g H (JS H cs) sd c D2/\RmD B w' R G.p G.ds P2 D2 M (.pointer G.s) (.pointer hb) ha hc hs sd/\(∀j,(D2 j).Zaq=(V.Ds j).Zaq)/\Below B w w'/\Wc w w'/\ (V.P.Zas<0->c=0/\∃V' bl',RmH B w' R G V' bl' hb p ha hc hs sd/\QR K11 (E+2) R.k R.m R.n (g+1) (JS H cs) sd V'/\V'.P.gone=false/\V'.P.Zas<0):=by
 have J:=hx.pre hp hE Qw aw af ag ah;have aj:=J;rw[<-h.rm.gn] at aj;go_fit (Om B w G V bl (Z5 K11 E R.k R.m g H V) gc nc cap cs h.rm.set ht aq aj C au ae);rintro e w' ⟨l,ev,hl,rfl,U,F,O⟩;rw[h.rm.gn] at U F O;have Z:=h.rm.set.alive;rw[h.rm.gn] at Z;have⟨r,C⟩:=ZK (QT (YW ((Z5 K11 E R.k R.m g H V).chg l) (Yj V R.n)) V);have ai:=KJ (YW ((Z5 K11 E R.k R.m g H V).chg l) (Yj V R.n)) V;rw[C] at U F O ai;have⟨a1,a2⟩:=hx.Zdo Z h.rm.gn h.rm.set J hl Qw ak C;rw[MQ hl] at a2;have hd:Ye B G bl r.2.P r.2.Ds w w':=by
  by_cases hz:r.1=0
  .exact(F hz).d
  .exact O hz
 have⟨M,b1,b2,b3⟩:=h.rm.Zdb hd;refine⟨ev,r.1,r.2.P,r.2.Ds,M,rfl,U,a1,λkeep tn=>(a2 keep tn).imp id λh9=>⟨g+1,Qw,h9⟩,b1,ai,b2,b3,λhf=> ?_⟩;have⟨c1,c2,c3,c4⟩:=hx.Zb2 hf hp h.rm.gn h.rm.set J hl C;rw[MQ hl] at c4;obtain⟨⟨bl',c5⟩, -⟩:=h.ran (F c1);exact⟨c1,_,bl',c5,c4,c2,c3⟩
def RmH.kill{i:Nat}(h:RmH B w R G V bl hb p ha hc hs sd)(hi:i<R.n)(hl:(V.Ds i).Zaq<=1000):Calls prog 26 #[.pointer (some ⟨G.ds i,0,none⟩)] w λe w'=>e=.returned (.tuple #[])/\(∃bl',RmH B w' R G {V with Ds:=upd V.Ds i (V.Ds i).ZaV,Ms:=upd V.Ms i none} bl' hb p ha hc hs sd)/\Below B w w':=by refine(Ot B w G V bl i h.rm.set (by rw[h.rm.gn];exact hi) hl).mono ?_;rintro e w' ⟨rfl,C⟩;exact⟨rfl,h.ran C⟩
def RmH.ZcR{i:Nat}(h:RmH B w R G V bl hb p ha hc hs sd)(hi:i<R.n)(hl:(V.Ds i).Zaq<=1000):Calls prog 23 #[.pointer (some ⟨G.ds i,0,none⟩)] w λe w'=>e=.returned (.tuple #[])/\(∃bl',RmH B w' R G {V with Ds:=upd V.Ds i (V.Ds i).ZaJ,Ms:=upd V.Ms i none} bl' hb p ha hc hs sd)/\Below B w w':=by refine(Z1o B w G V bl i h.rm.set (by rw[h.rm.gn];exact hi) hl).mono ?_;rintro e w' ⟨rfl,C⟩;exact⟨rfl,h.ran C⟩
end
structure RkW(B:Nat)(w:Qs)(R:Rg)(p:Nat)(ds:Nat->Nat)(bl:Qj)(E g:Nat)(H:Bs->Option Bs)(sd:Qr)(x:Qs):Prop where
 fr:Fr (p::bl) w x
 at_:∃P Ds blx,DAt B x p R.n ds P Ds blx/\Y6 x p P/\P.gone=false/\P.Zas<0/\(∀q∈blx,q∈bl∨w.heap.size<=q)/\Rk K11 E R.k R.m g R.n H sd Ds/\∀i,i<R.n->(Ds i).Zaq<=(E:Int)
def RkW.after{p:Nat}{x y:Qs}(h:RkW B w R p ds bl E g H sd x)(hb:Below x x y):RkW B w R p ds bl E g H sd y:=by have⟨P,Ds,C,F,J,M⟩:=h.at_;exact⟨h.fr.trans (Z1 (L:=[]) hb) Qx,P,Ds,C,F.after hb,Row.after J hb,M⟩
def RmD.pok{p:Nat}(h:RmD B w R p ds P Ds bl sv hv ha hc hs sd):P.ok:=by obtain⟨Ls,rfl,C,F⟩:=h.at_;have:=h.k1;have:=h.kn;exact(C 0 Qw).pok
def RmD.Zc2(h:RmD B w R p ds P Ds bl sv hv ha hc hs sd)(ev:Qt)(o0 C o2 F:Int){ka:Qm}{kc:Nat}{kl:List Qn}{ta:Qm}{tc:Nat}{tl:List Int}(O:Bl B w ka kl)(U:Au B w ta tl):Calls prog 20 #[R.r,.agg #[o0,C,o2,F,ev,.slice ka kl.length kc,.slice ta tl.length tc]] w λe w'=>e=.returned (.tuple #[])/\(∃bl',RmD B w' R p ds {P with gone:=false,Zas:= -1} (XH kl tl Ds R.n) bl' sv hv ha hc hs sd)/\Below B w w'/\Wc w w':=by have⟨s1,J⟩:=h.ZaY;go_fit (Z3C B w R.r p R.gd R.n R.cd _ s1 ds P Ds bl ev o0 C o2 F ka kc kl ta tc tl h.room J h.at_ h.bw O U h.pB h.n16 h.pw h.pok);rintro e w' ⟨rfl,⟨bl',M, -⟩,hp,hf⟩;exact⟨rfl,⟨bl',h.fr hf h.tyd (h.tyd.Zap h.room Qz) Qz Qz Qz M hp⟩,hf.below h.bw h.ge,Wc.of hf h.tyd Kr⟩
def RmD.Zas(h:RmD B w R p ds P Ds bl sv hv ha hc hs sd)(n:Int)(U:n<=9223372036854775807):Calls prog 18 #[p,n] w λe w'=>e=.returned (.tuple #[])/\RmD B w' R p ds {P with Zas:=max n (-1)} Ds bl sv hv ha hc hs sd/\Below B w w'/\Wc w w':=by go_fit (OW p P n w h.pw);rintro e w' ⟨rfl,J,C⟩;have F:QL w [p] [112]:=QL.row h.pw Qx;exact⟨rfl,h.fr C F (F.Zap h.room Qz) Qz Qz Qz (h.at_.Zay C (λk O hm=>by rw[Z6] at hm;subst hm;exact h.at_.typed.Zap h.pw Qz O) J ⟨by show -1<=max n (-1);omega,by show max n (-1)<=_;omega⟩) J,C.below h.bw (λq M=>by rw[Z6] at M;subst M;exact h.pB),Wc.of C F Qz⟩
def RmD.open(h:RmD B w R p ds P Ds bl sv hv ha hc hs sd)(ht:Ty w)(af:0<B)(M:P.gone=false)(hR:Rk K11 E R.k R.m g R.n H sd Ds)(O:R.k<=YG sd R.n)(hl:∀i,i<R.n->(Ds i).Zaq<=(E:Int))(Z:1<=E)(hE:E<=1900000000)(hg:g<=1000000000):Calls prog 27 #[.slice (some ⟨R.gd,0,none⟩) R.n R.cd,(R.k:Int),(R.m:Int)] w λe w'=>∃F ev c P' D' bl',e=.returned (.tuple #[F,ev])/\QK w' w c ev/\((c=0/\P'.gone=false)∨(c=10/\P'.gone=true))/\RmD B w' R p ds P' D' bl' sv hv ha hc hs sd/\(∀ (keep:Nat->List Bool) (tn:Nat->Int),Rk K11 (E+1) R.k R.m g R.n H sd (λi=>(D' i).lost (keep i) (tn i)))/\(∀i,(D' i).Zaq=(Ds i).Zaq)/\Below B w w'/\Wc w w':=by
 have⟨s1,d1⟩:=h.ZaY;refine(Ox B w K11 E R.gd R.n R.cd R.k R.m p g ds P Ds bl H sd (λi hi=>h.Zby hi) d1.lt (λhm=> ?_) h.k1 h.kn.symm h.n16 h.bw h.at_ h.pw By M ht af hR O hl Z hE hg).mono ?_
 .rcases Zk.1 hm with h9|h9
  .exact Row.ne d1 h.pw Qx h9
  .exact h.at_.typed.Zap d1 Qz h9
 .rintro e w' ⟨F,ev,c,rfl,ae,C⟩;have⟨P',D',U,J,h2,h3,h4,h5,h6⟩:=C.left;refine⟨F,ev,c,P',D',U,rfl,ae,?_,h.fr C.fr h.tyd (h.tyd.Zap h.room Qz) Qz Qz Qz h3 h2,h5,λi=>(h6 i).1,C.fr.below h.bw h.ge,Wc.of C.fr h.tyd Kr⟩;rcases C.code with rfl|rfl
  .exact Zv ⟨rfl,J⟩
  .exact Zy ⟨rfl,J⟩
def RmD.opens{p:Nat}{sx:Qr}(h:RmD B w R p ds P Ds bl sv hv ha hc hs sd)(ht:Ty w)(aj:0<B)(ae:R.k<=YG sx R.n)(au:1<=E)(hE:E<=1900000000)(hg:g<=1000000000){M:Qs}(hx:RkW B w R p ds bl E g H sx M):Calls prog 27 #[.slice (some ⟨R.gd,0,none⟩) R.n R.cd,(R.k:Int),(R.m:Int)] M λe w'=>∃J V' bl',e=.returned (.tuple #[J.s,.nilIface])/\EAt B w' J V' bl'/\(QR K11 (E+1) R.k R.m R.n g H sx V'/\V'.P.gone=false/\V'.P.Zas<0)/\J.n=R.n/\J.p=p/\J.ds=ds/\(∀q∈bl',q∈bl∨w.heap.size<=q)/\Fr (p::bl) w w'/\RkW B w R p ds bl E g H sx w':=by
 have⟨P1,D1,aq,h1,h2,h3,U,h5,h6,h7⟩:=hx.at_;have⟨s1,d1⟩:=h.ZaY;have d2:=d1.fr hx.fr (h.tyd.Zap d1 Qz);have bf:Ty M:=ht.fr hx.fr h.ge h.bw aj;refine(Ox B M K11 E R.gd R.n R.cd R.k R.m p g ds P1 D1 aq H sx (λi hi=>d2.cell (by rw[Za (by rw[BG];exact hi)];exact BF _ _ _ hi)) d2.lt (λhm=> ?_) h.k1 h.kn.symm h.n16 (Zq h.bw hx.fr.size) h1 h2 By h3 bf aj h6 ae h7 au hE hg).mono ?_
 .rcases Zk.1 hm with C|C
  .exact Row.ne d2 h2 Qx C
  .exact h1.typed.Zap d2 Qz C
 .rintro e w' ⟨bh,ev,c,rfl,aw,Z⟩;obtain rfl:=Z.last U;obtain⟨J,V',bl',rfl,O,e1,e2,e3,ay,hX,ak,ah,az⟩:=Z.ok rfl;rw[aw.zero];have hf:=Z.fr;have:=hx.fr.size
  have ag:Fr (p::bl) w w':=hx.fr.trans hf (λq F bg=>by
   rcases Zk.1 F with rfl|F
   .simp
   .rcases h5 q F with C|C
    .exact Zh _ C
    .omega)
  have ai:∀q∈bl',q∈bl∨w.heap.size<=q:=λq F=>by
   rcases ay q F with C|C
   .exact h5 q C
   .exact Zy Qw
  refine⟨J,V',bl',rfl,O,⟨hX,ak,ah U⟩,e1,e2,e3,ai,ag,ag,?_⟩;have af:=O.alive;rw[e1] at af;obtain⟨Ls,Os,rfl,hp⟩:=O;refine⟨V'.P,V'.Ds,(List.range R.n).flatMap Ls,⟨Ls,rfl,λi hi=> ?_,λi j hi hj=>hp.dap i j Qw Qw⟩,by rw[<-e2];exact hp.pw,ak,ah U,λq F=> ?_,hX.rkD af hg,λi hi=>by rw[az i];exact h7 i hi⟩
  .have C:=hp.pd i Qw;rw[e2,e3] at C;exact C
  .have⟨i,hi,F⟩:=Dx.1 F;exact ai q (WL.2 (Zy (Zv ⟨i,Qw,F⟩)))
def Rc(B:Nat)(w:Qs)(R:Rg)(p:Nat)(ds:Nat->Nat)(P:Pw)(Ds:Nat->Dk)(bl:Qj)(sv hv:Qt)(ha:Qm)(hc:Nat)(hs:QY)(sd:Qr)(E g:Nat)(H:Bs->Option Bs)(h:RmD B w R p ds P Ds bl sv hv ha hc hs sd)(aq:B<=R.gs)(ah:∀x v,H x=some v->v.length<=200/\x∈K11)(O:Ty w)(M:0<B)(Z:P.gone=false)(U:P.Zas<0)(hR:Rk K11 E R.k R.m g R.n H sd Ds)(ae:R.k<=YG sd R.n)(hl:∀i,i<R.n->(Ds i).Zaq<=(E:Int))(af:1<=E)(hE:E<=1900000000)(hg:g<=1000000000):Calls prog 13 #[R.r] w λe w'=>∃C V' bl' hh,e=.returned true/\RmH B w' R C V' bl' hh (0,[],false) ha hc hs sd/\QR K11 (E+1) R.k R.m R.n g H sd V'/\V'.P.gone=false/\V'.P.Zas<0/\C.p=p/\C.ds=ds/\Below B w w'/\Wc w w':=by
 go_fit (Z3H B w R p ds P Ds bl sv hv ha hc hs sd (E+1) g H h ah O M (Q:=λV=>QR K11 (E+1) R.k R.m R.n g H sd V/\V.P.gone=false/\V.P.Zas<0) (λV J=>J.1.set V.P J.2.1 J.2.2) (OpW:=RkW B w R p ds bl E g H sd) ⟨Fr.refl _ _,P,Ds,bl,h.at_,h.pw,Z,U,λq F=>Zv F,hR,hl⟩ (λx y hx hb=>hx.after hb) (λwx hx=>h.opens O M ae af hE hg hx));rintro e w' ⟨C,V',bl',hh,rfl,hA,ag,aj,⟨hX,ak,ai⟩,e1,e2,hg',hf⟩;refine⟨C,V',bl',hh,rfl,⟨hA,ag,Zq h.bw aj,aq⟩,hX,ak,ai,e1,e2,hf.below h.bw (λq F=> ?_),Wc.of hf (QL.cons h.room Qz (h.tyd.mono (us:=FZ) (λ_ hi=>hi) Kr)) (λe he=>he)⟩;rcases Zk.1 F with rfl|F
 .exact h.rB
 .exact h.ge q F
variable{E' tb:Nat}{W:World}{c:Int}{p:Nat×Bs×Bool}{tl:List Value}
def Sb{base:Nat}{e:Qu}{xs:Qk}(h:w.ownsRow base e k v n xs):∃a c,v=.slice a n c:=by
 rcases h.2 with ⟨C,F⟩|⟨g,cap,cur,C,_⟩
 .simp_all
 .simp_all
structure Tn where
 kind:Int
 Zav:Int
 num:Int
 Zas:Int
 ea:Qm
 el:List En
 ec:Nat
 ka:Qm
 kl:List Qn
 kc:Nat
 ta:Qm
 tl:List Int
 tc:Nat
def I64(z:Int):Prop:= -9223372036854775808<=z/\z<=9223372036854775807
structure Tn.Ok(o:Tn)(W:Qs):Prop where
 kind:I64 o.kind
 Zav:I64 o.Zav
 num:I64 o.num
 Zas:I64 o.Zas
 ens:Ap W o.ea o.el
 few:o.el.length<=9223372036854775807
 keep:Bl W W o.ka o.kl
 Zcd:Au W W o.ta o.tl
def Tn.cells(o:Tn):Qk:=[.int .i64 o.kind,.int .i64 o.Zav,.int .i64 o.num,.int .i64 o.Zas,.slice o.ea o.el.length o.ec,.slice o.ka o.kl.length o.kc,.slice o.ta o.tl.length o.tc]
def RmH.tell(h:RmH B w R G V bl hb p ha hc hs sd){C:Qm}{hc':Nat}{F:QY}(hh:YZ w C F):RmH B (w.setCell ⟨R.r,6,none⟩ (.slice C F.length hc')) R G V bl hb p C hc' F sd:=by have⟨rd,hl⟩:=h.hl;exact⟨h.rm.tell hh,⟨rd,hl.fr ((Fr.refl [R.r] w).setCell (Zv Qx) _) (by rw[Z6];exact Row.ne hl h.rm.room Qz)⟩,h.hB,h.gB⟩
def RmH.ZcB(h:RmH B w R G V bl hb p ha hc hs sd){i:Nat}(hi:i<R.n):w.cell? ⟨R.r,7,none⟩=some (.slice (some ⟨R.gs,0,none⟩) R.n R.cs)/\w.cell? ⟨R.gs,i,none⟩=some (.bool (sd i))/\w.frozen? ⟨R.gs,i,none⟩=false:=by obtain⟨s2,C, -⟩:=h.rm.Zb8;exact⟨h.rm.room.c7,h.rm.Zaz hi,C.free (j:=i) (by simp[sdC];omega)⟩
def RmH.abs(h:RmH B w R G V bl hb p ha hc hs sd)(hx:QR K11 E R.k R.m R.n g H sd V)(hp:V.P.gone=false)(hf:V.P.Zas<0)(U:∀x v,H x=some v->v.length<=200)(ht:Ty w)(O:0<B):∃T:Qs->Prop,T w/\(∀x,T x->x.cell? ⟨R.r,4,none⟩=(G.s)/\x.cell? ⟨R.r,6,none⟩=some (.slice ha hs.length hc))/\(∀x y,T x->Below x.heap.size x y->T y)/\(∀x,T x->(∃bl',RmH B x R G V bl' hb p ha hc hs sd)/\Wc w x/\Below B w x)/\∀x,T x->∀l a F,HOk K11 l->YZ x a l->Calls prog 14 #[G.s,.slice a l.length F] x λe w'=>∃b,e=.returned (.bool b)/\(b=true↔∀y,H y=Hof l y)/\T w':=by
 have ae:Y1 K11 E R.k R.m R.n g H sd V:=hx.set V.P hp hf;refine⟨λx=>(∃bl',RmH B x R G V bl' hb p ha hc hs sd)/\Wc w x/\Below B w x,⟨⟨bl,h⟩,λ_ _ _ _ J=>J,Zu _ _⟩,?_,?_,λx hx=>hx,?_⟩
 .rintro x ⟨⟨bl',C⟩, -⟩;exact⟨C.rm.room.c4,C.rm.room.c6⟩
 .rintro x y ⟨⟨bl',C⟩,h2,h3⟩ hb;exact⟨⟨bl',C.after hb⟩,h2.trans (Wc.after hb),h3.trans (hb.mono C.rm.bw)⟩
 .rintro x ⟨⟨bl',C⟩,h2,h3⟩ l a F hl J;go_fit (KX B x G V bl' K11 E R.k R.m R.n g H sd l a F ae U hl C.rm.set C.rm.gn (RmH.ty ht O h3) O J);rintro e w' ⟨b,rfl,b1,b2,M⟩;have⟨h4,h5⟩:=C.ran M;obtain⟨-, -, -,Z⟩:=M;exact⟨b,rfl,⟨b2,b1⟩,h4,h2.trans (Wc.of Z C.rm.set.typed OB),h3.trans h5⟩
structure CrS(B:Nat)(W:Qs)(R:Rg)(p:Nat)(ds:Nat->Nat)(E g:Nat)(sd:Qr)(ha:Qm)(hc:Nat)(hs:QY)(tb:Nat)(tl:Qk)(nv ev:Qt)(wr:Qs):Prop where
 now:∃a9 c9 now,nv=.slice a9 now.length c9/\YZ wr a9 now/\HOk K11 now/\∃P D bl sv hv c,RmD B wr R p ds P D bl sv hv ha hc hs sd/\((c=0/\P.gone=false)∨(c=10/\P.gone=true))/\QK wr B c ev/\Da E R.k R.m R.n g (Hof hs) (Hof now) sd c D/\∀j,j<R.n->(D j).Zaq<=(E:Int)
 Zb6:Row wr tb 56 tl
 bel:Below B W wr
def Z1x(V:Ev)(x:Wt)(i:Nat):((Y3 V x).Ds i).Zaq=(V.Ds i).Zaq:=by
 unfold Y3;split
 .simp only;by_cases e:i=x.1
  .subst e;rw[QX,(XK _ _ _).1]
  .rw[QP _ _ e]
 .rfl
def Uh(V:Ev)(j g i:Nat):((ZaW V j g).2.Ds i).Zaq=(V.Ds i).Zaq:=by
 unfold ZaW;split
 .unfold C7;by_cases e:i=j
  .subst e;simp[QX];unfold WK;split
   .rfl
   .exact K6 _ _ _ _ _ _
  .simp[QP _ _ e]
 .rfl
def Z8l(H:Bs->Option Bs)(V:Ev)(j:Nat)(x:Bs)(i:Nat):((Ws H V j x).2.Ds i).Zaq=(V.Ds i).Zaq:=by
 unfold Ws;split
 .rfl
 .exact Z1x _ _ _
def Z7l(H:Bs->Option Bs)(V:Ev)(n g:Nat)(p:Nat×Bs×Bool)(i:Nat):((WS H V n g p).2.1.Ds i).Zaq=(V.Ds i).Zaq:=by
 unfold WS;split
 .unfold Bb;split
  .exact Z8l _ _ _ _ _
  .exact Uh _ _ _ _
 .exact Uh _ _ _ _
def Da.mono{C:Bs->Option Bs}(h:Da E k m n g H C sd c D)(he:E<=E'):Da E' k m n g H C sd c D:=λkeep U=>(h keep U).imp (λF=>⟨F.1,F.2.mono he⟩) λ⟨J,M,O⟩=>⟨J,M,O.mono he⟩
def RmH.calm(h:RmH B w R G V bl hb p ha hc hs sd)(hx:QR K11 E' R.k R.m R.n g (Hof hs) sd V)(M:HOk K11 hs)(hp:V.P.gone=false)(he:E'+1<=E)(F:1<=E')(hg:g<=1000000000)(U:Row w tb 56 tl)(hB:Below B W w):CrS B W R G.p G.ds E g sd ha hc hs tb tl (.slice ha hs.length hc) .nilIface w:=by
 obtain⟨bl',Z, -⟩:=h.rm.d;have J:XO R.n V:=by rw[<-h.rm.gn];exact h.rm.set.alive
 have O:=hx.ZaE;exact⟨⟨ha,hc,hs,rfl,h.rm.held,M,V.P,V.Ds,bl',_,_,0,Z,Zv ⟨rfl,hp⟩,Zv ⟨rfl,rfl⟩,λkeep tn=>Zy ⟨g,Qw,(hx.rk J hg F (i:=R.n) (λ_ _=>rfl) (λC=>absurd C (ZgD _))).mono he⟩,λj hj=>by have:=O.Zaq j hj;show(V.Ds j).Zaq<=_;have C:(V.Ds j).Zaq<=(E':Int):=this;omega⟩,U,hB⟩
def MG{N:Int}(J: -9223372036854775808<=N)(n1:N<=9223372036854775807){c:Int}(hc:1<=c): -9223372036854775808<=N.tdiv c/\N.tdiv c<=9223372036854775807:=by
 have:(N.tdiv c).natAbs<=N.natAbs:=by rw[Int.natAbs_tdiv];exact Zge _ _
 by_cases h:0<=N
 .omega
 .have C:0<=(-N).tdiv c:=Int.tdiv_nonneg Qw Qw;rw[Int.neg_tdiv] at C;omega
def Rf(kl:List Qn)(tl:List Int)(Ds:Nat->Dk)(t i:Nat):(XH kl tl Ds t i).Zaq=(Ds i).Zaq:=by unfold XH;split<;>rfl
def Lp{kl:List Qn}{tl:List Int}(h:Rk K E k m g n H sd (λj=>(D j).lost (kl.getD j []) (tl.getD j 0))):Rk K E k m g n H sd (XH kl tl D n):=h.congr λi hi=>by unfold XH;rw[Zx hi]
def Da.one{now:QY}(h:Da E k m n g (Hof hs) (Hof now) sd c D)(J:HOk K11 hs)(M:HOk K11 now)(kl:List Qn)(tl:List Int):∃F C,F<=g+1/\Rk K11 E k m F n C sd (XH kl tl D n)/\(∀x v,C x=some v->v.length<=200/\x∈K11)/\(C=Hof now∨(c≠0/\C=Hof hs)):=by
 rcases h (λj=>kl.getD j []) (λj=>tl.getD j 0) with ⟨h3,h4⟩|⟨F,h3,h4⟩
 .exact⟨g,Hof hs,Qw,Lp h4,λx v hx=>⟨J.val _ (Bj hx),J.key _ (Bj hx)⟩,Zy ⟨h3,rfl⟩⟩
 .exact⟨F,Hof now,h3,Lp h4,λx v hx=>⟨M.val _ (Bj hx),M.key _ (Bj hx)⟩,Zv rfl⟩
structure RmV(W:Qs)(R:Rg)(E:Nat)(w:Qs)(G:Eg)(V:Ev)(bl:Qj)(hb:Nat)(p:Nat×Bs×Bool)(ha:Qm)(hc:Nat)(hs:QY)(sd sx:Qr)(g:Nat):Prop where
 rm:RmH W w R G V bl hb p ha hc hs sd
 set:QR K11 E R.k R.m R.n g (Hof hs) sx V
 held:HOk K11 hs
 gone:V.P.gone=false
 Zas:V.P.Zas<0
 pl:p.1<R.n
 gE:g<=E
 E1:1<=E
 bel:Below W W w
def RmI(W:Qs)(R:Rg)(E:Nat)(w:Qs):Prop:=∃G V bl hb p ha hc hs sd g,RmV W R E w G V bl hb p ha hc hs sd sd g
variable{sx:Nat->Bool}
def BS(h:HOk K11 hs):(∀x v,Hof hs x=some v->v.length<=200/\x∈K11)/\(∀x v,Hof hs x=some v->(x,v)∈hs)/\∀q∈hs,Hof hs q.1=some q.2/\q.1∈K11/\q.2.length<=200:=⟨λx v hx=>⟨h.val _ (Bj hx),h.key _ (Bj hx)⟩,λx v hx=>Bj hx,λq C=>⟨Nb h.nd C,h.key q C,h.val q C⟩⟩
def RmV.mono(h:RmV W R E w G V bl hb p ha hc hs sd sx g)(he:E<=E'):RmV W R E' w G V bl hb p ha hc hs sd sx g:=⟨h.rm,h.set.mono he,h.held,h.gone,h.Zas,h.pl,Zq h.gE he,Zq h.E1 he,h.bel⟩
def RmI.mono(h:RmI W R E w)(he:E<=E'):RmI W R E' w:=by have⟨G,V,bl,hb,p,ha,hc,hs,sd,g,h⟩:=h;exact⟨G,V,bl,hb,p,ha,hc,hs,sd,g,h.mono he⟩
def RmV.after(h:RmV W R E w G V bl hb p ha hc hs sd sx g)(C:Below w w w'):RmV W R E w' G V bl hb p ha hc hs sd sx g:=⟨h.rm.after C,h.set,h.held,h.gone,h.Zas,h.pl,h.gE,h.E1,h.bel.trans (C.mono h.bel.size)⟩
def RmV.i(h:RmV W R E w G V bl hb p ha hc hs sd sd g):RmI W R E w:=⟨G,V,bl,hb,p,ha,hc,hs,sd,g,h⟩
def RmV.al(h:RmV W R E w G V bl hb p ha hc hs sd sx g):XO R.n V:=by rw[<-h.rm.rm.gn];exact h.rm.rm.set.alive
def RmV.ty(h:RmV W R E w G V bl hb p ha hc hs sd sx g)(C:Ty W):Ty w:=RmH.ty C C.lt h.bel
def RmI.look(h:RmI W R E w)(C:Ty W):Calls prog 57 #[R.r] w λe w'=>e=.returned (.tuple #[])/\RmI W R E w':=by have⟨G,V,bl,hb,p,ha,hc,hs,sd,g,h⟩:=h;have⟨U,O,F⟩:=BS h.held;refine(Z3G W w R G bl hb p ha hc hs sd h.rm h.set F h.rm.rm.gn (h.ty C) C.lt h.gone (by have:=h.held.few By;omega)).mono ?_;rintro e w' ⟨rfl,⟨bl',J⟩,hB⟩;exact⟨rfl,RmV.i (g:=g) ⟨J,h.set.looked O (λq M=>(F q M).1) h.gone,h.held,h.gone,h.Zas,h.pl,h.gE,h.E1,h.bel.trans hB⟩⟩
def RmI.ZcE(h:RmI W R E w)(F:Ty W)(Z:E<=1000000){N:Nat}(M:N<=1000):Calls prog 24 #[R.r,(N:Int)] w λe w'=>e=.returned true/\RmI W R (E+N) w':=by have⟨G,V,bl,hb,p,ha,hc,hs,sd,g,h⟩:=h;have⟨O,q2,q3⟩:=BS h.held;have:=h.gE;go_fit (Pi W w R G bl hb p ha hc hs sd N h.rm h.set (λx v hx=>(O x v hx).symm) h.rm.rm.gn (h.ty F) F.lt h.pl h.gone h.Zas Qw h.E1 M Qw);rintro e w' ⟨rfl,⟨bl',J⟩,h2,hB⟩;have C:=h2 N (Zt _);exact⟨rfl,RmV.i (g:=g) ⟨J,C.set,h.held,C.gone,C.Zas,C.pl,Qw,by have:=h.E1;omega,h.bel.trans hB⟩⟩
def RmI.open(h:RmI W R E w)(F:Ty W)(hE:E<=1000000):Calls prog 13 #[R.r] w λe w'=>e=.returned true/\RmI W R (E+1) w':=by have⟨G,V,bl,hb,p,ha,hc,hs,sd,g,h⟩:=h;have⟨q1,q2,q3⟩:=BS h.held;have:=h.gE;obtain⟨bl',Z, -⟩:=h.rm.rm.d;have C:=h.set.ZaE;go_fit (Rc W w R G.p G.ds V.P V.Ds bl' _ _ ha hc hs sd E g (Hof hs) Z h.rm.gB q1 (h.ty F) F.lt h.gone h.Zas ((h.set.mono (ZeE E)).rkD h.al Qw) C.many (λi hi=>C.Zaq i hi) h.E1 Qw Qw);rintro e w' ⟨G',V',bl',hh,rfl,J,M,O,U, -, -,hB, -⟩;exact⟨rfl,RmV.i (g:=g) ⟨J,M,h.held,O,U,by have:=h.pl;show 0<_;omega,Qw,Qw,h.bel.trans hB⟩⟩
def RmI.holds(h:RmI W R E w)(F:Ty W):∃ (T:Qs->Prop) (s:Nat) (ha:Qm) (N hc:Nat),T w/\(∀x,T x->x.cell? ⟨R.r,4,none⟩=s/\x.cell? ⟨R.r,6,none⟩=some (.slice ha N hc))/\(∀x y,T x->Below x.heap.size x y->T y)/\(∀x,T x->RmI W R E x)/\∀x,T x->Calls prog 14 #[s,.slice ha N hc] x λe w'=>e=.returned true/\T w':=by
 have⟨G,V,bl,hb,p,ha,hc,hs,sd,g,h⟩:=h;have⟨M,O,U⟩:=BS h.held;have⟨T,t0,t1,t2,t3,t4⟩:=h.rm.abs h.set h.gone h.Zas (λx v hx=>(M x v hx).1) (h.ty F) F.lt;refine⟨T,G.s,ha,hs.length,hc,t0,t1,t2,λx hx=> ?_,λx hx=> ?_⟩
 .obtain⟨⟨bl',C⟩, -,hB⟩:=t3 x hx;exact RmV.i (g:=g) ⟨C,h.set,h.held,h.gone,h.Zas,h.pl,h.gE,h.E1,h.bel.trans hB⟩
 .obtain⟨⟨bl',C⟩, -, -⟩:=t3 x hx;go_fit (t4 x hx hs ha hc h.held C.rm.held);rintro e w' ⟨b,rfl,hb,J⟩;rw[hb.2 λ_=>rfl];exact⟨rfl,J⟩
def Z3L(W w:Qs)(R:Rg)(E:Nat)(G:Eg)(V:Ev)(bl:Qj)(hb:Nat)(p:Nat×Bs×Bool)(ha:Qm)(hc:Nat)(hs:QY)(sd:Qr)(g i:Nat)(N:Int)(h:RmV W R E w G V bl hb p ha hc hs sd sd g)(hi:i<R.n)(n0: -9223372036854775808<=N)(n1:N<=9223372036854775807)(ht:Ty W)(hE:E<=1000000):Calls prog 55 #[R.r,(i:Int),N] w λe w'=>e=.returned true/\RmI W R E w':=by
 have ae:=Rb i h.rm.rm hi;have c1:=h.rm.rm.room.c1;have c6:=h.rm.rm.room.c6;have c7:=h.rm.rm.room.c7;have bh:=h.rm.rm.Zaz hi;have df:=h.rm.rm.Zby hi;have eo:R.n<=16:=by rw[<-h.rm.rm.gn];exact h.rm.rm.set.nle.2
 have cr:=h.held.few By;have fa:(i:Int)<(R.n:Int):=Qw;obtain⟨O,bf⟩:=ZK (CI sd R.n R.m i);obtain⟨si,ah⟩:=ZK (sd i);obtain⟨J,aw⟩:=ZK hs.length;rw[bf] at ae;rw[ah] at bh;rw[aw] at c6 cr;by_cases ct:O=true/\si=true/\0<J
 .obtain⟨rfl,rfl,cz⟩:=ct;have hz:((J:Int)==0)=false:=by simp;omega
  obtain⟨S,hM, -⟩:=h.set.ZaE.snd i hi ah;have U:V.Ms i=some S:=hM;obtain⟨b1,b2⟩:=h.set.ZaE.in_ i hi S hM;have ai:QU K11 E (V.Ds i) S:=b1;obtain⟨Zau,dh⟩:=ai.img;obtain⟨-,L,dq⟩:=h.rm.rm.set.dsk (i:=i) (by rw[h.rm.rm.gn];exact hi);have cj:=(h.al i hi).2 (by rw[U];rfl);have dp:=λ(x:Qs) (hb:Below w w x)=>TF W G.p (G.ds i) V.P (V.Ds i) L S Zau x (dq.after hb) (FV h.gone cj) dh (by have:=ai.ep;omega);obtain⟨q,hq⟩:=ZK (J8 (N.tdiv 512) J);have cu:q<J:=by rw[<-hq];exact JA _ cz
  have dt:q<hs.length:=by rw[aw];exact cu
  obtain⟨ga,rfl,ez,e0, -⟩:=h.rm.rm.held.at_ dt;obtain⟨k1,k2,k3⟩:=(BS h.held).2.2 _ (Zl dt);obtain⟨F,dm⟩:=ZK hs[q];rw[dm] at e0 k1 k2 k3;have fc:=By.len _ k2;have ek:=Br F.1 Qw;have er:(nmD F.1).length<=1000000:=by simp[nmD];omega
  have az:stR (V.Ds i).reads S.dir (nmD F.1)=some (some (shL R.k R.m i F.1 F.2)):=by obtain⟨S',y1,y2⟩:=h.set.ZaE.snd i hi ah;rw[show V.Ms i=some S' from y1] at U;cases U;exact y2 _ _ k1
  obtain⟨e,hg⟩:∃e,S.dir.get (nmD F.1)=some e:=by
   cases hg:S.dir.get (nmD F.1) with
   |none=>unfold stR at az;rw[hg] at az;cases az
   |some e=>exact⟨e,rfl⟩
  obtain⟨r1,r2,r3⟩:=ai.runs hg;obtain⟨r,rs,hr⟩:∃r rs,e.runs=r::rs:=by
   cases hr:e.runs with
   |nil=>exact absurd hr r2
   |cons r rs=>exact⟨r,rs,rfl⟩
  have af:=Rq bf h.rm.rm.kn h.set.ZaE.many hi;have aq:=λb hb=>h.set.rot h.al hi ah af (b:=b) U k1 hg hr hb;have dy:=λ(x:Qs) (s:Nat) (bj:Wo x s (G.ds i) S)=>ED s (G.ds i) S (nmD F.1) e x bj er hg r2 Qw;have cn:=MG n0 n1 (c:=512) Qw;have bz:=λ(x:Qs)=>Af (N.tdiv 512) J x cn.1 cn.2 cz Qw;rw[hq] at bz;obtain⟨b,bu⟩:=ZK (J8 N 512);have de:b<512:=by rw[<-bu];exact JA _ Qw
  have ag:=λ(x:Qs)=>Af N 512 x n0 n1 Qw Qw;rw[bu] at ag;have C:=ZI (ZJ h (ZJ dp (ZJ dy (ZJ bz (ZJ ag (ZJ aq (ZJ hr (ZJ U (ZJ cj (ZJ e0 (ZJ ae (ZJ c6 ai))))))))))));clear h dp dy bz ag aq hr U hM cj e0 ae dq dh b1 b2 ai az hg k1 k2 k3 dm r1 r2 r3 af ah bf aw hq bu cn;go_enter func55,ntmps55;go_wp2_with (first|(go_at_call 54;refine C.2.2.2.2.2.2.2.2.2.2.1.mono ?_;rintro e w2 ⟨rfl,rfl⟩)|(go_at_call 62;refine(C.2.1 _ (by first|exact Zu _ _|exact(Zu _ _).drew)).mono ?_;rintro e w3 ⟨s,rfl,bj,M⟩;have R3:=ZM bj M;clear bj M));obtain⟨-,jj, -,dx⟩:=R3.1.j;obtain⟨NR,ay⟩:=ZK e.runs.length;have ef:((NR:Int)==0)=false:=by rw[<-ay,C.2.2.2.2.2.2.1];simp;omega
  have eh:0<NR:=by rw[<-ay,C.2.2.2.2.2.2.1];simp
  have M:=R3.2.drew;have hs0:w3.drew.cell? ⟨R.r,6,none⟩=some (.slice ga J hc)/\w3.drew.cell? ⟨ga,q*2,none⟩=some (.string (str F.1))/\Wo w3.drew s (G.ds i) S/\Below w w w3.drew:=⟨(M.cell (Z9 _ _ c6)).trans c6,(M.cell (Z9 _ _ C.2.2.2.2.2.2.2.2.2.1)).trans C.2.2.2.2.2.2.2.2.2.1,dx.at_.after ((Zu _ w3).drew),M⟩;have dj:∀x y:Qs,(x.cell? ⟨R.r,6,none⟩=some (.slice ga J hc)/\x.cell? ⟨ga,q*2,none⟩=some (.string (str F.1))/\Wo x s (G.ds i) S/\Below w w x)->Below x x y->(y.cell? ⟨R.r,6,none⟩=some (.slice ga J hc)/\y.cell? ⟨ga,q*2,none⟩=some (.string (str F.1))/\Wo y s (G.ds i) S/\Below w w y):=by rintro x y ⟨h0,h1,h2,h3⟩ hb;exact⟨(hb.cell (Z9 _ _ h0)).trans h0,(hb.cell (Z9 _ _ h1)).trans h1,h2.after hb,h3.trans (hb.mono h3.size)⟩
  have fe:=Zr (N.tdiv 512) (MG n0 n1 Qw);have HK:=ZM dj ay;clear dj dx M c1 c6 c7 bh df ay;go_region_held3 (λx:Qs=>x.cell? ⟨R.r,6,none⟩=some (.slice ga J hc)/\x.cell? ⟨ga,q*2,none⟩=some (.string (str F.1))/\Wo x s (G.ds i) S/\Below w w x) (first|exact hs0|(exact HK.1 _ _ (by assumption) (by assumption)))
   (first|(go_at_call 9;refine(C.2.2.2.1 _).mono ?_;rintro e w8 ⟨rfl,rfl⟩)|(go_at_call 97;refine(C.2.2.1 _ s (And.left (Zft (Zft (by assumption))))).mono ?_;rintro e w8 ⟨v8,rfl,⟨a8,ey,rfl,ak⟩,hb8⟩))
  have bq:=(show Below w.heap.size w w8 from Zft (Zft (Zft (by assumption))));obtain⟨g8,fg,rfl,bg⟩:=ak.2.resolve_left (by rw[C.2.2.2.2.2.2.1];simp);rw[C.2.2.2.2.2.2.1] at bg;rw[HK.2];have ee:w8.cell? g8=(r.1:Int):=bg.c0;have bm:=C.1.rm.after bq;obtain⟨c7,bh,eu⟩:=bm.ZcB hi;have H8:=ZX bm bg bq;clear bm bg bq ak hb8 hs0;go_wp2_with fail;have cy:∀j,j<G.n->∀S,V.Ms j=some S->QU K11 E (V.Ds j) S:=λj hj S hM=>(C.1.set.ZaE.in_ j (by rw[<-C.1.rm.rm.gn];exact hj) S hM).1;have Z:=H8.1.mark cy hi false;obtain⟨fh,r9, -⟩:=H8.1.rm.Zb8;have du:=H8.2.fr ((Fr.refl [R.gs] w8).setCell (p:=⟨R.gs,i,none⟩) (Zv Qx) (.bool false)) (by rw[Z6];exact Row.ne H8.2 r9 Qz);have cw:Below W W (w8.setCell ⟨R.gs,i,none⟩ (.bool false)):=(C.1.bel.trans (H8.3.mono C.1.bel.size)).trans ((Zu _ _).setCell (p:=⟨R.gs,i,none⟩) H8.1.gB _);generalize w8.setCell ⟨R.gs,i,none⟩ (.bool false)=w9 at*
  have ew:w9.cell? g8=(r.1:Int):=du.c0;have c1:=Z.rm.room.c1;have df:=Z.rm.Zby hi;obtain⟨x1,x2⟩:=C.2.2.2.2.2.1 b de;have dw:=λ(x:Qs) (hb:Below w9 w9 x)=>Z1p W x G V bl i r.1 b (Z.rm.set.after hb) (by rw[Z.rm.gn];exact hi) C.2.2.2.2.2.2.2.2.1 C.2.2.2.2.2.2.2.1 x1 de;have HZ:=ZY dw x2 Z cw;clear dw x2 Z cw du cy r9 ee c7 bh eu;go_region_law (first|(go_simp;go_at_call 9;refine(C.2.2.2.2.1 _).mono ?_;rintro e fi ⟨rfl,rfl⟩)|((try go_simp);go_at_call 104;refine(HZ.1 _ ((Zu _ _).drew)).mono ?_;rintro e fj ⟨rfl,aj⟩;have au:=(HZ.3.after ((Zu _ _).drew)).ran aj;have dz:=ZI au;clear aj au))
  all_goals (try go_wp2)
  all_goals
   go_ret;obtain⟨⟨bl',au⟩,hB11⟩:=dz.o;exact⟨rfl,RmV.i (g:=g) ⟨au,HZ.2,C.1.held,C.1.gone,C.1.Zas,C.1.pl,C.1.gE,C.1.E1,HZ.4.drew.trans hB11⟩⟩
 .rcases(show O=false∨(O=true/\si=false)∨(O=true/\si=true/\J=0) by
   cases O<;>cases si<;>simp at ct⊢
   omega) with rfl|⟨rfl,rfl⟩|⟨rfl,rfl,rfl⟩
  all_goals
   have C:=ZM h ae;clear h ae bf ah aw ct;go_enter func55,ntmps55;go_wp2_with (go_at_call 54;refine C.2.mono ?_;rintro e w2 ⟨rfl,rfl⟩);go_ret;exact⟨rfl,C.1.i⟩
def Z3z(W w:Qs)(R:Rg)(E:Nat)(G:Eg)(V:Ev)(bl:Qj)(hb:Nat)(p:Nat×Bs×Bool)(ha:Qm)(hc:Nat)(hs:QY)(sd:Qr)(g:Nat)(o:Tn)(hv:RmV W R E w G V bl hb p ha hc hs sd sd g)(ho:o.Ok W)(ht:Ty W)(hE:E<=1000000):Calls prog 56 #[R.r,.agg #[(o.kind:Int),(o.Zav:Int),(o.num:Int),(o.Zas:Int),.slice o.ea o.el.length o.ec,.slice o.ka o.kl.length o.kc,.slice o.ta o.tl.length o.tc]] w λe w'=>e=.returned true/\RmI W R (E+12) w':=by
 obtain⟨h,hx,ez,hp, -,hi,lq,ij,ix⟩:=hv;have:g<=1000000:=Zq lq hE;have ak:=ht.lt;have⟨ok,od,on,of,ea,el,ec,ka,kl,kc,ta,tl,tc⟩:=o;obtain⟨-, -,⟨n0,n1⟩,⟨f0,f1⟩,oe,ofw,ji,jk⟩:=ho;dsimp only at n0 n1 f0 f1 oe ofw ji jk⊢;have j7:=ez.few By;have dy:=(Zu w w).alloc (Zt _) (.cells #[(ok:Int),(od:Int),(on:Int),(of:Int),.slice ea el.length ec,.slice ka kl.length kc,.slice ta tl.length tc] 56);have gy:=Z2 w 56 [.int .i64 ok,.int .i64 od,.int .i64 on,.int .i64 of,.slice ea el.length ec,.slice ka kl.length kc,.slice ta tl.length tc];have kj:∀x v,Hof hs x=some v->v.length<=200/\x∈K11:=λx v hx=>⟨ez.val _ (Bj hx),ez.key _ (Bj hx)⟩;have⟨EN,jr⟩:=ZK el.length;have⟨KN,ik⟩:=ZK kl.length;have⟨TN,iw⟩:=ZK tl.length;have fw:=λ(x:Qs) (hb:Below W W x)=>PV x ea ec el (oe.after hb) ofw;rw[jr] at dy gy fw⊢;rw[ik,iw] at dy gy⊢;have fj:Row (w.alloc (.cells #[(ok:Int),(od:Int),(on:Int),(of:Int),.slice ea EN ec,.slice ka KN kc,.slice ta TN tc] 56)) w 56 [.int .i64 ok,.int .i64 od,.int .i64 on,.int .i64 of,.slice ea EN ec,.slice ka KN kc,.slice ta TN tc]:=gy;have⟨cs,iy⟩:=ZK (JN el);rw[iy] at fw;have ke:cs.length<=4/\(∀c∈cs,c.key∈K11)/\∀c∈cs,∀v,c.val=some v->v.length<=200:=by rw[<-iy];exact⟨O1 _,O2 _,O3 _⟩
 have HN:=ZY ik iw ji jk;have H:=Q1 hx ez ht fw ke hp kj;have HA:=ZO (h.after dy) fj (ix.trans (dy.mono ix.size)) (dy.mono h.rm.bw);go_enter func56,ntmps56;go_upto_region 1 with fail;generalize w.alloc (.cells #[(ok:Int),(od:Int),(on:Int),(of:Int),.slice ea EN ec,.slice ka KN kc,.slice ta TN tc] 56)=w1 at*
 have⟨tb,ky⟩:=ZK w.heap.size;rw[ky] at HA⊢;have t4:=HA.2.1.c4;go_wp2_with (go_at_call 10;go_fit (H.4 _ HA.2.2.1);rintro e w2 ⟨v,rfl,fh,bm⟩;obtain⟨ax,cx,rfl⟩:=Sb fh;have M:=HA.1.after bm;have T2:=HA.2.1.after bm;have c6:=M.rm.room.c6;have c0:=M.rm.room.c0;have t3:=T2.c3;have R2:=ZY M T2 (bm.mono HA.1.rm.bw) fh);go_still_tail 7,Qy
 still_call (BN (Af of 700 _ f0 f1 Qw Qw))
 repeat still_step
 change wpList _ _ _ _ _ w2.drew;go_upto_block 0 with (first|(go_at_call 18;have ek:=R2.1.after ((Zu _ w2).drew);refine(ek.Zas _ (by have:=JA of (show 0<700 by omega);omega)).mono ?_;rintro e w3 ⟨rfl,au,jx,j9⟩;have T3:=j9 _ _ _ Qz (R2.2.after ((Zu _ w2).drew));have t2:=T3.c2;have jf:=R2.4;have R3:=ZY au T3 (R2.3.trans (((Zu _ w2).drew.mono R2.1.rm.bw).trans jx)) j9)|(go_at_call 9;go_fit (Af on 3 _ n0 n1 Qw Qw);rintro e w4 ⟨rfl,rfl⟩));have lk:∃V1 ia,RmH W w3 R G V1 ia hb p ha hc hs sd/\QR K11 E R.k R.m R.n g (Hof hs) sd V1/\V1.P.gone=false:=⟨_,bl,R3.1,⟨λP h1 h2=>H.1.set P h1 h2,H.1.o⟩,H.6⟩;have⟨V1,ia,au,kz,kx⟩:=lk;have ig:Below W W w3:=HA.2.2.1.trans R3.3;have fp:Ty w3:=RmH.ty H.3 ak ig;have er:XO R.n V1:=by rw[<-au.rm.gn];exact au.rm.set.alive
 have⟨NC,ef⟩:=ZK cs.length;have⟨NH,eh⟩:=ZK hs.length;have⟨q,hq⟩:=ZK (J8 on 3);have:q<3:=by rw[<-hq];exact JA _ Qw
 have jw:0<NC->∃gx sp,ax=some ⟨gx,0,none⟩/\NC<=cx/\Row w3 gx 68 (cs.flatMap apC++sp):=λh0=>by
  have fh:=R2.4;obtain⟨gx,ie,mb,lz, -,fx, -,fm⟩:=BE fh (by rw[ef];exact h0);obtain⟨rfl,rfl⟩:ax=some ⟨gx,0,none⟩/\cx=ie:=by simpa using lz
  exact⟨gx,mb,rfl,by rw[<-ef];exact fx,R3.4 _ _ _ Qz (fm.after ((Zu _ w2).drew))⟩
 have c4:=au.rm.room.c4;have c5:=au.rm.room.c5;have c6:=au.rm.room.c6;rw[ef,eh,hq];rw[eh] at c6;have C:=Q5 au kz kx R3.2 ig fp er jw ef eh;rw[eh] at j7;go_cut [6,7,8] from 31 to 82 (λnv ev _ wx=>CrS W W R G.p G.ds (E+9) g sd ha hc hs tb [.int .i64 ok,.int .i64 od,.int .i64 on,.int .i64 of,.slice ea EN ec,.slice ka KN kc,.slice ta TN tc] nv ev wx)
 case first=>
  rcases(show q=0∨q=1∨q=2 by omega) with rfl|rfl|rfl
  .by_cases h0:0<NC
   .have:(0:Int)<(NC:Int):=(by omega);obtain⟨gx,sp,rfl,fx,fm⟩:=C.8 h0;have jy:=NF w3 R.r ha hc hs gx NC cx cs (by rw[C.10];exact c6) C.1.rm.held (by rw[C.10];omega) (BR.rd ⟨sp,fm⟩) C.9.symm (by have:=H.5.1;have:=C.9;omega);have HX:=ZN jy fm fx;go_wp2_with (first|(go_at_call 12;go_fit HX.1;rintro e w5 ⟨a5,lh,rfl,kg,fu⟩;have iq:=C.1.after fu;have:=iq.rm.room.c4;have R5:=ZO iq kg fu (HX.2.1.after fu))|(go_at_call 11;refine(R5.1.Zb2 C.2 C.3 (C.6.below R5.2.2.1) ak ij Qw Qw (by intro e9;have O:=C.9;rw[e9] at O;simp at O;omega) H.5.1 H.5.2.1 H.5.2.2 ⟨sp,R5.2.2.2⟩ C.9.symm HX.2.2).mono ?_;rintro e w6 ⟨ev,c,P2,D2,dx,rfl,ay,ah,hcut,bz,gj,cz,bf, -⟩;have R6:=ZR ay ah hcut bz gj cz bf));go_meet
    case rel=>have⟨ay,ah,hcut,bz,gj,cz,bf⟩:=R6.o;have hz:=Zq C.5.size R5.2.2.1.size;exact⟨⟨a5,lh,J6 hs cs,rfl,bf.held R5.2.1,Zaa H.2 H.5.2.1 H.5.2.2,P2,D2,dx,_,_,c,bz,ah,ay.base hz,by rw[Na];exact hcut.mono Qw,λj hj=>by rw[gj j];have O:(V1.Ds j).Zaq<=(E:Int):=C.2.ZaE.Zaq j hj;omega⟩,bf _ _ _ Qz (C.4.after R5.2.2.1),(C.5.trans (R5.2.2.1.mono C.5.size)).trans cz⟩
   .obtain rfl:NC=0:=(by omega);go_wp2;go_meet
    case rel=>have O:=C.1.calm (E:=E+9) C.2 H.2 C.3 Qw ij Qw C.4 C.5;rw[C.10] at O;exact O
  .go_wp2;go_loopw [7,8] (λev iv wr=>∃t:Nat,t<=8/\iv=(t:Int)/\((ev=.nilIface/\Row wr tb 56 [(ok:Int),(od:Int),(on:Int),(of:Int),.slice ea EN ec,.slice ka KN kc,.slice ta TN tc]/\Below W W wr/\∃V2 dx p2,RmH W wr R G V2 dx hb p2 ha hc hs sd/\QR K11 (E+t) R.k R.m R.n g (Hof hs) sd V2/\V2.P.gone=false/\p2.1<R.n)∨((∃b,ev=.iface 139 (b:Nat))/\CrS W W R G.p G.ds (E+9) g sd ha hc hs tb [.int .i64 ok,.int .i64 od,.int .i64 on,.int .i64 of,.slice ea EN ec,.slice ka KN kc,.slice ta TN tc] (.slice ha NH hc) ev wr))) (λ_ iv _=>8- (intOf iv).toNat)
   .exact⟨0,Qw,rfl,Zv ⟨rfl,C.4,C.5,V1,ia,p,C.1,C.2,C.3,hi⟩⟩
   obtain⟨t,mo,rfl,⟨rfl,hT,de,V2,dx,p2,M,dj,dz,fa⟩|⟨⟨b,rfl⟩,hCr⟩⟩:=hrel
   .by_cases lr:t<8
    .have lu:(t:Int)<8:=(by omega);have jg:=RmH.ty H.3 ak de;have fo:=Po W wr G dx hb p2 dj (λx v hx=>(H.7 x v hx).symm) M.rm.set M.rm.gn jg ak M.hl fa dz Qw Qw Qw M.hB;have dm:XO R.n V2:=by rw[<-M.rm.gn];exact M.rm.set.alive
     obtain⟨-,q2⟩:=dj.step (λx v hx=>(H.7 x v hx).symm) dm dz Qw Qw fa;have bg:=Z7l (Hof hs) V2 R.n g p2;have jc:∀j,j<R.n->(V2.Ds j).Zaq<=((E+t:Nat):Int):=λj hj=>dj.ZaE.Zaq j hj;have⟨r,hr⟩:=ZK (WS (Hof hs) V2 R.n g p2);rw[hr] at fo q2 bg;have⟨c,V4,p4⟩:=r;dsimp only at q2 bg;have c5:=M.rm.room.c5;rcases q2 with ⟨rfl,q5,q6,q7⟩|⟨rfl,q5,q6⟩
     .have F:=ZR fo M q5 q6 q7 hT de;go_wp2_with (go_at_call 58;go_fit F.1;rintro e w5 ⟨x1,x2,x3,b1,lj,rfl,cn,l5, -⟩;obtain rfl:=cn.zero;have fq:=F.2.1.Zdc (l5 rfl);have R5:=ZI fq);go_roundw
      .obtain⟨⟨ib,h5⟩,h6,h7⟩:=R5.o
       repeat apply Exists.intro
       exact⟨⟨t+1,Qw,QC,Zv ⟨rfl,h7 _ _ _ Qz F.2.2.2.2.2.1,F.2.2.2.2.2.2.trans h6,V4,ib,p4,h5,F.2.2.2.1,F.2.2.1,F.2.2.2.2.1⟩⟩,rfl⟩
      simp[intOf];omega
     .have F:=ZS fo M q5 q6 bg jc hT de;go_wp2_with (go_at_call 58;go_fit F.1;rintro e w5 ⟨x1,x2,x3,b1,lj,rfl,cn, -,kt⟩;obtain⟨b5,rfl⟩:=(cn.split.resolve_left (λh=>absurd h.1 (show¬ (10:Int)=0 from Qz))).2;have fq:=F.2.1.bad (kt (show(10:Int)≠0 from Qz));have R5:=ZM cn fq);go_roundw
      .have⟨cn,ib,h5,h6,h7⟩:=R5.o
       repeat apply Exists.intro
       refine⟨⟨t+1,Qw,QC,Zy ⟨⟨b5,rfl⟩,⟨ha,hc,hs,by rw[C.10],h5.held,H.2,V4.P,V4.Ds,ib,_,_,10,h5,Zy ⟨rfl,F.2.2.1⟩,cn.base F.2.2.2.2.2.2.2.size,λkeep tn=>Zy ⟨g,Qw,(F.2.2.2.1 keep tn).mono Qw⟩,λj hj=> ?_⟩,h7 _ _ _ Qz F.2.2.2.2.2.2.1,F.2.2.2.2.2.2.2.trans h6⟩⟩,rfl⟩;rw[F.2.2.2.2.1 j];have O:=F.2.2.2.2.2.1 j hj;omega
      simp[intOf];omega
    .obtain rfl:t=8:=(by omega);have F:=ZP M dj dz hT de;go_wp2;go_meet
     case rel=>have O:=F.1.calm (E:=E+9) F.2.1 H.2 F.2.2.1 Qw Qw Qw F.2.2.2.1 F.2.2.2.2;rw[C.10] at O;exact O
   .have F:=ZI hCr;rcases(show t<8∨t=8 by omega) with lr|rfl
    all_goals
     try have lu:(t:Int)<8:=Qw
     go_wp2;go_meet
     case rel=>exact F.o
  .obtain⟨ic,dp, -⟩:=C.1.rm.d;have c1:=C.1.rm.room.c1;have c2:=C.1.rm.room.c2;have c3:=C.1.rm.room.c3;have h0:=C.2.ZaE;have bg:∀j,j<R.n->(V1.Ds j).Zaq<=(E:Int):=λj hj=>h0.Zaq j hj;have ku:=λ(x:Qs) (hb:Below w3 w3 x)=>(dp.after hb).open (C.6.below hb) ak C.3 ((C.2.mono (ZeE E)).rkD C.7 Qw) h0.many bg ij Qw Qw;have HO:=ZX ku bg (C.4.after ((Zu _ w3).drew));go_wp2;go_region_law ((try go_simp);go_at_call 27;go_fit (HO.1 _ ((Zu _ _).drew));rintro e w5 ⟨mq,ev,c,P',D',bl',rfl,ay,ah,ey,hcut,hl,hB,hk⟩;have R5:=ZR ay ah ey hcut hl hB hk)
   all_goals (try go_wp2)
   all_goals
    go_meet
    case rel=>have⟨ay,ah,ey,hcut,hl,hB,hk⟩:=R5.o;exact⟨⟨ha,hc,hs,by rw[C.10],ey.held,H.2,P',D',bl',_,_,c,ey,ah,ay.base C.5.drew.size,λkeep tn=>Zy ⟨g,Qw,(hcut keep tn).mono Qw⟩,λj hj=>by rw[hl j];have O:=HO.2 j hj;omega⟩,hk _ _ _ Qz HO.3,C.5.drew.trans hB⟩
 case rest=>
  obtain⟨⟨a9,c9,now,rfl,kh,dt,P9,D9,ic,me,ly,c,dp,ah,az,ai,fg⟩,aw,jq⟩:=hcut;have j8:=Z2h G.p P9 wc dp.pw;have cu:=C.2.ZaE.many;have c0:=dp.room.c0;have t0:=aw.c0;have t1:=aw.c1;have t2:=aw.c2;have t3:=aw.c3;have t4:=aw.c4;have t5:=aw.c5;have t6:=aw.c6;have⟨NN,im⟩:=ZK now.length;have cr:=ZI az;have⟨g1,H1,mj,jt,ee,js⟩:=ai.one H.2 dt kl tl;have iz:=MG f0 f1 (c:=700) Qw;have jd:=λ(x:Qs) (P9:Pw) (D9:Nat->Dk) (ic:Qj) (O:RmD W x R G.p G.ds P9 D9 ic me ly ha hc hs sd) (hb:Below W W x)=>O.Zc2 (.slice ea EN ec) ok od on of (kc:=kc) (tc:=tc) (HN.3.below hb) (HN.4.below hb);rw[HN.1,HN.2] at jd;rw[im];have J:=ZI (ZJ kh (ZJ dt (ZJ dp (ZJ ai (ZJ fg (ZJ aw (ZJ jq (ZJ im (ZJ jd (ZJ cu (ZJ jt (ZJ ee js))))))))))));rcases ah with ⟨rfl,fy⟩|⟨rfl,fy⟩
  case' inl=>obtain rfl:=az.zero
  case' inr=>obtain⟨b9,rfl⟩:=(az.split.resolve_left (λh=>absurd h.1 Qz)).2
  all_goals
   rw[fy] at j8;have HG:=ZM j8 fy;go_wp2_with (first|(go_at_call 105;go_fit HG.1;rintro e w5 ⟨rfl,rfl⟩)|(go_at_call 19;have m:=cr;go_fit (JQ _ _ 10 _ _ m.o Qz);rintro e du ⟨rfl,rfl⟩)|(go_at_call 20;go_fit (J.2.2.2.2.2.2.2.2.1 _ _ _ _ J.2.2.1 J.2.2.2.2.2.2.1);rintro e w6 ⟨rfl,⟨mf,bz⟩,cz,bf⟩;have iu:=bf _ _ _ Qz J.2.2.2.2.2.1;have e3:=iu.c3;have e0:=bz.room.c0;have R6:=ZO bz iu (J.2.2.2.2.2.2.1.trans cz) bf));have ma:=Zr (of.tdiv 700) iz;go_still_tail 8,Qy
   still_call (BN (Af (of.tdiv 700) 90 _ iz.1 iz.2 Qw Qw))
   clear ma
   repeat still_step
   change wpList _ _ _ _ _ w6.drew;go_wp2_with (go_at_call 18;refine((R6.1.after ((Zu _ w6).drew)).Zas _ (by have:=JA (of.tdiv 700) (show 0<90 by omega);omega)).mono ?_;rintro e w7 ⟨rfl,eu,jm,ja⟩;have ju:=ja _ _ _ Qz (R6.2.1.after ((Zu _ w6).drew));have c1:=eu.room.c1;have c2:=eu.room.c2;have c3:=eu.room.c3;have R7:=ZY eu ju ((R6.2.2.1.drew).trans jm) (R6.2.2.2.trans ((Wc.after ((Zu _ w6).drew)).trans ja)));have fe:∀j,j<R.n->(XH kl tl D9 R.n j).Zaq<=((E+9:Nat):Int):=λj hj=>by rw[Rf];exact J.2.2.2.2.1 j hj
   have HL:=ZI fe;go_still_tail 12,Qy
   repeat still_step
   change wpList _ _ _ _ _ w7.drew;go_wp2_with (first|(go_at_call 27;go_fit ((R7.1.after ((Zu _ w7).drew)).open ((RmH.ty H.3 ak R7.3).below ((Zu _ w7).drew)) ak rfl J.2.2.2.2.2.2.2.2.2.2.1 J.2.2.2.2.2.2.2.2.2.1 HL.o Qw Qw Qw);rintro e w8 ⟨mu,mh,c8,P8,D8,mg,rfl, -, -,kf,bu,kq,jo,jb⟩;have bj:=jb _ _ _ Qz (R7.2.after ((Zu _ w7).drew));have t0:=bj.c0;have t1:=bj.c1;have t2:=bj.c2;have t3:=bj.c3;have t4:=bj.c4;have t5:=bj.c5;have t6:=bj.c6;have R8:=ZZ kf bu kq ((R7.3.drew).trans jo) (R7.4.trans ((Wc.after ((Zu _ w7).drew)).trans jb)))|(go_at_call 20;go_fit (J.2.2.2.2.2.2.2.2.1 _ _ _ _ R8.1 R8.4);rintro e w9 ⟨rfl,⟨ld,ew⟩,hB9',hk9'⟩;have R9:=ZX ew (R8.4.trans hB9') (R8.5.trans hk9'))|(go_at_call 13;refine(Rc W _ R G.p G.ds _ _ _ _ _ ha hc hs sd (E+10) g1 H1 R9.1 C.1.gB J.2.2.2.2.2.2.2.2.2.2.2.1 (RmH.ty H.3 ak R9.2) ak rfl (show(-1:Int)<0 by omega) (Lp (R8.2 _ _)) J.2.2.2.2.2.2.2.2.2.1 (λj hj=>by rw[Rf,R8.3 j];have O:=HL.o j hj;omega) Qw Qw Qw).mono ?_;rintro e mw ⟨G',V',bl',hh,rfl,jl,dh,aq,aj,fi,cj,cy,fc⟩;have⟨T,z0,z1,z2,z3,z4⟩:=jl.abs dh aq aj (λx v hx=>(J.2.2.2.2.2.2.2.2.2.2.2.1 x v hx).1) (RmH.ty H.3 ak (R9.2.trans cy)) ak;have y4:=(z1 _ z0).1;have ct:=R9.3.trans fc;have dq:=ct.held J.1;have jz:=z4 _ z0 now a9 c9 J.2.1 dq;have U:=Q3 dh aq aj fi cj (R9.2.trans cy) jz dq;have RT:=ZY z1 z2 z3 z4)|(go_at_call 14;have m:=U.7;rw[J.2.2.2.2.2.2.2.1] at m;go_fit m;rintro e du ⟨b1,rfl,ft,eo⟩;have dw:=ZM ft eo))
  .have bq:∀x:Qs,((x.cell? ⟨R.r,4,none⟩=(G'.s)/\x.cell? ⟨R.r,6,none⟩=some (.slice ha NH hc))/\T x)->Calls prog 14 #[G'.s,.slice ha NH hc] x λe w'=>∃b,e=.returned (.bool b)/\(b=true↔∀y,H1 y=Hof hs y)/\((w'.cell? ⟨R.r,4,none⟩=(G'.s)/\w'.cell? ⟨R.r,6,none⟩=some (.slice ha NH hc))/\T w'):=λx hx=>by obtain⟨⟨dx,h1⟩, -, -⟩:=RT.3 x hx.2;have h2:=RT.4 x hx.2 hs ha hc H.2 h1.rm.held;rw[C.10] at h2;go_fit h2;rintro e w' ⟨b,rfl,hb,hT⟩;have h3:=RT.1 _ hT;rw[C.10] at h3;exact⟨b,rfl,hb,h3,hT⟩
   have ir:=RT.2 _ _ dw.2 ((Zu _ du).drew);have jh:=RT.1 _ ir;rw[C.10] at jh;have hs0:(du.drew.cell? ⟨R.r,4,none⟩=(G'.s)/\du.drew.cell? ⟨R.r,6,none⟩=some (.slice ha NH hc))/\T du.drew:=⟨jh,ir⟩;have HX:=ZI bq;have⟨y4,y6⟩:=hs0.1;go_region_held3 (λx:Qs=>(x.cell? ⟨R.r,4,none⟩=(G'.s)/\x.cell? ⟨R.r,6,none⟩=some (.slice ha NH hc))/\T x) (first|exact hs0|assumption)
    (first|(go_at_call 14;go_fit (HX.o _ (by assumption));rintro e l7 ⟨b2,rfl,bm,df⟩))
   have bh:=(show T l7 from Zft (by assumption));cases b1 with
   |true=>have HF:=ZM bh (dw.1.1 rfl);have ag:=U.1;rw[show H1=Hof now from funext HF.2] at ag;obtain⟨⟨af,Z⟩,hk12,ae⟩:=RT.3 _ HF.1;have f6:=Z.rm.room.free (j:=6) (by simp[BH]);have d6:=Z.rm.room.c6;have cw:=Z.tell (hc':=c9) (hk12.held U.8);rw[J.2.2.2.2.2.2.2.1] at cw;have HZ:=ZO ag cw ae Z.rm.rB;go_wp2;go_ret;exact⟨rfl,G',V',af,hh,(0,[],false),a9,c9,now,sd,g1,HZ.2.1,HZ.1.mono Qw,J.2.1,U.2,U.3,ZfK (ZeT _) hi,Qw,Qw,(U.6.trans HZ.2.2.1).trans ((Zu _ _).setCell (p:=⟨R.r,6,none⟩) HZ.2.2.2 _)⟩
   |false=>
    have je:H1=Hof hs:=(J.2.2.2.2.2.2.2.2.2.2.2.2.resolve_left (λO=>by
     have h8:=dw.1.2 λy=>by rw[O]
     cases h8)).2
    obtain rfl:b2=true:=bm.2 λy=>(by rw[je]);have ag:=U.1;rw[je] at ag;obtain⟨⟨af,Z⟩,hk12,ae⟩:=RT.3 _ bh;have HZ:=ZN ag Z ae;go_wp2;go_ret;exact⟨rfl,G',V',af,hh,(0,[],false),ha,hc,hs,sd,g1,HZ.2.1,HZ.1.mono Qw,H.2,U.2,U.3,ZfK (ZeT _) hi,Qw,Qw,U.6.trans HZ.2.2⟩
  .have ft:b1=true:=dw.1.2 λy=>(by rw[J.2.2.2.2.2.2.2.2.2.2.2.2.resolve_right (λh=>h.1 rfl)]);subst ft;go_quiet (fail);have df:=RT.2 _ _ dw.2 (YE (Zu _ du) nq);generalize du.drewN nq=l7 at*
   have HF:=ZM df (dw.1.1 rfl);have ag:=U.1;rw[show H1=Hof now from funext HF.2] at ag;obtain⟨⟨af,Z⟩,hk12,ae⟩:=RT.3 _ HF.1;have f6:=Z.rm.room.free (j:=6) (by simp[BH]);have d6:=Z.rm.room.c6;have cw:=Z.tell (hc':=c9) (hk12.held U.8);rw[J.2.2.2.2.2.2.2.1] at cw;have HZ:=ZO ag cw ae Z.rm.rB;go_wp2;go_ret;exact⟨rfl,G',V',af,hh,(0,[],false),a9,c9,now,sd,g1,HZ.2.1,HZ.1.mono Qw,J.2.1,U.2,U.3,ZfK (ZeT _) hi,Qw,Qw,(U.6.trans HZ.2.2.1).trans ((Zu _ _).setCell (p:=⟨R.r,6,none⟩) HZ.2.2.2 _)⟩
def RmI.Zbv(h:RmI W R E w)(o:Tn)(F:o.Ok W)(J:Ty W)(C:E<=1000000):Calls prog 56 #[R.r,.agg #[(o.kind:Int),(o.Zav:Int),(o.num:Int),(o.Zas:Int),.slice o.ea o.el.length o.ec,.slice o.ka o.kl.length o.kc,.slice o.ta o.tl.length o.tc]] w λe w'=>e=.returned true/\RmI W R (E+12) w':=by have⟨G,V,bl,hb,p,ha,hc,hs,sd,g,h⟩:=h;exact Z3z W w R E G V bl hb p ha hc hs sd g o h F J C
section
variable{i:Nat}
def RmV.ZbD(h:RmV W R E w G V bl hb p ha hc hs sd sd g)(hi:i<R.n)(hm:CI sd R.n R.m i=true){D:Dk}(hl:D.Zaq<=(V.Ds i).Zaq+1)(M:Jy D){bl':Qj}(F:RmH W w' R G {V with Ds:=upd V.Ds i D,Ms:=upd V.Ms i none} bl' hb p ha hc hs sd)(hB:Below W w w'):RmI W R (E+1) (w'.setCell ⟨R.gs,i,none⟩ (.bool false)):=by have C:=h.set.ZaE;have:(V.Ds i).Zaq<=(E:Int):=C.Zaq i hi;have hx:=h.set.ZbJ (i:=i) (D:=D) Qw (Rq hm h.rm.rm.kn C.many hi) M;refine RmV.i (g:=g) ⟨F.mark (λj J S hM=>(hx.ZaE.in_ j (by rw[<-h.rm.rm.gn];exact J) S hM).1) hi false,hx,h.held,h.gone,h.Zas,h.pl,by have:=h.gE;omega,Qw,(h.bel.trans hB).trans ((Zu _ _).setCell (p:=⟨R.gs,i,none⟩) F.gB _)⟩
end
