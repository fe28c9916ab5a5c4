/- Part 14: lemmas about what the program computes. -/
import Derived.Laws.OwnMore
import Derived.Deep.CutBlock
import Derived.Deep.DeepCutAuto
import Derived.Test.YthppfllkocphbaaGreatDoorX12
namespace Go.Proofs.YthppfllkocphbaaGreatDoor
set_option linter.all false
set_option maxHeartbeats 25600000
set_option maxRecDepth 100000
open Tryz Go.RowKit
open Go renaming World->Qs,Value->Qt,TypeId->Qu,Ending->Qv
open Go.Shelf
def Z1H(n:Nat):(Dk.fresh n).wait.length<=1000:=Zet _
def Z1F(n:Nat):(Dk.fresh n).Za2<=2:=by show(0:Int)<=2;omega
structure RmB(B:Nat)(P:Pw)(w0:Qs)(r p k m td:Nat)(dv sv:Qt)(ds gh:Nat->Nat)(wr:Qs):Prop where
 room:Row wr r 39 [p,dv,(k:Int),(m:Int),.pointer none,.pointer none,(),sv]
 pw:Y6 wr p P
 dk:∀i,i<td->Y7 wr p (ds i) (gh i) (.slice none 0 0) (Dk.fresh 800)
 ge:∀i,i<td->w0.heap.size<=ds i/\w0<=gh i
 ap:∀i j,i<td->j<td->i≠j->ds i≠ds j/\gh i≠gh j
 rge:w0<=r
 pge:B<=p
 pok:P.ok
 bw:B<=w0
 bel:Below w0 w0 wr
variable{B r p k m td:Nat}{P:Pw}{w0 wr w':Qs}{dv sv:Qt}{ds gh:Nat->Nat}
def RmB.fr(h:RmB B P w0 r p k m td dv sv ds gh wr){X:Qj}(C:Fr X wr w')(F:QL wr X [47,4])(O:∀x∈X,w0.heap.size<=x):RmB B P w0 r p k m td dv sv ds gh w':=by refine⟨h.room.fr C (F.Za0 h.room Qx),h.pw.fr C (F.Za0 h.pw Qx),λi hi=> ?_,h.ge,h.ap,h.rge,h.pge,h.pok,h.bw,h.bel.trans (C.below h.bel.size O)⟩;have J:=h.dk i hi;obtain⟨l,M⟩:∃l,Row wr (gh i) 5 l:=⟨_,J.bytes.row⟩;exact J.fr C (F.Za0 J.top Qx) (F.Za0 M Qx) (λg U=>by cases U)
def RmB.after(h:RmB B P w0 r p k m td dv sv ds gh wr)(hb:Below wr wr w'):RmB B P w0 r p k m td dv sv ds gh w':=h.fr (X:=[]) (Z1 (L:=[]) hb) (λk C=>by cases C) (λk C=>by cases C)
def RmB.put(h:RmB B P w0 r p k m td dv sv ds gh wr){M O:Qt}{l:Qk}(hr:Row w' r 39 [p,M,(k:Int),(m:Int),.pointer none,.pointer none,(),O])(F:Fr [r] wr w'):RmB B P w0 r p k m td M O ds gh w':=by have J:QL wr [r] [39]:=QL.row h.room Qx;refine⟨hr,h.pw.fr F (J.Za0 h.pw Qx),λi hi=> ?_,h.ge,h.ap,h.rge,h.pge,h.pok,h.bw,h.bel.trans (F.below h.bel.size (λk U=>by rw[Z6] at U;subst U;exact h.rge))⟩;have C:=h.dk i hi;obtain⟨l,Z⟩:∃l,Row wr (gh i) 5 l:=⟨_,C.bytes.row⟩;exact C.fr F (J.Za0 C.top Qx) (J.Za0 Z Qx) (λg hg=>by cases hg)
def RmB.more(h:RmB B P w0 r p k m td dv sv ds gh wr)(hb:Below wr wr w'){d g:Nat}(Z:Y7 w' p d g (.slice none 0 0) (Dk.fresh 800))(h1:wr<=d)(O:wr<=g):RmB B P w0 r p k m (td+1) dv sv (upd ds td d) (upd gh td g) w':=by
 have C:=h.after hb;have hz:=h.bel.size
 have M:∀i,i<td->ds i<wr.heap.size/\gh i<wr.heap.size:=λi hi=>⟨(h.dk i hi).top.lt,by
  obtain⟨l,O⟩:∃l,Row wr (gh i) 5 l:=⟨_,(h.dk i hi).bytes.row⟩
  exact O.lt⟩
 refine⟨C.room,C.pw,λi hi=> ?_,λi hi=> ?_,λi j hi hj U=> ?_,h.rge,h.pge,h.pok,h.bw,C.bel⟩
 .by_cases e:i=td
  .subst e;rw[Y3,Y3];exact Z
  .rw[QQ _ _ e,QQ _ _ e];exact C.dk i Qw
 .by_cases e:i=td
  .subst e;rw[Y3,Y3];omega
  .rw[QQ _ _ e,QQ _ _ e];exact h.ge i Qw
 .by_cases F:i=td
  .subst F;have hl:=M j Qw;rw[Y3,Y3,QQ _ _ Qw,QQ _ _ Qw];omega
  .have hl:=M i Qw;rw[QQ ds _ F,QQ gh _ F];by_cases J:j=td
   .subst J;rw[Y3,Y3];omega
   .rw[QQ _ _ J,QQ _ _ J];exact h.ap i j Qw Qw U
theorem RmB.pd(h:RmB B P w0 r p k m td dv sv ds gh wr){i:Nat}(hi:i<td):PD B wr p (ds i) 800 P (Dk.fresh 800) [ds i,gh i]:=by have C:=h.ge i hi;have hB:=h.bw;refine⟨h.pw,h.pok,⟨gh i,.slice none 0 0,by simp[QU,Value.ownBlock],h.dk i hi⟩,Z9I Qw Qw,h.pge,λq F=> ?_⟩;grind
theorem RmB.dap(h:RmB B P w0 r p k m td dv sv ds gh wr){i j:Nat}(hi:i<td)(C:j<td)(M:i≠j):∀q∈[ds i,gh i],q∉[ds j,gh j]:=λq O hm=>by have ha:=h.ap i j hi C M;obtain⟨l,F⟩:∃l,Row wr (gh i) 5 l:=⟨_,(h.dk i hi).bytes.row⟩;obtain⟨l,J⟩:∃l,Row wr (gh j) 5 l:=⟨_,(h.dk j C).bytes.row⟩;have n1:=Row.ne (h.dk i hi).top J Qx;have n2:=Row.ne (h.dk j C).top F Qx;grind
structure RmS(B:Nat)(P:Pw)(w0:Qs)(r p k m td tl ts:Nat)(dv sv:Qt)(ds gh:Nat->Nat)(wr:Qs):Prop where
 b:RmB B P w0 r p k m td dv sv ds gh wr
 down:wr.ownsRow w0 47 1 dv tl (Ws tl ds)
 ZaQ:wr.ownsRow w0 4 1 sv ts (List.replicate ts (.bool true))
 sz:ZSp wr sv ts (.bool false)
theorem Hu{w:Qs}{base:Nat}{e:Qu}{v:Qt}{n:Nat}{xs:Qk}(h:w.ownsRow base e k v n xs){ts:List Qu}(he:e∈ts):QL w (QU v) ts:=λq C=>by obtain⟨l,f,F,_⟩:=YP h q C;grind
variable{w2 w3 w8:Qs}{tl ts t:Nat}
def RmS.after(h:RmS B P w0 r p k m td tl ts dv sv ds gh wr)(hb:Below wr wr w'):RmS B P w0 r p k m td tl ts dv sv ds gh w':=⟨h.b.after hb,Jj h.down hb,Jj h.ZaQ hb,h.sz.fr (Z1 (L:=[]) hb) Qx (λq C=>by obtain⟨l,r⟩:=YP h.ZaQ q C;exact r.lt)⟩
def RmS.more(h:RmS B P w0 r p k m t t ts dv sv ds gh wr)(hb:Below wr wr w'){d g:Nat}(J:Y7 w' p d g (.slice none 0 0) (Dk.fresh 800))(C:wr<=d)(F:wr<=g):RmS B P w0 r p k m (t+1) t ts dv sv (upd ds t d) (upd gh t g) w':=by
 refine⟨h.b.more hb J C F,?_,Jj h.ZaQ hb,h.sz.fr (Z1 (L:=[]) hb) Qx (λq M=>by obtain⟨l,r⟩:=YP h.ZaQ q M;exact r.lt)⟩;have e:Ws t (upd ds t d)=Ws t ds:=ZdG λi hi=>by rw[Zdo] at hi;rw[QQ _ _ Qw]
 rw[e];exact Jj h.down hb
def RmS.ZcW(h:RmS B P w0 r p k m (t+1) t ts dv sv ds gh w2)(hb:Below w2 w2 w3){g2 c2:Nat}(ho:w8.ownsRow w0 47 1 (.slice g2 (t+1) c2) (t+1) (Ws t ds++[.pointer (some ⟨ds t,0,none⟩)]))(Z:Fr (QU dv) w3 w8):RmS B P w0 r p k m (t+1) (t+1) ts (.slice g2 (t+1) c2) sv ds gh (w8.setCell ⟨r,1,none⟩ (.slice g2 (t+1) c2)):=by
 have C:=h.after hb;have ht:=Hu C.down (ts:=[47,4]) Qx;have af:=Ab C.down;have U:=C.b.fr Z ht af;have ae:∀q∈QU sv,q∉QU dv:=λq F hm=>by obtain⟨l1,r1⟩:=YP C.ZaQ q F;obtain⟨l2,r2⟩:=YP C.down q hm;exact Row.ne r1 r2 Qx rfl
 have M:=JU C.ZaQ Z ae;have J:Fr [r] w8 (w8.setCell ⟨r,1,none⟩ (.slice g2 (t+1) c2)):=(Fr.refl _ _).setCell (Zv Qx) _;have O:∀{e:Qu} {v:Qt} {n:Nat} {xs:Qk},w8.ownsRow w0 e 1 v n xs->e≠39->∀q∈QU v,q∉[r]:=fun{e v n xs} hh he q F hm=>by rw[Z6] at hm;subst hm;obtain⟨l1,r1⟩:=YP hh q F;exact Row.ne r1 U.room he rfl
 have ag:Ws (t+1) ds=Ws t ds++[.pointer (some ⟨ds t,0,none⟩)]:=by unfold Ws;rw[Zds,Zo];rfl
 refine⟨U.put (l:=[]) (U.room.set 1 _) J,?_,JU M J (O M Qx),(C.sz.fr Z ae (λq F=>by obtain⟨l,r⟩:=YP C.ZaQ q F;exact r.lt)).fr J (O M Qx) (λq F=>by obtain⟨l,r⟩:=YP M q F;exact r.lt)⟩;rw[ag];exact JU ho J (O ho Qx)
def RmS.ZcX(h:RmS B P w0 r p k m td tl t dv sv ds gh w2)(hb:Below w2 w2 w3){g2 c2:Nat}(M:w8.ownsRow w0 4 1 (.slice g2 (t+1) c2) (t+1) (List.replicate t (.bool true)++[.bool true]))(hf:Fr (QU sv) w3 w8)(hz:ZSp w8 (.slice g2 (t+1) c2) (t+1) (.bool false)):RmS B P w0 r p k m td tl (t+1) dv (.slice g2 (t+1) c2) ds gh (w8.setCell ⟨r,7,none⟩ (.slice g2 (t+1) c2)):=by
 have C:=h.after hb;have ht:=Hu C.ZaQ (ts:=[47,4]) Qx;have af:=Ab C.ZaQ;have U:=C.b.fr hf ht af
 have ae:=JU C.down hf (λq F hm=>by
  obtain⟨l1,Z⟩:=YP C.down q F;obtain⟨l2,r2⟩:=YP C.ZaQ q hm
  exact Row.ne Z r2 Qx rfl)
 have J:Fr [r] w8 (w8.setCell ⟨r,7,none⟩ (.slice g2 (t+1) c2)):=(Fr.refl _ _).setCell (Zv Qx) _;have O:∀{e:Qu} {v:Qt} {n:Nat} {xs:Qk},w8.ownsRow w0 e 1 v n xs->e≠39->∀q∈QU v,q∉[r]:=fun{e v n xs} hh he q F hm=>by rw[Z6] at hm;subst hm;obtain⟨l1,Z⟩:=YP hh q F;exact Row.ne Z U.room he rfl
 have ag:List.replicate (t+1) (Value.bool true)=List.replicate t (.bool true)++[.bool true]:=List.replicate_succ';refine⟨U.put (l:=[]) (U.room.set 7 _) J,JU ae J (O ae Qx),?_,hz.fr J (O M Qx) (λq F=>by obtain⟨l,r⟩:=YP M q F;exact r.lt)⟩;rw[ag];exact JU M J (O M Qx)
theorem Z1s{n ps s:Nat}{xs:Nat->Nat}{G:Eg}{Ls:Nat->List Nat}{w1:Qs}(hb:Below wr wr w1)(F:Fr (G.p::Wu G Ls (λi=>[G.xs i])) w1 w'){y:Nat}{e:Qu}{l:Qk}(C:Row wr y e l)(O:y≠G.p)(M:∀i,i<G.n->y∉Ls i)(hs:wr<=G.s)(hx:∀i,i<G.n->wr.heap.size<=G.xs i):Row w' y e l:=by
 have J:=C.lt;refine(C.after hb).fr F (λhm=> ?_);rcases Zk.1 hm with h|hm
 .omega
 .rcases WH.1 hm with h|⟨i,hi,h⟩|⟨i,hi,h⟩
  .omega
  .simp_all
  .grind
def RmS.d8(h:RmS B P w0 r p k m td tl ts dv sv ds gh w2)(hb:Below w2 w2 w3)(F:Fr (QU dv) w3 w8):RmB B P w0 r p k m td dv sv ds gh w8:=by have C:=h.after hb;exact C.b.fr F (Hu C.down (ts:=[47,4]) Qx) (Ab C.down)
def RmS.s8(h:RmS B P w0 r p k m td tl ts dv sv ds gh w2)(hb:Below w2 w2 w3)(F:Fr (QU sv) w3 w8):RmB B P w0 r p k m td dv sv ds gh w8:=by have C:=h.after hb;exact C.b.fr F (Hu C.ZaQ (ts:=[47,4]) Qx) (Ab C.ZaQ)
theorem Z5q{w4:Qs}{N gd cd gs cs s ms c:Nat}{xs:Nat->Nat}{V:Ev}(h:RmS B P w0 r p k m N N N (.slice gd N cd) (.slice gs N cs) ds gh wr)(M:∃sp,Row wr gd 47 (Ws N ds++sp))(O:∃sp,Row wr gs 4 (List.replicate N (.bool true)++sp)/\∀v,sp[0]? =some v->v=.bool false)(J:Below wr wr w3)(hE:QH B ⟨N,p,s,ms,c,xs,ds⟩ (Wu ⟨N,p,s,ms,c,xs,ds⟩ (λi=>[ds i,gh i]) (λi=>[xs i])) V w3 w4)(hs:wr<=s)(hx:∀i,i<N->wr.heap.size<=xs i)(af:N=k+m)(ae:1<=k):∃bl,Ys B w4 ⟨r,gd,cd,gs,cs,k,m,N⟩ ⟨N,p,s,ms,c,xs,ds⟩ V bl (.pointer none) (.pointer none) none 0 [] (λ_=>true)/\(∀q∈bl,w0.heap.size<=q)/\Fr [p] w0 w4:=by
 obtain⟨ai,M⟩:=M;obtain⟨aj,O,ag⟩:=O;obtain⟨bl,he,hg,hf⟩:=hE;have F:∀{y:Nat} {e:Qu} {l:Qk},Row wr y e l->e≠112->e≠109->e≠5->Row w4 y e l:=fun{y e l} hr h1 h2 h3=>by
  refine Z1s (n:=N) (ps:=p) (s:=s) (xs:=xs) (G:=⟨N,p,s,ms,c,xs,ds⟩) (Ls:=λi=>[ds i,gh i]) J hf hr (Row.ne hr h.b.pw h1) (λi hi hm=> ?_) hs hx;have Z:=h.b.dk i hi;simp at hm;rcases hm with C|C
  .exact Row.ne hr Z.top h2 C
  .exact Row.ne hr Z.bytes.row h3 C
 have ah:=h.b.bel.size;have au:=J.size;have ak:∀q∈Wu ⟨N,p,s,ms,c,xs,ds⟩ (λi=>[ds i,gh i]) (λi=>[xs i]),w0.heap.size<=q:=λq U=>by
  rcases WH.1 U with C|⟨i,hi,C⟩|⟨i,hi,C⟩
  .grind
  .have:=h.b.ge i hi;grind
  .grind
 refine⟨bl,⟨F h.b.room Qx Qx Qx,⟨ai,F M Qx Qx Qx⟩,⟨aj,?_,ag⟩,YW.nil _ _,he,Zq h.b.bw h.b.rge,rfl,af.symm,ae⟩,λq U=> ?_,(Z1 (L:=[p]) (h.b.bel.trans (J.mono ah))).trans hf (λq U aq=> ?_)⟩
 .have C:=F O Qx Qx Qx;have e:sdC (λ_=>true) N=List.replicate N (.bool true):=by simp[sdC,List.map_const']
  simp_all
 .grind
 .grind
def RR(w:Qs)(k m:Nat)(ah:1<=k)(du:k<=4)(dx:m<=3)(ht:Ty w):Calls prog 8 #[(k:Int),(m:Int),(800:Int)] w λe w'=>∃R G V bl h,e=.returned R.r/\Ys w w' R G V bl (.pointer G.s) (.pointer (h:Nat)) none 0 [] (λ_=>true)/\Y0 K11 2 R.k R.m R.n 0 (λ_=>none) (λ_=>true) V/\R.k=k/\R.m=m/\w<=R.gs/\w.heap.size<=h/\X0 w' h G.s 0 [] false/\Below w w w':=by
 obtain⟨N,hN⟩:=ZL (k+m);have d6:IntKind.i64.wrap ((k:Int)+(m:Int))=(N:Int):=by rw[Zr _ Qw];omega
 have aq:1<=N:=Qw;have dt:N<=7:=Qw;have df:=ht.lt;have H:=ZM ht hN;clear ht hN;go_enter func8,ntmps8;go_wp2_with (go_at_call 29;refine(Z3T _).mono ?_;rintro e w1 ⟨p,rfl,bz,cj,au⟩;have U:=ZX bz cj au;clear bz cj au);have I0:RmS w ⟨false, -1,0⟩ w w1 p k m 0 0 0 (.slice none 0 0) (.slice none 0 0) (λ_=>0) (λ_=>0) (w1.alloc (.cells #[p,(),(k:Int),(m:Int),.pointer none,.pointer none,(),()] 39)):=by have aw:=(Zu w1 w1).alloc (Zt _) (.cells #[p,(),(k:Int),(m:Int),.pointer none,.pointer none,(),()] 39);exact⟨⟨Z2 w1 _ _,U.2.after aw,λi hi=>Qw,λi hi=>Qw,λi j hi=>Qw,U.3.size,U.1,⟨Qz,Qz⟩,Zt _,U.3.trans (aw.mono U.3.size)⟩,ZA _ _ _ _,ZA _ _ _ _,ZSp.nil _ _ _⟩
 have HI:=ZI I0;clear I0;generalize w1.alloc (.cells #[p,(),(k:Int),(m:Int),.pointer none,.pointer none,(),()] 39)=w2 at*
 generalize w1.heap.size=r at*
 clear U;go_loopw [8] (λkv wr=>∃ (t:Nat) (dv sv:Qt) (ds gh:Nat->Nat),t<=N/\kv=(t:Int)/\RmS w ⟨false, -1,0⟩ w r p k m t t t dv sv ds gh wr) (λkv _=>N- (intOf kv).toNat)
 .exact⟨0,_,_,_,_,Qw,rfl,HI.o⟩
 obtain⟨t,dv,sv,ds,gh,dz,rfl,C⟩:=hrel;by_cases dw:t<N
 .have dy:(t:Int)<(N:Int):=by omega
  have c0:=C.b.room.c0;have HS:=ZI C;clear C;go_wp2_with (first|(go_at_call 16;refine(Z3U p 800 _ Qw Qw).mono ?_;rintro e w3 ⟨d,g,rfl,bf,bg,bh,hb⟩;have hM:=HS.o.more hb bh bf bg;have c1:=hM.b.room.c1;have ha:=(Zu w3 w3).alloc (Zt _) (.cells #[d] 47);have cr:Row (w3.alloc (.cells #[d] 47)) w3 47 [.pointer d]:=Z2 w3 _ _;have HM:=ZN hM ha cr;clear bf bg bh hb hM ha cr c0)|(at_builtin;have F:=HM;clear HM;refine B5 _ rfl (.tmp 40) (.tmp 42) 33 47 rfl underlying33 Z0B rfl Qw Qw w.heap.size dv t (Ws t ds) rfl (by have h9:=(F.1.after F.2.1).down;have e9:Ws t (upd ds t d)=Ws t ds:=ZdG (λi hi=>by rw[Zdo] at hi;rw[QQ _ _ Qw]);rw[e9] at h9;exact h9) w3.heap.size 1 [.pointer d] rfl Qw Qw rfl F.2.2 (by simp[Value.oneCell']) (by have:=F.1.b.bel.size;simp;omega) Qw ?_;intro g2 ae w8 ho J _ _ _;have h8:=(F.1.d8 F.2.1 J).room;have k8:=h8.c1;have f8:=h8.free (j:=1) Qx;have ai:=F.1.ZcW F.2.1 (by rw[Y3];have e9:Ws t (upd ds t d)=Ws t ds:=ZdG (λi hi=>by rw[Zdo] at hi;rw[QQ _ _ Qw]);rw[e9];exact ho) J;have c7:=ai.b.room.c7;have HP:=ZI ai;clear ho J h8 ai c1)|(at_builtin;have M:=HP;clear HP;have O:=(Zu _ (w8.setCell ⟨r,1,none⟩ (.slice g2 (t+1) ae))).alloc (Zt _) (.cells #[true] 4);have af:=Z2 (w8.setCell ⟨r,1,none⟩ (.slice g2 (t+1) ae)) 4 [.bool true];have cw:=M.o.b.bel.size;have dj:(w8.setCell ⟨r,1,none⟩ (.slice g2 (t+1) ae)).heap.size=w8.heap.size:=Qx;rw[dj] at af;refine Z8e _ rfl (.tmp 50) (.tmp 51) 37 4 rfl underlying37 Nq rfl Qw w.heap.size sv t (List.replicate t (.bool true)) rfl (Jj M.o.ZaQ O) (M.o.sz.fr (Z1 (L:=[]) O) Qx (λq hq=>by obtain⟨l,r⟩:=YP M.o.ZaQ q hq;exact r.lt)) w8.heap.size [.bool true] rfl rfl af (by simp[Value.oneCell']) (Zq cw O.size) Qw ?_;intro g3 cy w9 ho J _ cu;have h9:=(M.o.s8 O J).room;have k9:=h9.c7;have f9:=h9.free (j:=7) Qx;have R9:=ZI (M.o.ZcX O ho J cu);clear ho J h9 O af cw cu));go_roundw
  .exact⟨t+1,_,_,_,_,Qw,QC,R9.o⟩
  simp[intOf];omega
 .obtain rfl:t=N:=by omega
  obtain⟨gd,cd,dp,rfl, -, -, -,ag⟩:=Bv C.down aq;obtain⟨gs,cs,dq,rfl, -, -, -,ak⟩:=Bv C.ZaQ aq;have cz:w<=gs:=Aw C.ZaQ (by rfl);have ct:=C.sz.row ak Qx;have c1:=C.b.room.c1;have bj:=Z0H w wr K11 gd t cd k m p ds ⟨false, -1,0⟩ (λ_=>Dk.fresh 800) (λi=>[ds i,gh i]) (λi hi=>ag.cell (by rw[Za (by rw[Bx];exact hi)];exact Bw _ _ _ hi)) ag.lt ah H.2 Qw C.b.bel.size (λi hi=>C.b.pd hi) (λi j hi hj dh=>C.b.dap hi hj dh) (H.1.below C.b.bel) df BS rfl Qx (λi hi=>⟨rfl,Z1H 800⟩);have HF:=ZP bj C ag ak ct;clear bj C ag ak HI ct;go_wp2_with (first|(go_at_call 17;refine HF.1.mono ?_;rintro e w4 ⟨s,ms,c,xs,V,w3,rfl,ay,hE,hF,hs,hx⟩;obtain⟨bl,hR,de,bm⟩:=Z5q HF.2.1 ⟨dp,HF.2.2.1⟩ ⟨dq,HF.2.2.2⟩ ay hE hs hx H.2 ah;have f4:=hR.room.free (j:=4) (by simp[By]);have c4:=hR.room.c4;have az:Below w w w4:=bm.below (Zt _) (λq hq=>(by rw[Z6] at hq;subst hq;exact HF.2.1.b.pge));have HD:=ZX (hR.Zcw (.pointer s)) hF (az.trans (hR.below (.pointer s) 4));clear hR de bm ay hE hF hs hx az)|(go_at_call 30;refine(ON _ s).mono ?_;rintro e w5 ⟨hh,rfl,bq,⟨dm,aj⟩,hb5⟩;have Z:=HD.1.after hb5;have cn:=aj.fr (L:=[r]) ((Fr.refl [r] w5).setCell (a:=w5) (p:=⟨r,5,none⟩) (Zv Qx) (.pointer hh)) (by rw[Z6];exact Row.ne aj Z.room Qz);have bu:w<=hh:=Zq HD.1.bw (Zq Qx bq);have HL:=ZM bu cn;have f5:=Z.room.free (j:=5) (by simp[By]);have c5:=Z.room.c5;have HR:=ZM (Z.Zbc (.pointer hh)) ((HD.3.trans (hb5.mono HD.1.bw)).trans (Z.below (.pointer hh) 5));clear Z hb5 bq aj cn bu));go_ret;exact⟨⟨r,gd,cd,gs,cs,k,m,t⟩,⟨t,p,s,ms,c,xs,ds⟩,V,bl,hh,rfl,HR.1,HD.2.set BS ah H.2.symm (λi hi=>Z1F 800),rfl,rfl,cz,HL.1,⟨dm,HL.2⟩,HR.2⟩
structure RmD(B:Nat)(w:Qs)(R:Rg)(p:Nat)(ds:Nat->Nat)(P:Pw)(Ds:Nat->Dk)(bl:Qj)(sv hv:Qt)(ha:Qm)(hc:Nat)(hs:QY)(sd:Qr):Prop where
 room:Row w R.r 39 (By R p sv hv ha hs.length hc)
 Zax:∃sp,Row w R.gd 47 (Ws R.n ds++sp)
 ZaJ:∃sp,Row w R.gs 4 (sdC sd R.n++sp)/\∀v,sp[0]? =some v->v=.bool false
 held:YW w ha hs
 at_:DAt B w p R.n ds P Ds bl
 pw:Y6 w p P
 pB:B<=p
 rB:B<=R.r
 bw:B<=w
 kn:R.k+R.m=R.n
 k1:1<=R.k
 n16:R.n<=16
variable{w:Qs}{R:Rg}{P':Pw}{Ds Ds':Nat->Dk}{bl bl':Qj}{hv:Qt}{ha:Qm}{hc:Nat}{hs:QY}{sd:Qr}{G:Eg}{V:Ev}
def Ys.d(h:Ys B w R G V bl sv hv ha hc hs sd):∃bl',RmD B w R G.p G.ds V.P V.Ds bl' sv hv ha hc hs sd/\∀q∈bl',q∈bl:=by have J:=h.set.nle;have F:=h.bw;have M:=h.gn;obtain⟨Ls,Os,rfl,he⟩:=h.set;refine⟨(List.range R.n).flatMap Ls,⟨h.room,h.Zax,h.ZaJ,h.held,⟨Ls,rfl,λi hi=>he.pd i Qw,λi j hi O=>he.dap i j Qw Qw⟩,he.pw,(he.pd 0 he.n1).bp,h.rB,F,h.kn,h.k1,Qw⟩,λq C=> ?_⟩;obtain⟨i,hi,C⟩:=Dl.1 C;exact WH.2 (Zy (Zv ⟨i,Qw,C⟩))
def RmD.tyd(h:RmD B w R p ds P Ds bl sv hv ha hc hs sd):QL w (p::bl) Ap:=QL.cons h.pw Qz (h.at_.typed.mono (λ_ hi=>hi) Qz)
def RmD.ge(h:RmD B w R p ds P Ds bl sv hv ha hc hs sd):∀q∈p::bl,B<=q:=λq C=>by
 rcases Zk.1 C with rfl|C
 .exact h.pB
 .exact h.at_.ge q C
def RmD.fr(h:RmD B w R p ds P Ds bl sv hv ha hc hs sd){X:Qj}{ts:List Qu}(C:Fr X w w')(F:QL w X ts)(M:R.r∉X)(O:47∉ts)(U:4∉ts)(Z:105∉ts)(hd:DAt B w' p R.n ds P' Ds' bl')(hp:Y6 w' p P'):RmD B w' R p ds P' Ds' bl' sv hv ha hc hs sd:=by
 obtain⟨s1,d1⟩:=h.Zax;obtain⟨s2,d2,z2⟩:=h.ZaJ;refine⟨h.room.fr C M,⟨s1,d1.fr C (F.Za0 d1 O)⟩,⟨s2,d2.fr C (F.Za0 d2 U),z2⟩,?_,hd,hp,h.pB,h.rB,Zq h.bw C.size,h.kn,h.k1,h.n16⟩;rcases h.held with h9|⟨g,sp,e,J⟩
 .exact Zv h9
 .exact Zy ⟨g,sp,e,J.fr C (F.Za0 J Z)⟩
def RmD.after(h:RmD B w R p ds P Ds bl sv hv ha hc hs sd)(hb:Below w w w'):RmD B w' R p ds P Ds bl sv hv ha hc hs sd:=h.fr (X:=[]) (ts:=[]) (Z1 hb) (λk C=>by cases C) Qx Qx Qx Qx (h.at_.after hb) (Row.after h.pw hb)
def RmD.Zbo(h:RmD B w R p ds P Ds bl sv hv ha hc hs sd){i:Nat}(hi:i<R.n):w.cell? ⟨R.gd,i,none⟩=some (.pointer (some ⟨ds i,0,none⟩)):=by obtain⟨s1,C⟩:=h.Zax;exact C.cell (by rw[Za (by rw[Bx];exact hi)];exact Bw _ _ _ hi)
def RmD.made(h:RmD B w R p ds P Ds bl sv hv ha hc hs sd)(C:Fr (p::bl) w w')(he:EAt B w' G V bl')(U:G.p=p)(M:G.ds=ds)(O:G.n=R.n):Ys B w' R G V bl' sv hv ha hc hs sd:=by
 obtain⟨s1,d1⟩:=h.Zax;obtain⟨s2,d2,z2⟩:=h.ZaJ;have F:=h.tyd;refine⟨by rw[U];exact h.room.fr C (F.Za0 h.room Qz),⟨s1,by rw[M];exact d1.fr C (F.Za0 d1 Qz)⟩,⟨s2,d2.fr C (F.Za0 d2 Qz),z2⟩,?_,he,h.rB,O,h.kn,h.k1⟩;rcases h.held with h9|⟨g,sp,e,J⟩
 .exact Zv h9
 .exact Zy ⟨g,sp,e,J.fr C (F.Za0 J Qz)⟩
def Ty.fr{X:Qj}(h:Ty w)(F:Fr X w w')(C:∀q∈X,B<=q)(hB:B<=w)(J:0<B):Ty w':=by unfold Ty at h⊢;rw[(F.below hB C).cell (p:=⟨0,0,none⟩) J];omega
structure OpL(B:Nat)(w0:Qs)(bl0:Qj)(R:Rg)(G:Eg)(V:Ev)(hh:Nat)(ha:Qm)(hc:Nat)(hs:QY)(sd:Qr)(ka:Qm)(L:List Bs)(wr:Qs):Prop where
 at_:∃bl,Ys B wr R G V bl (.pointer G.s) (.pointer hh) ha hc hs sd/\∀q∈bl,q∈bl0∨w0.heap.size<=q
 ks:Yd wr ka (L.map str)/\∀g o,ka=some ⟨g,o,none⟩->∃r,Row wr g 9 r
 fr:Fr (R.r::G.p::bl0) w0 wr
 ty:Ty wr
 hl:X0 wr hh G.s 0 [] false
theorem Rn{bl0:Qj}{hh:Nat}{ka:Qm}{L:List Bs}(h:Ys B wr R G V bl (.pointer G.s) (.pointer hh) ha hc hs sd)(hg:∀q∈bl,q∈bl0∨w0.heap.size<=q)(F:Fr (R.r::G.p::bl0) w0 wr)(Z:Ty wr)(O:X0 wr hh G.s 0 [] false)(C:QH B G bl V wr w')(U:Yd w' ka (L.map str)/\∀g o,ka=some ⟨g,o,none⟩->∃r,Row w' g 9 r)(M:0<B):OpL B w0 bl0 R G V hh ha hc hs sd ka L w':=by
 obtain⟨J,he,ae,hf⟩:=id C;have hz:=F.size;obtain⟨s1,d1⟩:=h.Zax;obtain⟨s2,d2,z2⟩:=h.ZaJ;refine⟨⟨J,⟨C.row h.set h.room Qz,⟨s1,C.row h.set d1 Qz⟩,⟨s2,C.row h.set d2 Qz,z2⟩,h.held.ran C h.set,he,h.rB,h.gn,h.kn,h.k1⟩,λq hq=> ?_⟩,U,F.trans hf (λq hq af=> ?_),QH.ty C h.set Z M,by obtain⟨rd,h9⟩:=O;exact⟨rd,C.row h.set h9 Qz⟩⟩
 .grind
 .grind
def OpL.ran{bl0:Qj}{hh:Nat}{ka:Qm}{L:List Bs}(h:OpL B w0 bl0 R G V hh ha hc hs sd ka L wr)(F:Ys B wr R G V bl (.pointer G.s) (.pointer hh) ha hc hs sd)(M:∀q∈bl,q∈bl0∨w0.heap.size<=q)(C:QH B G bl V wr w')(J:0<B):OpL B w0 bl0 R G V hh ha hc hs sd ka L w':=Rn F M h.fr h.ty h.hl C (Tm h.ks.1 h.ks.2 F.set C) J
def Z3j(B:Nat)(w:Qs)(R:Rg)(p:Nat)(ds:Nat->Nat)(P:Pw)(Ds:Nat->Dk)(bl:Qj)(sv hv:Qt)(ha:Qm)(hc:Nat)(hs:QY)(sd:Qr)(E g:Nat)(H:Bs->Option Bs)(h:RmD B w R p ds P Ds bl sv hv ha hc hs sd)(dh:∀x v,H x=some v->v.length<=200/\x∈K11)(ht:Ty w)(ah:0<B){Q:Ev->Prop}(hQ:∀V,Q V->Y0 K11 E R.k R.m R.n g H sd V){OpW:Qs->Prop}(dj:OpW w)(dm:∀x y,OpW x->Below x.heap.size x y->OpW y)(ek:∀wx,OpW wx->Calls prog 27 #[.slice (some ⟨R.gd,0,none⟩) R.n R.cd,(R.k:Int),(R.m:Int)] wx λe w'=>∃F V' bl',e=.returned (.tuple #[F.s,.nilIface])/\EAt B w' F V' bl'/\Q V'/\F.n=R.n/\F.p=p/\F.ds=ds/\(∀q∈bl',q∈bl∨w.heap.size<=q)/\Fr (p::bl) w w'/\OpW w'):Calls prog 13 #[R.r] w λe w'=>∃F V' bl' hh,e=.returned true/\Ys B w' R F V' bl' (.pointer F.s) (.pointer (hh:Nat)) ha hc hs sd/\X0 w' hh F.s 0 [] false/\w.heap.size<=hh/\Q V'/\F.p=p/\F.ds=ds/\(∀q∈bl',q∈bl∨w.heap.size<=q)/\Fr (R.r::p::bl) w w':=by
 have c1:=h.room.c1;have c2:=h.room.c2;have c3:=h.room.c3;have ew:=h.n16;have cr:∀A C:Qs,(A.cell? ⟨R.r,1,none⟩=some (.slice (some ⟨R.gd,0,none⟩) R.n R.cd)/\A.cell? ⟨R.r,2,none⟩=(R.k:Int)/\A.cell? ⟨R.r,3,none⟩=(R.m:Int)/\OpW A)->Below A A C->(C.cell? ⟨R.r,1,none⟩=some (.slice (some ⟨R.gd,0,none⟩) R.n R.cd)/\C.cell? ⟨R.r,2,none⟩=(R.k:Int)/\C.cell? ⟨R.r,3,none⟩=(R.m:Int)/\OpW C):=by rintro A C ⟨h0,h1,h2,h7⟩ hb;have key:∀{p:Addr} {v:Qt},A.cell? p=some v->C.cell? p=some v:=λh=>(hb.cell (Z9 A _ h)).trans h;exact⟨key h0,key h1,key h2,dm _ _ h7 hb⟩
 have hs0:=cr w w.drew ⟨c1,c2,c3,dj⟩ ((Zu _ _).drew);have ey:R.r∉p::bl:=h.tyd.Za0 h.room Qz;have dy:∀x:Qs,Fr (p::bl) w x->OpW x->(x.cell? ⟨R.r,1,none⟩=some (.slice (some ⟨R.gd,0,none⟩) R.n R.cd)/\x.cell? ⟨R.r,2,none⟩=(R.k:Int)/\x.cell? ⟨R.r,3,none⟩=(R.m:Int)/\OpW x):=λx hf ho=>by have h9:=h.room.fr hf ey;exact⟨h9.c1,h9.c2,h9.c3,ho⟩
 have HK:=ZM cr dy;have H:=ZO h dh ht ek;clear h dh ht ek cr dy dj dm;go_enter func13,ntmps13;go_wp2_with fail;go_region_held3 (λx=>x.cell? ⟨R.r,1,none⟩=some (.slice (some ⟨R.gd,0,none⟩) R.n R.cd)/\x.cell? ⟨R.r,2,none⟩=(R.k:Int)/\x.cell? ⟨R.r,3,none⟩=(R.m:Int)/\OpW x) (first|exact hs0|(exact HK.1 _ _ (by assumption) (by assumption))|(exact HK.2 _ bh eh))
  (first|(go_at_call 27;refine(H.2.2.2 _ (Zf8 (Zf8 (Zf8 (by assumption))))).mono ?_;rintro e w8 ⟨F,V',bl',rfl,dp,ak,cy,aq,cn,dt,bh,eh⟩))
 have bf:=H.1.made bh dp aq cn cy;have f4:=bf.room.free (j:=4) (by simp[By]);have c4:=bf.room.c4;have af:Fr (R.r::F.p::bl) w (w8.setCell ⟨R.r,4,none⟩ (.pointer F.s)):=by rw[aq];exact(bh.mono (λk hk _=>Zh _ hk)).setCell (Zv Qx) _
 have hX:∀q∈R.r::F.p::bl,B<=q:=λq hq=>by
  rw[aq] at hq;rcases Zk.1 hq with rfl|hq
  .exact H.1.rB
  .exact H.1.ge q hq
 have J:=Q3 (bf.Zcw (.pointer F.s)) ak cy dt af hX aq cn;clear dp ak cy aq cn dt bh eh bf af hX hs0 c1 c2 c3;go_wp2_with (first|(go_at_call 30;refine(ON _ F.s).mono ?_;rintro e w9 ⟨hh,rfl,ai,du,bg⟩;have aj:=(show X0 (w9.setCell ⟨R.r,5,none⟩ (.pointer (hh:Nat))) hh F.s 0 [] false from(by obtain⟨rd,h8⟩:=du;exact⟨rd,h8.fr ((Fr.refl [R.r] w9).setCell (Zv Qx) _) (by rw[Z6];exact Row.ne h8 (J.1.after bg).room Qz)⟩));have h9:=J.1.after bg;have f5:=h9.room.free (j:=5) (by simp[By]);have c5:=h9.room.c5;have af:=(J.5.trans (Z1 (L:=[]) bg) Qx).setCell (p:=⟨R.r,5,none⟩) (Zv Qx) (.pointer (hh:Nat));have H9:=ZZ (h9.Zbc (.pointer (hh:Nat))) af (H.2.2.1.fr af J.6 H.1.bw ah) aj (Zq J.5.size (by have h7:=ai;simpa using h7));clear bg h9 af ai du aj)|(go_at_call 43;refine(show Calls prog 43 #[F.s,.string ⟨#[]⟩] _ _ from(hQ _ J.2).Zca H9.1.set J.3).mono ?_;rintro e de ⟨v,L,rfl,bq,ef,ae,ay⟩;obtain⟨a1,fa,rfl⟩:=bq.sl;have ee:Yd de a1 (L.map str)/\∀g o,a1=some ⟨g,o,none⟩->∃r,Row de g 9 r:=⟨bq.rd,λg o e=>(by subst e;exact YP bq g (YS.2 rfl))⟩;have hL:OpL B w bl R F V' hh ha hc hs sd a1 L de:=Rn H9.1 J.4 H9.2 H9.3 H9.4 ay ee ah;have hlen:=ef.length_le_of_subset (l₂:=K11) (λx hx=>(by obtain⟨v,hv⟩:=ZdC.1 ((ae x).1 hx);exact(H.2.1 x v hv).2));have eu:K11.length<=18:=Qz;obtain⟨Z,bz⟩:=ZK L.length;have fc:Z<=18:=Qw;have bu:=ZX hL ae bz;rw[bz];clear bq ef ae ay hL bz hlen eu ee));go_loopw [7] (λkv wr=>∃t:Nat,t<=R.n/\kv=(t:Int)/\OpL B w bl R F V' hh ha hc hs sd a1 L wr) (λkv _=>R.n- (intOf kv).toNat)
 .exact⟨0,Qw,rfl,bu.1⟩
 obtain⟨t,fh,rfl,M⟩:=hrel;obtain⟨df,U,ag⟩:=M.at_;have c1:=U.room.c1;by_cases bm:t<R.n
 .have fg:(t:Int)<(R.n:Int):=by omega
  have c7:=U.room.c7;have cs:=U.Zaa bm;cases az:sd t with
  |false=>
   rw[az] at cs;have O:=ZI M;clear M U ag;go_wp2_with fail;go_roundw
   .exact⟨t+1,Qw,QC,O.o⟩
   simp[intOf];omega
  |true=>
   rw[az] at cs;have dx:(V'.Ms t).isSome=true:=by obtain⟨S,h1,_⟩:=(hQ _ J.2).snd t bm az;rw[h1];rfl
   have bj:=Ki B wr F V' df t U.set (by rw[J.3];exact bm);rw[dx] at bj;have O:=ZP M U ag bj az;clear M U ag bj dx az;go_wp2_with (go_at_call 44;refine O.2.2.2.1.mono ?_;rintro e fi ⟨rfl,au⟩;have eo:=ZI (O.1.ran O.2.1 O.2.2.1 au ah);clear au);go_loopw [8] (λkv wi=>∃i:Nat,i<=Z/\kv=(i:Int)/\OpL B w bl R F V' hh ha hc hs sd a1 L wi) (λkv _=>Z- (intOf kv).toNat)
   .exact⟨0,Qw,rfl,eo.o⟩
   obtain⟨i,bj,rfl,M⟩:=hrel;by_cases cu:i<Z
   .have fe:(i:Int)<(Z:Int):=(by omega);have dw:i<L.length:=by rw[bu.3];exact cu
    obtain⟨ez,cj,dq⟩:=M.at_;obtain⟨gk,ok,rfl,ck⟩:=M.ks.1 i (by rw[Zf];exact dw);rw[ZeP] at ck;obtain⟨v9,cz⟩:=ZdC.1 ((bu.2 L[i]).1 (Zl dw));have cw:=H.2.1 _ _ cz;have ct:=(hQ _ J.2).look cj.set J.3 M.ty ah cz cw.2 cw.1 bm O.2.2.2.2;obtain⟨kk,dz⟩:=ZK L[i];rw[dz] at ck ct;have HI:=ZO M cj dq ct;clear M cj dq ct dz cz cw;go_wp2_with (go_at_call 45;refine HI.2.2.2.mono ?_;rintro e fj ⟨rfl,aw⟩;have er:=ZI (HI.1.ran HI.2.1 HI.2.2.1 aw ah);clear aw);go_roundw
    .exact⟨i+1,Qw,QC,er.o⟩
    simp[intOf];omega
   .obtain rfl:i=Z:=(by omega);have HI:=ZI M;clear M;go_wp2_with fail;go_roundw
    .exact⟨t+1,Qw,QC,HI.o⟩
    simp[intOf];omega
 .obtain rfl:t=R.n:=by omega
  have O:=ZN M U ag;clear M U ag;go_wp2_with fail;go_ret;exact⟨F,V',df,hh,rfl,O.2.1,O.1.hl,H9.5,J.2,J.7,J.8,O.2.2,by rw[<-J.7];exact O.1.fr⟩
def GX:Bs:=[104,101,108,108,111]
def KE:List Chg:=[⟨[97],some GX⟩]
def Z2e:JO (λ_=>none) KE [97]=some GX:=by simp[JO,KE]
def Y0.o{K:List Bs}{E n g:Nat}{H:Bs->Option Bs}(h:Y0 K E k m n g H sd V){i:Nat}{D:Dk}(hl:D.Za2<=(E:Int)+1)(hm:k<=YN (upd sd i false) n):Y0 K (E+1) k m n g H (upd sd i false) {V with Ds:=upd V.Ds i D,Ms:=upd V.Ms i none}:=by
 refine⟨h.hK,h.k1,h.kn,h.vk,h.vm,h.vg,h.gone,h.Za3,λj C=> ?_,λj C S hM=> ?_,λj C hs=> ?_,hm⟩<;>by_cases e:j=i
 .subst e;simp only[Y3];omega
 .simp only[QQ _ _ e];have:=h.Za2 j C;omega
 .subst e;simp only[Y3] at hM;cases hM
 .simp only[QQ _ _ e] at hM⊢;exact⟨(h.in_ j C S hM).1.mono Qw,(h.in_ j C S hM).2⟩
 .subst e;rw[Y3] at hs;cases hs
 .simp only[QQ _ _ e] at hs⊢;exact h.snd j C hs
def Vd(w:Qs)(ht:Ty w):Calls prog 7 #[] w λe w'=>e=.returned true/\Below w w w':=by
 have O:=ht.lt;have HT:=ZI ht;clear ht;have bq:((str GX).toList==[104,101,108,108,111])=true:=by rw[ZdH,Yp];rfl
 go_enter func7,ntmps7;go_wp2_with (first|(go_at_call 8;refine(show Calls prog 8 #[(2:Int),(1:Int),(800:Int)] _ _ from RR _ 2 1 Qw Qw Qw HT.o).mono ?_;rintro e w1 ⟨R,G,V,bl,hh,rfl,F,ak,hk,hm, -, -, -,hb⟩;have c4:=F.room.c4;have c5:=F.room.c5;have aj:R.n=3:=(by have:=F.kn;omega);have bm:0<R.n:=Qw;rw[hk,hm,aj] at ak;have ai:=F.gn;rw[aj] at ai;have M:=(Zu w1 w1).alloc (Zt _) (.cells #[.string ⟨#[97]⟩,.string ⟨#[104,101,108,108,111]⟩,false] 68);have ag:BI (w1.alloc (.cells #[.string ⟨#[97]⟩,.string ⟨#[104,101,108,108,111]⟩,false] 68)) w1 KE:=⟨[],Z2 w1 _ _⟩;have bf:=(Ty.below HT.o hb).below M;have h:=Q0 (F.after M) ak ai (hb.trans (M.mono hb.size)) ag bf;clear F ak ai hb M ag bf hk hm aj)|(go_at_call 11;refine(h.2.Zck h.1.set h.3 h.6 O Qw Qw Qz Qz Qz Qz h.5 rfl (Zt _)).mono ?_;rintro e w3 ⟨l,V3,hl,rfl,U,ae⟩;rw[Mq hl] at ae;have ay:=QH.ty U h.1.set h.6 O;have aq:=U.below h.1.set;obtain⟨bg,J⟩:=h.1.ran U;have c1:=J.room.c1;have d0:=J.Zbo (i:=0) (by have h1:=J.gn;have h2:=h.3;omega);have C:=ZY J ae ay (h.4.trans aq);clear hl U ae ay aq J)|(go_at_call 26;refine(O1 _ _ G V3 bg 0 C.1.set (by have h2:=h.3;omega) (by have:=C.2.Za2 0 Qw;omega)).mono ?_;rintro e w4 ⟨rfl,Z⟩;have az:=QH.ty Z C.1.set C.3 O;have au:=Z.below C.1.set;obtain⟨bh,ah⟩:=C.1.ran Z;have bj:=ah.room.c4;have R4:=ZX ah az au;clear Z az au ah)|(go_at_call 28;have af:=C.2.o (i:=0) (D:=(V3.Ds 0).Zaz) (by have:=C.2.Za2 0 Qw;show(V3.Ds 0).Za2+1<=_;omega) Qz;refine(show Calls prog 28 #[G.s,.string ⟨#[97]⟩] _ _ from af.get R4.1.set h.3 R4.2 O (key:=[97]) (v:=GX) Z2e Qz Qz).mono ?_;rintro e w5 ⟨rfl,aw⟩;have R5:=ZI ((C.4.trans R4.3).trans (aw.below R4.1.set));clear aw af));go_ret;exact⟨rfl,R5.o⟩
def Oc(l:List Wp):∀ (V:Ev) (i:Nat),V.Ms i=none->(QS l V).2.Ms i=none/\(QS l V).2.Ds i=V.Ds i:=by
 induction l with
 |nil=>intro V i h;exact⟨h,rfl⟩
 |cons x r ih=>
  intro V i h;have C:(Y4 V x).Ms i=none/\(Y4 V x).Ds i=V.Ds i:=by
   unfold Y4;split
   .rename_i S F;have e:i≠x.1:=λe=>by subst e;rw[h] at F;cases F
    exact⟨(QQ _ _ e).trans h,QQ _ _ e⟩
   .exact⟨h,rfl⟩
  unfold QS;split
  .obtain⟨J,M⟩:=ih _ i C.1;exact⟨J,M.trans C.2⟩
  .exact C
def Z14(l:List Wp):∀ (V:Ev) (i:Nat),((QS l V).2.Ds i).dead=(V.Ds i).dead:=by
 induction l with
 |nil=>intro V i;rfl
 |cons x r ih=>
  intro V i;have h:((Y4 V x).Ds i).dead=(V.Ds i).dead:=by
   unfold Y4;split
   .simp only;by_cases e:i=x.1
    .subst e;rw[Y3,(Jk _ _ _).2]
    .rw[QQ _ _ e]
   .rfl
  unfold QS;split
  .rw[ih,h]
  .exact h
variable{X:QM}{n:Nat}{D:Dk}{S:Sto}{s:Bool}
section
variable{i:Nat}
def Z9K(C:X.Ok n)(hi:i<n)(O:X.g<=1000000000)(M:D.dead=false)(hs:s=true->Xn X.k X.m i X.H (X.T i))(h:X.q0 i D S∨X.p1 i D S):Wb X.K (X.E+2) X.k X.m X.g i X.H s D (some S) (some S) X.g (acts0 S.dir):=by
 have key:(acts0 S.dir).foldl Ac.on (stR D.reads S.dir)=X.T i->(acts0 S.dir≠[]->∃d f,Ym X.K S (acts0 S.dir) d f)->∀T,some S=some T->(acts0 S.dir≠[]->∃d f,Ym X.K T (acts0 S.dir) d f)/\Wl X.k X.m i X.g X.H ((acts0 S.dir).foldl Ac.on (stR D.reads T.dir))/\(s=true->Xn X.k X.m i X.H ((acts0 S.dir).foldl Ac.on (stR D.reads T.dir))):=λe ha T Z=>by cases Z;rw[e];exact⟨ha,C.rest i hi,hs⟩
 rcases h with h|h
 .obtain⟨F,J⟩:=Z9a C hi O M h;exact⟨F,λe=>(by cases e),key (by rw[J];exact h.2) (λU=>absurd J U)⟩
 .obtain⟨F,d,ha⟩:=QM.ZbA C hi O M h;exact⟨F,λe=>(by cases e),key (funext (L9 (C.rest i hi) h.2 h.1.sorted (λn=>Xt)).2) (λ_=>⟨d,[],ha⟩)⟩
def Z9o(F:X.Ok n)(hi:i<n)(U:X.g<=999999999)(O:D.dead=false)(hs:s=true->Xn X.k X.m i X.H (X.T i))(h:X.p1 i D S∨X.p2 i D S):∃γ A,Wb X.K (X.E+2) X.k X.m (X.g+1) i (upH X.H X.l) s D (some S) (some S) γ A/\(X.p2 i D S->γ=((X.g+1:Nat):Int)):=by
 by_cases C:X.p2 i D S
 .obtain⟨J,Z⟩:=QM.ZbB F U O C;refine⟨_,_,⟨J,λe=>(by cases e),λT M=> ?_⟩,λ_=>rfl⟩;cases M;rw[Z];exact⟨λh=>absurd rfl h,C.2.1,λh=>C.2.2 (hs h)⟩
 .have h:=h.resolve_right C;obtain⟨J,d,ha⟩:=Z98 F hi U O h;obtain⟨-,r2,r3⟩:=FO F.hl.nd (F.rest i hi) h.2 h.1.sorted (λ_=>Xt);refine⟨_,_,⟨J,λe=>(by cases e),λT M=> ?_⟩,λh8=>absurd h8 C⟩;cases M;exact⟨λ_=>⟨d,[],ha⟩,r2,λh=>r3 (hs h)⟩
end
variable{K:List Bs}{E g:Nat}{H:Bs->Option Bs}{cs l:List Chg}
def QT.pre(h:QT K E k m n g H sd V)(hp:V.P.gone=false)(U:E<=1900000000)(Z:g<=1000000000)(O:cs≠[])(F:cs.length<=4)(J:∀c∈cs,c.key∈K)(M:∀c∈cs,∀v,c.val=some v->v.length<=200):B7 (Z5 K E k m g H V) n V cs:=by have C:=h.Zaj.pre U Z O F J M;exact⟨C.hK,C.k1,C.rest,C.vk,C.vm,C.vg,C.kn,hp,C.at_,C.many,C.ep,C.gb,C.ne,C.few,C.key,C.val⟩
def QT.ZbO(h:QT K E k m n g H sd V){i:Nat}(hi:i<n)(hs:sd i=true):Xn k m i H (Ca k m g V i):=by obtain⟨S,F,J⟩:=h.Zaj.snd i hi hs;have C:V.Ms i=some S:=F;unfold Ca;rw[C];exact J
def QT.ZcS(h:QT K E k m n g H sd V)(ha:Jd n V)(hn:G.n=n)(he:EAt B w G V bl)(hp:B7 (Z5 K E k m g H V) n V cs)(hl:l.Perm (Wh cs))(hg:g<=999999999)(hE:1<=E){r:Int×Ev}(U:QS (YT ((Z5 K E k m g H V).chg l) (Yj V n)) V=r):((r.1=0/\r.2.P.gone=false)∨(r.1=10/\r.2.P.gone=true))/\∀ (keep:Nat->List Bool) (F:Nat->Int),(r.1≠0/\Rk K (E+2) k m g n H sd (λj=>(r.2.Ds j).lost (keep j) (F j)))∨Rk K (E+2) k m (g+1) n (upH H l) sd (λj=>(r.2.Ds j).lost (keep j) (F j)):=by
 subst hn;have h0:=h.Zaj;have hX:=hp.ok hl;have aw:=hp.start (l:=l) he;have ak:∀j,j<G.n->(V.Ms j).isSome=true->∀ (kp:Qn) (t:Int),((r.2.Ds j).lost kp t).dead=false:=λj C hM kp t=>by show(r.2.Ds j).dead=false;rw[<-U,Z14];exact(ha j C).2 hM
 have ag:∀j,j<G.n->V.Ms j=none->∀ (kp:Qn) (t:Int) (g':Nat) (H':Bs->Option Bs),∃S I γ A,Wb K (E+2) k m g' j H' (sd j) ((r.2.Ds j).lost kp t) S I γ A:=λj C hM kp t g' H'=>by rw[<-U,(Oc _ V j hM).2,h.Zbt C hM];obtain⟨S,J⟩:=FB (K:=K) (E:=E+2) (k:=k) (m:=m) (g:=g') (i:=j) (H:=H') ((h.o j C hM).lost kp t) (Hk (ha j C).1 _ _) Qw;exact⟨S,_,_,_,J⟩
 obtain⟨i0,ai,hs0⟩:=K7 (Zq h0.k1 h0.many);have ah:(V.Ms i0).isSome=true:=by obtain⟨S,O,_⟩:=h0.snd i0 ai hs0;rw[show V.Ms i0=some S from O];rfl
 have af:∀ (keep:Nat->List Bool) (F:Nat->Int),(∀j,j<G.n->(V.Ms j).isSome=true->∃S,((Z5 K E k m g H V).chg l).p1 j ((r.2.Ds j).lost (keep j) (F j)) S∨((Z5 K E k m g H V).chg l).p2 j ((r.2.Ds j).lost (keep j) (F j)) S)->(∃j,j<G.n/\(V.Ms j).isSome=true/\∃S,((Z5 K E k m g H V).chg l).p2 j ((r.2.Ds j).lost (keep j) (F j)) S)->Rk K (E+2) k m (g+1) G.n (upH H l) sd (λj=>(r.2.Ds j).lost (keep j) (F j)):=λkeep F O h2=>by
  obtain⟨i1,ay,aq,S1,au⟩:=h2;refine⟨i1,ay,λj C=> ?_⟩;cases hM:V.Ms j with
  |none=>obtain⟨S,I,γ,A,J⟩:=ag j C hM (keep j) (F j) (g+1) (upH H l);exact⟨S,I,γ,A,J.e,λe=>by subst e;rw[hM] at aq;cases aq⟩
  |some T=>
   have Z:(V.Ms j).isSome=true:=by rw[hM];rfl
   by_cases e:j=i1
   .subst e;obtain⟨γ,A,h8,J⟩:=Z9o hX C hg (ak j C Z (keep j) (F j)) (λhs=>h.ZbO C hs) (Zy au);exact⟨_,_,γ,A,h8.e,λ_=>J au⟩
   .obtain⟨S,M⟩:=O j C Z;obtain⟨γ,A,h8,J⟩:=Z9o hX C hg (ak j C Z (keep j) (F j)) (λhs=>h.ZbO C hs) M;exact⟨_,_,γ,A,h8.e,λe9=>absurd e9 e⟩
 have ae:∀ (keep:Nat->List Bool) (F:Nat->Int),(∀j,j<G.n->(V.Ms j).isSome=true->∃S,((Z5 K E k m g H V).chg l).q0 j ((r.2.Ds j).lost (keep j) (F j)) S∨((Z5 K E k m g H V).chg l).p1 j ((r.2.Ds j).lost (keep j) (F j)) S)->Rk K (E+2) k m g G.n H sd (λj=>(r.2.Ds j).lost (keep j) (F j)):=λkeep F O=>by
  refine⟨i0,ai,λj C=> ?_⟩;cases hM:V.Ms j with
  |none=>obtain⟨S,I,γ,A,J⟩:=ag j C hM (keep j) (F j) g H;exact⟨S,I,γ,A,J.e,λe=>by subst e;rw[hM] at ah;cases ah⟩
  |some T=>
   have Z:(V.Ms j).isSome=true:=by rw[hM];rfl
   obtain⟨S,M⟩:=O j C Z;exact⟨_,_,_,_,(Z9K hX C (by show g<=1000000000;omega) (ak j C Z (keep j) (F j)) (λhs=>h.ZbO C hs) M).e,λ_=>rfl⟩
 by_cases hz:r.1=0
 .have aj:=(QM.ZaD hX aw).1 (by rw[U];exact hz);rw[U] at aj;refine⟨Zv ⟨hz,aj.gone⟩,λkeep F=>Zy (af keep F (λj C hM=> ?_) ⟨i0,ai,ah,?_⟩)⟩
  all_goals
   have key:∀j,j<G.n->(V.Ms j).isSome=true->∃S,((Z5 K E k m g H V).chg l).p2 j ((r.2.Ds j).lost (keep j) (F j)) S:=λj C hM=>by have hs:=DX (YT ((Z5 K E k m g H V).chg l) (Yj V G.n)) V j;rw[U,hM] at hs;obtain⟨S,M⟩:=Zdp.1 hs;have h2:=(aj.at_ j C S M).1;rw[Dg h2.1.wait];exact⟨S,h2⟩
  .exact(key j C hM).imp λS M=>Zy M
  .exact key i0 ai ah
 .have hc:=QM.Zb6 hX aw (by rw[U];exact hz);rw[U] at hc;refine⟨Zy (hc (λ_=>[]) (λ_=>0)).2,λkeep F=> ?_⟩;rcases(hc keep F).1 with O|O
  .exact Zv ⟨hz,ae keep F λj C hM=>(O j C hM).imp λS M=>M.imp (λJ=>⟨J.1.mono (by show E<=E+2;omega),J.2⟩) id⟩
  .by_cases J:∃j,j<G.n/\(V.Ms j).isSome=true/\∃S,((Z5 K E k m g H V).chg l).p2 j ((r.2.Ds j).lost (keep j) (F j)) S
   .exact Zy (af keep F O J)
   .exact Zv ⟨hz,ae keep F λj C hM=>(O j C hM).imp λS M=>Zy (M.resolve_right λh8=>J ⟨j,C,hM,S,h8⟩)⟩
def QT.ZaD(h:QT K E k m n g H sd V)(hf:V.P.Za3<0)(ae:V.P.gone=false)(hn:G.n=n)(he:EAt B w G V bl)(hp:B7 (Z5 K E k m g H V) n V cs)(hl:l.Perm (Wh cs)){r:Int×Ev}(hr:QS (YT ((Z5 K E k m g H V).chg l) (Yj V n)) V=r):r.1=0/\r.2.P.gone=false/\r.2.P.Za3<0/\QT K (E+2) k m n (g+1) (upH H l) sd {r.2 with gen:=V.gen+1}:=by
 subst hn;have hX:=hp.ok hl;obtain⟨c1,c2⟩:=QM.ZaD hX (hp.start (l:=l) he);rw[hr] at c1 c2;obtain⟨d1,d2⟩:=c2 hf;have M:=c1 d1;obtain⟨s1,s2,s3,F⟩:=Ku (YT ((Z5 K E k m g H V).chg l) (Yj V G.n)) V;have O:=Kt (YT ((Z5 K E k m g H V).chg l) (Yj V G.n)) V;have ho:=Oc (YT ((Z5 K E k m g H V).chg l) (Yj V G.n)) V;rw[hr] at s1 s2 s3 F ho O;refine⟨d1,M.gone,d2,λP U Z=> ?_,λi hi hM=> ?_⟩
 .exact(h.set P U Z).did (l:=l) (V':={{r.2 with gen:=V.gen+1} with P:=P}) s1 s2 rfl U Z O F (λi hi S hM=>by
   have C:=(M.at_ i hi S hM).1
   exact C)
 .have J:V.Ms i=none:=by
   have C:=F i;rw[show r.2.Ms i=none from hM] at C;cases hV:V.Ms i with
   |none=>rfl
   |some S=>rw[hV] at C;cases C
  show JF (r.2.Ds i);rw[(ho i J).2];exact h.o i hi J
variable{R R':Nat->ByteArray}
def QT.ZbQ(h:QT K E k m n g H sd V){i:Nat}{D:Dk}(hl:D.Za2<=(E:Int)+1)(hm:k<=YN (upd sd i false) n)(M:JF D):QT K (E+1) k m n g H (upd sd i false) {V with Ds:=upd V.Ds i D,Ms:=upd V.Ms i none}:=by
 refine⟨λP C F=>(h.set P C F).o hl hm,λj J hM=> ?_⟩;by_cases e:j=i
 .subst e;simp only[Y3];exact M
 .simp only[QQ _ _ e] at hM⊢;exact h.o j J hM
def Z30(D:Dk):JF D.Zaz:=Zv rfl
def Z5i(ok:D.ok 800):JF D.Zam:=by
 have h:∀a,a<800->D.Zam.reads a=YV:=λa ha=>by rw[AV rfl];unfold Dk.Zac Dk.Zam YV str;simp only[ok.len];rw[List.drop_replicate,List.take_replicate,Zej Qw]
 exact Zy ⟨rfl,rfl,Zv (by rw[h 0 Qw];exact Aq),by rw[h 1 Qw];exact Aq,by rw[h 100 Qw];exact Aq⟩
theorem Sw(l:Ql)(a i j:Nat)(u:UInt8)(hi:i<64):sec (l.set (a*64+i) u) j=if a=j then(sec l a).set i u else sec l j:=by
 apply Ze7;intro k;by_cases e:a=j
 .subst e;rw[Zx rfl,ZeD,C7,C7,ZeD];unfold sec;rw[Zg,ZdN];grind
 .rw[Zw e,C7,C7,ZeD];grind
def Z7q(u:UInt8){k:Nat}(O:k<8):Cb u k≠u:=λh=>by
 have C:u^^^UInt8.ofNat (2^k)=u:=h;have F:UInt8.ofNat (2^k)=0:=by have J:=ZF (λx=>u^^^x) C;simpa[<-UInt8.xor_assoc] using J
 have M:∀k:Fin 8,UInt8.ofNat (2^k.val)≠0:=Qz;exact M ⟨k,O⟩ F
def Z5v(hw:D.wait=[]){a b c:Nat}(hb:b<512)(hc:c≠a):(D.Zav a b).reads c=D.reads c:=by rw[AV hw,AV (D:=D.Zav a b) hw,Eb,Eb];unfold Dk.Zav;rw[Sw _ _ _ _ _ Qw,Zw (λe=>hc e.symm)]
def Z5u(ok:D.ok 800)(hw:D.wait=[]){a b:Nat}(ha:a<800)(hb:b<512):∃p u q,(D.reads a).data.toList=p++u::q/\((D.Zav a b).reads a).data.toList=p++Cb u (b%8)::q:=by
 rw[AV hw,AV (D:=D.Zav a b) hw,Eb,Eb];unfold Dk.Zav;rw[Sw _ _ _ _ _ Qw,Zx rfl];have hlen:=Ib D.has 800 a ok.len ha;have hi:b / 8<(sec D.has a).length:=Qw;have hu:D.has.getD (a*64+b / 8) 0=(sec D.has a)[b / 8]:=by have h:=C7 D.has a (b / 8);rw[Zx Qw,Z8 hi] at h;rw[Z7,<-h];rfl
 refine⟨(sec D.has a).take (b / 8),(sec D.has a)[b / 8],(sec D.has a).drop (b / 8+1),?_,?_⟩
 .show sec D.has a=_;rw[<-Zdw hi,Zde]
 .show(sec D.has a).set (b / 8) _=_;rw[List.set_eq_take_append_cons_drop,Zx hi,hu]
def Z7R{e:Ent}{a:Nat}{rest:Qj}(h:e.Za4=a::rest)(C:e.Za4.Nodup)(U:∀c,c≠a->R' c=R c){p q:Bs}{u v:UInt8}(hp:(R a).data.toList=p++u::q)(M:(R' a).data.toList=p++v::q)(J:u≠v):WW R' e=WW R e∨Wz (WW R' e)≠Wz (WW R e):=by
 have Z:rest.flatMap (λa=>(R' a).data.toList)=rest.flatMap (λa=>(R a).data.toList):=by rw[h] at C;rw[List.flatMap_def,List.flatMap_def,ZdG λc hc=>by rw[U c (λe=>(Zdn.1 C).1 (e▸hc))]]
 unfold WW;rw[h,Zm,Zm,Z,hp,M];obtain⟨F,hF⟩:=ZK (rest.flatMap (λa=>(R a).data.toList));rw[hF];by_cases hs:e.size<=p.length
 .left;rw[Zd,Zd,ZdB hs,ZdB hs]
 .right;obtain⟨t,ht⟩:∃t,e.size=p.length+(t+1):=⟨e.size-p.length-1,Qw⟩;have key:∀x:UInt8,((p++x::q)++F).take e.size=p++x::(q++F).take t:=λx=>by rw[ht,Zd,List.take_length_add_append];rfl
  rw[key,key];intro O;exact Z0j p ((q++F).take t) J.symm (Zfn O)
def Z6S{d:Dir}(hs:d.Za8)(O:d.Za4.Nodup){nm:Bs}{e:Ent}(U:d.get nm=some e){a:Nat}{rest:Qj}(J:e.Za4=a::rest)(M:∀c,c≠a->R' c=R c){p q:Bs}{u v:UInt8}(hp:(R a).data.toList=p++u::q)(af:(R' a).data.toList=p++v::q)(ae:u≠v)(F:JK R e≠none):(∀x,x≠nm->stR R' d x=stR R d x)/\(stR R' d nm=stR R d nm∨stR R' d nm=some none):=by
 have hm:=Z4 U;refine⟨λx hx=> ?_,?_⟩
 .unfold stR;cases ag:d.get x with
  |none=>rfl
  |some e2=>
   have C:WW R' e2=WW R e2:=Iy λc hc=>M c (λC=>by
    subst C
    exact LQ O hs (Z4 ag) hm hx hc (by rw[J];simp))
   simp only[Zek,JK,C]
 .unfold stR;rw[U];simp only[Zek];have Z:Wz (WW R e)=e.sum:=by
   unfold JK at F;by_cases h:Wz (WW R e)=e.sum
   .exact h
   .rw[Zw h] at F;exact absurd rfl F
  rcases Z7R J (Km O hm) M hp af ae with h|h
  .left;unfold JK;rw[h]
  .right;unfold JK;rw[Zw (by rw[<-Z];exact h)]
def Wl.rot{i:Nat}{T J:Tab}{key v:Bs}(h:Wl k m i g H T)(C:∀x,x≠nmD key->J x=T x)(F:J (nmD key)=T (nmD key)∨J (nmD key)=some none)(M:H key=some v)(O:T (nmD key)≠none):Wl k m i g H J:=by
 refine⟨?_,?_,?_,λx=> ?_,λx hx=> ?_,λx w hx=> ?_,λx hx=> ?_⟩
 .rw[C _ (by simp[nmC,nmD])];exact h.ZaW
 .rw[C _ (by simp[nmN,nmD])];exact h.next
 .rw[C _ (by simp[nmT,nmD])];exact h.under
 .rw[C _ (by simp[nmS,nmD])];exact h.ZaL x
 .rw[C _ (λe=>by rw[Ho e,M] at hx;cases hx)];exact h.none_ x hx
 .by_cases e:nmD x=nmD key
  .rw[e];rcases F with F|F
   .rw[F,<-e];exact h.some_ x w hx
   .exact Zy (Zv F)
  .rw[C _ e];exact h.some_ x w hx
 .by_cases e:x=nmD key
  .exact Zy ⟨key,e⟩
  .rw[C _ e] at hx;exact h.other x hx
def QT.rot(h:QT K E k m n g H sd V)(ha:Jd n V){i:Nat}(hi:i<n)(hs:sd i=true)(hm:k<=YN (upd sd i false) n){S:Sto}{key v:Bs}{e:Ent}{b:Nat}(hM:V.Ms i=some S)(hH:H key=some v)(hg:S.dir.get (nmD key)=some e){r:Nat×Nat}{rs:List (Nat×Nat)}(hr:e.runs=r::rs)(hb:b<512):r.1<800/\QT K E k m n g H (upd sd i false) {V with Ds:=upd V.Ds i ((V.Ds i).Zav r.1 b)}:=by
 have h0:=h.Zaj;obtain⟨b1,b2⟩:=h0.in_ i hi S hM;have M:QV K E (V.Ds i) S:=b1;have aj:Wl k m i g H (stR (V.Ds i).reads S.dir):=b2;obtain⟨q1,q2,q3⟩:=M.runs hg;obtain⟨m1,m2,m3⟩:=q1.many r (by rw[hr];simp);have ag:∃rest,e.Za4=r.1::rest:=by unfold Ent.Za4;rw[hr,Zm];obtain⟨t,ht⟩:∃t,r.2=t+1:=⟨r.2-1,Qw⟩;rw[ht,Zgf];exact⟨_,rfl⟩
 obtain⟨rest,af⟩:=ag;obtain⟨Za5,ai⟩:=M.img;have ae:=ai.ok;obtain⟨p,u,q,x1,x2⟩:=Z5u (ha i hi).1 M.wait (a:=r.1) (b:=b) Qw hb;have hR:∀c,c≠r.1->((V.Ds i).Zav r.1 b).reads c=(V.Ds i).reads c:=λc hc=>Z5v M.wait hb hc;have au:=h0.snd i hi hs;obtain⟨S',y1,y2⟩:=au;rw[show V.Ms i=some S' from y1] at hM;cases hM;have O:stR (V.Ds i).reads S.dir (nmD key)=_:=y2 key v hH;have aq:JK (V.Ds i).reads e≠none:=by unfold stR at O;rw[hg] at O;intro h9;simp only[Zek,h9] at O;cases O
 obtain⟨t1,t2⟩:=Z6S ae.sorted ae.apart hg af hR x1 x2 (Z7q u Qw).symm aq;have hB:QV K E ((V.Ds i).Zav r.1 b) S:=⟨⟨Za5,ai.congr Qw (λc hc=>hR c Qw)⟩,M.sm,M.wait,M.ep⟩;have ak:=aj.rot t1 t2 hH (by rw[O];simp);have Z:V.Ms i=some S:=y1;refine⟨Qw,λP h1 h2=> ?_,λj J ah=> ?_⟩
 .have C:=h.set P h1 h2;refine⟨C.hK,C.k1,C.kn,C.vk,C.vm,C.vg,h1,h2,λj J=> ?_,λj J T hT=> ?_,λj J U=> ?_,hm⟩<;>by_cases F:j=i
  .subst F;simp only[Y3];exact C.Za2 j J
  .simp only[QQ _ _ F];exact C.Za2 j J
  .subst F;simp only[Y3] at hT⊢;rw[show V.Ms j=some T from hT] at Z;cases Z;exact⟨hB,ak⟩
  .simp only[QQ _ _ F] at hT⊢;exact C.in_ j J T hT
  .subst F;rw[Y3] at U;cases U
  .simp only[QQ _ _ F] at U⊢;exact C.snd j J U
 .by_cases F:j=i
  .subst F;rw[show V.Ms j=none from ah] at Z;cases Z
  .simp only[QQ _ _ F];exact h.o j J ah
def Z0Y(B:Nat)(w:Qs)(G:Eg)(V:Ev)(bl:Qj)(i a b:Nat)(h:EAt B w G V bl)(hi:i<G.n)(hd:(V.Ds i).dead=false){S:Sto}(hM:V.Ms i=some S)(ha:a<800)(hb:b<512):Calls prog 104 #[.pointer (some ⟨G.ds i,0,none⟩),(a:Int),(b:Int)] w λe w'=>e=.returned .nilIface/\QH B G bl {V with Ds:=upd V.Ds i ((V.Ds i).Zav a b)} w w':=by
 obtain⟨Ls,Os,rfl,U⟩:=h;have C:=U.pd i hi;obtain⟨gh,v,hL,Z⟩:=C.dk;refine(Z5r G.p (G.ds i) gh v (V.Ds i) 800 a b w Z C.ok hd ha hb).mono ?_;rintro e w' ⟨rfl,ah,O⟩;have aj:gh∈Ls i:=by rw[hL];simp
 have M:QL w [gh] [5]:=by obtain⟨l,af⟩:∃l,Row w gh 5 l:=⟨_,Z.bytes.row⟩;exact QL.row af Qx
 have J:=U.at_ i hi;rw[hM] at J;have hO:∀k∈Os i,k∉[gh]:=λk F hm=>by rw[Z6] at hm;subst hm;exact(J.typed.ZaH M Qz) k F Qx
 have ae:=J.fr O M Qz Qz hO;have e:({V with Ds:=upd V.Ds i ((V.Ds i).Zav a b)}:Ev)={V with P:=V.P,Ds:=upd V.Ds i ((V.Ds i).Zav a b),Ms:=upd V.Ms i (some S)}:=by rw[<-hM,Iw]
 rw[e];refine⟨rfl,U.step hi (X:=[]) (L':=Ls i) (O':=Os i) (O.mono (λk F _=>by rw[Z6] at F;subst F;exact Zh _ aj)) Qx ⟨C.pw.fr O (M.Za0 C.pw Qz),C.pok,⟨gh,v,hL,ah⟩,Z9D C.ok a b,C.bp,C.bL⟩ ?_ (λk F=>Zv F) (λk F=>Zv F)⟩;obtain⟨s,j,ag,hr,hs,ai⟩:=ae;exact⟨s,j,ag,hr,hs,ai⟩
def Z2f(l:QY)(c:Chg):(l.filter λp=>p.1 !=c.key)++(if c.val.isNone=true then[] else[(c.key,c.val.getD [])])=JR l c:=by unfold JR;cases c.val<;>rfl
def Vf(l:QY)(cs:List Chg)(t:Nat)(h:t<cs.length):XR l (cs.take (t+1))=JR (XR l (cs.take t)) cs[t]:=by unfold XR;rw[ZeG,Z8 h,ZdM];rfl
def Ve(cs:List Chg):∀l:QY,(XR l cs).length<=l.length+cs.length:=by
 induction cs with
 |nil=>intro l;exact Zt _
 |cons c r ih=>intro l;have h:=ih (JR l c);have C:=Z2g l c;show(XR (JR l c) r).length<=_;rw[Ze];omega
def Ng(w:Qs)(r:Nat)(a:Qm)(cp:Nat)(hs:QY)(gc n cap:Nat)(cs:List Chg)(c6:w.cell? ⟨r,6,none⟩=some (.slice a hs.length cp))(h:YW w a hs)(hl:hs.length<=100)(au:BH w gc cs)(hn:n=cs.length)(bj:n<=100):Calls prog 12 #[r,.slice gc n cap] w λe w'=>∃O U,e=.returned (.slice O (XR hs cs).length U)/\YW w' O (XR hs cs)/\Below w w w':=by
 have H:=ZX h au hn;clear h au hn;go_enter func12,ntmps12;go_wp2_with fail;go_loopw [5,6] (λv kv wr=>∃ (t:Nat) (O:Qm) (L' U:Nat),t<=n/\kv=(t:Int)/\v=.slice O L' U/\L'=(XR hs (cs.take t)).length/\YW wr O (XR hs (cs.take t))/\Below w w wr) (λ_ kv _=>n- (intOf kv).toNat)
 .exact⟨0,a,hs.length,cp,Qw,rfl,rfl,rfl,H.1,Zu _ _⟩
 obtain⟨t,O,L',U,bq,rfl,rfl,hL,hh,hb⟩:=hrel;by_cases bh:t<n
 .have af:t<cs.length:=by rw[<-H.3];exact bh
  have bm:(t:Int)<(n:Int):=Qw;obtain⟨q0,q1,q2⟩:=H.2.2 t af;have ai:=H.2.1;have d0:=(hb.cell (p:=⟨gc,t*3,none⟩) ai).trans q0;have d1:=(hb.cell (p:=⟨gc,t*3+1,none⟩) ai).trans q1;have d2:=(hb.cell (p:=⟨gc,t*3+2,none⟩) ai).trans q2;have M:=Vf hs cs t af;rw[<-Z2f] at M;have ah:(XR hs (cs.take t)).length<=1000:=by
   have h1:=Ve (cs.take t) hs;have h2:(cs.take t).length<=t:=by rw[Zg];omega
   omega
  obtain⟨P,hP⟩:=ZK (XR hs (cs.take t));obtain⟨ck,aq⟩:=ZK cs[t].key;obtain⟨J,aw⟩:=ZK (cs[t].val.getD []);obtain⟨F,ak⟩:=ZK cs[t].val.isNone;rw[hP] at hL hh M ah;rw[aq] at d0 M;rw[aw] at d1 M;rw[ak] at d2 M;subst hL;have hd:=(Zu wr wr).drew;obtain⟨PP,ag⟩:=ZK ((P.filter λp=>p.1 !=ck)++(if F=true then[] else[(ck,J)]));rw[ag] at M;have ae:∀x:Qs,(x.cell? ⟨gc,t*3,none⟩=ck/\x.cell? ⟨gc,t*3+1,none⟩=J/\x.cell? ⟨gc,t*3+2,none⟩=F/\Below wr wr x)->Calls prog 42 #[.slice O P.length U,ck,J,F] x λe w'=>∃aj bf,e=.returned (.slice aj PP.length bf)/\YW w' aj PP/\Below x x w':=λx hx=>by have h9:=Z2h x O U P ck J F (hh.after hx.2.2.2) ah;rw[ag] at h9;exact h9
  have az:∀x y:Qs,(x.cell? ⟨gc,t*3,none⟩=ck/\x.cell? ⟨gc,t*3+1,none⟩=J/\x.cell? ⟨gc,t*3+2,none⟩=F/\Below wr wr x)->Below x x y->(y.cell? ⟨gc,t*3,none⟩=ck/\y.cell? ⟨gc,t*3+1,none⟩=J/\y.cell? ⟨gc,t*3+2,none⟩=F/\Below wr wr y):=by rintro A C ⟨h0,h1,h2,h7⟩ hb;have key:∀{p:Addr} {v:Qt},A.cell? p=some v->C.cell? p=some v:=λh=>(hb.cell (Z9 A _ h)).trans h;exact⟨key h0,key h1,key h2,h7.trans (hb.mono h7.size)⟩
  have HK:=ZI az;clear az;have Z:=ZY ae hb M hd;clear ae hb M hh hP aq aw ak q0 q1 q2 ah ag;have hs0:(wr.drew.cell? ⟨gc,t*3,none⟩=ck/\wr.drew.cell? ⟨gc,t*3+1,none⟩=J/\wr.drew.cell? ⟨gc,t*3+2,none⟩=F/\Below wr wr wr.drew):=⟨d0,d1,d2,hd⟩;go_wp2_with fail;go_region_held3 (λx=>x.cell? ⟨gc,t*3,none⟩=ck/\x.cell? ⟨gc,t*3+1,none⟩=J/\x.cell? ⟨gc,t*3+2,none⟩=F/\Below wr wr x) (first|exact hs0|(exact HK.o _ _ (by assumption) (by assumption)))
   (first|(go_at_call 42;refine(Z.1 _ (by assumption)).mono ?_;rintro e w8 ⟨a8,c8,rfl,ay,bg⟩))
  rename_i hHeld;have HY:=ZM ay hHeld.2.2.2;clear ay bg hHeld hs0 d0 d1 d2;go_wp2_with fail;go_roundw
  .exact⟨t+1,a8,_,c8,Qw,QC,rfl,by rw[Z.3],by rw[Z.3];exact HY.1,Z.2.trans (HY.2.mono Z.2.size)⟩
  simp[intOf];omega
 .obtain rfl:t=n:=by omega
  have e9:cs.take t=cs:=Zi (by rw[H.3];exact Zt _);rw[e9] at hL hh;subst hL;have HE:=ZM hh hb;clear hh hb;go_wp2_with fail;go_ret;exact⟨_,_,rfl,HE.1,HE.2⟩
variable{l:List En}{v:Qt}
structure ChL(w:Qs)(l:List En)(t:Nat)(v:Qt)(wr:Qs):Prop where
 own:wr.ownsRow w 68 3 v t (((l.take t).map An).flatMap apC)
 bel:Below w w wr
def ChL.after(h:ChL w l t v wr)(hb:Below wr wr w'):ChL w l t v w':=⟨Jj h.own hb,h.bel.trans (hb.mono h.bel.size)⟩
def ChL.put(h:ChL w l t v wr)(hb:Below wr wr w')(M:t<l.length){g2 c2:Nat}(J:w8.ownsRow w 68 3 (.slice g2 (t+1) c2) (t+1) ((((l.take t).map An).flatMap apC)++apC (An l[t])))(F:Fr (QU v) w' w8):ChL w l (t+1) (.slice g2 (t+1) c2) w8:=by have C:=h.after hb;refine⟨?_,C.bel.trans (F.below C.bel.size (Ab C.own))⟩;rw[ZeG,Z8 M];simp only[Zez,Zo,Zn,ZeC,Zdt,Zm,Zgd,Zdg];exact J
def ChL.ZcA(h:ChL w l t v wr):∀y∈QU v,y<wr.heap.size:=λy F=>by obtain⟨J,C⟩:=YP h.own y F;exact C.lt
def Z4n{base:Nat}{e:Qu}{xs:Qk}(h:w.ownsRow base e k v n xs):w.drew.ownsRow base e k v n xs:=h
def Z7S(s:Qq):s.extract 0 (min s.size 200)=str (s.data.toList.take 200):=by apply JC;rw[Yp];simp[Zgi];omega
def Gx{a:Addr}(h:w.cell? a=some v)(o:Obj):(w.alloc o).cell? a=some v:=(((Zu w w).alloc (Zt _) o).cell (Z9 w _ h)).trans h
def VV(wr:Qs)(o:Obj)(K:Qq)(g:Bool):Row ((wr.alloc o).alloc (.cells #[.string K,.string ⟨#[]⟩,g] 68)).drew (wr.heap.size+1) 68 [.string K,.string ⟨#[]⟩,.bool g]/\wr<=wr.heap.size+1/\Below wr wr ((wr.alloc o).alloc (.cells #[.string K,.string ⟨#[]⟩,g] 68)).drew:=by have h:=Z2 (wr.alloc o) 68 [.string K,.string ⟨#[]⟩,.bool g];rw[show(wr.alloc o).heap.size=wr.heap.size+1 from Qx] at h;exact⟨h,Qw,(((Zu wr wr).alloc (Zt _) o).alloc Qx _).drew⟩
def VW(wr:Qs)(o:Obj)(K:Qq)(g:Bool):Row ((wr.alloc (.cells #[.string K,.string ⟨#[]⟩,g] 68)).alloc o).drew wr.heap.size 68 [.string K,.string ⟨#[]⟩,.bool g]/\wr<=wr.heap.size/\Below wr wr ((wr.alloc (.cells #[.string K,.string ⟨#[]⟩,g] 68)).alloc o).drew:=⟨(Z2 wr 68 [.string K,.string ⟨#[]⟩,.bool g]).alloc o,Zt _,(((Zu wr wr).alloc (Zt _) _).alloc Qx o).drew⟩
def Pj(W:Qs)(C:Nat)(h:C<256):(convert 75 9 (.slice (some ⟨W,0,none⟩) 1 1)).run prog (W.alloc (.cells #[.int .u8 (C:Int)] 5))=.ok (.string (str [UInt8.ofNat C])) (W.alloc (.cells #[.int .u8 (C:Int)] 5)):=by have F:=Z2 W 5 [.int .u8 (C:Int)];refine BA _ 75 9 5 underlying75 underlying5 underlying9 F 0 1 1 [UInt8.ofNat C] rfl ?_;simp[QJ];omega
def Z2X(W:Qs)(o:Obj)(C:Nat)(h:C<256):(convert 75 9 (.slice (some ⟨W,0,none⟩) 1 1)).run prog ((W.alloc (.cells #[.int .u8 (C:Int)] 5)).alloc o)=.ok (.string (str [UInt8.ofNat C])) ((W.alloc (.cells #[.int .u8 (C:Int)] 5)).alloc o):=by have F:=(Z2 W 5 [.int .u8 (C:Int)]).alloc o;refine BA _ 75 9 5 underlying75 underlying5 underlying9 F 0 1 1 [UInt8.ofNat C] rfl ?_;simp[QJ];omega
def VG{z:Int}(h:0<=z)(C:z<=255):IntKind.u8.wrap z=z:=by unfold IntKind.wrap;simp[IntKind.signed,IntKind.bits];omega
def Pt(w:Qs)(a:Qm)(cp:Nat)(l:List En)(h:Aj w a l)(hl:l.length<=9223372036854775807):Calls prog 10 #[.slice a l.length cp] w λe w'=>∃v,e=.returned v/\w'.ownsRow w 68 3 v (JI l).length ((JI l).flatMap apC)/\Below w w w':=by
 obtain⟨N,hN⟩:=ZK l.length;have H:=ZM h hN;have I0:=ZI (show ChL w l 0 (.slice none 0 0) w from⟨ZA _ _ _ _,Zu _ _⟩);rw[hN] at hl⊢;clear h hN;go_enter func10,ntmps10;go_wp2_with fail;go_loopw [3,4] (λv kv wr=>∃t:Nat,t<=N/\t<=4/\kv=(t:Int)/\ChL w l t v wr) (λ_ kv _=>4- (intOf kv).toNat)
 .exact⟨0,Qw,Qw,rfl,I0.o⟩
 obtain⟨t,ht,cy,rfl,hS⟩:=hrel;have J:=ZI hS;clear hS;by_cases O:t<N/\t<4
 .have af:t<l.length:=by rw[H.2];exact O.1
  obtain⟨bm,b,o,rfl,hb,Yw⟩:=H.1 t af;have q0:=Yw 0 _ rfl;have q1:=Yw 1 _ rfl;have q2:=Yw 2 _ rfl;obtain⟨x,hx⟩:=ZK l[t];rw[hx] at bm q0 q1 q2;have d0:=(J.o.bel.cell (p:=⟨b,o+t*3+0,none⟩) hb).trans q0;have d1:=(J.o.bel.cell (p:=⟨b,o+t*3+1,none⟩) hb).trans q1;have d2:=(J.o.bel.cell (p:=⟨b,o+t*3+2,none⟩) hb).trans q2;have hz:=J.o.bel.size;have cz:(t:Int)<(N:Int):=Qw;have cu:(t:Int)<4:=Qw;have df:=O.1;have de:=O.2;have hk:=Am x.key (show 0<10 by omega);obtain⟨ck,bh⟩:=ZK (JH x.key 10);rw[bh] at hk;have Z:=ZX bm bh hx;rw[ZeE] at d0;clear q0 q1 q2 bm bh hx Yw O;have bz:∀W,Calls prog 9 #[(x.key:Int),(10:Int)] W λe w'=>e=.returned (ck:Int)/\W=w':=λW=>by have h9:=Bh x.key 10 W Z.1.k0 Z.1.k1 Qw Qw;rw[Z.2] at h9;exact h9
  have cn:=ZI bz;clear bz;obtain⟨C,cj⟩:=ZK (48+ck);have e0:∀M,(wr.alloc M).cell? ⟨b,o+t*3,none⟩=(x.key:Int):=λM=>Gx d0 M;have e2:∀M,(wr.alloc M).cell? ⟨b,o+t*3+2,none⟩=(x.gone):=λM=>Gx d2 M;have f2:∀M o2,((wr.alloc M).alloc o2).cell? ⟨b,o+t*3+2,none⟩=(x.gone):=λM o2=>Gx (Gx d2 M) o2;have w1:IntKind.i64.wrap (48+(ck:Int))=(C:Int):=by rw[Zr _ Qw];omega
  have w2:IntKind.u8.wrap (C:Int)=(C:Int):=VG Qw Qw;have kA:(convert 75 9 (.slice (some ⟨wr,0,none⟩) 1 1)).run prog (wr.alloc (.cells #[.int .u8 (C:Int)] 5)).drew=.ok (.string (str [UInt8.ofNat C])) (wr.alloc (.cells #[.int .u8 (C:Int)] 5)).drew:=Pj wr.drew C Qw;have kB:(convert 75 9 (.slice (some ⟨wr.heap.size+1,0,none⟩) 1 1)).run prog ((wr.alloc (.cells #[.string ⟨#[]⟩,.string ⟨#[]⟩,false] 68)).alloc (.cells #[.int .u8 (C:Int)] 5)).drew=.ok (.string (str [UInt8.ofNat C])) ((wr.alloc (.cells #[.string ⟨#[]⟩,.string ⟨#[]⟩,false] 68)).alloc (.cells #[.int .u8 (C:Int)] 5)).drew:=by have h9:=Pj (wr.drew.alloc (.cells #[.string ⟨#[]⟩,.string ⟨#[]⟩,false] 68)) C Qw;rw[show(wr.drew.alloc (.cells #[.string ⟨#[]⟩,.string ⟨#[]⟩,false] 68)).heap.size=wr.heap.size+1 from Qx] at h9;exact h9
  have kC:(convert 75 9 (.slice (some ⟨wr,0,none⟩) 1 1)).run prog ((wr.alloc (.cells #[.int .u8 (C:Int)] 5)).alloc (.cells #[.string ⟨#[]⟩,.string ⟨#[]⟩,false] 68)).drew=.ok (.string (str [UInt8.ofNat C])) ((wr.alloc (.cells #[.int .u8 (C:Int)] 5)).alloc (.cells #[.string ⟨#[]⟩,.string ⟨#[]⟩,false] 68)).drew:=Z2X wr.drew _ C Qw;obtain⟨X,hX⟩:=ZK (str [UInt8.ofNat C]);rw[hX] at kA kB kC;have kP:∀W,(Op.stringOp .add ⟨#[107,101,121]⟩ X).run prog W=.ok (.string (str (Df ck))) W:=λW=>by
   have h9:(⟨#[107,101,121]⟩:Qq)++X=str (Df ck):=by rw[<-hX,Mb,Yp];unfold Df;rw[cj];rfl
   rw[<-h9];exact Zdl W _ _ (by rw[<-hX,QW];show 3+1<=9223372036854775807;omega)
  obtain⟨KY,ay⟩:=ZK (str (Df ck));rw[ay] at kP;have bq:=ZM ay hX;clear cj ay hX;go_wp2_with fail;go_cut [5] from 16 to 32 (λv wx=>∃q,v=.pointer (q:Nat)/\Row wx q 68 [.string KY,.string ⟨#[]⟩,x.gone]/\wr.heap.size<=q/\Below wr wr wx)
  case first=>
   go_region_with (go_at_call 9;refine(cn.o _).mono ?_;rintro e w2 ⟨rfl,rfl⟩)
   all_goals go_wp2_with fail
   all_goals go_meet
   all_goals first
    |exact⟨_,rfl,VV _ _ _ _⟩
    |exact⟨_,rfl,VW _ _ _ _⟩
  case rest=>
   obtain⟨q,rfl,ag,hq,aq⟩:=hcut;have g2:=ag.c2;have bg:b<wr:=Qw;have cr:=(aq.cell (p:=⟨b,o+t*3+1,none⟩) bg).trans d1;have ak:=Jj J.o.own aq;have ah:∀y,y=x.gone->y=true->apC (An l[t])=[.string KY,.string ⟨#[]⟩,.bool true]:=λy h1 h2=>by rw[Z.3];unfold An;rw[Z.2,<-h1,h2,<-bq.1];rfl
   have ai:x.gone=false->apC (An l[t])=[.string KY,.string (x.val.extract 0 (min x.val.size 200)),.bool false]:=λh1=>by rw[Z.3,Z7S];unfold An;rw[Z.2,h1,<-bq.1];rfl
   have F:=Q0 ag hq aq ak ah ai;clear ak ah ai hq aq kA kB kC kP e0 e2 f2 d0 d1 d2 ag;by_cases aj:x.gone=true
   .rw[aj] at g2;have c0:=F.1.c0;have c1:=F.1.c1;have HG:=ZI aj;clear aj;go_wp2_with (at_builtin;refine B5 _ rfl (.tmp 50) (.tmp 52) 27 68 rfl underlying27 MX rfl Qw Qw w.heap.size _ t (((l.take t).map An).flatMap apC) rfl (Jj F.4 ((Zu wc wc).alloc (Zt _) _)) wc.heap.size 1 [.string KY,.string ⟨#[]⟩,.bool true] rfl Qw Qw rfl (Z2 wc _ _) (by simp[Value.oneCell']) (by have:=F.3.size;simp;omega) Qw ?_;intro g2 aw w8 ho hf _ _ _;have R8:=ZI (J.o.put (F.3.trans (((Zu wc wc).alloc (Zt _) _).mono F.3.size)) af (by rw[F.5 _ rfl HG.o];exact ho) hf);clear ho hf);go_roundw
    .exact⟨t+1,Qw,Qw,QC,R8.o⟩
    simp[intOf];omega
   .have bj:x.gone=false:=(by simpa using aj);rw[bj] at g2;have HG:=ZI bj;clear aj;have dh:x.val.size<=9223372036854775807:=Z.1.v;have f1:=F.1.free (j:=1) Qx;have g1:=F.1.c1;have m1:(min (x.val.size:Int) 200).toNat=min x.val.size 200:=Qw;go_wp2_with fail;have au:=F.1.set 1 (.string (x.val.extract 0 (min x.val.size 200)));have bf:Below wr wr (wc.setCell ⟨q,1,none⟩ (.string (x.val.extract 0 (min x.val.size 200)))):=F.3.setCell F.2 _;obtain⟨XV,bu⟩:=ZK (x.val.extract 0 (min x.val.size 200));have az:=F.6 HG.o;rw[bj] at au;rw[bu] at au bf az
    have ae:=JU F.4 (L:=[q]) ((Fr.refl [q] wc).setCell (p:=⟨q,1,none⟩) (Zv Qx) (.string XV)) (λy hy hm=>by
     rw[Z6] at hm;subst hm;have:=(J.o.ZcA y hy);have:=F.2
     omega)
    have U:=ZY au.drew bf.drew az (Z4n ae);clear au bf az ae;go_region;generalize (wc.setCell ⟨q,1,none⟩ (.string XV)).drew=wd at*
    have c0:wd.cell? (q:Nat)=some (.string KY):=U.1.c0;have c1:wd.cell? ⟨q,1,none⟩=some (.string XV):=U.1.c1;have c2:wd.cell? ⟨q,2,none⟩=false:=U.1.c2;clear g1 g2 f1 cr m1 bu;go_wp2_with (at_builtin;refine B5 _ rfl (.tmp 50) (.tmp 52) 27 68 rfl underlying27 MX rfl Qw Qw w.heap.size _ t (((l.take t).map An).flatMap apC) rfl (Jj U.4 ((Zu wd wd).alloc (Zt _) _)) wd.heap.size 1 [.string KY,.string XV,.bool false] rfl Qw Qw rfl (Z2 wd _ _) (by simp[Value.oneCell']) (by have:=U.2.size;simp;omega) Qw ?_;intro g2 aw w8 ho hf _ _ _;have R8:=ZI (J.o.put (U.2.trans (((Zu wd wd).alloc (Zt _) _).mono U.2.size)) af (by rw[U.3];exact ho) hf);clear ho hf);go_roundw
    .exact⟨t+1,Qw,Qw,QC,R8.o⟩
    simp[intOf];omega
 .have e9:(JI l).length=t/\((l.take t).map An)=JI l:=by
   have hle:l.length=N:=H.2;have e1:l.take t=l.take 4:=by
    rcases Zeb t 4 with h4|h4
    .have:t=N:=by
      rcases Zeb t N with h5|h5
      .exact absurd ⟨h5,h4⟩ O
      .omega
     rw[Zi Qw,Zi Qw]
    .rw[show t=4 from Qw]
   refine⟨?_,by unfold JI;rw[e1]⟩;unfold JI;rw[<-e1,Zf,Zg];omega
  have HE:=ZI e9;clear e9;rcases Zeb t N with h5|h5
  .have h4:¬t<4:=λh=>O ⟨h5,h⟩;have cw:decide ((t:Int)<4)=false:=by simp;omega
   have ct:(t:Int)<(N:Int):=Qw;clear O;go_wp2_with fail;go_ret;exact⟨_,rfl,by rw[HE.1,<-HE.2];exact J.o.own,J.o.bel⟩
  .have ct:¬t<N:=(by omega);clear O;go_wp2_with fail;go_ret;exact⟨_,rfl,by rw[HE.1,<-HE.2];exact J.o.own,J.o.bel⟩
def EAt.pok(h:EAt B w G V bl):Y6 w G.p V.P/\V.P.ok:=by obtain⟨Ls,Os,rfl,h⟩:=h;exact⟨h.pw,(h.pd 0 h.n1).pok⟩
def CO(E k m n g:Nat)(H H':Bs->Option Bs)(sd:Qr)(c:Int)(D:Nat->Dk):Prop:=∀ (keep:Nat->List Bool) (tn:Nat->Int),(c≠0/\Rk K11 E k m g n H sd (λj=>(D j).lost (keep j) (tn j)))∨∃g',g'<=g+1/\Rk K11 E k m g' n H' sd (λj=>(D j).lost (keep j) (tn j))
def Rk.mono{E':Nat}{D:Nat->Dk}(h:Rk K E k m g n H sd D)(he:E<=E'):Rk K E' k m g n H sd D:=by obtain⟨i0,F,h⟩:=h;refine⟨i0,F,λi hi=> ?_⟩;obtain⟨S,I,γ,A,C,J⟩:=h i hi;exact⟨S,I,γ,A,⟨C.1.mono Qw,λM=>(C.2 M).mono he⟩,J⟩
def Rk.congr{D D':Nat->Dk}(h:Rk K E k m g n H sd D)(he:∀i,i<n->D i=D' i):Rk K E k m g n H sd D':=by obtain⟨i0,C,h⟩:=h;exact⟨i0,C,λi hi=>by rw[<-he i hi];exact h i hi⟩
def QT.rkD(h:QT K (E+1) k m n g H sd V)(ha:Jd n V)(hg:g<=1000000000):Rk K E k m g n H sd V.Ds:=by
 have F:=h.Zaj;obtain⟨i0,J,hs0⟩:=K7 (Zq F.k1 F.many);refine⟨i0,J,λj C=> ?_⟩;cases hM:V.Ms j with
 |none=>
  obtain⟨S,Z⟩:=FB (K:=K) (E:=E+1) (k:=k) (m:=m) (g:=g) (i:=j) (H:=H) (h.o j C hM) (ha j C).1 Qw;rw[h.Zbt C hM]
  exact⟨S,none, -1,[],⟨Z,λe=>absurd rfl e⟩,λe2=>by
   subst e2
   rw[h.Zbt C hM] at hs0;cases hs0⟩
 |some T=>obtain⟨O,U⟩:=F.in_ j C T hM;refine⟨_,_,_,_,⟨Ee O ((ha j C).2 (by rw[hM];rfl)) U (λhs=> ?_) hg,λe=>absurd rfl e⟩,λ_=>rfl⟩;obtain⟨M,e1,e2⟩:=F.snd j C hs;rw[show V.Ms j=some M from e1] at hM;cases hM;exact e2
def FQ:List Qu:=39::138::XT
def W6(w w':Qs):Prop:=∀ (g:Nat) (e:Qu) (l:Qk),e∉FQ->Row w g e l->Row w' g e l
def W6.of{X:Qj}{ts:List Qu}(F:Fr X w w')(J:QL w X ts)(hs:∀e∈ts,e∈FQ):W6 w w':=λg e l he C=>C.fr F (J.Za0 C (λh=>he (hs _ h)))
def W6.trans{w1:Qs}(h:W6 w w1)(C:W6 w1 w2):W6 w w2:=λg e l he F=>C g e l he (h g e l he F)
def W6.after(hb:Below w w w'):W6 w w':=λg e l he h=>h.after hb
def O9:∀e∈XT,e∈FQ:=λe he=>Zh _ (Zh _ he)
def Kc:∀e∈Ap,e∈FQ:=Qz
def W6.held(h:W6 w w'){a:Qm}{l:QY}(hh:YW w a l):YW w' a l:=by
 rcases hh with h9|⟨g,sp,e,C⟩
 .exact Zv h9
 .exact Zy ⟨g,sp,e,h g _ _ Qz C⟩
variable{R:Rg}{V':Ev}{hb:Nat}{p p':Nat×Bs×Bool}{P2:Pw}{D2:Nat->Dk}
def Ys.left(h:Ys B w R G V bl sv hv ha hc hs sd){X:Qj}{ts:List Qu}(hf:Fr X w w')(ht:QL w X ts)(J:R.r∉X)(M:47∉ts)(O:4∉ts)(U:105∉ts){C:Qj}(F:DAt B w' G.p G.n G.ds P2 D2 C)(hp:Y6 w' G.p P2):RmD B w' R G.p G.ds P2 D2 C sv hv ha hc hs sd:=by obtain⟨bl0,Z, -⟩:=h.d;rw[h.gn] at F;exact Z.fr hf ht J M O U F hp
def Ys.ZcF(h:Ys B w R G V bl sv hv ha hc hs sd)(J:Ye B G bl P2 D2 w w'):∃C,RmD B w' R G.p G.ds P2 D2 C sv hv ha hc hs sd/\Below B w w'/\W6 w w':=by
 have F:=h.set.typed;have O:Y6 w' G.p P2:=by obtain⟨Ls,g1,_⟩:=J;exact(g1 0 h.set.nle.1).pw
 obtain⟨C,g1,g2⟩:=J.at_;obtain⟨-, -, -, -,M⟩:=J;exact⟨C,h.left M F (F.Za0 h.room Qz) Qz Qz Qz g1 O,M.below h.bw h.set.ge,W6.of M F O9⟩
def RmH.bad(h:RmH B w R G V bl hb p ha hc hs sd)(hB:Je B G hb bl P2 D2 w w'):∃J,RmD B w' R G.p G.ds P2 D2 J (.pointer G.s) (.pointer hb) ha hc hs sd/\Below B w w'/\W6 w w':=by
 obtain⟨O,⟨M,U,Z⟩,hf⟩:=hB;obtain⟨rd,hl⟩:=h.hl;have C:QL w (hb::G.p::bl) (138::XT):=QL.cons hl Qx (h.rm.set.typed.mono (λ_ hi=>hi) (λe he=>Zh _ he));refine⟨M,h.rm.left hf C (C.Za0 h.rm.room Qz) Qz Qz Qz U O,hf.below h.rm.bw (λq F=> ?_),W6.of hf C Qz⟩;rcases Zk.1 F with rfl|F
 .exact h.hB
 .exact h.rm.set.ge q F
def RmH.ZcG(h:RmH B w R G V bl hb p ha hc hs sd)(C:HAt B G hb bl V' p' w w'):(∃bl',RmH B w' R G V' bl' hb p' ha hc hs sd)/\Below B w w'/\W6 w w':=by obtain⟨J,M⟩:=h.step C;obtain⟨rd,hl⟩:=h.hl;obtain⟨bl', -, -,O⟩:=C.set;have F:QL w (hb::G.p::bl) (138::XT):=QL.cons hl Qx (h.rm.set.typed.mono (λ_ hi=>hi) (λe he=>Zh _ he));exact⟨J,M,W6.of O F Qz⟩
def RmH.Za3(h:RmH B w R G V bl hb p ha hc hs sd)(n:Int)(hn:n<=9223372036854775807):Calls prog 18 #[G.p,n] w λe w'=>e=.returned (.tuple #[])/\RmH B w' R G {V with P:={V.P with Za3:=max n (-1)}} bl hb p ha hc hs sd/\Below B w w'/\W6 w w':=by
 obtain⟨O,ag⟩:=h.rm.set.pok;refine(Oy G.p V.P n w O).mono ?_;rintro e w' ⟨rfl,hp,C⟩;have J:QL w [G.p] [112]:=QL.row O Qx;have ae:Pw.ok {V.P with Za3:=max n (-1)}:=⟨by show -1<=max n (-1);omega,by show max n (-1)<=_;omega⟩;obtain⟨s1,d1⟩:=h.rm.Zax;obtain⟨s2,d2,z2⟩:=h.rm.ZaJ;obtain⟨rd,hl⟩:=h.hl;refine⟨rfl,⟨⟨h.rm.room.fr C (J.Za0 h.rm.room Qz),⟨s1,d1.fr C (J.Za0 d1 Qz)⟩,⟨s2,d2.fr C (J.Za0 d2 Qz),z2⟩,?_,?_,h.rm.rB,h.rm.gn,h.rm.kn,h.rm.k1⟩,⟨rd,hl.fr C (J.Za0 hl Qz)⟩,h.hB,h.gB⟩,C.below h.rm.bw (λq U=>by rw[Z6] at U;subst U;exact h.rm.set.ge _ Qx),W6.of C J Qz⟩
 .rcases h.rm.held with h9|⟨g,sp,e,Z⟩
  .exact Zv h9
  .exact Zy ⟨g,sp,e,Z.fr C (J.Za0 Z Qz)⟩
 .have he:=h.rm.set;have af:G.p∉bl:=by
   intro hm;obtain⟨Ls,Os,rfl,he⟩:=he;rcases WH.1 hm with e|⟨i,hi,F⟩|⟨i,hi,F⟩
   .exact Row.ne he.pw he.set Qx e
   .exact(he.pd i hi).ZaC.Za0 he.pw Qz F
   .exact(he.at_ i hi).typed.Za0 he.pw Qz F
  obtain⟨Ls,Os,rfl,he⟩:=he;obtain⟨sp,hm⟩:=he.mem;have M:∀k∈Wu G Ls Os,k∉[G.p]:=λk F hm=>by rw[Z6] at hm;subst hm;exact af F
  exact⟨Ls,Os,rfl,he.set.fr C (M _ (by simp[Wu])),⟨sp,hm.fr C (J.Za0 hm Qz)⟩,he.n1,he.n16,λi hi=>(he.pd i hi).Za9 C (λk F=>M k (WH.2 (Zy (Zv ⟨i,hi,F⟩)))) hp ae,he.dap,λi hi=>(he.at_ i hi).fr C J Qz Qz (λk F=>M k (WH.2 (Zy (Zy ⟨i,hi,F⟩)))),he.oap,he.bO,he.bs⟩
def RmH.ty(h:Ty w)(C:0<B)(hb:Below B w w'):Ty w':=by unfold Ty at h⊢;rw[hb.cell (p:=⟨0,0,none⟩) C];exact h
def RmH.ZaD{gc nc cap:Nat}(h:RmH B w R G V bl hb p ha hc hs sd)(hx:QT K11 E R.k R.m R.n g H sd V)(hp:V.P.gone=false)(ht:Ty w)(aq:0<B)(ak:1<=E)(hE:E<=1900000000)(ay:g<=900000000)(aw:cs≠[])(af:cs.length<=4)(ag:∀c∈cs,c.key∈K11)(ah:∀c∈cs,∀v,c.val=some v->v.length<=200)(C:BI w gc cs)(au:nc=cs.length)(ae:nc<=cap):Calls prog 11 #[G.s,.slice gc nc cap] w λe w'=>∃ev c P2 D2 M,e=.returned ev/\QK w' w c ev/\((c=0/\P2.gone=false)∨(c=10/\P2.gone=true))/\CO (E+2) R.k R.m R.n g H (JO H cs) sd c D2/\RmD B w' R G.p G.ds P2 D2 M (.pointer G.s) (.pointer hb) ha hc hs sd/\(∀j,(D2 j).Za2=(V.Ds j).Za2)/\Below B w w'/\W6 w w'/\ (V.P.Za3<0->c=0/\∃V' bl',RmH B w' R G V' bl' hb p ha hc hs sd/\QT K11 (E+2) R.k R.m R.n (g+1) (JO H cs) sd V'/\V'.P.gone=false/\V'.P.Za3<0):=by
 have J:=hx.pre hp hE Qw aw af ag ah;have aj:=J;rw[<-h.rm.gn] at aj;refine(NY B w G V bl (Z5 K11 E R.k R.m g H V) gc nc cap cs h.rm.set ht aq aj C au ae).mono ?_;rintro e w' ⟨l,ev,hl,rfl,U,F,O⟩;rw[h.rm.gn] at U F O;have Z:=h.rm.set.alive;rw[h.rm.gn] at Z;obtain⟨r,C⟩:=ZK (QS (YT ((Z5 K11 E R.k R.m g H V).chg l) (Yj V R.n)) V);have ai:=Kt (YT ((Z5 K11 E R.k R.m g H V).chg l) (Yj V R.n)) V;rw[C] at U F O ai;obtain⟨a1,a2⟩:=hx.ZcS Z h.rm.gn h.rm.set J hl Qw ak C;rw[Mq hl] at a2;have hd:Ye B G bl r.2.P r.2.Ds w w':=by
  by_cases hz:r.1=0
  .exact(F hz).d
  .exact O hz
 obtain⟨M,b1,b2,b3⟩:=h.rm.ZcF hd;refine⟨ev,r.1,r.2.P,r.2.Ds,M,rfl,U,a1,λkeep tn=>(a2 keep tn).imp id λh9=>⟨g+1,Qw,h9⟩,b1,ai,b2,b3,λhf=> ?_⟩;obtain⟨c1,c2,c3,c4⟩:=hx.ZaD hf hp h.rm.gn h.rm.set J hl C;rw[Mq hl] at c4;obtain⟨⟨bl',c5⟩, -⟩:=h.ran (F c1);exact⟨c1,_,bl',c5,c4,c2,c3⟩
def RmH.kill{i:Nat}(h:RmH B w R G V bl hb p ha hc hs sd)(hi:i<R.n)(hl:(V.Ds i).Za2<=1000):Calls prog 26 #[.pointer (some ⟨G.ds i,0,none⟩)] w λe w'=>e=.returned (.tuple #[])/\(∃bl',RmH B w' R G {V with Ds:=upd V.Ds i (V.Ds i).Zaz,Ms:=upd V.Ms i none} bl' hb p ha hc hs sd)/\Below B w w':=by refine(O1 B w G V bl i h.rm.set (by rw[h.rm.gn];exact hi) hl).mono ?_;rintro e w' ⟨rfl,C⟩;exact⟨rfl,h.ran C⟩
def RmH.ZcR{i:Nat}(h:RmH B w R G V bl hb p ha hc hs sd)(hi:i<R.n)(hl:(V.Ds i).Za2<=1000):Calls prog 23 #[.pointer (some ⟨G.ds i,0,none⟩)] w λe w'=>e=.returned (.tuple #[])/\(∃bl',RmH B w' R G {V with Ds:=upd V.Ds i (V.Ds i).Zam,Ms:=upd V.Ms i none} bl' hb p ha hc hs sd)/\Below B w w':=by refine(Z0X B w G V bl i h.rm.set (by rw[h.rm.gn];exact hi) hl).mono ?_;rintro e w' ⟨rfl,C⟩;exact⟨rfl,h.ran C⟩
structure RkW(B:Nat)(w:Qs)(R:Rg)(p:Nat)(ds:Nat->Nat)(bl:Qj)(E g:Nat)(H:Bs->Option Bs)(sd:Qr)(x:Qs):Prop where
 fr:Fr (p::bl) w x
 at_:∃P Ds blx,DAt B x p R.n ds P Ds blx/\Y6 x p P/\P.gone=false/\P.Za3<0/\(∀q∈blx,q∈bl∨w.heap.size<=q)/\Rk K11 E R.k R.m g R.n H sd Ds/\∀i,i<R.n->(Ds i).Za2<=(E:Int)
def RkW.after{p:Nat}{x y:Qs}(h:RkW B w R p ds bl E g H sd x)(hb:Below x x y):RkW B w R p ds bl E g H sd y:=by obtain⟨P,Ds,C,F,J,M⟩:=h.at_;exact⟨h.fr.trans (Z1 (L:=[]) hb) Qx,P,Ds,C,F.after hb,Row.after J hb,M⟩
def RmD.pok{p:Nat}(h:RmD B w R p ds P Ds bl sv hv ha hc hs sd):P.ok:=by obtain⟨Ls,rfl,C,F⟩:=h.at_;have:=h.k1;have:=h.kn;exact(C 0 Qw).pok
variable{p:Nat}
def RmD.Zby(h:RmD B w R p ds P Ds bl sv hv ha hc hs sd)(ev:Qt)(o0 C o2 F:Int){ka:Qm}{kc:Nat}{kl:List Qn}{ta:Qm}{tc:Nat}{tl:List Int}(O:Ba B w ka kl)(U:Bc B w ta tl):Calls prog 20 #[R.r,.agg #[o0,C,o2,F,ev,.slice ka kl.length kc,.slice ta tl.length tc]] w λe w'=>e=.returned (.tuple #[])/\(∃bl',RmD B w' R p ds {P with gone:=false,Za3:= -1} (XA kl tl Ds R.n) bl' sv hv ha hc hs sd)/\Below B w w'/\W6 w w':=by obtain⟨s1,J⟩:=h.Zax;refine(Z3e B w R.r p R.gd R.n R.cd _ s1 ds P Ds bl ev o0 C o2 F ka kc kl ta tc tl h.room J h.at_ h.bw O U h.pB h.n16 h.pw h.pok).mono ?_;rintro e w' ⟨rfl,⟨bl',M, -⟩,hp,hf⟩;exact⟨rfl,⟨bl',h.fr hf h.tyd (h.tyd.Za0 h.room Qz) Qz Qz Qz M hp⟩,hf.below h.bw h.ge,W6.of hf h.tyd Kc⟩
def RmD.Za3(h:RmD B w R p ds P Ds bl sv hv ha hc hs sd)(n:Int)(U:n<=9223372036854775807):Calls prog 18 #[p,n] w λe w'=>e=.returned (.tuple #[])/\RmD B w' R p ds {P with Za3:=max n (-1)} Ds bl sv hv ha hc hs sd/\Below B w w'/\W6 w w':=by refine(Oy p P n w h.pw).mono ?_;rintro e w' ⟨rfl,J,C⟩;have F:QL w [p] [112]:=QL.row h.pw Qx;exact⟨rfl,h.fr C F (F.Za0 h.room Qz) Qz Qz Qz (h.at_.Za9 C (λk O hm=>by rw[Z6] at hm;subst hm;exact h.at_.typed.Za0 h.pw Qz O) J ⟨by show -1<=max n (-1);omega,by show max n (-1)<=_;omega⟩) J,C.below h.bw (λq M=>by rw[Z6] at M;subst M;exact h.pB),W6.of C F Qz⟩
def RmD.open(h:RmD B w R p ds P Ds bl sv hv ha hc hs sd)(ht:Ty w)(af:0<B)(M:P.gone=false)(hR:Rk K11 E R.k R.m g R.n H sd Ds)(O:R.k<=YN sd R.n)(hl:∀i,i<R.n->(Ds i).Za2<=(E:Int))(Z:1<=E)(hE:E<=1900000000)(hg:g<=1000000000):Calls prog 27 #[.slice (some ⟨R.gd,0,none⟩) R.n R.cd,(R.k:Int),(R.m:Int)] w λe w'=>∃F ev c P' D' bl',e=.returned (.tuple #[F,ev])/\QK w' w c ev/\((c=0/\P'.gone=false)∨(c=10/\P'.gone=true))/\RmD B w' R p ds P' D' bl' sv hv ha hc hs sd/\(∀ (keep:Nat->List Bool) (tn:Nat->Int),Rk K11 (E+1) R.k R.m g R.n H sd (λi=>(D' i).lost (keep i) (tn i)))/\(∀i,(D' i).Za2=(Ds i).Za2)/\Below B w w'/\W6 w w':=by
 obtain⟨s1,d1⟩:=h.Zax;refine(O5 B w K11 E R.gd R.n R.cd R.k R.m p g ds P Ds bl H sd (λi hi=>h.Zbo hi) d1.lt (λhm=> ?_) h.k1 h.kn.symm h.n16 h.bw h.at_ h.pw BS M ht af hR O hl Z hE hg).mono ?_
 .rcases Zk.1 hm with h9|h9
  .exact Row.ne d1 h.pw Qx h9
  .exact h.at_.typed.Za0 d1 Qz h9
 .rintro e w' ⟨F,ev,c,rfl,ae,C⟩;obtain⟨P',D',U,J,h2,h3,h4,h5,h6⟩:=C.left;refine⟨F,ev,c,P',D',U,rfl,ae,?_,h.fr C.fr h.tyd (h.tyd.Za0 h.room Qz) Qz Qz Qz h3 h2,h5,λi=>(h6 i).1,C.fr.below h.bw h.ge,W6.of C.fr h.tyd Kc⟩;rcases C.code with rfl|rfl
  .exact Zv ⟨rfl,J⟩
  .exact Zy ⟨rfl,J⟩
def RmD.opens{sx:Qr}(h:RmD B w R p ds P Ds bl sv hv ha hc hs sd)(ht:Ty w)(aj:0<B)(ae:R.k<=YN sx R.n)(au:1<=E)(hE:E<=1900000000)(hg:g<=1000000000){M:Qs}(hx:RkW B w R p ds bl E g H sx M):Calls prog 27 #[.slice (some ⟨R.gd,0,none⟩) R.n R.cd,(R.k:Int),(R.m:Int)] M λe w'=>∃J V' bl',e=.returned (.tuple #[J.s,.nilIface])/\EAt B w' J V' bl'/\(QT K11 (E+1) R.k R.m R.n g H sx V'/\V'.P.gone=false/\V'.P.Za3<0)/\J.n=R.n/\J.p=p/\J.ds=ds/\(∀q∈bl',q∈bl∨w.heap.size<=q)/\Fr (p::bl) w w'/\RkW B w R p ds bl E g H sx w':=by
 obtain⟨P1,D1,aq,h1,h2,h3,U,h5,h6,h7⟩:=hx.at_;obtain⟨s1,d1⟩:=h.Zax;have d2:=d1.fr hx.fr (h.tyd.Za0 d1 Qz);have bf:Ty M:=ht.fr hx.fr h.ge h.bw aj;refine(O5 B M K11 E R.gd R.n R.cd R.k R.m p g ds P1 D1 aq H sx (λi hi=>d2.cell (by rw[Za (by rw[Bx];exact hi)];exact Bw _ _ _ hi)) d2.lt (λhm=> ?_) h.k1 h.kn.symm h.n16 (Zq h.bw hx.fr.size) h1 h2 BS h3 bf aj h6 ae h7 au hE hg).mono ?_
 .rcases Zk.1 hm with C|C
  .exact Row.ne d2 h2 Qx C
  .exact h1.typed.Za0 d2 Qz C
 .rintro e w' ⟨bh,ev,c,rfl,aw,Z⟩;obtain rfl:=Z.last U;obtain⟨J,V',bl',rfl,O,e1,e2,e3,ay,hX,ak,ah,az⟩:=Z.ok rfl;rw[aw.zero];have hf:=Z.fr;have hz:=hx.fr.size
  have ag:Fr (p::bl) w w':=hx.fr.trans hf (λq F bg=>by
   rcases Zk.1 F with rfl|F
   .simp
   .rcases h5 q F with C|C
    .exact Zh _ C
    .omega)
  have ai:∀q∈bl',q∈bl∨w.heap.size<=q:=λq F=>by
   rcases ay q F with C|C
   .exact h5 q C
   .exact Zy Qw
  refine⟨J,V',bl',rfl,O,⟨hX,ak,ah U⟩,e1,e2,e3,ai,ag,ag,?_⟩;have af:=O.alive;rw[e1] at af;obtain⟨Ls,Os,rfl,hp⟩:=O;refine⟨V'.P,V'.Ds,(List.range R.n).flatMap Ls,⟨Ls,rfl,λi hi=> ?_,λi j hi hj=>hp.dap i j Qw Qw⟩,by rw[<-e2];exact hp.pw,ak,ah U,λq F=> ?_,hX.rkD af hg,λi hi=>by rw[az i];exact h7 i hi⟩
  .have C:=hp.pd i Qw;rw[e2,e3] at C;exact C
  .obtain⟨i,hi,F⟩:=Dl.1 F;exact ai q (WH.2 (Zy (Zv ⟨i,Qw,F⟩)))
def PB(B:Nat)(w:Qs)(R:Rg)(p:Nat)(ds:Nat->Nat)(P:Pw)(Ds:Nat->Dk)(bl:Qj)(sv hv:Qt)(ha:Qm)(hc:Nat)(hs:QY)(sd:Qr)(E g:Nat)(H:Bs->Option Bs)(h:RmD B w R p ds P Ds bl sv hv ha hc hs sd)(aq:B<=R.gs)(ah:∀x v,H x=some v->v.length<=200/\x∈K11)(O:Ty w)(M:0<B)(Z:P.gone=false)(U:P.Za3<0)(hR:Rk K11 E R.k R.m g R.n H sd Ds)(ae:R.k<=YN sd R.n)(hl:∀i,i<R.n->(Ds i).Za2<=(E:Int))(af:1<=E)(hE:E<=1900000000)(hg:g<=1000000000):Calls prog 13 #[R.r] w λe w'=>∃C V' bl' hh,e=.returned true/\RmH B w' R C V' bl' hh (0,[],false) ha hc hs sd/\QT K11 (E+1) R.k R.m R.n g H sd V'/\V'.P.gone=false/\V'.P.Za3<0/\C.p=p/\C.ds=ds/\Below B w w'/\W6 w w':=by
 refine(Z3j B w R p ds P Ds bl sv hv ha hc hs sd (E+1) g H h ah O M (Q:=λV=>QT K11 (E+1) R.k R.m R.n g H sd V/\V.P.gone=false/\V.P.Za3<0) (λV J=>J.1.set V.P J.2.1 J.2.2) (OpW:=RkW B w R p ds bl E g H sd) ⟨Fr.refl _ _,P,Ds,bl,h.at_,h.pw,Z,U,λq F=>Zv F,hR,hl⟩ (λx y hx hb=>hx.after hb) (λwx hx=>h.opens O M ae af hE hg hx)).mono ?_;rintro e w' ⟨C,V',bl',hh,rfl,hA,ag,aj,⟨hX,ak,ai⟩,e1,e2,hg',hf⟩;refine⟨C,V',bl',hh,rfl,⟨hA,ag,Zq h.bw aj,aq⟩,hX,ak,ai,e1,e2,hf.below h.bw (λq F=> ?_),W6.of hf (QL.cons h.room Qz (h.tyd.mono (us:=FQ) (λ_ hi=>hi) Kc)) (λe he=>he)⟩;rcases Zk.1 F with rfl|F
 .exact h.rB
 .exact h.ge q F
variable{c:Int}
def Rw{base:Nat}{e:Qu}{xs:Qk}(h:w.ownsRow base e k v n xs):∃a c,v=.slice a n c:=by
 rcases h.2 with ⟨C,F⟩|⟨g,cap,cur,C,_⟩
 .simp_all
 .simp_all
structure Tn where
 kind:Int
 Za6:Int
 num:Int
 Za3:Int
 ea:Qm
 el:List En
 ec:Nat
 ka:Qm
 kl:List Qn
 kc:Nat
 ta:Qm
 tl:List Int
 tc:Nat
def I64(z:Int):Prop:= -9223372036854775808<=z/\z<=9223372036854775807
structure Tn.Ok(o:Tn)(W:Qs):Prop where
 kind:I64 o.kind
 Za6:I64 o.Za6
 num:I64 o.num
 Za3:I64 o.Za3
 ens:Aj W o.ea o.el
 few:o.el.length<=9223372036854775807
 keep:Ba W W o.ka o.kl
 ZbJ:Bc W W o.ta o.tl
def Tn.cells(o:Tn):Qk:=[.int .i64 o.kind,.int .i64 o.Za6,.int .i64 o.num,.int .i64 o.Za3,.slice o.ea o.el.length o.ec,.slice o.ka o.kl.length o.kc,.slice o.ta o.tl.length o.tc]
variable{p:Nat×Bs×Bool}
def RmH.tell(h:RmH B w R G V bl hb p ha hc hs sd){C:Qm}{hc':Nat}{F:QY}(hh:YW w C F):RmH B (w.setCell ⟨R.r,6,none⟩ (.slice C F.length hc')) R G V bl hb p C hc' F sd:=by obtain⟨rd,hl⟩:=h.hl;exact⟨h.rm.tell hh,⟨rd,hl.fr ((Fr.refl [R.r] w).setCell (Zv Qx) _) (by rw[Z6];exact Row.ne hl h.rm.room Qz)⟩,h.hB,h.gB⟩
def RmH.Zc9(h:RmH B w R G V bl hb p ha hc hs sd){i:Nat}(hi:i<R.n):w.cell? ⟨R.r,7,none⟩=some (.slice (some ⟨R.gs,0,none⟩) R.n R.cs)/\w.cell? ⟨R.gs,i,none⟩=some (.bool (sd i))/\w.frozen? ⟨R.gs,i,none⟩=false:=by obtain⟨s2,C, -⟩:=h.rm.ZaJ;exact⟨h.rm.room.c7,h.rm.Zaa hi,C.free (j:=i) (by simp[sdC];omega)⟩
def RmH.abs(h:RmH B w R G V bl hb p ha hc hs sd)(hx:QT K11 E R.k R.m R.n g H sd V)(hp:V.P.gone=false)(hf:V.P.Za3<0)(U:∀x v,H x=some v->v.length<=200)(ht:Ty w)(O:0<B):∃T:Qs->Prop,T w/\(∀x,T x->x.cell? ⟨R.r,4,none⟩=(G.s)/\x.cell? ⟨R.r,6,none⟩=some (.slice ha hs.length hc))/\(∀x y,T x->Below x.heap.size x y->T y)/\(∀x,T x->(∃bl',RmH B x R G V bl' hb p ha hc hs sd)/\W6 w x/\Below B w x)/\∀x,T x->∀l a F,HOk K11 l->YW x a l->Calls prog 14 #[G.s,.slice a l.length F] x λe w'=>∃b,e=.returned (.bool b)/\(b=true↔∀y,H y=Hof l y)/\T w':=by
 have ae:Y0 K11 E R.k R.m R.n g H sd V:=hx.set V.P hp hf;refine⟨λx=>(∃bl',RmH B x R G V bl' hb p ha hc hs sd)/\W6 w x/\Below B w x,⟨⟨bl,h⟩,λ_ _ _ _ J=>J,Zu _ _⟩,?_,?_,λx hx=>hx,?_⟩
 .rintro x ⟨⟨bl',C⟩, -⟩;exact⟨C.rm.room.c4,C.rm.room.c6⟩
 .rintro x y ⟨⟨bl',C⟩,h2,h3⟩ hb;exact⟨⟨bl',C.after hb⟩,h2.trans (W6.after hb),h3.trans (hb.mono C.rm.bw)⟩
 .rintro x ⟨⟨bl',C⟩,h2,h3⟩ l a F hl J;refine(Z2i B x G V bl' K11 E R.k R.m R.n g H sd l a F ae U hl C.rm.set C.rm.gn (RmH.ty ht O h3) O J).mono ?_;rintro e w' ⟨b,rfl,b1,b2,M⟩;obtain⟨h4,h5⟩:=C.ran M;obtain⟨-, -, -,Z⟩:=M;exact⟨b,rfl,⟨b2,b1⟩,h4,h2.trans (W6.of Z C.rm.set.typed O9),h3.trans h5⟩
structure CrS(B:Nat)(W:Qs)(R:Rg)(p:Nat)(ds:Nat->Nat)(E g:Nat)(sd:Qr)(ha:Qm)(hc:Nat)(hs:QY)(tb:Nat)(tl:Qk)(nv ev:Qt)(wr:Qs):Prop where
 now:∃a9 c9 now,nv=.slice a9 now.length c9/\YW wr a9 now/\HOk K11 now/\∃P D bl sv hv c,RmD B wr R p ds P D bl sv hv ha hc hs sd/\((c=0/\P.gone=false)∨(c=10/\P.gone=true))/\QK wr B c ev/\CO E R.k R.m R.n g (Hof hs) (Hof now) sd c D/\∀j,j<R.n->(D j).Za2<=(E:Int)
 ZaG:Row wr tb 56 tl
 bel:Below B W wr
def Z16(V:Ev)(x:Wp)(i:Nat):((Y4 V x).Ds i).Za2=(V.Ds i).Za2:=by
 unfold Y4;split
 .simp only;by_cases e:i=x.1
  .subst e;rw[Y3,(Jk _ _ _).1]
  .rw[QQ _ _ e]
 .rfl
def TL(V:Ev)(j g i:Nat):((Zay V j g).2.Ds i).Za2=(V.Ds i).Za2:=by
 unfold Zay;split
 .unfold De;by_cases e:i=j
  .subst e;simp only[Y3];unfold WG;split
   .rfl
   .exact IW _ _ _ _ _ _
  .simp only[QQ _ _ e]
 .rfl
def Z7W(H:Bs->Option Bs)(V:Ev)(j:Nat)(x:Bs)(i:Nat):((WR H V j x).2.Ds i).Za2=(V.Ds i).Za2:=by
 unfold WR;split
 .rfl
 .exact Z16 _ _ _
def Z6W(H:Bs->Option Bs)(V:Ev)(n g:Nat)(p:Nat×Bs×Bool)(i:Nat):((Ja H V n g p).2.1.Ds i).Za2=(V.Ds i).Za2:=by
 unfold Ja;split
 .unfold Es;split
  .exact Z7W _ _ _ _ _
  .exact TL _ _ _ _
 .exact TL _ _ _ _
def CO.mono{E':Nat}{C:Bs->Option Bs}{D:Nat->Dk}(h:CO E k m n g H C sd c D)(he:E<=E'):CO E' k m n g H C sd c D:=λkeep U=>(h keep U).imp (λF=>⟨F.1,F.2.mono he⟩) λ⟨J,M,O⟩=>⟨J,M,O.mono he⟩
variable{W:Qs}{E' tb:Nat}{tl:Qk}
def RmH.calm(h:RmH B w R G V bl hb p ha hc hs sd)(hx:QT K11 E' R.k R.m R.n g (Hof hs) sd V)(M:HOk K11 hs)(hp:V.P.gone=false)(he:E'+1<=E)(F:1<=E')(hg:g<=1000000000)(U:Row w tb 56 tl)(hB:Below B W w):CrS B W R G.p G.ds E g sd ha hc hs tb tl (.slice ha hs.length hc) .nilIface w:=by
 obtain⟨bl',Z, -⟩:=h.rm.d;have J:Jd R.n V:=by rw[<-h.rm.gn];exact h.rm.set.alive
 have O:=hx.Zaj;exact⟨⟨ha,hc,hs,rfl,h.rm.held,M,V.P,V.Ds,bl',_,_,0,Z,Zv ⟨rfl,hp⟩,Zv ⟨rfl,rfl⟩,λkeep tn=>Zy ⟨g,Qw,(hx.rk J hg F (i:=R.n) (λ_ _=>rfl) (λC=>absurd C (Zg4 _))).mono he⟩,λj hj=>by have:=O.Za2 j hj;show(V.Ds j).Za2<=_;have C:(V.Ds j).Za2<=(E':Int):=this;omega⟩,U,hB⟩
def Mi{N:Int}(J: -9223372036854775808<=N)(n1:N<=9223372036854775807){c:Int}(hc:1<=c): -9223372036854775808<=N.tdiv c/\N.tdiv c<=9223372036854775807:=by
 have F:(N.tdiv c).natAbs<=N.natAbs:=by rw[Int.natAbs_tdiv];exact ZfF _ _
 by_cases h:0<=N
 .omega
 .have C:0<=(-N).tdiv c:=Int.tdiv_nonneg Qw Qw;rw[Int.neg_tdiv] at C;omega
def PE(kl:List Qn)(tl:List Int)(Ds:Nat->Dk)(t i:Nat):(XA kl tl Ds t i).Za2=(Ds i).Za2:=by unfold XA;split<;>rfl
def KX{D:Nat->Dk}{kl:List Qn}{tl:List Int}(h:Rk K E k m g n H sd (λj=>(D j).lost (kl.getD j []) (tl.getD j 0))):Rk K E k m g n H sd (XA kl tl D n):=h.congr λi hi=>by unfold XA;rw[Zx hi]
def CO.one{now:QY}{D:Nat->Dk}(h:CO E k m n g (Hof hs) (Hof now) sd c D)(J:HOk K11 hs)(M:HOk K11 now)(kl:List Qn)(tl:List Int):∃F C,F<=g+1/\Rk K11 E k m F n C sd (XA kl tl D n)/\(∀x v,C x=some v->v.length<=200/\x∈K11)/\(C=Hof now∨(c≠0/\C=Hof hs)):=by
 rcases h (λj=>kl.getD j []) (λj=>tl.getD j 0) with ⟨h3,h4⟩|⟨F,h3,h4⟩
 .exact⟨g,Hof hs,Qw,KX h4,λx v hx=>⟨J.val _ (B9 hx),J.key _ (B9 hx)⟩,Zy ⟨h3,rfl⟩⟩
 .exact⟨F,Hof now,h3,KX h4,λx v hx=>⟨M.val _ (B9 hx),M.key _ (B9 hx)⟩,Zv rfl⟩
structure RmV(W:Qs)(R:Rg)(E:Nat)(w:Qs)(G:Eg)(V:Ev)(bl:Qj)(hb:Nat)(p:Nat×Bs×Bool)(ha:Qm)(hc:Nat)(hs:QY)(sd sx:Qr)(g:Nat):Prop where
 rm:RmH W w R G V bl hb p ha hc hs sd
 set:QT K11 E R.k R.m R.n g (Hof hs) sx V
 held:HOk K11 hs
 gone:V.P.gone=false
 Za3:V.P.Za3<0
 pl:p.1<R.n
 gE:g<=E
 E1:1<=E
 bel:Below W W w
def RmI(W:Qs)(R:Rg)(E:Nat)(w:Qs):Prop:=∃G V bl hb p ha hc hs sd g,RmV W R E w G V bl hb p ha hc hs sd sd g
def EI(h:HOk K11 hs):(∀x v,Hof hs x=some v->v.length<=200/\x∈K11)/\(∀x v,Hof hs x=some v->(x,v)∈hs)/\∀q∈hs,Hof hs q.1=some q.2/\q.1∈K11/\q.2.length<=200:=⟨λx v hx=>⟨h.val _ (B9 hx),h.key _ (B9 hx)⟩,λx v hx=>B9 hx,λq C=>⟨MJ h.nd C,h.key q C,h.val q C⟩⟩
variable{sx:Qr}
def RmV.mono(h:RmV W R E w G V bl hb p ha hc hs sd sx g)(he:E<=E'):RmV W R E' w G V bl hb p ha hc hs sd sx g:=⟨h.rm,h.set.mono he,h.held,h.gone,h.Za3,h.pl,Zq h.gE he,Zq h.E1 he,h.bel⟩
def RmI.mono(h:RmI W R E w)(he:E<=E'):RmI W R E' w:=by obtain⟨G,V,bl,hb,p,ha,hc,hs,sd,g,h⟩:=h;exact⟨G,V,bl,hb,p,ha,hc,hs,sd,g,h.mono he⟩
def RmV.after(h:RmV W R E w G V bl hb p ha hc hs sd sx g)(C:Below w w w'):RmV W R E w' G V bl hb p ha hc hs sd sx g:=⟨h.rm.after C,h.set,h.held,h.gone,h.Za3,h.pl,h.gE,h.E1,h.bel.trans (C.mono h.bel.size)⟩
def RmV.i(h:RmV W R E w G V bl hb p ha hc hs sd sd g):RmI W R E w:=⟨G,V,bl,hb,p,ha,hc,hs,sd,g,h⟩
def RmV.al(h:RmV W R E w G V bl hb p ha hc hs sd sx g):Jd R.n V:=by rw[<-h.rm.rm.gn];exact h.rm.rm.set.alive
def RmV.ty(h:RmV W R E w G V bl hb p ha hc hs sd sx g)(C:Ty W):Ty w:=RmH.ty C C.lt h.bel
def RmI.look(h:RmI W R E w)(C:Ty W):Calls prog 57 #[R.r] w λe w'=>e=.returned (.tuple #[])/\RmI W R E w':=by obtain⟨G,V,bl,hb,p,ha,hc,hs,sd,g,h⟩:=h;obtain⟨U,O,F⟩:=EI h.held;refine(Z3i W w R G bl hb p ha hc hs sd h.rm h.set F h.rm.rm.gn (h.ty C) C.lt h.gone (by have:=h.held.few BS;omega)).mono ?_;rintro e w' ⟨rfl,⟨bl',J⟩,hB⟩;exact⟨rfl,RmV.i (g:=g) ⟨J,h.set.looked O (λq M=>(F q M).1) h.gone,h.held,h.gone,h.Za3,h.pl,h.gE,h.E1,h.bel.trans hB⟩⟩
def RmI.Zci(h:RmI W R E w)(F:Ty W)(Z:E<=1000000){N:Nat}(M:N<=1000):Calls prog 24 #[R.r,(N:Int)] w λe w'=>e=.returned true/\RmI W R (E+N) w':=by obtain⟨G,V,bl,hb,p,ha,hc,hs,sd,g,h⟩:=h;obtain⟨O,q2,q3⟩:=EI h.held;have U:=h.gE;refine(Z2c W w R G bl hb p ha hc hs sd N h.rm h.set (λx v hx=>(O x v hx).symm) h.rm.rm.gn (h.ty F) F.lt h.pl h.gone h.Za3 Qw h.E1 M Qw).mono ?_;rintro e w' ⟨rfl,⟨bl',J⟩,h2,hB⟩;have C:=h2 N (Zt _);exact⟨rfl,RmV.i (g:=g) ⟨J,C.set,h.held,C.gone,C.Za3,C.pl,Qw,by have:=h.E1;omega,h.bel.trans hB⟩⟩
def RmI.open(h:RmI W R E w)(F:Ty W)(hE:E<=1000000):Calls prog 13 #[R.r] w λe w'=>e=.returned true/\RmI W R (E+1) w':=by obtain⟨G,V,bl,hb,p,ha,hc,hs,sd,g,h⟩:=h;obtain⟨q1,q2,q3⟩:=EI h.held;have ae:=h.gE;obtain⟨bl',Z, -⟩:=h.rm.rm.d;have C:=h.set.Zaj;refine(PB W w R G.p G.ds V.P V.Ds bl' _ _ ha hc hs sd E g (Hof hs) Z h.rm.gB q1 (h.ty F) F.lt h.gone h.Za3 ((h.set.mono (Zel E)).rkD h.al Qw) C.many (λi hi=>C.Za2 i hi) h.E1 Qw Qw).mono ?_;rintro e w' ⟨G',V',bl',hh,rfl,J,M,O,U, -, -,hB, -⟩;exact⟨rfl,RmV.i (g:=g) ⟨J,M,h.held,O,U,by have:=h.pl;show 0<_;omega,Qw,Qw,h.bel.trans hB⟩⟩
def RmI.holds(h:RmI W R E w)(F:Ty W):∃ (T:Qs->Prop) (s:Nat) (ha:Qm) (N hc:Nat),T w/\(∀x,T x->x.cell? ⟨R.r,4,none⟩=s/\x.cell? ⟨R.r,6,none⟩=some (.slice ha N hc))/\(∀x y,T x->Below x.heap.size x y->T y)/\(∀x,T x->RmI W R E x)/\∀x,T x->Calls prog 14 #[s,.slice ha N hc] x λe w'=>e=.returned true/\T w':=by
 obtain⟨G,V,bl,hb,p,ha,hc,hs,sd,g,h⟩:=h;obtain⟨M,O,U⟩:=EI h.held;obtain⟨T,t0,t1,t2,t3,t4⟩:=h.rm.abs h.set h.gone h.Za3 (λx v hx=>(M x v hx).1) (h.ty F) F.lt;refine⟨T,G.s,ha,hs.length,hc,t0,t1,t2,λx hx=> ?_,λx hx=> ?_⟩
 .obtain⟨⟨bl',C⟩, -,hB⟩:=t3 x hx;exact RmV.i (g:=g) ⟨C,h.set,h.held,h.gone,h.Za3,h.pl,h.gE,h.E1,h.bel.trans hB⟩
 .obtain⟨⟨bl',C⟩, -, -⟩:=t3 x hx;refine(t4 x hx hs ha hc h.held C.rm.held).mono ?_;rintro e w' ⟨b,rfl,hb,J⟩;rw[hb.2 λ_=>rfl];exact⟨rfl,J⟩
def Z3n(W w:Qs)(R:Rg)(E:Nat)(G:Eg)(V:Ev)(bl:Qj)(hb:Nat)(p:Nat×Bs×Bool)(ha:Qm)(hc:Nat)(hs:QY)(sd:Qr)(g i:Nat)(N:Int)(h:RmV W R E w G V bl hb p ha hc hs sd sd g)(hi:i<R.n)(n0: -9223372036854775808<=N)(n1:N<=9223372036854775807)(ht:Ty W)(hE:E<=1000000):Calls prog 55 #[R.r,(i:Int),N] w λe w'=>e=.returned true/\RmI W R E w':=by
 have ae:=PA i h.rm.rm hi;have c1:=h.rm.rm.room.c1;have c6:=h.rm.rm.room.c6;have c7:=h.rm.rm.room.c7;have bh:=h.rm.rm.Zaa hi;have df:=h.rm.rm.Zbo hi;have eo:R.n<=16:=by rw[<-h.rm.rm.gn];exact h.rm.rm.set.nle.2
 have cr:=h.held.few BS;have fa:(i:Int)<(R.n:Int):=Qw;obtain⟨O,bf⟩:=ZK (Cy sd R.n R.m i);obtain⟨si,ah⟩:=ZK (sd i);obtain⟨J,aw⟩:=ZK hs.length;rw[bf] at ae;rw[ah] at bh;rw[aw] at c6 cr;by_cases ct:O=true/\si=true/\0<J
 .obtain⟨rfl,rfl,cz⟩:=ct;have hz:((J:Int)==0)=false:=by simp;omega
  obtain⟨S,hM, -⟩:=h.set.Zaj.snd i hi ah;have U:V.Ms i=some S:=hM;obtain⟨b1,b2⟩:=h.set.Zaj.in_ i hi S hM;have ai:QV K11 E (V.Ds i) S:=b1;obtain⟨Za5,dh⟩:=ai.img;obtain⟨-,L,dq⟩:=h.rm.rm.set.dsk (i:=i) (by rw[h.rm.rm.gn];exact hi);have cj:=(h.al i hi).2 (by rw[U];rfl);have dp:=λ(x:Qs) (hb:Below w w x)=>Tc W G.p (G.ds i) V.P (V.Ds i) L S Za5 x (dq.after hb) (FM h.gone cj) dh (by have:=ai.ep;omega);obtain⟨q,hq⟩:=ZK (JH (N.tdiv 512) J);have cu:q<J:=by rw[<-hq];exact Am _ cz
  have dt:q<hs.length:=by rw[aw];exact cu
  obtain⟨ga,rfl,ez,e0, -⟩:=h.rm.rm.held.at_ dt;obtain⟨k1,k2,k3⟩:=(EI h.held).2.2 _ (Zl dt);obtain⟨F,dm⟩:=ZK hs[q];rw[dm] at e0 k1 k2 k3;have fc:=BS.len _ k2;have ek:=Bg F.1 Qw;have er:(nmD F.1).length<=1000000:=by simp[nmD];omega
  have az:stR (V.Ds i).reads S.dir (nmD F.1)=some (some (shL R.k R.m i F.1 F.2)):=by obtain⟨S',y1,y2⟩:=h.set.Zaj.snd i hi ah;rw[show V.Ms i=some S' from y1] at U;cases U;exact y2 _ _ k1
  obtain⟨e,hg⟩:∃e,S.dir.get (nmD F.1)=some e:=by
   cases hg:S.dir.get (nmD F.1) with
   |none=>unfold stR at az;rw[hg] at az;cases az
   |some e=>exact⟨e,rfl⟩
  obtain⟨r1,r2,r3⟩:=ai.runs hg;obtain⟨r,rs,hr⟩:∃r rs,e.runs=r::rs:=by
   cases hr:e.runs with
   |nil=>exact absurd hr r2
   |cons r rs=>exact⟨r,rs,rfl⟩
  have af:=PM bf h.rm.rm.kn h.set.Zaj.many hi;have aq:=λb hb=>h.set.rot h.al hi ah af (b:=b) U k1 hg hr hb;have dy:=λ(x:Qs) (s:Nat) (bj:Wm x s (G.ds i) S)=>Et s (G.ds i) S (nmD F.1) e x bj er hg r2 Qw;have cn:=Mi n0 n1 (c:=512) Qw;have bz:=λ(x:Qs)=>Bh (N.tdiv 512) J x cn.1 cn.2 cz Qw;rw[hq] at bz;obtain⟨b,bu⟩:=ZK (JH N 512);have de:b<512:=by rw[<-bu];exact Am _ Qw
  have ag:=λ(x:Qs)=>Bh N 512 x n0 n1 Qw Qw;rw[bu] at ag;have C:=ZI (ZJ h (ZJ dp (ZJ dy (ZJ bz (ZJ ag (ZJ aq (ZJ hr (ZJ U (ZJ cj (ZJ e0 (ZJ ae (ZJ c6 ai))))))))))));clear h dp dy bz ag aq hr U hM cj e0 ae dq dh b1 b2 ai az hg k1 k2 k3 dm r1 r2 r3 af ah bf aw hq bu cn;go_enter func55,ntmps55;go_wp2_with (first|(go_at_call 54;refine C.2.2.2.2.2.2.2.2.2.2.1.mono ?_;rintro e w2 ⟨rfl,rfl⟩)|(go_at_call 62;refine(C.2.1 _ (by first|exact Zu _ _|exact(Zu _ _).drew)).mono ?_;rintro e w3 ⟨s,rfl,bj,M⟩;have R3:=ZM bj M;clear bj M));obtain⟨-,jj, -,dx⟩:=R3.1.j;obtain⟨NR,ay⟩:=ZK e.runs.length;have ef:((NR:Int)==0)=false:=by rw[<-ay,C.2.2.2.2.2.2.1];simp;omega
  have eh:0<NR:=by rw[<-ay,C.2.2.2.2.2.2.1];simp
  have M:=R3.2.drew;have hs0:w3.drew.cell? ⟨R.r,6,none⟩=some (.slice ga J hc)/\w3.drew.cell? ⟨ga,q*2,none⟩=some (.string (str F.1))/\Wm w3.drew s (G.ds i) S/\Below w w w3.drew:=⟨(M.cell (Z9 _ _ c6)).trans c6,(M.cell (Z9 _ _ C.2.2.2.2.2.2.2.2.2.1)).trans C.2.2.2.2.2.2.2.2.2.1,dx.at_.after ((Zu _ w3).drew),M⟩;have dj:∀x y:Qs,(x.cell? ⟨R.r,6,none⟩=some (.slice ga J hc)/\x.cell? ⟨ga,q*2,none⟩=some (.string (str F.1))/\Wm x s (G.ds i) S/\Below w w x)->Below x x y->(y.cell? ⟨R.r,6,none⟩=some (.slice ga J hc)/\y.cell? ⟨ga,q*2,none⟩=some (.string (str F.1))/\Wm y s (G.ds i) S/\Below w w y):=by rintro x y ⟨h0,h1,h2,h3⟩ hb;exact⟨(hb.cell (Z9 _ _ h0)).trans h0,(hb.cell (Z9 _ _ h1)).trans h1,h2.after hb,h3.trans (hb.mono h3.size)⟩
  have fe:=Zr (N.tdiv 512) (Mi n0 n1 Qw);have HK:=ZM dj ay;clear dj dx M c1 c6 c7 bh df ay;go_region_held3 (λx:Qs=>x.cell? ⟨R.r,6,none⟩=some (.slice ga J hc)/\x.cell? ⟨ga,q*2,none⟩=some (.string (str F.1))/\Wm x s (G.ds i) S/\Below w w x) (first|exact hs0|(exact HK.1 _ _ (by assumption) (by assumption)))
   (first|(go_at_call 9;refine(C.2.2.2.1 _).mono ?_;rintro e w8 ⟨rfl,rfl⟩)|(go_at_call 97;refine(C.2.2.1 _ s (And.left (Zf8 (Zf8 (by assumption))))).mono ?_;rintro e w8 ⟨v8,rfl,⟨a8,ey,rfl,ak⟩,hb8⟩))
  have bq:=(show Below w.heap.size w w8 from Zf8 (Zf8 (Zf8 (by assumption))));obtain⟨g8,fg,rfl,bg⟩:=ak.2.resolve_left (by rw[C.2.2.2.2.2.2.1];simp);rw[C.2.2.2.2.2.2.1] at bg;rw[HK.2];have ee:w8.cell? g8=(r.1:Int):=bg.c0;have bm:=C.1.rm.after bq;obtain⟨c7,bh,eu⟩:=bm.Zc9 hi;have H8:=ZX bm bg bq;clear bm bg bq ak hb8 hs0;go_wp2_with fail;have cy:∀j,j<G.n->∀S,V.Ms j=some S->QV K11 E (V.Ds j) S:=λj hj S hM=>(C.1.set.Zaj.in_ j (by rw[<-C.1.rm.rm.gn];exact hj) S hM).1;have Z:=H8.1.mark cy hi false;obtain⟨fh,r9, -⟩:=H8.1.rm.ZaJ;have du:=H8.2.fr ((Fr.refl [R.gs] w8).setCell (p:=⟨R.gs,i,none⟩) (Zv Qx) (.bool false)) (by rw[Z6];exact Row.ne H8.2 r9 Qz);have cw:Below W W (w8.setCell ⟨R.gs,i,none⟩ (.bool false)):=(C.1.bel.trans (H8.3.mono C.1.bel.size)).trans ((Zu _ _).setCell (p:=⟨R.gs,i,none⟩) H8.1.gB _);generalize w8.setCell ⟨R.gs,i,none⟩ (.bool false)=w9 at*
  have ew:w9.cell? g8=(r.1:Int):=du.c0;have c1:=Z.rm.room.c1;have df:=Z.rm.Zbo hi;obtain⟨x1,x2⟩:=C.2.2.2.2.2.1 b de;have dw:=λ(x:Qs) (hb:Below w9 w9 x)=>Z0Y W x G V bl i r.1 b (Z.rm.set.after hb) (by rw[Z.rm.gn];exact hi) C.2.2.2.2.2.2.2.2.1 C.2.2.2.2.2.2.2.1 x1 de;have HZ:=ZY dw x2 Z cw;clear dw x2 Z cw du cy r9 ee c7 bh eu;go_region_law (first|(go_simp;go_at_call 9;refine(C.2.2.2.2.1 _).mono ?_;rintro e fi ⟨rfl,rfl⟩)|((try go_simp);go_at_call 104;refine(HZ.1 _ ((Zu _ _).drew)).mono ?_;rintro e fj ⟨rfl,aj⟩;have au:=(HZ.3.after ((Zu _ _).drew)).ran aj;have dz:=ZI au;clear aj au))
  all_goals (try go_wp2)
  all_goals
   go_ret;obtain⟨⟨bl',au⟩,hB11⟩:=dz.o;exact⟨rfl,RmV.i (g:=g) ⟨au,HZ.2,C.1.held,C.1.gone,C.1.Za3,C.1.pl,C.1.gE,C.1.E1,HZ.4.drew.trans hB11⟩⟩
 .rcases(show O=false∨(O=true/\si=false)∨(O=true/\si=true/\J=0) by
   cases O<;>cases si<;>simp at ct⊢
   omega) with rfl|⟨rfl,rfl⟩|⟨rfl,rfl,rfl⟩
  all_goals
   have C:=ZM h ae;clear h ae bf ah aw ct;go_enter func55,ntmps55;go_wp2_with (go_at_call 54;refine C.2.mono ?_;rintro e w2 ⟨rfl,rfl⟩);go_ret;exact⟨rfl,C.1.i⟩
def Z3b(W w:Qs)(R:Rg)(E:Nat)(G:Eg)(V:Ev)(bl:Qj)(hb:Nat)(p:Nat×Bs×Bool)(ha:Qm)(hc:Nat)(hs:QY)(sd:Qr)(g:Nat)(o:Tn)(hv:RmV W R E w G V bl hb p ha hc hs sd sd g)(ho:o.Ok W)(ht:Ty W)(hE:E<=1000000):Calls prog 56 #[R.r,.agg #[(o.kind:Int),(o.Za6:Int),(o.num:Int),(o.Za3:Int),.slice o.ea o.el.length o.ec,.slice o.ka o.kl.length o.kc,.slice o.ta o.tl.length o.tc]] w λe w'=>e=.returned true/\RmI W R (E+12) w':=by
 obtain⟨h,hx,ez,hp, -,hi,lq,ij,ix⟩:=hv;have hg:g<=1000000:=Zq lq hE;have ak:=ht.lt;obtain⟨ok,od,on,of,ea,el,ec,ka,kl,kc,ta,tl,tc⟩:=o;obtain⟨-, -,⟨n0,n1⟩,⟨f0,f1⟩,oe,ofw,ji,jk⟩:=ho;dsimp only at n0 n1 f0 f1 oe ofw ji jk⊢;have j7:=ez.few BS;have dy:=(Zu w w).alloc (Zt _) (.cells #[(ok:Int),(od:Int),(on:Int),(of:Int),.slice ea el.length ec,.slice ka kl.length kc,.slice ta tl.length tc] 56);have gy:=Z2 w 56 [.int .i64 ok,.int .i64 od,.int .i64 on,.int .i64 of,.slice ea el.length ec,.slice ka kl.length kc,.slice ta tl.length tc];have kj:∀x v,Hof hs x=some v->v.length<=200/\x∈K11:=λx v hx=>⟨ez.val _ (B9 hx),ez.key _ (B9 hx)⟩;obtain⟨EN,jr⟩:=ZK el.length;obtain⟨KN,ik⟩:=ZK kl.length;obtain⟨TN,iw⟩:=ZK tl.length;have fw:=λ(x:Qs) (hb:Below W W x)=>Pt x ea ec el (oe.after hb) ofw;rw[jr] at dy gy fw⊢;rw[ik,iw] at dy gy⊢;have fj:Row (w.alloc (.cells #[(ok:Int),(od:Int),(on:Int),(of:Int),.slice ea EN ec,.slice ka KN kc,.slice ta TN tc] 56)) w 56 [.int .i64 ok,.int .i64 od,.int .i64 on,.int .i64 of,.slice ea EN ec,.slice ka KN kc,.slice ta TN tc]:=gy;obtain⟨cs,iy⟩:=ZK (JI el);rw[iy] at fw;have ke:cs.length<=4/\(∀c∈cs,c.key∈K11)/\∀c∈cs,∀v,c.val=some v->v.length<=200:=by rw[<-iy];exact⟨NA _,NB _,ND _⟩
 have HN:=ZY ik iw ji jk;have H:=Q1 hx ez ht fw ke hp kj;have HA:=ZO (h.after dy) fj (ix.trans (dy.mono ix.size)) (dy.mono h.rm.bw);clear hx ez ht fw ke hp kj h dy gy fj ix jr ik iw ji jk iy oe ofw;go_enter func56,ntmps56;go_upto_region 1 with fail;generalize w.alloc (.cells #[(ok:Int),(od:Int),(on:Int),(of:Int),.slice ea EN ec,.slice ka KN kc,.slice ta TN tc] 56)=w1 at*
 obtain⟨tb,ky⟩:=ZK w.heap.size;rw[ky] at HA⊢;clear ky;have t4:=HA.2.1.c4;go_wp2_with (go_at_call 10;refine(H.4 _ HA.2.2.1).mono ?_;rintro e w2 ⟨v,rfl,fh,bm⟩;obtain⟨ax,cx,rfl⟩:=Rw fh;have M:=HA.1.after bm;have T2:=HA.2.1.after bm;have c6:=M.rm.room.c6;have c0:=M.rm.room.c0;have t3:=T2.c3;have R2:=ZY M T2 (bm.mono HA.1.rm.bw) fh;clear bm M T2 fh t4);go_still_tail 7,Qy
 still_call (BE (Bh of 700 _ f0 f1 Qw Qw))
 repeat still_step
 change wpList _ _ _ _ _ w2.drew;go_upto_block 0 with (first|(go_at_call 18;have ek:=R2.1.after ((Zu _ w2).drew);refine(ek.Za3 _ (by have:=Am of (show 0<700 by omega);omega)).mono ?_;rintro e w3 ⟨rfl,au,jx,j9⟩;have T3:=j9 _ _ _ Qz (R2.2.after ((Zu _ w2).drew));have t2:=T3.c2;have jf:=R2.4;have R3:=ZY au T3 (R2.3.trans (((Zu _ w2).drew.mono R2.1.rm.bw).trans jx)) j9;clear ek au jx j9 T3 jf t3 c0 c6)|(go_at_call 9;refine(Bh on 3 _ n0 n1 Qw Qw).mono ?_;rintro e w4 ⟨rfl,rfl⟩));have lk:∃V1 ia,RmH W w3 R G V1 ia hb p ha hc hs sd/\QT K11 E R.k R.m R.n g (Hof hs) sd V1/\V1.P.gone=false:=⟨_,bl,R3.1,⟨λP h1 h2=>H.1.set P h1 h2,H.1.o⟩,H.6⟩;obtain⟨V1,ia,au,kz,kx⟩:=lk;have ig:Below W W w3:=HA.2.2.1.trans R3.3;have fp:Ty w3:=RmH.ty H.3 ak ig;have er:Jd R.n V1:=by rw[<-au.rm.gn];exact au.rm.set.alive
 obtain⟨NC,ef⟩:=ZK cs.length;obtain⟨NH,eh⟩:=ZK hs.length;obtain⟨q,hq⟩:=ZK (JH on 3);have mn:q<3:=by rw[<-hq];exact Am _ Qw
 have jw:0<NC->∃gx sp,ax=some ⟨gx,0,none⟩/\NC<=cx/\Row w3 gx 68 (cs.flatMap apC++sp):=λh0=>by
  have fh:=R2.4;obtain⟨gx,ie,mb,lz, -,fx, -,fm⟩:=Bv fh (by rw[ef];exact h0);obtain⟨rfl,rfl⟩:ax=some ⟨gx,0,none⟩/\cx=ie:=by simpa using lz
  exact⟨gx,mb,rfl,by rw[<-ef];exact fx,R3.4 _ _ _ Qz (fm.after ((Zu _ w2).drew))⟩
 have c4:=au.rm.room.c4;have c5:=au.rm.room.c5;have c6:=au.rm.room.c6;rw[ef,eh,hq];rw[eh] at c6;have C:=Q5 au kz kx R3.2 ig fp er jw ef eh;rw[eh] at j7;clear au kz kx ig fp er jw ef eh hq;go_cut [6,7,8] from 31 to 82 (λnv ev _ wx=>CrS W W R G.p G.ds (E+9) g sd ha hc hs tb [.int .i64 ok,.int .i64 od,.int .i64 on,.int .i64 of,.slice ea EN ec,.slice ka KN kc,.slice ta TN tc] nv ev wx)
 case first=>
  rcases(show q=0∨q=1∨q=2 by omega) with rfl|rfl|rfl
  .by_cases h0:0<NC
   .have mi:(0:Int)<(NC:Int):=(by omega);obtain⟨gx,sp,rfl,fx,fm⟩:=C.8 h0;have jy:=Ng w3 R.r ha hc hs gx NC cx cs (by rw[C.10];exact c6) C.1.rm.held (by rw[C.10];omega) (BI.rd ⟨sp,fm⟩) C.9.symm (by have:=H.5.1;have:=C.9;omega);have HX:=ZN jy fm fx;clear jy fm fx;go_wp2_with (first|(go_at_call 12;refine HX.1.mono ?_;rintro e w5 ⟨a5,lh,rfl,kg,fu⟩;have iq:=C.1.after fu;have d4:=iq.rm.room.c4;have R5:=ZO iq kg fu (HX.2.1.after fu);clear iq kg fu c4 c5 c6)|(go_at_call 11;refine(R5.1.ZaD C.2 C.3 (C.6.below R5.2.2.1) ak ij Qw Qw (by intro e9;have O:=C.9;rw[e9] at O;simp at O;omega) H.5.1 H.5.2.1 H.5.2.2 ⟨sp,R5.2.2.2⟩ C.9.symm HX.2.2).mono ?_;rintro e w6 ⟨ev,c,P2,D2,dx,rfl,ay,ah,hcut,bz,gj,cz,bf, -⟩;have R6:=ZR ay ah hcut bz gj cz bf;clear ay ah hcut bz gj cz bf));go_meet
    case rel=>obtain⟨ay,ah,hcut,bz,gj,cz,bf⟩:=R6.o;have hz:=Zq C.5.size R5.2.2.1.size;exact⟨⟨a5,lh,XR hs cs,rfl,bf.held R5.2.1,Z9L H.2 H.5.2.1 H.5.2.2,P2,D2,dx,_,_,c,bz,ah,ay.base hz,by rw[MI];exact hcut.mono Qw,λj hj=>by rw[gj j];have O:(V1.Ds j).Za2<=(E:Int):=C.2.Zaj.Za2 j hj;omega⟩,bf _ _ _ Qz (C.4.after R5.2.2.1),(C.5.trans (R5.2.2.1.mono C.5.size)).trans cz⟩
   .obtain rfl:NC=0:=(by omega);go_wp2_with fail;go_meet
    case rel=>have O:=C.1.calm (E:=E+9) C.2 H.2 C.3 Qw ij Qw C.4 C.5;rw[C.10] at O;exact O
  .go_wp2_with fail;go_loopw [7,8] (λev iv wr=>∃t:Nat,t<=8/\iv=(t:Int)/\((ev=.nilIface/\Row wr tb 56 [(ok:Int),(od:Int),(on:Int),(of:Int),.slice ea EN ec,.slice ka KN kc,.slice ta TN tc]/\Below W W wr/\∃V2 dx p2,RmH W wr R G V2 dx hb p2 ha hc hs sd/\QT K11 (E+t) R.k R.m R.n g (Hof hs) sd V2/\V2.P.gone=false/\p2.1<R.n)∨((∃b,ev=.iface 139 (b:Nat))/\CrS W W R G.p G.ds (E+9) g sd ha hc hs tb [.int .i64 ok,.int .i64 od,.int .i64 on,.int .i64 of,.slice ea EN ec,.slice ka KN kc,.slice ta TN tc] (.slice ha NH hc) ev wr))) (λ_ iv _=>8- (intOf iv).toNat)
   .exact⟨0,Qw,rfl,Zv ⟨rfl,C.4,C.5,V1,ia,p,C.1,C.2,C.3,hi⟩⟩
   obtain⟨t,mo,rfl,⟨rfl,hT,de,V2,dx,p2,M,dj,dz,fa⟩|⟨⟨b,rfl⟩,hCr⟩⟩:=hrel
   .by_cases lr:t<8
    .have lu:(t:Int)<8:=(by omega);have jg:=RmH.ty H.3 ak de;have fo:=OS W wr G dx hb p2 dj (λx v hx=>(H.7 x v hx).symm) M.rm.set M.rm.gn jg ak M.hl fa dz Qw Qw Qw M.hB;have dm:Jd R.n V2:=by rw[<-M.rm.gn];exact M.rm.set.alive
     obtain⟨-,q2⟩:=dj.step (λx v hx=>(H.7 x v hx).symm) dm dz Qw Qw fa;have bg:=Z6W (Hof hs) V2 R.n g p2;have jc:∀j,j<R.n->(V2.Ds j).Za2<=((E+t:Nat):Int):=λj hj=>dj.Zaj.Za2 j hj;obtain⟨r,hr⟩:=ZK (Ja (Hof hs) V2 R.n g p2);rw[hr] at fo q2 bg;obtain⟨c,V4,p4⟩:=r;dsimp only at q2 bg;have c5:=M.rm.room.c5;rcases q2 with ⟨rfl,q5,q6,q7⟩|⟨rfl,q5,q6⟩
     .have F:=ZR fo M q5 q6 q7 hT de;clear fo M q5 q6 q7 hT de hr dj dz fa jg dm bg jc;go_wp2_with (go_at_call 58;refine F.1.mono ?_;rintro e w5 ⟨x1,x2,x3,b1,lj,rfl,cn,l5, -⟩;obtain rfl:=cn.zero;have fq:=F.2.1.ZcG (l5 rfl);have R5:=ZI fq;clear cn l5 fq);go_roundw
      .obtain⟨⟨ib,h5⟩,h6,h7⟩:=R5.o
       repeat apply Exists.intro
       exact⟨⟨t+1,Qw,QC,Zv ⟨rfl,h7 _ _ _ Qz F.2.2.2.2.2.1,F.2.2.2.2.2.2.trans h6,V4,ib,p4,h5,F.2.2.2.1,F.2.2.1,F.2.2.2.2.1⟩⟩,rfl⟩
      simp[intOf];omega
     .have F:=ZS fo M q5 q6 bg jc hT de;clear fo M q5 q6 hT de hr dj dz fa jg dm bg jc;go_wp2_with (go_at_call 58;refine F.1.mono ?_;rintro e w5 ⟨x1,x2,x3,b1,lj,rfl,cn, -,kt⟩;obtain⟨b5,rfl⟩:=(cn.split.resolve_left (λh=>absurd h.1 (show¬ (10:Int)=0 from Qz))).2;have fq:=F.2.1.bad (kt (show(10:Int)≠0 from Qz));have R5:=ZM cn fq;clear cn kt fq);go_roundw
      .obtain⟨cn,ib,h5,h6,h7⟩:=R5.o
       repeat apply Exists.intro
       refine⟨⟨t+1,Qw,QC,Zy ⟨⟨b5,rfl⟩,⟨ha,hc,hs,by rw[C.10],h5.held,H.2,V4.P,V4.Ds,ib,_,_,10,h5,Zy ⟨rfl,F.2.2.1⟩,cn.base F.2.2.2.2.2.2.2.size,λkeep tn=>Zy ⟨g,Qw,(F.2.2.2.1 keep tn).mono Qw⟩,λj hj=> ?_⟩,h7 _ _ _ Qz F.2.2.2.2.2.2.1,F.2.2.2.2.2.2.2.trans h6⟩⟩,rfl⟩;rw[F.2.2.2.2.1 j];have O:=F.2.2.2.2.2.1 j hj;omega
      simp[intOf];omega
    .obtain rfl:t=8:=(by omega);have F:=ZP M dj dz hT de;clear M dj dz hT de fa;go_wp2_with fail;go_meet
     case rel=>have O:=F.1.calm (E:=E+9) F.2.1 H.2 F.2.2.1 Qw Qw Qw F.2.2.2.1 F.2.2.2.2;rw[C.10] at O;exact O
   .have F:=ZI hCr;clear hCr;rcases(show t<8∨t=8 by omega) with lr|rfl
    all_goals
     try have lu:(t:Int)<8:=Qw
     go_wp2_with fail;go_meet
     case rel=>exact F.o
  .obtain⟨ic,dp, -⟩:=C.1.rm.d;have c1:=C.1.rm.room.c1;have c2:=C.1.rm.room.c2;have c3:=C.1.rm.room.c3;have h0:=C.2.Zaj;have bg:∀j,j<R.n->(V1.Ds j).Za2<=(E:Int):=λj hj=>h0.Za2 j hj;have ku:=λ(x:Qs) (hb:Below w3 w3 x)=>(dp.after hb).open (C.6.below hb) ak C.3 ((C.2.mono (Zel E)).rkD C.7 Qw) h0.many bg ij Qw Qw;have HO:=ZX ku bg (C.4.after ((Zu _ w3).drew));clear dp ku bg h0 c4 c5 c6;go_wp2_with fail;go_region_law ((try go_simp);go_at_call 27;refine(HO.1 _ ((Zu _ _).drew)).mono ?_;rintro e w5 ⟨mq,ev,c,P',D',bl',rfl,ay,ah,ey,hcut,hl,hB,hk⟩;have R5:=ZR ay ah ey hcut hl hB hk;clear ay ah ey hcut hl hB hk)
   all_goals (try go_wp2)
   all_goals
    go_meet
    case rel=>obtain⟨ay,ah,ey,hcut,hl,hB,hk⟩:=R5.o;exact⟨⟨ha,hc,hs,by rw[C.10],ey.held,H.2,P',D',bl',_,_,c,ey,ah,ay.base C.5.drew.size,λkeep tn=>Zy ⟨g,Qw,(hcut keep tn).mono Qw⟩,λj hj=>by rw[hl j];have O:=HO.2 j hj;omega⟩,hk _ _ _ Qz HO.3,C.5.drew.trans hB⟩
 case rest=>
  obtain⟨⟨a9,c9,now,rfl,kh,dt,P9,D9,ic,me,ly,c,dp,ah,az,ai,fg⟩,aw,jq⟩:=hcut;have j8:=Z1Q G.p P9 wc dp.pw;have cu:=C.2.Zaj.many;have c0:=dp.room.c0;have t0:=aw.c0;have t1:=aw.c1;have t2:=aw.c2;have t3:=aw.c3;have t4:=aw.c4;have t5:=aw.c5;have t6:=aw.c6;obtain⟨NN,im⟩:=ZK now.length;have cr:=ZI az;obtain⟨g1,H1,mj,jt,ee,js⟩:=ai.one H.2 dt kl tl;have iz:=Mi f0 f1 (c:=700) Qw;have jd:=λ(x:Qs) (P9:Pw) (D9:Nat->Dk) (ic:Qj) (O:RmD W x R G.p G.ds P9 D9 ic me ly ha hc hs sd) (hb:Below W W x)=>O.Zby (.slice ea EN ec) ok od on of (kc:=kc) (tc:=tc) (HN.3.below hb) (HN.4.below hb);rw[HN.1,HN.2] at jd;rw[im];have J:=ZI (ZJ kh (ZJ dt (ZJ dp (ZJ ai (ZJ fg (ZJ aw (ZJ jq (ZJ im (ZJ jd (ZJ cu (ZJ jt (ZJ ee js))))))))))));clear kh dt dp ai fg aw jq im cu jd jt ee js;rcases ah with ⟨rfl,fy⟩|⟨rfl,fy⟩
  case' inl=>obtain rfl:=az.zero
  case' inr=>obtain⟨b9,rfl⟩:=(az.split.resolve_left (λh=>absurd h.1 Qz)).2
  all_goals
   rw[fy] at j8;have HG:=ZM j8 fy;clear j8 fy az;go_wp2_with (first|(go_at_call 105;refine HG.1.mono ?_;rintro e w5 ⟨rfl,rfl⟩)|(go_at_call 19;have m:=cr;clear cr;refine(JL _ _ 10 _ _ m.o Qz).mono ?_;rintro e du ⟨rfl,rfl⟩;clear m)|(go_at_call 20;refine(J.2.2.2.2.2.2.2.2.1 _ _ _ _ J.2.2.1 J.2.2.2.2.2.2.1).mono ?_;rintro e w6 ⟨rfl,⟨mf,bz⟩,cz,bf⟩;have iu:=bf _ _ _ Qz J.2.2.2.2.2.1;have e3:=iu.c3;have e0:=bz.room.c0;have R6:=ZO bz iu (J.2.2.2.2.2.2.1.trans cz) bf;clear bz iu cz bf t0 t1 t2 t3 t4 t5 t6 c0));have ma:=Zr (of.tdiv 700) iz;go_still_tail 8,Qy
   still_call (BE (Bh (of.tdiv 700) 90 _ iz.1 iz.2 Qw Qw))
   clear ma
   repeat still_step
   change wpList _ _ _ _ _ w6.drew;go_wp2_with (go_at_call 18;refine((R6.1.after ((Zu _ w6).drew)).Za3 _ (by have:=Am (of.tdiv 700) (show 0<90 by omega);omega)).mono ?_;rintro e w7 ⟨rfl,eu,jm,ja⟩;have ju:=ja _ _ _ Qz (R6.2.1.after ((Zu _ w6).drew));have c1:=eu.room.c1;have c2:=eu.room.c2;have c3:=eu.room.c3;have R7:=ZY eu ju ((R6.2.2.1.drew).trans jm) (R6.2.2.2.trans ((W6.after ((Zu _ w6).drew)).trans ja));clear eu ju jm ja e3 e0);have fe:∀j,j<R.n->(XA kl tl D9 R.n j).Za2<=((E+9:Nat):Int):=λj hj=>by rw[PE];exact J.2.2.2.2.1 j hj
   have HL:=ZI fe;clear fe;go_still_tail 12,Qy
   repeat still_step
   change wpList _ _ _ _ _ w7.drew;go_wp2_with (first|(go_at_call 27;refine((R7.1.after ((Zu _ w7).drew)).open ((RmH.ty H.3 ak R7.3).below ((Zu _ w7).drew)) ak rfl J.2.2.2.2.2.2.2.2.2.2.1 J.2.2.2.2.2.2.2.2.2.1 HL.o Qw Qw Qw).mono ?_;rintro e w8 ⟨mu,mh,c8,P8,D8,mg,rfl, -, -,kf,bu,kq,jo,jb⟩;have bj:=jb _ _ _ Qz (R7.2.after ((Zu _ w7).drew));have t0:=bj.c0;have t1:=bj.c1;have t2:=bj.c2;have t3:=bj.c3;have t4:=bj.c4;have t5:=bj.c5;have t6:=bj.c6;have R8:=ZZ kf bu kq ((R7.3.drew).trans jo) (R7.4.trans ((W6.after ((Zu _ w7).drew)).trans jb));clear kf bu kq jo jb bj c1 c2 c3)|(go_at_call 20;refine(J.2.2.2.2.2.2.2.2.1 _ _ _ _ R8.1 R8.4).mono ?_;rintro e w9 ⟨rfl,⟨ld,ew⟩,hB9',hk9'⟩;have R9:=ZX ew (R8.4.trans hB9') (R8.5.trans hk9');clear ew hB9' hk9' t0 t1 t2 t3 t4 t5 t6)|(go_at_call 13;refine(PB W _ R G.p G.ds _ _ _ _ _ ha hc hs sd (E+10) g1 H1 R9.1 C.1.gB J.2.2.2.2.2.2.2.2.2.2.2.1 (RmH.ty H.3 ak R9.2) ak rfl (show(-1:Int)<0 by omega) (KX (R8.2 _ _)) J.2.2.2.2.2.2.2.2.2.1 (λj hj=>by rw[PE,R8.3 j];have O:=HL.o j hj;omega) Qw Qw Qw).mono ?_;rintro e mw ⟨G',V',bl',hh,rfl,jl,dh,aq,aj,fi,cj,cy,fc⟩;obtain⟨T,z0,z1,z2,z3,z4⟩:=jl.abs dh aq aj (λx v hx=>(J.2.2.2.2.2.2.2.2.2.2.2.1 x v hx).1) (RmH.ty H.3 ak (R9.2.trans cy)) ak;have y4:=(z1 _ z0).1;have ct:=R9.3.trans fc;have dq:=ct.held J.1;have jz:=z4 _ z0 now a9 c9 J.2.1 dq;have U:=Q3 dh aq aj fi cj (R9.2.trans cy) jz dq;have RT:=ZY z1 z2 z3 z4;clear jl dh aq aj fi cj cy fc z0 z1 z2 z3 z4 jz ct dq)|(go_at_call 14;have m:=U.7;rw[J.2.2.2.2.2.2.2.1] at m;refine m.mono ?_;rintro e du ⟨b1,rfl,ft,eo⟩;clear m;have dw:=ZM ft eo;clear ft eo y4))
  .have bq:∀x:Qs,((x.cell? ⟨R.r,4,none⟩=(G'.s)/\x.cell? ⟨R.r,6,none⟩=some (.slice ha NH hc))/\T x)->Calls prog 14 #[G'.s,.slice ha NH hc] x λe w'=>∃b,e=.returned (.bool b)/\(b=true↔∀y,H1 y=Hof hs y)/\((w'.cell? ⟨R.r,4,none⟩=(G'.s)/\w'.cell? ⟨R.r,6,none⟩=some (.slice ha NH hc))/\T w'):=λx hx=>by obtain⟨⟨dx,h1⟩, -, -⟩:=RT.3 x hx.2;have h2:=RT.4 x hx.2 hs ha hc H.2 h1.rm.held;rw[C.10] at h2;refine h2.mono ?_;rintro e w' ⟨b,rfl,hb,hT⟩;have h3:=RT.1 _ hT;rw[C.10] at h3;exact⟨b,rfl,hb,h3,hT⟩
   have ir:=RT.2 _ _ dw.2 ((Zu _ du).drew);have jh:=RT.1 _ ir;rw[C.10] at jh;have hs0:(du.drew.cell? ⟨R.r,4,none⟩=(G'.s)/\du.drew.cell? ⟨R.r,6,none⟩=some (.slice ha NH hc))/\T du.drew:=⟨jh,ir⟩;have HX:=ZI bq;clear bq ir jh;obtain⟨y4,y6⟩:=hs0.1;go_region_held3 (λx:Qs=>(x.cell? ⟨R.r,4,none⟩=(G'.s)/\x.cell? ⟨R.r,6,none⟩=some (.slice ha NH hc))/\T x) (first|exact hs0|assumption)
    (first|(go_at_call 14;refine(HX.o _ (by assumption)).mono ?_;rintro e l7 ⟨b2,rfl,bm,df⟩))
   have bh:=(show T l7 from Zf8 (by assumption));clear hs0 y4 y6;cases b1 with
   |true=>have HF:=ZM bh (dw.1.1 rfl);clear bh bm;have ag:=U.1;rw[show H1=Hof now from funext HF.2] at ag;obtain⟨⟨af,Z⟩,hk12,ae⟩:=RT.3 _ HF.1;have f6:=Z.rm.room.free (j:=6) (by simp[By]);have d6:=Z.rm.room.c6;have cw:=Z.tell (hc':=c9) (hk12.held U.8);rw[J.2.2.2.2.2.2.2.1] at cw;have HZ:=ZO ag cw ae Z.rm.rB;clear ag cw Z hk12 ae;go_wp2;go_ret;exact⟨rfl,G',V',af,hh,(0,[],false),a9,c9,now,sd,g1,HZ.2.1,HZ.1.mono Qw,J.2.1,U.2,U.3,Zfe (Zet _) hi,Qw,Qw,(U.6.trans HZ.2.2.1).trans ((Zu _ _).setCell (p:=⟨R.r,6,none⟩) HZ.2.2.2 _)⟩
   |false=>
    have je:H1=Hof hs:=(J.2.2.2.2.2.2.2.2.2.2.2.2.resolve_left (λO=>by
     have h8:=dw.1.2 λy=>by rw[O]
     cases h8)).2
    obtain rfl:b2=true:=bm.2 λy=>(by rw[je]);have ag:=U.1;rw[je] at ag;obtain⟨⟨af,Z⟩,hk12,ae⟩:=RT.3 _ bh;have HZ:=ZN ag Z ae;clear ag Z hk12 ae bh bm je;go_wp2;go_ret;exact⟨rfl,G',V',af,hh,(0,[],false),ha,hc,hs,sd,g1,HZ.2.1,HZ.1.mono Qw,H.2,U.2,U.3,Zfe (Zet _) hi,Qw,Qw,U.6.trans HZ.2.2⟩
  .have ft:b1=true:=dw.1.2 λy=>(by rw[J.2.2.2.2.2.2.2.2.2.2.2.2.resolve_right (λh=>h.1 rfl)]);subst ft;go_quiet (fail);have df:=RT.2 _ _ dw.2 (YE (Zu _ du) nq);generalize du.drewN nq=l7 at*
   have HF:=ZM df (dw.1.1 rfl);clear df;have ag:=U.1;rw[show H1=Hof now from funext HF.2] at ag;obtain⟨⟨af,Z⟩,hk12,ae⟩:=RT.3 _ HF.1;have f6:=Z.rm.room.free (j:=6) (by simp[By]);have d6:=Z.rm.room.c6;have cw:=Z.tell (hc':=c9) (hk12.held U.8);rw[J.2.2.2.2.2.2.2.1] at cw;have HZ:=ZO ag cw ae Z.rm.rB;clear ag cw Z hk12 ae;go_wp2;go_ret;exact⟨rfl,G',V',af,hh,(0,[],false),a9,c9,now,sd,g1,HZ.2.1,HZ.1.mono Qw,J.2.1,U.2,U.3,Zfe (Zet _) hi,Qw,Qw,(U.6.trans HZ.2.2.1).trans ((Zu _ _).setCell (p:=⟨R.r,6,none⟩) HZ.2.2.2 _)⟩
def RmI.Zb6(h:RmI W R E w)(o:Tn)(F:o.Ok W)(J:Ty W)(C:E<=1000000):Calls prog 56 #[R.r,.agg #[(o.kind:Int),(o.Za6:Int),(o.num:Int),(o.Za3:Int),.slice o.ea o.el.length o.ec,.slice o.ka o.kl.length o.kc,.slice o.ta o.tl.length o.tc]] w λe w'=>e=.returned true/\RmI W R (E+12) w':=by obtain⟨G,V,bl,hb,p,ha,hc,hs,sd,g,h⟩:=h;exact Z3b W w R E G V bl hb p ha hc hs sd g o h F J C
section
variable{i:Nat}
def RmV.Zbk(h:RmV W R E w G V bl hb p ha hc hs sd sd g)(hi:i<R.n)(hm:Cy sd R.n R.m i=true){D:Dk}(hl:D.Za2<=(V.Ds i).Za2+1)(M:JF D){bl':Qj}(F:RmH W w' R G {V with Ds:=upd V.Ds i D,Ms:=upd V.Ms i none} bl' hb p ha hc hs sd)(hB:Below W w w'):RmI W R (E+1) (w'.setCell ⟨R.gs,i,none⟩ (.bool false)):=by have C:=h.set.Zaj;have O:(V.Ds i).Za2<=(E:Int):=C.Za2 i hi;have hx:=h.set.ZbQ (i:=i) (D:=D) Qw (PM hm h.rm.rm.kn C.many hi) M;refine RmV.i (g:=g) ⟨F.mark (λj J S hM=>(hx.Zaj.in_ j (by rw[<-h.rm.rm.gn];exact J) S hM).1) hi false,hx,h.held,h.gone,h.Za3,h.pl,by have:=h.gE;omega,Qw,(h.bel.trans hB).trans ((Zu _ _).setCell (p:=⟨R.gs,i,none⟩) F.gB _)⟩
end
def Z3q(W w:Qs)(R:Rg)(E:Nat)(o:Tn)(h:RmI W R E w)(ho:o.Ok W)(ht:Ty W)(hE:E<=900):Calls prog 21 #[R.r,.agg #[(o.kind:Int),(o.Za6:Int),(o.num:Int),(o.Za3:Int),.slice o.ea o.el.length o.ec,.slice o.ka o.kl.length o.kc,.slice o.ta o.tl.length o.tc]] w λe w'=>e=.returned true/\RmI W R (E+20) w':=by
 obtain⟨G,V,bl,hb,p,ha,hc,hs,sd,g,h⟩:=h;have eh:=ht.lt;have ai:=λ(x:Qs) (hR:RmI W R E x)=>hR.Zb6 o ho ht Qw;obtain⟨ok,od,on,of,ea,el,ec,ka,kl,kc,ta,tl,tc⟩:=o;obtain⟨⟨z0,z1⟩,⟨d0,d1⟩,⟨n0,n1⟩,⟨f0,f1⟩,oe,ofw,okp,otn⟩:=ho;dsimp only at z0 z1 d0 d1 n0 n1 f0 f1 oe ofw okp otn ai⊢;have ef:=h.held.few BS;have ek:R.n<=16:=by rw[<-h.rm.rm.gn];exact h.rm.rm.set.nle.2
 have dt:0<R.n:=by have:=h.pl;omega
 have au:=(Zu w w).alloc (Zt _) (.cells #[(ok:Int),(od:Int),(on:Int),(of:Int),.slice ea el.length ec,.slice ka kl.length kc,.slice ta tl.length tc] 56);have aw:=Z2 w 56 [.int .i64 ok,.int .i64 od,.int .i64 on,.int .i64 of,.slice ea el.length ec,.slice ka kl.length kc,.slice ta tl.length tc];obtain⟨EN,cw⟩:=ZK el.length;obtain⟨KN,cy⟩:=ZK kl.length;obtain⟨TN,cz⟩:=ZK tl.length;have ah:=λ(x:Qs) (hb:Below W W x)=>Pt x ea ec el (oe.after hb) ofw;rw[cw] at au aw ah ai⊢;rw[cy,cz] at au aw ai⊢;have aj:Row (w.alloc (.cells #[(ok:Int),(od:Int),(on:Int),(of:Int),.slice ea EN ec,.slice ka KN kc,.slice ta TN tc] 56)) w 56 [.int .i64 ok,.int .i64 od,.int .i64 on,.int .i64 of,.slice ea EN ec,.slice ka KN kc,.slice ta TN tc]:=aw;obtain⟨cs,bq⟩:=ZK (JI el);rw[bq] at ah;have df:cs.length<=4/\(∀c∈cs,c.key∈K11)/\∀c∈cs,∀v,c.val=some v->v.length<=200:=by rw[<-bq];exact⟨NA _,NB _,ND _⟩
 obtain⟨NC,az⟩:=ZK cs.length;rw[az] at ah;obtain⟨i,hi⟩:=ZK (JH od R.n);have M:i<R.n:=by rw[<-hi];exact Am _ dt
 have fc:(i:Int)<(R.n:Int):=Qw;have bj:=λ(x:Qs)=>Bh od R.n x d0 d1 dt Qw;rw[hi] at bj;obtain⟨nh,cj⟩:=ZK (JH on 20);have du:nh<20:=by rw[<-cj];exact Am _ Qw
 have bm:=λ(x:Qs)=>Bh on 20 x n0 n1 Qw Qw;rw[cj] at bm;have H:=Q1 ht ah df az bj bm ai;have HA:=ZM (h.after au) aj;have er:w.heap.size<4611686018427387904∨True:=Zy trivial;clear ht ah df az bj bm ai h au aw aj cw cy cz okp otn bq oe ofw hi cj er;go_enter func21,ntmps21;go_upto_region 1 with fail;generalize w.alloc (.cells #[(ok:Int),(od:Int),(on:Int),(of:Int),.slice ea EN ec,.slice ka KN kc,.slice ta TN tc] 56)=w1 at*
 obtain⟨tb,dw⟩:=ZK w.heap.size;rw[dw] at HA⊢;clear dw;have t1:=HA.2.c1;have c1:=HA.1.rm.rm.room.c1;go_quiet ((go_at_call 9;exact Calls.quiet_of_same ((H.5 _).mono λe w' h=>⟨h.1,h.2.symm⟩)));have bf:=HA.1.after (YE (Zu _ w1) nq);have bg:=HA.2.after (YE (Zu _ w1) nq);generalize w1.drewN nq=wq at*
 clear t1 c1;obtain⟨mm,bz⟩:=ZK (Cy sd R.n R.m i);have af:=PA i bf.rm.rm M;rw[bz] at af;have t0:=bg.c0;have C:=ZY bf bg af bz;clear bf bg af bz;go_upto_block 0 with (go_at_call 54;refine C.3.mono ?_;rintro e w2 ⟨rfl,rfl⟩);have hR:=C.1;have t0:=C.2.c0;have t1:=C.2.c1;have t2:=C.2.c2;have t3:=C.2.c3;have t4:=C.2.c4;have t5:=C.2.c5;have t6:=C.2.c6;have c1:=hR.rm.rm.room.c1;have Z:=hR.rm.rm.Zbo M;have dp:(V.Ds i).Za2<=1000:=by have h9:(V.Ds i).Za2<=(E:Int):=hR.set.Zaj.Za2 i M;omega
 have J:=ZI (hR.mono (show E<=E+20 by omega)).i;clear hR;go_cut [7,8] from 22 to 100 (λey _ wx=>ey=.bool true/\RmI W R (E+20) wx)
 case first=>
  cases mm
  all_goals
   go_wp2_with (first|(go_at_call 10;refine(H.2 _ C.1.bel).mono ?_;rintro e w5 ⟨v,rfl,cn,de⟩;obtain⟨ax,cx,rfl⟩:=Rw cn;have ak:=C.1.after de;have e4:=ak.rm.rm.room.c4;clear J;have J:=ZI (ak.mono (show E<=E+20 by omega)).i;have O:=ZM ak cn;clear cn de ak t0 t1 t2 t3 t4 t5 t6 c1 Z)|(go_at_call 26;refine(C.1.rm.kill M dp).mono ?_;rintro e w5 ⟨rfl,⟨dz,F⟩,hB5⟩;obtain⟨m7,eu,ew⟩:=F.Zc9 M;clear J;have J:=ZI ((C.1.Zbk M C.4 (show(V.Ds i).Za2+1<=(V.Ds i).Za2+1 from Zf2 _) (Z30 _) F hB5).mono (show E+1<=E+20 by omega));clear F hB5 t0 t1 t2 t3 t4 t5 t6 c1 Z)|(go_at_call 23;refine(C.1.rm.ZcR M dp).mono ?_;rintro e w5 ⟨rfl,⟨dz,F⟩,hB5⟩;obtain⟨m7,eu,ew⟩:=F.Zc9 M;clear J;have J:=ZI ((C.1.Zbk M C.4 (show(V.Ds i).Za2+1<=(V.Ds i).Za2+1 from Zf2 _) (Z5i (C.1.al i M).1) F hB5).mono (show E+1<=E+20 by omega));clear F hB5 t0 t1 t2 t3 t4 t5 t6 c1 Z)|(go_at_call 55;refine(Z3n W wq R E G V bl hb p ha hc hs sd g i on C.1 M n0 n1 H.1 Qw).mono ?_;rintro e w5 ⟨rfl,F⟩;clear J;have J:=ZI (F.mono (show E<=E+20 by omega));clear F t0 t1 t2 t3 t4 t5 t6 c1 Z)|(go_at_call 24;refine(C.1.i.Zci H.1 Qw (N:=nh) Qw).mono ?_;rintro e w5 ⟨rfl,F⟩;clear J;have J:=ZI (F.mono (show E+nh<=E+20 by omega));clear F t0 t1 t2 t3 t4 t5 t6 c1 Z)|(go_at_call 9;refine(H.6 _).mono ?_;rintro e w5 ⟨rfl,rfl⟩)|(go_at_call 56;refine(H.7 _ C.1.i).mono ?_;rintro e w5 ⟨rfl,F⟩;clear J;have J:=ZI (F.mono (show E+12<=E+20 by omega));clear F t0 t1 t2 t3 t4 t5 t6 c1 Z)|(go_at_call 13;refine(C.1.i.open H.1 Qw).mono ?_;rintro e w5 ⟨rfl,F⟩;clear J;have J:=ZI (F.mono (show E+1<=E+20 by omega));clear F t0 t1 t2 t3 t4 t5 t6 c1 Z)|(go_at_call 11;have h0:0<NC:=Qw;obtain⟨gx,ay,dy,dx, -,ee, -,cr⟩:=Bv O.2 h0;obtain⟨rfl,rfl⟩:ax=some ⟨gx,0,none⟩/\cx=ay:=(by simpa using dx);refine(O.1.rm.ZaD O.1.set O.1.gone (O.1.ty H.1) eh O.1.E1 Qw (by have:=O.1.gE;omega) (by intro e9;have h9:=H.4;rw[e9] at h9;simp at h9;omega) H.3.1 H.3.2.1 H.3.2.2 ⟨dy,cr⟩ H.4.symm ee).mono ?_;rintro e w6 ⟨ev,c,P2,D2,ez,rfl,dh, -, -, -, -,cu,dm,ae⟩;obtain⟨rfl,V6,fa,h6,h7,h8,h9⟩:=ae O.1.Za3;obtain rfl:=dh.zero;have g6:=h6.rm.room.c6;have U:=Q0 h6 h7 h8 h9 cu (dm _ _ _ Qz cr);clear h6 h7 h8 h9 cu dm ae dh cr dx e4)|(go_at_call 12;refine(Ng w6 R.r ha hc hs gx NC cx cs g6 U.1.rm.held Qw (BI.rd ⟨dy,U.6⟩) H.4.symm (by have:=H.3.1;have:=H.4;omega)).mono ?_;rintro e w7 ⟨a7,ct,rfl,dj,bh⟩;have ag:=U.1.after bh;have i6:=ag.rm.room.c6;have f6:=ag.rm.room.free (j:=6) (by simp[By]);clear J;have J:=ZI (show RmI W R (E+20) (w7.setCell ⟨R.r,6,none⟩ (.slice a7 (XR hs cs).length ct)) from RmV.i (g:=g+1) ⟨ag.tell (hc':=ct) dj,by rw[MI];exact U.2.mono Qw,Z9L C.1.held H.3.2.1 H.3.2.2,U.3,U.4,C.1.pl,by have:=C.1.gE;omega,Qw,(O.1.bel.trans U.5).trans ((bh.mono U.1.rm.bw).trans ((Zu _ _).setCell (p:=⟨R.r,6,none⟩) ag.rm.rB _))⟩);clear ag dj bh g6))
   all_goals
    go_meet
    case rel=>exact⟨rfl,J.o⟩
 case rest=>
  obtain⟨rfl,hI⟩:=hcut;have dq:=hI.look H.1;have HL:=ZI dq;clear dq hI t0 t1 t2 t3 t4 t5 t6 c1 Z J;go_wp2_with (go_at_call 57;refine HL.o.mono ?_;rintro e w5 ⟨rfl,F⟩;have O:=ZI F;clear F);obtain⟨T,s,a9,N9,c9,z0,z1,z2,z3,z4⟩:=O.o.holds H.1;have bu:=z2 _ _ z0 ((Zu _ w5).drew);have hs0:=ZJ (z1 _ bu) bu;have HZ:=ZX z1 z3 z4;obtain⟨y4,y6⟩:=hs0.1;clear z0 z1 z2 z3 z4 bu;go_region_held3 (λx:Qs=>(x.cell? ⟨R.r,4,none⟩=s/\x.cell? ⟨R.r,6,none⟩=some (.slice a9 N9 c9))/\T x) (first|exact hs0|assumption)
   (first|(go_at_call 14;refine(HZ.3 _ (Zf8 (by assumption))).mono ?_;rintro e w6 ⟨rfl,aq⟩;have eo:=ZJ (HZ.1 _ aq) aq))
  have HT:=ZI aq;clear aq eo hs0 y4 y6;go_wp2;go_ret;exact⟨rfl,HZ.2 _ HT.o⟩
variable{B':Nat}
def MV(W:Qs)(a:Qm)(l:List Tn):Prop:=∀i (h:i<l.length),l[i].Ok W/\∃b o,a=some ⟨b,o,none⟩/\b<W.heap.size/\∀j v,l[i].cells[j]? =some v->W.cell? ⟨b,o+i*7+j,none⟩=some v
def PD.low{p d:Nat}{L:Qj}(h:PD B w p d n P D L)(hB:B'<=B):PD B' w p d n P D L:=⟨h.pw,h.pok,h.dk,h.ok,Zq hB h.bp,λk C=>Zq hB (h.bL k C)⟩
def EAt.low(h:EAt B w G V bl)(hB:B'<=B):EAt B' w G V bl:=by obtain⟨Ls,Os,e,C⟩:=h;exact⟨Ls,Os,e,C.set,C.mem,C.n1,C.n16,λi hi=>(C.pd i hi).low hB,C.dap,C.at_,C.oap,λi hi k F=>Zq hB (C.bO i hi k F),Zq hB C.bs⟩
def Ys.low(h:Ys B w R G V bl sv hv ha hc hs sd)(hB:B'<=B):Ys B' w R G V bl sv hv ha hc hs sd:=⟨h.room,h.Zax,h.ZaJ,h.held,h.set.low hB,Zq hB h.rB,h.gn,h.kn,h.k1⟩
def RmI.start{hh:Nat}(C:Ys W w R G V bl (.pointer G.s) (.pointer hh) none 0 [] (λ_=>true))(h:Y0 K11 2 R.k R.m R.n 0 (λ_=>none) (λ_=>true) V)(J:W<=R.gs)(hB:W<=hh)(hl:X0 w hh G.s 0 [] false)(hb:Below W W w):RmI W R 2 w:=by
 have M:0<R.n:=by have:=C.kn;have:=C.k1;omega
 refine⟨G,V,bl,hh,(0,[],false),none,0,[],λ_=>true,0,⟨C,hl,hB,J⟩,QT.of h (λi hi hM=> ?_),HOk.nil K11,h.gone,h.Za3,M,Qw,Qw,hb⟩;obtain⟨S,F, -⟩:=h.snd i hi rfl;rw[hM] at F;cases F
def survives_walk(k m:Int)(a:Qm)(cp:Nat)(l:List Tn)(k0: -9223372036854775808<=k)(k1:k<=9223372036854775807)(m0: -9223372036854775808<=m)(m1:m<=9223372036854775807)(W:Qs)(hl:MV W a l)(hn:l.length<=9223372036854775807)(ht:Ty W):Calls prog 5 #[k,m,.slice a l.length cp] W λe W'=>e=.returned true/\Below W W W':=by
 have ct:=ht.lt;obtain⟨N,hN⟩:=ZK l.length;obtain⟨kk,ah⟩:=ZK (JH k 4);obtain⟨mm,ai⟩:=ZK (JH m 4);have cu:kk<4:=by rw[<-ah];exact Am _ Qw
 have cy:mm<4:=by rw[<-ai];exact Am _ Qw
 have Z:=λ(x:Qs)=>Bh k 4 x k0 k1 Qw Qw;have ag:=λ(x:Qs)=>Bh m 4 x m0 m1 Qw Qw;rw[ah] at Z;rw[ai] at ag;obtain⟨U,bh⟩:=ZK (1+kk);have cw:(1:Int)+(kk:Int)=(U:Int):=Qw;have aw:=λ(x:Qs) (hx:Ty x)=>RR x U mm Qw Qw Qw hx;have H:=ZZ hl ht aw hN hn;have MK:=ZI Z;have MM:=ZI ag;rw[hN] at hn⊢;clear hl ht Z ag aw hN ah ai bh;go_enter func5,ntmps5;go_wp2_with (first|(go_at_call 7;refine(Vd _ H.2).mono ?_;rintro e w1 ⟨rfl,ak⟩;have C:=ZI ak;clear ak)|(go_at_call 9;have m9:=MK;clear MK;refine(m9.o _).mono ?_;rintro e w2 ⟨rfl,rfl⟩;clear m9)|(go_at_call 9;have m9:=MM;clear MM;refine(m9.o _).mono ?_;rintro e w2 ⟨rfl,rfl⟩;clear m9)|(go_at_call 8;refine(H.3 _ (H.2.below C.o)).mono ?_;rintro e w2 ⟨R,G,V,bl,hh,rfl,hR,au,hk,hm,hg,hB,hl,aq⟩;have aj:=hR.low C.o.size;have c5:=hR.room.c5;have R2:=ZI (RmI.start aj au (Zq C.o.size hg) (Zq C.o.size hB) hl (C.o.trans (aq.mono C.o.size)));clear hR au hk hm hg hB hl aq aj));go_loopw [9,10] (λiv _ wr=>∃t:Nat,t<=N/\t<=30/\iv=(t:Int)/\RmI W R (2+20*t) wr) (λiv _ _=>30- (intOf iv).toNat)
 .exact⟨0,Qw,Qw,rfl,R2.o⟩
 obtain⟨t,cz,bq,rfl,O⟩:=hrel;by_cases F:t<N/\t<30
 .obtain⟨F,cn⟩:=F;have bu:(t:Int)<(N:Int):=Qw;have cr:(t:Int)<30:=Qw;have bz:t<l.length:=by rw[H.4];exact F
  obtain⟨ho,b,of,rfl,hb,af⟩:=H.1 t bz;obtain⟨x,hx⟩:=ZK l[t];rw[hx] at ho af;obtain⟨G,V,bl,bf,p9,az,bg,bm,cj,g9,J⟩:=id O;have ae:=J.bel;have h:=λ(j:Nat) (v:Qt) (h9:x.cells[j]? =some v)=>(ae.cell (p:=⟨b,of+t*7+j,none⟩) hb).trans (af j v h9);have q0:=h 0 _ rfl;have q1:=h 1 _ rfl;have q2:=h 2 _ rfl;have q3:=h 3 _ rfl;have q4:=h 4 _ rfl;have q5:=h 5 _ rfl;have q6:=h 6 _ rfl;rw[ZeE] at q0;have ay:=Z3q W wr R (2+20*t) x O ho H.2 Qw;have M:=ZI ay;clear h af ae J hx ho O ay;go_wp2_with (go_at_call 21;refine M.o.mono ?_;rintro e w5 ⟨rfl,h5⟩;have R5:=ZI h5;clear h5);go_roundw
  .exact⟨t+1,Qw,Qw,QC,by have h9:=R5.o;rw[show 2+20*(t+1)=2+20*t+20 from Qw];exact h9⟩
  simp[intOf];omega
 .obtain⟨G,V,bl,bf,p9,az,bg,bm,cj,g9,J⟩:=O;have M:=ZI J.bel;clear J;rcases(show(t<N/\t=30)∨t=N by omega) with ⟨bj,rfl⟩|rfl
  .have bu:(30:Int)<(N:Int):=(by omega);clear F;go_wp2_with fail;go_ret;exact⟨rfl,M.o⟩
  .clear F;go_wp2_with fail;go_ret;exact⟨rfl,M.o⟩
open Go.ChangeShapes Go.WideShapes Go.Deep
variable{H:Type}{enc:Qu×Qt->H}
def LW{T e:Qu}(hu:prog.underlying T=some (.slice e)){fuel:Nat}{v:Qt}{y:DataW H×List MemPlace}(h:DataW.trod enc prog W 0 (λ_=>true) true fuel T [v]=some y):∃A L C,v=.slice A L C:=by
 rcases open_slice hu h with ⟨F,_⟩|⟨x,l,c,m,n,D,J,F,_⟩
 .exact⟨none,0,0,by simpa using F⟩
 .exact⟨some x,l,c,by simpa using F⟩
def Z7o{fuel:Nat}{cs:Qk}{x:DataW H×List MemPlace}(h:DataW.trod enc prog W 0 (λ_=>true) true fuel 56 cs=some x):∃o:Tn,cs=o.cells/\o.Ok W:=by
 obtain⟨F,af,ae,hC,U⟩:∃F,prog.underlying 56=some (.struct F)/\oneCellFields prog F=true/\prog.cellsOf 56=F.size/\F.map (·.type)= #[3,3,3,3,29,45,46]:=⟨_,underlying56,Qy,Qy,Qy⟩;obtain⟨hl,C⟩:=Ol af ae hC h;have hs:F.size=7:=by have:=ZF Array.size U;simpa using this
 rw[U] at C;rw[hs] at hl
 match cs,hl with
 |[c0,c1,c2,c3,c4,c5,c6],_=>obtain⟨_,_,_,e0,h0⟩:=C 0 _ rfl;obtain⟨_,_,_,e1,h1⟩:=C 1 _ rfl;obtain⟨_,_,_,e2,h2⟩:=C 2 _ rfl;obtain⟨_,_,_,e3,h3⟩:=C 3 _ rfl;obtain⟨_,_,_,e4,J⟩:=C 4 _ rfl;obtain⟨_,Z,n5,e5,M⟩:=C 5 _ rfl;obtain⟨_,y6,n6,e6,O⟩:=C 6 _ rfl;obtain rfl:c0=_:=Zdu e0;obtain rfl:c1=_:=Zdu e1;obtain rfl:c2=_:=Zdu e2;obtain rfl:c3=_:=Zdu e3;obtain rfl:c4=_:=Zdu e4;obtain rfl:c5=_:=Zdu e5;obtain rfl:c6=_:=Zdu e6;obtain⟨m0,rfl,a0,b0⟩:=Fu h0;obtain⟨m1,rfl,a1,b1⟩:=Fu h1;obtain⟨m2,rfl,a2,b2⟩:=Fu h2;obtain⟨m3,rfl,a3,b3⟩:=Fu h3;obtain⟨A4,L4,C4,rfl⟩:=LW underlying29 J;obtain⟨A5,L5,C5,rfl⟩:=LW underlying45 M;obtain⟨A6,L6,C6,rfl⟩:=LW underlying46 O;obtain⟨el,rfl,g1,g2,g3⟩:=Ko J;obtain⟨kl,rfl,k3⟩:=Vr (d:=Z.1) (p:=Z.2) ⟨n5,M⟩;obtain⟨tl,rfl,t3⟩:=Z7n (d:=y6.1) (p:=y6.2) ⟨n6,O⟩;exact⟨⟨m0,m1,m2,m3,A4,el,C4,A5,kl,C5,A6,tl,C6⟩,rfl,⟨a0,b0⟩,⟨a1,b1⟩,⟨a2,b2⟩,⟨a3,b3⟩,g3,Zq g1 g2,k3,t3⟩
theorem turns_open{a:Qm}{len cap:Nat}{d:DataW H}{p:List MemPlace}(h:DataW.Trod enc prog W 0 (λ_=>true) true 59 (.slice a len cap) d p):∃l:List Tn,len=l.length/\len<=cap/\cap<=maxLen/\MV W a l:=by
 obtain⟨fuel,hf⟩:=h;rcases open_slice underlying59 hf with ⟨C,_⟩|⟨x,l,c,m,n,D,Pl,C,_,hl,hm,ag,_,hi⟩
 .simp[Value.cells] at C;obtain⟨rfl,rfl,rfl⟩:=C;exact⟨[],rfl,Zt _,Zet _,λi hi=>by simp at hi⟩
 .simp[Value.cells] at C;obtain⟨rfl,rfl,rfl⟩:=C;simp at ag;have h3:prog.cellsOf 56=7:=Qy;rw[h3] at hi;have hex:∀i,i<len->∃e:Tn,e.Ok W/\∀j v,e.cells[j]? =some v->W.cell? ((x.add (i*7)).add j)=some v:=by intro i af;obtain⟨ah,hc,ht⟩:=hi i Qw;obtain⟨e,rfl,M⟩:=Z7o ht;obtain⟨_,aj,ai⟩:=World.cells?_some hc;grind
  have:Inhabited Tn:=⟨⟨0,0,0,0,none,[],0,none,[],0,none,[],0⟩⟩;obtain⟨f,J⟩:=choose_lt (α:=Tn) hex;refine⟨(List.range len).map f,Qx,hl,hm,λi af=> ?_⟩;have U:i<len:=QB;have e0:((List.range len).map f)[i]=f i:=Qx;rw[e0];obtain⟨M,F⟩:=J i U;have Z:=F 0 _ rfl;have ae:=(J 0 Qw).2 0 _ rfl;obtain⟨b,o,spot⟩:=x;have O:spot=none:=by simpa[Addr.add] using Zg8 ae
  subst O;have ea:∀j,((⟨b,o,none⟩:Addr).add (i*7)).add j=⟨b,o+i*7+j,none⟩:=by intro j;unfold Addr.add;grind
  refine⟨M,b,o,rfl,?_,λj v hj=> ?_⟩
  .have:=Z;rw[ea] at this;exact Gw this
  .have:=F j v hj;rw[ea] at this;exact this
