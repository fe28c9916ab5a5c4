/- Part 13: lemmas about what the program computes. -/
import Derived.Deep.OwnRows
import Derived.Test.YthppfllkocphbaaGreatDoorX11
namespace Go.Proofs.YthppfllkocphbaaGreatDoor
set_option linter.all false
set_option maxHeartbeats 25600000
set_option maxRecDepth 100000
open Tryz
open Go renaming World->Qs,Value->Qt,TypeId->Qu,Ending->Qv
section
open Go.RowKit Go.Shelf
def Z6Z:(prog.info? 89).map (λi=>(i.zero,i.size,i.bytes))=some (some (.pointer none),1,8):=Qy
def II(D:Dk):Prop:=D.dead=true∨(D.dead=false/\(D.text 0 100).getD 0 0≠1/\(D.text 100 100).getD 0 0≠1)
theorem Z6H(B p d:Nat)(P:Pw)(D:Dk)(L:Qj)(w:Qs)(h:PD B w p d 800 P D L)(J:Ty w)(F:P.gone=false)(U:II D):Calls prog 62 #[d] w λe w'=>∃c ev,c≠0/\c≠10/\e=.returned (.tuple #[.pointer none,ev])/\QK w' w c ev/\Below w w w':=by
 rcases U with C|⟨C,M,O⟩
 .have e:WP P D=11:=by unfold WP;rw[F,C];rfl
  refine(Z6E B p d P D L w h J Qw).mono ?_;grind
 .refine(Z6F B p d P D L w h J (FM F C) M O).mono ?_;grind
def IG(k m i:Nat)(T:Tab)(γ:Int):Prop:=(∃g:Nat,γ=g/\g<=1000000000/\T nmC=some (some (YM k m i g)))∨(γ= -1/\T nmC=none)
structure AI(K:List Bs)(E k m g i:Nat)(D:Dk)(S:Option Sto)(γ:Int)(I:Option Sto)(A:List Ac):Prop where
 no:S=none->II D/\γ= -1
 st:∀T,S=some T->QV K E D T/\D.dead=false/\IG k m i (stR D.reads T.dir) γ
 le:γ<=g
 way:(I=none/\A=[]/\γ≠g/\(γ≠g-1∨γ<0))∨(∃T,S=some T/\I=some T/\γ=g/\A=acts0 T.dir/\(A=[]∨∃d f,Ym K T A d f))∨
  (∃T gone,S=some T/\I=some T/\1<=g/\γ=g-1/\stR D.reads T.dir nmN=some (some (YM k m i g))/\stR D.reads T.dir nmT=some (some (AE g gone))/\(Y8 (QI g::gone)).length<=9000/\gone.length<=1000/\(∀x∈gone,x.length<=1000)/\A=Yu T.dir gone/\∃d,Ym K T A d [])
def Yo(a:List Ac)(t:Nat)(V:Ev):Int×Ev:=if a=[] then(0,V) else(Yi V (t,λ_=>a),Y4 V (t,λ_=>a))
def Yc(A:Nat->List Ac):Nat->Ev->Int×Ev
 |0,V=>(0,V)
 |t+1,V=>if(Yc A t V).1=0 then Yo (A t) t (Yc A t V).2 else Yc A t V
def Sc{A:Nat->List Ac}{t:Nat}{V:Ev}(h:(Yc A t V).1≠0):∀n,t<=n->Yc A n V=Yc A t V:=by
 intro n C
 induction n with
 |zero=>obtain rfl:t=0:=by omega
        rfl
 |succ n ih=>
  by_cases e:t=n+1
  .rw[e]
  .have:=ih Qw;rw[show Yc A (n+1) V=if(Yc A n V).1=0 then Yo (A n) n (Yc A n V).2 else Yc A n V from rfl,this,Zw h]
def Av(gv:Nat->Int):Nat->Int
 |0=> -1
 |t+1=>max (Av gv t) (gv t)
theorem Z3y{gv:Nat->Int}{g:Int}{n:Nat}(C:∀a,a<n->gv a<=g)(F:∃a,a<n/\gv a=g)(h:0<=g):Av gv n=g:=by
 have key:∀t,t<=n->Av gv t<=g/\∀a,a<t->gv a<=Av gv t:=by
  intro t
  induction t with
  |zero=>intro _;exact⟨by unfold Av;omega,λa ha=>Qw⟩
  |succ t ih=>intro J;unfold Av;grind
 grind
def PL(gv:Nat->Int)(t:Nat): -1<=Av gv t:=by
 cases t with
 |zero=>exact Zf2 _
 |succ t=>have: -1<=Av gv t:=PL gv t;unfold Av;omega
def BM(I:Nat->Option Sto)(t:Nat):Nat:=((List.range t).filter λi=>(I i).isSome).length
theorem Z0b(I:Nat->Option Sto)(t:Nat):BM I (t+1)=BM I t+if(I t).isSome then 1 else 0:=by unfold BM;rw[Zds,ZdQ,Zb];grind
def Z0a(I:Nat->Option Sto)(t:Nat):BM I t<=t:=by have:=Zdk (λi=>(I i).isSome) (List.range t);rwa[ZeW] at this
section
variable{B:Nat}{w0 w1 wr:Qs}{G:Eg}{V0:Ev}{Ls:Nat->List Nat}{Ss:Nat->Option Sto}{gv:Nat->Int}{gb sb t:Nat}{q:Int}{Q:Nat->List Nat}{gl sl:Qk}{K:List Bs}{E g:Nat}
theorem Z4c(h:Op1 B w0 w1 G V0 Ls Ss gv gb sb t q Q gl sl wr)(M:t<G.n){S:Sto}(C:QV K E (V0.Ds t) S)(J:V0.P.gone=false)(F:(V0.Ds t).dead=false)(Z:E<=2000000000):Calls prog 62 #[.pointer (some ⟨G.ds t,0,none⟩)] wr λe w'=>∃s j,e=.returned (.tuple #[(s:Nat),.nilIface])/\wr.heap.size<=s/\wr.heap.size<=j/\WE w' s j (G.ds t) S/\Below wr wr w':=by obtain⟨Za5,hi⟩:=C.img;refine(Tc B G.p (G.ds t) V0.P (V0.Ds t) (Ls t) S Za5 wr (h.ep.pd t M) (FM J F) hi (by have:=C.ep;omega)).mono ?_;rintro e w' ⟨s,rfl,hs,hb⟩;obtain⟨U,j,hj,O⟩:=hs.j;grind
def Z4b(h:Op1 B w0 w1 G V0 Ls Ss gv gb sb t q Q gl sl wr)(O:t<G.n){S:Sto}{s j:Nat}(C:WE wr s j (G.ds t) S)(F:QV K E (V0.Ds t) S)(M:V0.P.gone=false)(J:(V0.Ds t).dead=false){γ:Int}(Z:IG V0.k V0.m t (stR (V0.Ds t).reads S.dir) γ)(hk:V0.k<=16)(hm:V0.m<=16):Calls prog 63 #[G.s,s,.string ⟨#[33]⟩,(t:Int)] wr λe w'=>e=.returned (.int .i64 γ)/\Below wr wr w':=by
 have hn:=h.ep.n16;rcases Z with ⟨g,rfl,U,hc⟩|⟨rfl,hc⟩
 .exact Oz G.s s nmC wr (h.ep.pd t O) C.at_ F M J Qz hc hk hm Qw U h.ep.set.c0 h.ep.set.c1
 .exact Z1I G.s s t nmC _ wr (Lp (h.ep.pd t O) C.at_ F M J Qz (Zv hc))
variable{bl0:Qj}{V:Ev}{Os:Nat->List Nat}
theorem Z4e(h:Op2 B w0 w1 G bl0 Q gb sb t gl sl V Ls Os wr)(hF:OpF w0 w1 G Q)(ht:t<G.n)(hB:B<=w0)(ct:Ty wr)(bz:0<B)(hK:KOk K)(hE:E<=2000000000){S:Option Sto}{γ:Int}{A:List Ac}(aq:AI K E V.k V.m g t (V.Ds t) S γ (V.Ms t) A)(ag:V.P.gone=false)(hk:V.k<=16)(hm:V.m<=16)(cu:V.gen=(g:Int))(aw:g<=1000000000):Calls prog 64 #[G.s,(t:Int),CD (Q t),.int .i64 γ] wr λe w'=>∃ev,e=.returned (.tuple #[.bool (V.Ms t).isSome,ev])/\QK w' wr (Yo A t V).1 ev/\Ye B G bl0 (Yo A t V).2.P (Yo A t V).2.Ds w0 w'/\((Yo A t V).1=0->∃F,Op2 B w0 w1 G bl0 Q gb sb t gl sl (Yo A t V).2 F Os w'):=by
 have c3:=h.ep.set.c3;rw[show(Xg t V).gen=(g:Int) from cu] at c3;have hn:=h.ep.n16;have same:∀w',Below wr wr w'->A=[]->QK w' wr (Yo A t V).1 .nilIface/\Ye B G bl0 (Yo A t V).2.P (Yo A t V).2.Ds w0 w'/\((Yo A t V).1=0->∃F,Op2 B w0 w1 G bl0 Q gb sb t gl sl (Yo A t V).2 F Os w'):=λw' hb O=>by unfold Yo;rw[Zx O];exact⟨QK.nil _ _,(h.after hb).d,λ_=>⟨_,h.after hb⟩⟩
 have af:∀T,V.Ms t=some T->QV K E (V.Ds t) T->A≠[]->(∃d f,Ym K T A d f)->∀s j,Q t=[s,j]->∀ga na ca bf,Below wr wr bf->JX bf ga 0 A->na=A.length->na<=ca->Calls prog 38 #[(s:Nat),.slice (ga:Nat) na ca] bf λe w'=>∃ev,e=.returned ev/\QK w' wr (Yo A t V).1 ev/\Ye B G bl0 (Yo A t V).2.P (Yo A t V).2.Ds w0 w'/\((Yo A t V).1=0->∃F,Op2 B w0 w1 G bl0 Q gb sb t gl sl (Yo A t V).2 F Os w'):=by rintro T hM C O ⟨d,f,ha⟩ s j Z ga na ca w2 hb ah aj ak;have M:=h.after hb;obtain⟨J,ae⟩:=M.st t (Zt _) ht T hM;obtain⟨s',j',bj,J⟩:=J;rw[Z] at bj;cases bj;have au:=hF.ge t ht;rw[Z] at au;have g1:=au s Qx;have g2:=au j Qx;have hle:=hF.le;obtain⟨Za5,az⟩:=C.img;have hc:=K8 B G.p (G.ds t) V.P (V.Ds t) (Ls t) s j ga 0 na ca T Za5 (V.Ds t).reads A d f w2 (M.ep.pd t ht) (by have:=M.le;omega) J Qw Qw ah aj ak az ha.Zar ha.room ha.Zab ha.ne ha.few (by rw[C.wait];simp) (ct.below hb) bz (by have:=C.ep;omega) (by have:=C.few hK;omega);rw[<-ha.go,<-ha.nx] at hc;refine hc.mono ?_;rintro e w3 ⟨ev,rfl,bq,hC⟩;obtain⟨e1,e2⟩:=JM (V:=V) (x:=(t,λ_=>A)) hM;obtain⟨r1,r2⟩:=M.did (a:=λ_=>A) hF ht hM Z hC;unfold Yo;rw[Zw O];refine⟨ev,rfl,?_,r1,r2⟩;show QK w3 wr.heap.size (Yi V (t,λ_=>A)) ev;rw[e1];exact bq.base hb.size
 rcases aq.way with ⟨U,O,h1,M⟩|⟨T,hS,U,rfl,O,ah⟩|⟨T,gone,hS,U,cy,rfl,hN,hT,cr,bg,cj,O,ah⟩
 .rw[U];refine(Z5d G.s t g γ (CD (Q t)) wr c3 aw h1 M).mono ?_;simp_all
 .obtain⟨C,ae, -⟩:=aq.st T hS;obtain⟨s,j,Z,J⟩:=(h.st t (Zt _) ht T U).1;have hp:CD (Q t)=.pointer (s:Nat):=by rw[Z];rfl
  rw[U,hp];refine RL G.s s t g wr c3 (R:=λev w'=>QK w' wr (Yo A t V).1 ev/\Ye B G bl0 (Yo A t V).2.P (Yo A t V).2.Ds w0 w'/\((Yo A t V).1=0->∃F,Op2 B w0 w1 G bl0 Q gb sb t gl sl (Yo A t V).2 F Os w')) ?_
  refine Z0A s (G.ds t) T wr J.at_ C.sorted (by have:=C.few hK;omega) (λn e hn=>by
   obtain⟨_,h1,M⟩:=C.runs hn
   exact⟨h1,Qw⟩) (λh0 w' hb=>same w' hb (O.trans h0)) (λh0 ga na ca w' hb _ ai _ aj ak=> ?_)
  grind
 .obtain⟨C,ae, -⟩:=aq.st T hS;obtain⟨s,j,Z,J⟩:=(h.st t (Zt _) ht T U).1;have hp:CD (Q t)=.pointer (s:Nat):=by rw[Z];rfl
  rw[U,hp];have bh:=h.ep.pd t ht;obtain⟨g',rfl⟩:∃g',g=g'+1:=⟨g-1,Qw⟩;rw[show((g'+1:Nat):Int)-1=(g':Int) from Qw];have cn:∀n∈T.dir.names,n.length<=1000:=λn hn=>by obtain⟨x,hx,rfl⟩:=Zz.1 hn;have:=(Br hK _ (C.sm x hx).1).2;omega
  obtain⟨d,ah⟩:=ah;refine Z5c G.s s t g' gone wr aw bg c3 (λx hx=> ?_) (λx hb=> ?_) (λx cw hb ay=> ?_)
  .exact Oz G.s s nmN x (bh.after hx.2) (J.at_.after hx.2) C ag ae Qz hN hk hm Qw aw ((hx.2.cell h.ep.set.lt).trans h.ep.set.c0) ((hx.2.cell h.ep.set.lt).trans h.ep.set.c1)
  .exact FC (bh.after hb) (J.at_.after hb) C ag ae Qx Qx cr hT
  .obtain⟨a,cap,rfl,ay,bu⟩:=ay;have h0:A≠[]:=ah.ne
   refine SF s (G.ds t) T _ gone x (J.at_.after hb) C.sorted (by have:=C.few hK;omega) cn ⟨a,cap,rfl,ay,bu⟩ bg cj (λn e hn=>by
    obtain⟨_,h1,M⟩:=C.runs hn
    exact⟨h1,Qw⟩) (R:=λev w'=>QK w' wr (Yo A t V).1 ev/\Ye B G bl0 (Yo A t V).2.P (Yo A t V).2.Ds w0 w'/\((Yo A t V).1=0->∃F,Op2 B w0 w1 G bl0 Q gb sb t gl sl (Yo A t V).2 F Os w')) (λga na ca w' bm _ ai _ aj ak=> ?_)
   rw[<-O] at ai aj;exact af T U C h0 ⟨d,[],ah⟩ s j Z ga na ca w' (hb.trans (bm.mono hb.size)) ai aj ak
def Z4d(h:Op2 B w0 w1 G bl0 Q gb sb t gl sl V Ls Os wr)(hF:OpF w0 w1 G Q)(C:t<G.n)(hB:B<=w0){S:Sto}(hM:V.Ms t=some S):Calls prog 65 #[G.s,(t:Int),CD (Q t)] wr λe w'=>e=.returned (.tuple #[])/\∃O,Op2 B w0 w1 G bl0 Q gb sb (t+1) gl sl V Ls O w':=by have J:=h.ep.at_ t C;rw[show(Xg t V).Ms t=none from Zw (Zg4 t)] at J;obtain⟨sv,lf,inn,hO,F, -⟩:=J;obtain⟨gh,v, -,U⟩:=(h.ep.pd t C).dk;obtain⟨s,j,M,ae⟩:=(h.st t (Zt _) C S hM).1;rw[show CD (Q t)=.pointer s from by rw[M];rfl];refine(Kn G.s G.ms (G.xs t) t G.n G.cap G.p (G.ds t) gh s v sv (.int .i64 lf) (.bool inn) (V.Ds t) wr C h.ep.set.c2 (h.ep.Zak C) F U).mono ?_;rintro e w' ⟨rfl,hr,Z⟩;exact⟨rfl,_,h.enter hF hB C hM M F hr Z⟩
def Op2.ty(h:Op2 B w0 w1 G bl0 Q gb sb t gl sl V Ls Os wr)(hb:∀k∈bl0,B<=k)(hB:B<=w0)(J:Ty w0)(F:0<B):Ty wr:=by
 have M:Below B w0 wr:=h.fr.below hB (λk C=>by
  rcases Zk.1 C with rfl|C
  .exact(h.ep.pd 0 h.ep.n1).bp
  .exact hb k C)
 unfold Ty at J⊢;rw[M.cell (p:=⟨0,0,none⟩) F];omega
def Ye.ty{P:Pw}{Ds:Nat->Dk}{w w':Qs}(h:Ye B G bl0 P Ds w w')(hb:∀k∈G.p::bl0,B<=k)(hB:B<=w)(F:Ty w)(C:0<B):Ty w':=by obtain⟨_,_,_,_,J⟩:=h;unfold Ty at F⊢;rw[(J.below hB hb).cell (p:=⟨0,0,none⟩) C];omega
def Op2.ZcJ(h:Op2 B w0 w1 G bl0 Q gb sb t gl sl V Ls Os wr)(hF:OpF w0 w1 G Q)(hs:w0<=G.s)(F:G.n<=t):∀k∈Wu G Ls Os,k∈bl0∨w0.heap.size<=k:=λk C=>by
 rcases WH.1 C with rfl|⟨i,hi,C⟩|⟨i,hi,C⟩
 .omega
 .exact h.Zat i hi k C
 .have:=hF.le;rcases h.in_ i Qw k C with rfl|h1
  .exact Zy (hF.xs i hi).1
  .have:=hF.ge i hi k h1;omega
end
def Ti(a:List Ac)(t:Nat)(V:Ev):(Yo a t V).2.k=V.k/\(Yo a t V).2.m=V.m/\(Yo a t V).2.gen=V.gen/\(∀i,((Yo a t V).2.Ms i).isSome=(V.Ms i).isSome)/\∀i,i≠t->(Yo a t V).2.Ms i=V.Ms i/\(Yo a t V).2.Ds i=V.Ds i:=by
 unfold Yo;split
 .simp
 .obtain⟨h,C,F,J⟩:=DY V (t,λ_=>a);refine⟨h,C,F,J,λi hi=> ?_⟩;unfold Y4;split
  .exact⟨QQ _ _ hi,QQ _ _ hi⟩
  .simp
structure DP(V0:Ev)(n t:Nat)(V:Ev):Prop where
 k:V.k=V0.k
 m:V.m=V0.m
 gen:V.gen=V0.gen
 gone:V.P.gone=false
 same:∀i,t<=i->V.Ms i=V0.Ms i/\V.Ds i=V0.Ds i
 some_:∀i,(V.Ms i).isSome=(V0.Ms i).isSome
def DP.step{V0 V:Ev}{n t:Nat}{K:List Bs}{E k m g:Nat}{S:Option Sto}{γ:Int}{A:List Ac}(h:DP V0 n t V)(J:AI K E k m g t (V.Ds t) S γ (V.Ms t) A)(Z:(V.Ds t).ok 800)(U:(Yo A t V).1=0):DP V0 n (t+1) (Yo A t V).2:=by
 obtain⟨h1,h2,h3,h4,h5⟩:=Ti A t V;refine⟨h1.trans h.k,h2.trans h.m,h3.trans h.gen,?_,λi hi=> ?_,λi=>(h4 i).trans (h.some_ i)⟩
 .unfold Yo at U⊢;split
  .exact h.gone
  .rename_i hA;have C:∃T d f,V.Ms t=some T/\Ym K T A d f/\(V.Ds t).dead=false:=by
    rcases J.way with ⟨_,O,_⟩|⟨T,M,F,_,O,C⟩|⟨T,gone,M,F,_,_,_,_,_,_,_,O,d,C⟩
    .simp_all
    .obtain⟨d,f,C⟩:=C.resolve_left hA;exact⟨T,d,f,F,C,(J.st T M).2.1⟩
    .exact⟨T,d,[],F,C,(J.st T M).2.1⟩
   obtain⟨T,d,f,F,C,hd⟩:=C;obtain⟨e1,e2⟩:=JM (V:=V) (x:=(t,λ_=>A)) F;rw[e1,C.go] at U;rw[e2,C.go];have hg:=C2 (T.ops A d f) (P:=V.P) C.in_ Z.fit hd h.gone;simp_all
 .obtain⟨e1,e2⟩:=h5 i Qw;obtain⟨e3,e4⟩:=h.same i Qw;simp_all
def Z0W(B:Nat)(w:Qs)(K:List Bs)(E gd n cap k m p g:Nat)(ds:Nat->Nat)(P:Pw)(Ds:Nat->Dk)(Ls:Nat->List Nat)(Ss I:Nat->Option Sto)(gv:Nat->Int)(A:Nat->List Ac)(hc:∀i,i<n->w.cell? ⟨gd,i,none⟩=some (.pointer (some ⟨ds i,0,none⟩)))(ez:gd<w)(eu:gd∉p::(List.range n).flatMap Ls)(ic:1<=k)(hn:n=k+m)(bu:n<=16)(ay:B<=w)(fh:∀i,i<n->PD B w p (ds i) 800 P (Ds i) (Ls i))(bg:∀i j,i<n->j<n->i≠j->∀q∈Ls i,q∉Ls j)(hK:KOk K)(ag:P.gone=false)(fo:Ty w)(dj:0<B)(aj:∀i,i<n->AI K E k m g i (Ds i) (Ss i) (gv i) (I i) (A i))(bq:∃i,i<n/\gv i=(g:Int))(ah:k<=BM I n)(hE:E<=2000000000)(ia:g<=1000000000):Calls prog 27 #[.slice gd n cap,(k:Int),(m:Int)] w λe w'=>∃sv ev,e=.returned (.tuple #[sv,ev])/\QK w' w (Yc A n ⟨k,m,(g:Int),P,Ds,I⟩).1 ev/\Ye B ⟨n,p,0,0,0,λ_=>0,ds⟩ ((List.range n).flatMap Ls) (Yc A n ⟨k,m,(g:Int),P,Ds,I⟩).2.P (Yc A n ⟨k,m,(g:Int),P,Ds,I⟩).2.Ds w w'/\ ((Yc A n ⟨k,m,(g:Int),P,Ds,I⟩).1≠0->sv=.pointer none)/\((Yc A n ⟨k,m,(g:Int),P,Ds,I⟩).1=0->∃s ms c xs bl',sv=.pointer (s:Nat)/\EAt B w' ⟨n,p,s,ms,c,xs,ds⟩ (Xg n (Yc A n ⟨k,m,(g:Int),P,Ds,I⟩).2) bl'/\∀q∈bl',q∈(List.range n).flatMap Ls∨w.heap.size<=q):=by
 have aw:=NX w gd n cap k m ds hc ez ic hn bu;have ie:1<=n:=Qw;have bj:k<=16:=Qw;have bm:m<=16:=Qw;have ij:=run_make_row' (P:=prog) 46 3 (.int .i64 0) 8 underlying46 OY rfl .i64 .i64 n Qw Qw;have ik:=run_make_row' (P:=prog) 126 89 (.pointer none) 8 underlying126 Z6Z rfl .i64 .i64 n Qw Qw;have ir:decide ((g:Int)<0)=false:=Qx;have fa:=Z3y (λa ha=>(aj a ha).le) bq Qw;have U:=Q6 aw fh bg aj ag hc hn eu fo fa ah;clear aw fh bg aj ag hn hc eu fo fa bq ah;go_enter func27,ntmps27;go_wp2_with (go_at_call 47;refine U.1.mono ?_;rintro e w1 ⟨s,v,xs,rfl,C⟩;obtain⟨ms,c_,hp⟩:=C.eat ay ie bu U.2 U.3;have fp:∀i,i<n->xs i<w1.heap.size:=λi hi=>(C.mem i hi).lt;have c3:w1.cell? ⟨s,3,none⟩=(0:Int):=hp.set.c3;have f3:w1.frozen? ⟨s,3,none⟩=false:=hp.set.free (j:=3) Qx;have dt:s<w1.heap.size:=hp.set.lt;have cj:s<w1.heap.size+1:=Qw;have fA:∀o o',((w1.alloc o).alloc o').frozen? ⟨s,3,none⟩=false:=(λo o'=>((hp.set.alloc o).alloc o').free (j:=3) Qx);have cA:∀o o',((w1.alloc o).alloc o').cell? ⟨s,3,none⟩=(0:Int):=(λo o'=>((hp.set.alloc o).alloc o').c3);have H1:=ZZ hp C.bel C.sge C.ge fp;clear C hp fp);have dy:Op1 B w (w1.setCell ⟨s,3,none⟩ (.int .i64 (-1))) ⟨n,p,s,ms,c_,xs,ds⟩ ⟨k,m,0,P,Ds,λ_=>none⟩ Ls Ss gv w1 (w1.heap.size+1) 0 (-1) (λ_=>[]) (madeCells #[.int .i64 0] n).toList (madeCells #[.pointer none] n).toList (((w1.setCell ⟨s,3,none⟩ (.int .i64 (-1))).alloc (.cells (madeCells #[.int .i64 0] n) 3)).alloc (.cells (madeCells #[.pointer none] n) 89)):=by have e:(w1.setCell ⟨s,3,none⟩ (.int .i64 (-1))).heap.size=w1.heap.size:=Qx;have h9:=Op1.start (w1:=w1.setCell ⟨s,3,none⟩ (.int .i64 (-1))) (G:=⟨n,p,s,ms,c_,xs,ds⟩) (V0:=⟨k,m,0,P,Ds,λ_=>none⟩) (q:= -1) (Ss:=Ss) (gv:=gv) (H1.1.Zbw (-1)) (H1.2.setCell (p:=⟨s,3,none⟩) H1.3 _) H1.3;rw[e] at h9;exact h9
 have H2:=ZI dy;clear dy c3 f3 dt cj fA cA
 have fq:∀a,a<n->w.heap.size<=xs a/\xs a<(w1.setCell ⟨s,3,none⟩ (.int .i64 (-1))).heap.size:=λa ha=>⟨H1.4 a ha,by
  have e:(w1.setCell ⟨s,3,none⟩ (.int .i64 (-1))).heap.size=w1.heap.size:=Qx
  rw[e];exact H1.5 a ha⟩
 have fw:=ZI fq;clear fq;generalize fy:((w1.setCell ⟨s,3,none⟩ (.int .i64 (-1))).alloc (.cells (madeCells #[.int .i64 0] n) 3)).alloc (.cells (madeCells #[.pointer none] n) 89)=w2 at*
 clear fy ij ik;generalize w1.setCell ⟨s,3,none⟩ (.int .i64 (-1))=wb at*
 generalize w1.heap.size+1=sb at*
 generalize w1.heap.size=gb at*
 generalize (madeCells #[.int .i64 0] n).toList=iq at*
 generalize (madeCells #[.pointer none] n).toList=ja at*
 go_loopw [42] (λkv wr=>∃ (t:Nat) (Q:Nat->List Nat) (gl sl:Qk),t<=n/\kv=(t:Int)/\Op1 B w wb ⟨n,p,s,ms,c_,xs,ds⟩ ⟨k,m,0,P,Ds,λ_=>none⟩ Ls Ss gv gb sb t (Av gv t) Q gl sl wr) (λkv _=>n- (intOf kv).toNat)
 .exact⟨0,_,_,_,Qw,rfl,H2.o⟩
 obtain⟨t,Q,gl,sl,iz,rfl,C⟩:=hrel;by_cases M:t<n
 .have iy:(t:Int)<(n:Int):=by omega
  have gj:=(C.bel.cell (p:=⟨gd,t,none⟩) ez).trans (U.6 t M);have hM:=C.mark (.int .i64 (-1));have f1:=C.gr.free (j:=t) (by rw[C.gn];exact M);obtain⟨u1,y1⟩:∃u,wr.cell? ⟨gb,t,none⟩=some u:=⟨_,C.gr.cell (Z8 (by rw[C.gn];exact M))⟩;have hD:=U.4 t M;have du:=C.sz t (Zt _) M;obtain⟨q,hq⟩:=ZK (Av gv t);obtain⟨γ,hγ⟩:∃γ,gv t=γ:=⟨_,rfl⟩;obtain⟨q1,dp⟩:=ZK (max q γ);have cw:Av gv (t+1)=q1:=by rw[<-dp,<-hq,<-hγ];rfl
  have cu:=PL gv t;rw[hq] at hM cu;rw[hγ] at hD;have dh:=hM.ep.pd t M;clear C;cases cr:Ss t with
  |none=>
   obtain⟨fc,er⟩:=hD.no cr;have fg:=Z6H B p (ds t) P (Ds t) (Ls t) _ dh (U.9.below hM.bel) U.5 fc;have J:=ZS hM fg cw hγ er dp cu du;clear hM hD dh fg cw hγ er fc dp cu du;go_wp2_with (first|(go_at_call 62;refine J.2.1.mono ?_;rintro e w3 ⟨c,ev,ak,az,rfl,he,au⟩;obtain⟨b,rfl⟩:=(he.split.resolve_left (λh=>ak h.1)).2;have ee:(c==10)=false:=(by rw[Zeh];exact az);have O:=ZN he ee au;clear he au ak az ee)|(go_at_call 19;refine(JL _ c 10 _ _ O.1 Qz).mono ?_;rw[O.2.1];rintro e w4 ⟨rfl,rfl⟩));go_roundw
   .have h3:=J.1.after O.2.2;have e1:max q (-1)=q:=by have:=J.2.2.2.2.2.2.1;omega
    refine⟨t+1,upd Q t [],gl.set t (.int .i64 (-1)),sl,Qw,QC,?_⟩;rw[J.2.2.1,<-J.2.2.2.2.2.1,J.2.2.2.2.1,e1];refine J.1.next O.2.2 M (N:=[]) (by rw[cr];rfl) (λx hx=>by cases hx) (Fr.refl _ _) h3.gr h3.sr ?_ ?_
    .rw[J.2.2.2.1,J.2.2.2.2.1,List.set_set]
    .exact Z6r J.2.2.2.2.2.2.2
   simp[intOf];omega
  |some S=>
   obtain⟨dw,eh,hC⟩:=hD.st S cr;have J:=ZR hM dw eh hC cw hγ U.5;clear hM hD dh cw hγ dw eh hC cu du;go_wp2_with (first|(go_at_call 62;refine(Z4c J.1 M J.2.1 J.2.2.2.2.2.2 J.2.2.1 hE).mono ?_;rintro e w3 ⟨s3,j3,rfl,fi,ey,cn,au⟩;have O:=ZP (J.1.after au) cn fi ey au;clear fi ey cn au)|(go_at_call 19;refine(O8 10 _).mono ?_;rintro e w4 ⟨rfl,rfl⟩)|(go_at_call 63;refine(Z4b O.1 M O.2.1 J.2.1 J.2.2.2.2.2.2 J.2.2.1 J.2.2.2.1 bj bm).mono ?_;rintro e w5 ⟨rfl,ct⟩;have Z:=O.1.after ct;have z1:=Z.gr.free (j:=t) (by rw[Z.gn];exact M);have z2:=Z.sr.free (j:=t) (by rw[Z.sn];exact M);obtain⟨v1,z3⟩:∃u,w5.cell? ⟨gb,t,none⟩=some u:=⟨_,Z.gr.cell (Z8 (by rw[Z.gn];exact M))⟩;obtain⟨v2,z4⟩:∃u,w5.cell? ⟨sb,t,none⟩=some u:=⟨_,Z.sr.cell (Z8 (by rw[Z.sn];exact M))⟩;have ib:gb≠sb:=Row.ne Z.gr Z.sr Qz;have ix:sb≠gb:=ib.symm;obtain⟨b1,b2,b3⟩:=Z.both (.int .i64 γ) (.pointer s3);have R5:=ZI (J.1.next (O.2.2.2.2.trans (ct.mono O.2.2.2.2.size)) M (N:=[s3,j3]) (by rw[cr];exact⟨s3,j3,rfl,O.2.1.after ct⟩) (λx hx=>(by simp only[Zk,Zdd,Zge] at hx;rcases hx with rfl|rfl;exact O.2.2.1;exact O.2.2.2.1)) b3 b1 b2 (by rw[J.2.2.2.2.2.1]) rfl);clear Z ct b1 b2 b3));have h6:=R5.o;clear R5 z1 z2 z3 z4 f1 y1 gj;generalize ((w5.setCell ⟨gb,t,none⟩ (.int .i64 γ)).setCell ⟨sb,t,none⟩ (.pointer s3))=W at*
   have c3:W.cell? ⟨s,3,none⟩=(q:Int):=h6.ep.set.c3;have f3:W.frozen? ⟨s,3,none⟩=false:=h6.ep.set.free (j:=3) Qx;have cg:W.cell? ⟨gb,t,none⟩=some (.int .i64 γ):=by have h9:=h6.gr.cell (h6.gv t Qw);rw[J.2.2.2.2.2.1] at h9;exact h9
   have H7:=ZI ((h6.tell q1).after ((Zu _ _).drew));clear h6;go_region;go_wp2_with fail;go_roundw
   .exact⟨t+1,_,_,_,Qw,QC,by rw[J.2.2.2.2.1];exact H7.o⟩
   simp[intOf];omega
 .obtain rfl:t=n:=by omega
  have h2:=C.op2 (V:=⟨k,m,(g:Int),P,Ds,I⟩) (bl0:=(List.range t).flatMap Ls) rfl (by rw[U.10]) (λa ha S hM=>by
   rcases(U.4 a ha).way with ⟨h9,_⟩|⟨T,h8,h9,_⟩|⟨T,_,h8,h9,_⟩
   .have h7:I a=some S:=hM;rw[h9] at h7;cases h7
   .have h7:I a=some S:=hM;rw[h9] at h7;cases h7;exact⟨h8,((U.4 a ha).st _ h8).2.1⟩
   .have h7:I a=some S:=hM;rw[h9] at h7;cases h7
    exact⟨h8,((U.4 a ha).st _ h8).2.1⟩) (λa ha q hq=>ZdL.2 ⟨a,Zdo.2 ha,hq⟩)
  have hF:=C.opF fw.o;have ew:=C.gv;have fm:=C.sv;have c3:wr.cell? ⟨s,3,none⟩=(g:Int):=h2.ep.set.c3;have bh:∀q∈(List.range t).flatMap Ls,B<=q:=λq hq=>by obtain⟨i,hi,hq⟩:=ZdL.1 hq;exact(U.2 i (Zdo.1 hi)).bL q hq
  have hI:DP ⟨k,m,(g:Int),P,Ds,I⟩ t 0 ⟨k,m,(g:Int),P,Ds,I⟩:=⟨rfl,rfl,rfl,U.5,λ_ _=>⟨rfl,rfl⟩,λ_=>rfl⟩;have ae:=Q0 h2 hF ew fm bh hI;have im:¬ ((BM I t:Nat):Int)<(k:Int):=by have:=U.11;omega
  clear C h2 hF ew fm bh hI H2;go_wp2_with fail;go_loopw [16,94] (λmv kv wk=>∃ (i:Nat) (V:Ev) (cy Os:Nat->List Nat),i<=t/\mv=(BM I i:Int)/\kv=(i:Int)/\(Yc A i ⟨k,m,(g:Int),P,Ds,I⟩)=(0,V)/\DP ⟨k,m,(g:Int),P,Ds,I⟩ t i V/\Op2 B w wb ⟨t,p,s,ms,c_,xs,ds⟩ ((List.range t).flatMap Ls) Q gb sb i gl sl V cy Os wk) (λ_ kv _=>t- (intOf kv).toNat)
  .exact⟨0,_,_,_,Qw,rfl,rfl,rfl,ae.6,ae.1⟩
  obtain⟨i,V,cy,Os,iw,rfl,rfl,af,hR,C⟩:=hrel;by_cases M:i<t
  .have iu:(i:Int)<(t:Int):=(by omega);obtain⟨dq,fj⟩:=hR.same i (Zt _);have de:AI K E V.k V.m g i (V.Ds i) (Ss i) (gv i) (V.Ms i) (A i):=by rw[hR.k,hR.m,dq,fj];exact U.4 i M
   have cg:=C.gr.cell (ae.3 i M);have cs:=C.sr.cell (ae.4 i M);have aq:=Z4e C ae.2 M ay (C.ty ae.5 ay U.9 dj) dj hK hE de hR.gone (by rw[hR.k];exact bj) (by rw[hR.m];exact bm) hR.gen ia;have ai:Yc A (i+1) ⟨k,m,(g:Int),P,Ds,I⟩=Yo (A i) i V:=by rw[show Yc A (i+1) ⟨k,m,(g:Int),P,Ds,I⟩=if(Yc A i ⟨k,m,(g:Int),P,Ds,I⟩).1=0 then Yo (A i) i (Yc A i ⟨k,m,(g:Int),P,Ds,I⟩).2 else Yc A i ⟨k,m,(g:Int),P,Ds,I⟩ from rfl,af];rfl
   have fe:(Yo (A i) i V).1=0->DP ⟨k,m,(g:Int),P,Ds,I⟩ t (i+1) (Yo (A i) i V).2:=hR.step de (C.ep.pd i M).ok;have bf:=Z0b I i;have gy:=Z0a I i;have df:=(Ti (A i) i V).2.2.2.1 i;rw[<-show V.Ms i=I i from dq] at bf;obtain⟨q,hq⟩:=ZK (BM I i);obtain⟨b,hb⟩:=ZK (V.Ms i).isSome;obtain⟨c,ef⟩:=ZK (Yo (A i) i V).1;rw[hq] at bf gy⊢;rw[hb] at aq bf df;have F:=ZQ aq ai fe bf df ef;have fu:=ZI C.le
   have ft:=ZI (show∀k'∈p::(List.range t).flatMap Ls,B<=k' from λk' dm=>by
    rcases Zk.1 dm with rfl|dm
    .exact(C.ep.pd i M).bp
    .exact ae.5 k' dm)
   clear C aq ai fe bf df ef hq hb de dq fj af hR;by_cases ak:c=0
   .subst ak;cases b with
    |false=>
     go_wp2_with (go_at_call 64;refine F.1.mono ?_;rintro e w3 ⟨ev,rfl,he, -,bz⟩;rw[F.2.2.2.2.2] at he;obtain rfl:=he.zero;have O:=ZI (bz F.2.2.2.2.2);clear he bz);go_roundw
     .obtain⟨cz,h3⟩:=O.o;refine⟨i+1,(Yo (A i) i V).2,cz,Os,Qw,by rw[F.2.2.2.1];rfl,QC,?_,F.2.2.1 F.2.2.2.2.2,h3.skip ?_⟩
      .rw[F.2.1];exact Prod.ext F.2.2.2.2.2 rfl
      .exact Option.not_isSome_iff_eq_none.1 (by rw[F.2.2.2.2.1];simp)
     simp[intOf];omega
    |true=>
     go_wp2_with (first|(go_at_call 64;refine F.1.mono ?_;rintro e w3 ⟨ev,rfl,he, -,bz⟩;rw[F.2.2.2.2.2] at he;obtain rfl:=he.zero;obtain⟨cz,h3⟩:=bz F.2.2.2.2.2;obtain⟨S',dx⟩:=Zdp.1 F.2.2.2.2.1;have eo:=Z4d h3 ae.2 M ay dx;have O:=ZI eo;clear he bz h3 dx eo)|(go_at_call 65;refine O.o.mono ?_;rintro e w4 ⟨rfl,fx,h4⟩;have R4:=ZI h4;clear h4));go_roundw
     .exact⟨i+1,(Yo (A i) i V).2,cz,fx,Qw,by rw[F.2.2.2.1];rfl,QC,by rw[F.2.1];exact Prod.ext F.2.2.2.2.2 rfl,F.2.2.1 F.2.2.2.2.2,R4.o⟩
     simp[intOf];omega
   .go_wp2_with (first|(go_at_call 64;refine F.1.mono ?_;rintro e w3 ⟨ev,rfl,he,hd, -⟩;rw[F.2.2.2.2.2] at he;obtain⟨b3,rfl⟩:=(he.split.resolve_left (λh=>ak h.1)).2;have O:=ZM he hd;clear he hd)|(go_at_call 49;refine(Ge _ _ _ _ O.1 (O.2.ty (G:=⟨t,p,s,ms,c_,xs,ds⟩) ft.o ay U.9 dj)).mono ?_;rintro e w4 ⟨v4,rfl,ek,dz⟩;have R4:=ZM ek dz;clear ek dz));go_ret2;have ig:=Sc (A:=A) (V:=⟨k,m,(g:Int),P,Ds,I⟩) (t:=i+1) (by rw[F.2.1,F.2.2.2.2.2];exact ak) t Qw;rw[ig,F.2.1,F.2.2.2.2.2];have j7:=fu.o;have j8:=ae.2.le;have j9:=Fa O.2;exact⟨_,_,rfl,R4.1.base Qw,O.2.after R4.2,λ_=>rfl,λh=>absurd h ak⟩
  .obtain rfl:i=t:=(by omega);have F:=ZM C af;clear C hR af;go_wp2_with fail;go_ret2;rw[F.2];refine⟨_,_,rfl,QK.nil _ _,F.1.d,λh=>absurd rfl h,λ_=>⟨s,ms,c_,xs,_,rfl,⟨cy,Os,rfl,F.1.ep⟩,F.1.ZcJ ae.2 H1.3 (Zt _)⟩⟩
def Ua{K:List Bs}{V:Ev}{i:Nat}{S:Sto}{a:Sto->List Ac}{d:Dir}{f:QF}(hM:V.Ms i=some S)(ha:Ym K S (a S) d f)(ok:(V.Ds i).ok 800)(h:(V.Ds i).dead=false)(C:V.P.gone=false):Yi V (i,a)=0∨Yi V (i,a)=10:=by
 obtain⟨e1, -⟩:=JM (V:=V) (x:=(i,a)) hM;rw[e1,ha.go];rcases C2 (S.ops (a S) d f) (P:=V.P) ha.in_ ok.fit h C with h9|h9
 .exact Zv h9.1
 .exact Zy h9.1
def Gh(G:Eg)(i s:Nat)(w:Qs):Prop:=w.cell? ⟨G.s,2,none⟩=some (.slice (some ⟨G.ms,0,none⟩) G.n G.cap)/\w.cell? ⟨G.ms,i,none⟩=some (.pointer (some ⟨G.xs i,0,none⟩))/\w.cell? ⟨G.xs i,1,none⟩=s
def CS(w:Qs)(s:Nat):Prop:=∃l,Row w s 78 l/\l[4]? =some (.bool true)
def Z0Q(B:Nat)(w:Qs)(G:Eg)(V:Ev)(bl:Qj)(K:List Bs)(E i:Nat)(S:Sto)(n v:Bs)(d:Dir)(f:QF)(h:EAt B w G V bl)(ht:Ty w)(ak:0<B)(hi:i<G.n)(hM:V.Ms i=some S)(hD:QV K E (V.Ds i) S)(hK:KOk K)(hE:E<=2000000000)(ha:Ym K S [⟨1,n,[],v⟩] d f)(hg:V.P.gone=false){s:Nat}{o:Qk}(hr:Row w (G.xs i) 91 (.pointer (some ⟨G.ds i,0,none⟩):: .pointer s::o)):Calls prog 274 #[G.s,s,.agg #[(1:Int),n,.string ⟨#[]⟩,v]] w λe w'=>∃ev,e=.returned ev/\QK w' w (Yi V (i,λ_=>[⟨1,n,[],v⟩])) ev/\(Yi V (i,λ_=>[⟨1,n,[],v⟩])=0->QH B G bl (Y4 V (i,λ_=>[⟨1,n,[],v⟩])) w w')/\Ye B G bl (Y4 V (i,λ_=>[⟨1,n,[],v⟩])).P (Y4 V (i,λ_=>[⟨1,n,[],v⟩])).Ds w w'/\Gh G i s w'/\(Yi V (i,λ_=>[⟨1,n,[],v⟩])≠0->CS w' G.s):=by
 have az:=h.bw;have ag:=Ua (a:=λ_=>[⟨1,n,[],v⟩]) hM ha (h.dsk hi).2.choose_spec.ok (h.mem hi hM).choose_spec.2.2.1 hg;obtain⟨ob,Z⟩:∃ob:Obj,.cells #[(1:Int),n,.string ⟨#[]⟩,v] 151=ob:=⟨_,rfl⟩;have F:Below w w ((w.alloc ob).alloc ob):=((Zu _ _).alloc (Zt _) _).alloc Qx _;have aq:Row ((w.alloc ob).alloc ob) (w.heap.size+1) 151 (AcC ⟨1,n,[],v⟩):=by have J:=Z2 (w.alloc ob) 151 (AcC ⟨1,n,[],v⟩);rw[show(w.alloc ob).heap.size=w.heap.size+1 from Qx] at J;rw[<-Z] at J⊢;exact J
 have O:=PO (na:=1) (ca:=1) (h.after F) hi hM hD hK hE ha (Gm aq) rfl (Zt 1) (ht.below F) ak (hr.after F);obtain⟨e1,e2⟩:=JM (V:=V) (x:=(i,λ_=>[⟨1,n,[],v⟩])) hM;rw[<-e1] at O;have ae:=(hr.after F);obtain⟨c,hc⟩:=ZK (Yi V (i,λ_=>[⟨1,n,[],v⟩]));rw[hc] at O ag⊢;have ah:=e1.symm.trans hc;rw[<-Z] at O F ae;have H:=Q1 h O ht F e2 ae ah;clear O h ht aq F hr Z e1 e2 ae ah hc;rcases ag with rfl|rfl
 .go_enter func274,ntmps274;go_wp2_with (go_at_call 38;refine H.2.mono ?_;rintro e w1 ⟨ev,rfl,he,hm⟩;obtain rfl:=he.zero;have C:=ZI hm;clear he hm);go_ret;have J:=C.o.from H.4;rw[H.5];refine⟨_,rfl,QK.nil _ _,λ_=>J.ok H.7,J.bad,⟨C.o.set.c2,(by obtain⟨sp,U⟩:=C.o.ms;exact U.cell (by rw[Za (by rw[Bx];exact hi)];exact Bw _ _ _ hi)),(C.o.x1 _ H.6).c1⟩,λh=>absurd rfl h⟩
 .go_enter func274,ntmps274;go_wp2_with (first|(go_at_call 38;refine H.2.mono ?_;rintro e w1 ⟨ev,rfl,he,hm⟩;obtain⟨b1,rfl⟩:=(he.split.resolve_left (λh=>absurd h.1 Qz)).2;have ZaZ:=hm.bad.from H.4;have aw:=ZaZ.ty H.1.ge az H.3 ak;have C:=ZO he ZaZ hm aw;clear he ZaZ hm aw)|(go_at_call 19;refine(JL _ 10 12 _ _ C.1 Qz).mono ?_;rintro e w2 ⟨rfl,rfl⟩)|(go_at_call 40;refine(GG 10 _ G.s _ _ C.2.2.1.set rfl C.2.2.2 (by have J:=H.1.ge G.s (Zh _ H.1.Zbb);omega) w (Fa C.2.1) (C.1.base H.4.size) (H.1.typed.lt _ (Zh _ H.1.Zbb))).mono ?_;rintro e w3 ⟨bf,rfl,ai,aj,au⟩;have M:=ZX ai aj au;clear ai aj au));go_ret;have af:QL w1 [G.s] [78]:=QL.row C.2.2.1.set Qz;obtain⟨sp,U⟩:=C.2.2.1.ms;have ay:=C.2.2.1.x1 _ H.6;rw[H.5];refine⟨_,rfl,M.1,λh=>absurd h Qz,C.2.1.fr M.2 af Qz (λk hk=>by rw[Z6] at hk;subst hk;exact Zv (Zh _ H.1.Zbb)),⟨M.3.c2,?_,(ay.fr M.2 (af.Za0 ay Qz)).c1⟩,λ_=>⟨_,M.3,rfl⟩⟩;exact(U.fr M.2 (af.Za0 U Qz)).cell (by rw[Za (by rw[Bx];exact hi)];exact Bw _ _ _ hi)
def AK.parts{w:Qs}{B:Nat}{c:Int}{v:Qt}(h:AK w B c v)(hc:c≠0):∃b,v=.iface 139 (b:Nat)/\w.cell? (b:Nat)=(c:Int)/\∃a:Int,w.cell? ⟨b,1,none⟩=(if c=13 then 1 else a:Int):=by
 obtain⟨J,M⟩:=h;rcases J with ⟨e,_⟩|⟨_,n,O⟩
 .exact absurd e hc
 .match n,O with
  |n+1,⟨b,at_,inner,hv,hB,hr,hi⟩=>
   refine⟨b,hv,hr.c0,at_,?_⟩;by_cases e:c=13
   .obtain⟨C,e1,e2⟩:=M e;rw[hv] at e1;have F:b=C:=(by simpa using e1);subst F;rw[Zx e];exact e2
   .rw[Zw e];exact hr.c1
abbrev Wi(k m i:Nat)(key v:Bs):Ac:=⟨1,nmD key,[],shL k m i key v⟩
def Z0S(B:Nat)(w:Qs)(G:Eg)(V:Ev)(bl:Qj)(K:List Bs)(E i:Nat)(S:Sto)(key v:Bs)(d:Dir)(f:QF)(h:EAt B w G V bl)(ht:Ty w)(cr:0<B)(hi:i<G.n)(hM:V.Ms i=some S)(ef:1<=key.length)(cy:key.length<=200)(hv:v.length<=200)(ak:1<=V.k)(cz:V.k+V.m=G.n)(az:Ch K E V G.n key v)(af:V.k<=WT V key v G.n)(hK:KOk K)(hE:E<=2000000000)(ha:Ym K S [Wi V.k V.m i key v] d f)(hg:V.P.gone=false)(hc:Wq V i key=13∨Wq V i key=14):Calls prog 258 #[G.s,(i:Int),key] w λe w'=>∃ev,e=.returned ev/\QK w' w (Yi V (i,λ_=>[Wi V.k V.m i key v])) ev/\(Yi V (i,λ_=>[Wi V.k V.m i key v])=0->QH B G bl (Y4 V (i,λ_=>[Wi V.k V.m i key v])) w w')/\Ye B G bl (Y4 V (i,λ_=>[Wi V.k V.m i key v])).P (Y4 V (i,λ_=>[Wi V.k V.m i key v])).Ds w w'/\(Yi V (i,λ_=>[Wi V.k V.m i key v])≠0->CS w' G.s):=by
 have hn:=h.nle;have ae:=Kj B w G V bl K E i key v h ht cr hi ef cy hv ak cz az (Zq ak af);have ag:=Bg key Qw;have dm:=BC V.k V.m (str v);have dp:=(DE (m:=V.m) (i:=i) (key:=key) ak hv).2;obtain⟨c,bu⟩:=ZK (Wq V i key);rw[bu] at ae hc;obtain⟨ss,aq⟩:=ZK (Y5 V.k V.m (str v));obtain⟨X,hX⟩:=ZK (ss.getD i ⟨#[]⟩);obtain⟨M,bm⟩:=ZK v.length;have hT:str (shT V.k V.m v i)=X:=by rw[<-hX,<-aq];rfl
 have dj:∀W:Qs,Calls prog 82 #[.string (str (nmD key)),.slice (some ⟨W,0,none⟩) 3 3] (W.alloc (.cells #[.string (s32 i),.string (s32 M),.string X] 9)) λe w'=>e=.returned (.tuple #[.string (str (shL V.k V.m i key v)),.nilIface])/\Below (W.alloc (.cells #[.string (s32 i),.string (s32 M),.string X] 9)).heap.size (W.alloc (.cells #[.string (s32 i),.string (s32 M),.string X] 9)) w':=λW=>by have h9:=Z2 W 9 [.string (s32 i),.string (s32 M),.string X];rw[<-hT,<-bm] at h9⊢;exact Ia (nmD key) (by simp[nmD];omega) W.heap.size 3 [QI i,QI v.length,shT V.k V.m v i] [] _ h9 dp
 rw[aq] at dm;obtain⟨nn,df⟩:=ZK ss.length;have eo:(i:Int)<(G.n:Int):=Qw;have ee:(i:Int)<(nn:Int):=Qw;have ct:i<nn:=Qw;have cu:¬nn=i:=Qw;have cw:i<=nn:=Qw;have dz:i<=4294967295:=Qw;have dt:M<=4294967295:=Qw;have H:=Q7 h ae ht az af ha ag aq hX df bm dj;clear ae h ht az af ha ag bu aq hT hX dm dp df bm dj;rcases hc with rfl|rfl
 all_goals
  go_enter func258,ntmps258;go_wp2_with (first|(go_at_call 45;refine H.2.mono ?_;rintro e w1 ⟨ev,rfl,de,bg⟩;obtain⟨b1,rfl,au,a1,aj⟩:=de.parts Qz;simp only[Int.reduceEq,Zgt,Zgj,reduceIte] at aj;have R1:=ZM bg (QH.ty bg H.1 H.3);clear de bg));have dq:Ty (w1.alloc (.cells #[.pointer none] 139)):=R1.2.below ((Zu _ _).alloc (Zt _) _);have bq:(w1.alloc (.cells #[.pointer none] 139)).cell? ⟨w1,0,none⟩=some (.pointer none):=Qx;have cn:(w1.alloc (.cells #[.pointer none] 139)).frozen? ⟨w1,0,none⟩=false:=Qx;refine(ES _ _ (.pointer none) _ dq bq cn).mono ?_;rintro e w2 ⟨rfl,dx,cj⟩;have U:Below w1 w1 w2:=(((Fr.refl [w1.heap.size] w1).alloc _).trans cj Qx).below (Zt _) Qx;have d10:=(U.cell (Z9 w1 _ au)).trans au;have d11:=(U.cell (Z9 w1 _ aj)).trans aj;obtain⟨du,e2,g2,f2⟩:=R1.1.after U;have R2:=ZM (ZJ e2 (ZJ g2 f2)) (R1.2.below U);clear dq bq cn cj U au aj e2 g2 f2 R1;go_wp2_with (first|(go_at_call 68;refine(Oa B _ G V du K E key v R2.1.1 cy hv ak cz hg H.4 H.5).mono ?_;rw[H.8,H.10,H.11];rintro e w3 ⟨a,cap,rfl,dh,er,eu,bh⟩;obtain⟨ga,oa,rfl,ek,bz⟩:=dh.open (by have:=H.10;omega);have c3:=bz i (by have:=H.10;omega);rw[H.9] at c3;have R3:=ZM (QH.trans R2.1 bh) (QH.ty bh R2.1.1 R2.2);clear dh bz bh dx d10 d11));have ay:∀A C:Qs,(A.cell? ⟨ga,oa+i,none⟩=some (.string X)/\Below w3 w3 A)->Below A A C->(C.cell? ⟨ga,oa+i,none⟩=some (.string X)/\Below w3 w3 C):=by rintro A C ⟨h0,O⟩ hb;exact⟨(hb.cell (Z9 A _ h0)).trans h0,O.trans (hb.mono O.size)⟩
  have hs0:=ay w3 w3.drew ⟨c3,Zu _ _⟩ ((Zu _ _).drew);have HK:=ZI ay;have ag:=H.7;clear ay;go_region_held3 (λx=>x.cell? ⟨ga,oa+i,none⟩=some (.string X)/\Below w3 w3 x) (first|assumption|exact hs0|(exact HK.o _ _ (by assumption) ((Zu _ _).alloc (Zt _) _))|(exact HK.o _ _ (by assumption) (by assumption)))
   (first|(go_at_call 80;refine(DW _ (by assumption) _).mono ?_;rintro e w8 ⟨rfl,Z⟩)|(go_at_call 82;refine(H.12 _).mono ?_;rintro e w9 ⟨rfl,J⟩))
  rename_i hHeld;obtain⟨-,O⟩:=hHeld;have R4:=ZM (QH.after R3.1 O) (R3.2.below O);clear O hs0 c3;go_wp2;obtain⟨dw,e4,g4,f4⟩:=R4.1;obtain⟨s,ah, -⟩:=e4.mem hi hM;have aw:=e4.after (Zu _ _).drew;have c2:=aw.Zaa.c2;have cm:=aw.Zak hi;have x1:=(ah.after (Zu _ _).drew).c1;have F:=ZY e4 g4 f4 ah;clear e4 g4 f4 ah aw;go_region_law (first|(go_simp;go_at_call 81;refine(GI _ _ _).mono ?_;rintro e w8 ⟨rfl,Z⟩;have k2:=(Z.cell (Z9 _ _ c2)).trans c2;have km:=(Z.cell (Z9 _ _ cm)).trans cm;have k1:=(Z.cell (Z9 _ _ x1)).trans x1)|((try go_simp);go_at_call 274;have J:=((Zu _ _).drew).trans Z;refine(Z0Q B _ G V dw K E i S (nmD key) (shL V.k V.m i key v) d f (F.1.after J) (R4.2.below J) cr hi hM (H.4.b i hi S hM) hK hE H.6 hg (F.4.after J)).mono ?_;rintro e w9 ⟨eh,rfl,dy,bf,ai, -,bj⟩))
  all_goals
   go_wp2;go_ret;exact⟨_,rfl,dy.base (Zq F.3.size J.size),λh0=>QH.trans ⟨F.1,F.2,F.3⟩ ((bf h0).from J),Ye.trans ⟨F.1,F.2,F.3⟩ (ai.from J),bj⟩
def WG(V:Ev)(i g:Nat):Int×Pw×Dk:=if V.P.gone then(10,V.P,V.Ds i) else Yv V.k V.m i g V.P (V.Ds i)
def QH.d2{B:Nat}{w w':Qs}{G:Eg}{V:Ev}{bl:Qj}(h:QH B G bl V w w')(i:Nat):Ye B G bl V.P (upd V.Ds i (V.Ds i)) w w':=by rw[Iw];exact h.d
def Z0K(B:Nat)(w:Qs)(G:Eg)(V:Ev)(bl:Qj)(K:List Bs)(i g:Nat)(h:EAt B w G V bl)(ht:Ty w)(aw:0<B)(hi:i<G.n)(hM:V.Ms i=none)(hK:KOk K)(hk:V.k<=16)(hm:V.m<=16)(bf:V.gen=(g:Int))(hg:g<=1000000000)(ai:(V.Ds i).wait.length<=1000)(ae:(V.Ds i).dead=false):Calls prog 116 #[G.s,(i:Int)] w λe w'=>∃ev,e=.returned ev/\QK w' w (WG V i g).1 ev/\((WG V i g).1=0->QH B G bl {V with P:=(WG V i g).2.1,Ds:=upd V.Ds i (WG V i g).2.2,Ms:=upd V.Ms i (some (Sto.first.nx [YG V.k V.m i g]))} w w')/\Ye B G bl (WG V i g).2.1 (upd V.Ds i (WG V i g).2.2) w w'/\(V.P.gone=false->(WG V i g).1≠0->CS w' G.s):=by
 have bh:=h.bw;have hn:=h.nle;have c4:=h.Zaa.c4;have c2:=h.Zaa.c2;have cm:=h.Zak hi;obtain⟨x0,L,af⟩:=h.dsk hi;have J:=af.read 0;have bj:(i:Int)<(G.n:Int):=Qw;have hlen:=af.ok.len;cases M:V.P.gone with
 |true=>
  have U:rdy V.P (V.Ds i) 0=10:=by unfold rdy;rw[M];rfl
  have hj:WG V i g=(10,V.P,V.Ds i):=by unfold WG;rw[M];rfl
  rw[hj];rw[U] at J;obtain⟨tx,Z⟩:=ZK (Ay V.P (V.Ds i) 0);rw[Z] at J;have H:=ZN J ht (QH.refl h);clear J ht U hj Z af M h hlen;go_enter func116,ntmps116;go_wp2_with (first|(go_at_call 73;refine H.1.mono ?_;rintro e w1 ⟨ev,rfl,he,hb⟩;obtain⟨b1,rfl⟩:=(he.split.resolve_left (λh=>absurd h.1 Qz)).2;have S1:=ZM he hb;clear he hb)|(go_at_call 49;refine(Ge w 10 _ _ S1.1 (H.2.1.below S1.2)).mono ?_;rintro e w3 ⟨v',rfl,hv,ak⟩;have F:=ZM hv (S1.2.trans (ak.mono S1.2.size));clear hv ak));go_ret;exact⟨_,rfl,F.1.base (by have:=S1.2.size;omega),λh=>absurd h Qz,(H.2.2.after F.2).d2 i,λh=>by cases h⟩
 |false=>
  have U:rdy V.P (V.Ds i) 0=0:=by rw[Ef M ae hlen];rfl
  have hj:WG V i g=Yv V.k V.m i g V.P (V.Ds i):=by unfold WG;rw[M];rfl
  rw[hj];rw[U] at J;obtain⟨tx,Z⟩:=ZK (Ay V.P (V.Ds i) 0);rw[Z] at J;have ah:=λ(w1:Qs) (aj:Qj) (h1:EAt B w1 G V aj) (t1:Ty w1)=>Z0C B w1 G V aj K i g h1 t1 aw hi hM hK hk hm hg ai ae;obtain⟨c,hc⟩:=ZK (Yv V.k V.m i g V.P (V.Ds i)).1;rw[hc] at ah⊢;have H:=ZR J ht h ah hc bf hM;clear J ht U hj Z af M h hlen ah hc;by_cases hz:c=0
  .subst hz;go_enter func116,ntmps116;go_wp2_with (first|(go_at_call 73;refine H.1.mono ?_;rintro e w1 ⟨ev,rfl,he,hb⟩;obtain rfl:=he.zero;have S1:=ZM (H.2.2.1.after hb) hb;clear he hb)|(go_at_call 34;refine(Cv B _ G V bl i S1.1 hi H.2.2.2.2.2.2).mono ?_;rintro e w2 ⟨rfl,O⟩;obtain⟨ag,e2,g2,f2⟩:=O.from S1.2;have c3:=e2.Zaa.c3;have C:=ZM (ZJ e2 (ZJ g2 f2)) (QH.ty ⟨ag,e2,g2,f2⟩ H.2.2.1 H.2.1);clear O e2 g2 f2;rw[H.2.2.2.2.2.1] at c3)|(go_at_call 48;refine(H.2.2.2.1 _ _ C.1.1 C.2).mono ?_;rintro e w3 ⟨ev,rfl,he,hB⟩;obtain rfl:=he.zero;have F:=ZI hB;clear he hB));go_ret;exact⟨_,rfl,QK.nil _ _,λ_=>QH.trans C.1 (F.o.ok H.2.2.2.2.1),Ye.trans C.1 F.o.bad,λ_ h=>absurd rfl h⟩
  .go_enter func116,ntmps116;go_wp2_with (first|(go_at_call 73;refine H.1.mono ?_;rintro e w1 ⟨ev,rfl,he,hb⟩;obtain rfl:=he.zero;have S1:=ZM (H.2.2.1.after hb) hb;clear he hb)|(go_at_call 34;refine(Cv B _ G V bl i S1.1 hi H.2.2.2.2.2.2).mono ?_;rintro e w2 ⟨rfl,O⟩;obtain⟨ag,e2,g2,f2⟩:=O.from S1.2;have c3:=e2.Zaa.c3;have C:=ZM (ZJ e2 (ZJ g2 f2)) (QH.ty ⟨ag,e2,g2,f2⟩ H.2.2.1 H.2.1);clear O e2 g2 f2;rw[H.2.2.2.2.2.1] at c3)|(go_at_call 48;refine(H.2.2.2.1 _ _ C.1.1 C.2).mono ?_;rintro e w3 ⟨ev,rfl,he,hB⟩;obtain⟨b3,rfl⟩:=(he.split.resolve_left (λh=>absurd h.1 hz)).2;have az:=hB.bad.ty C.1.1.ge C.1.1.bw C.2 aw;have F:=ZN he hB az;clear he hB az)|(go_at_call 40;refine(GG c _ G.s _ _ F.2.1.set rfl F.2.2 (by have h9:=H.2.2.1.ge G.s (Zh _ H.2.2.1.Zbb);omega) w2 (Fa F.2.1.bad) F.1 (C.1.1.typed.lt _ (Zh _ C.1.1.Zbb))).mono ?_;rintro e w4 ⟨bg,rfl,aq,au,ay⟩;have S4:=ZX aq au ay;clear aq au ay));go_ret;refine⟨_,rfl,S4.1.base C.1.2.2.size,λh=>absurd h hz,Ye.trans C.1 (F.2.1.bad.fr S4.2 (QL.row F.2.1.set (ts:=[78]) Qz) Qz (λk hk=>by rw[Z6] at hk;subst hk;exact Zv (Zh _ C.1.1.Zbb))),λ_ _=>⟨_,S4.3,rfl⟩⟩
def Z0E(B:Nat)(w:Qs)(G:Eg)(V:Ev)(bl:Qj)(i:Nat)(h:EAt B w G V bl)(hi:i<G.n):Calls prog 106 #[G.s,(i:Int)] w λe w'=>e=.returned (.bool (V.Ds i).dead)/\w=w':=by have c2:=h.Zaa.c2;have M:=h.Zak hi;have O:=h.nle;have J:(i:Int)<(G.n:Int):=Qw;obtain⟨U,L,F⟩:=h.dsk hi;obtain⟨gh,v, -,C⟩:=F.dk;have H:=ZI C;clear C F;go_enter func106,ntmps106;go_wp2_with (go_at_call 22;refine(Cr _ _ gh v _ _ H.o).mono ?_;rintro e w' ⟨rfl,rfl⟩);go_ret;simp
def Z0F(B:Nat)(w:Qs)(G:Eg)(V:Ev)(bl:Qj)(h:EAt B w G V bl):Calls prog 59 #[G.s] w λe w'=>e=.returned (G.n:Int)/\w=w':=by have c2:=h.Zaa.c2;go_enter func59,ntmps59;go_wp2;go_ret;simp
def CW(V:Ev)(i:Nat):Int:=if(V.Ds i).dead then 1 else if(V.Ms i).isSome then 0 else 2
def GV(B:Nat)(w:Qs)(G:Eg)(V:Ev)(bl:Qj)(i:Nat)(h:EAt B w G V bl)(hi:i<G.n):Calls prog 60 #[G.s,(i:Int)] w λe w'=>e=.returned (CW V i:Int)/\QH B G bl V w w':=by
 have C:=Z0E B w G V bl i h hi;have he:=Ki B w G V bl i h hi;have J:=QH.refl h;unfold CW;cases F:(V.Ds i).dead
 all_goals
  rw[F] at C;have H:=ZN C he J;cases hM:(V.Ms i).isSome
  all_goals
   rw[hM] at H;have H:=ZI H.o;clear C he J F hM;go_enter func60,ntmps60;go_wp2_with (first|(go_at_call 106;refine H.1.mono ?_;rintro e w' ⟨rfl,rfl⟩)|(go_at_call 44;refine H.2.1.mono ?_;rintro e w1 ⟨rfl,M⟩));go_ret
 .simp_all
 .simp_all
 .have:=H.2.2;simp_all
 .have:=H.2.2;simp_all
def DF(c:Int):Int:=if c=14 then 4 else if c=13 then 3 else 0
def LkC(c:Int):Prop:=c=0∨c=10∨c=11∨c=13∨c=14∨c=15
theorem Z3g(V:Ev)(i:Nat)(key:Bs):LkC (Wq V i key):=by unfold Wq LkC;grind
def Z2j(B:Nat)(w:Qs)(G:Eg)(V:Ev)(bl:Qj)(i:Nat)(key:Bs)(c:Int)(h:EAt B w G V bl)(ht:Ty w)(af:0<B)(hc:LkC c)(hl:Calls prog 45 #[G.s,(i:Int),key] w λe w'=>∃ev,e=.returned ev/\AK w' w c ev/\QH B G bl V w w'):Calls prog 61 #[G.s,(i:Int),key] w λe w'=>∃ev,e=.returned (.tuple #[(DF c:Int),ev])/\QK w' w (if c=10 then 10 else 0) ev/\QH B G bl V w w':=by
 have H:=ZX hl ht h;clear hl ht h;by_cases h0:c=0
 .subst h0;go_enter func61,ntmps61;go_wp2_with (go_at_call 45;refine H.1.mono ?_;rintro e w1 ⟨ev,rfl,hl,C⟩;obtain rfl:=hl.1.zero;have F:=ZI C;clear hl C);go_ret2;exact⟨_,rfl,QK.nil _ _,F.o.after ((Zu _ _).alloc (Zt _) _)⟩
 .have C:∀w1,QH B G bl V w w1->Ty w1:=λw1 h=>QH.ty h H.3 H.2;have HR:=ZI C;clear C;rcases hc with rfl|rfl|rfl|rfl|rfl|rfl
  .exact absurd rfl h0
  all_goals
   go_enter func61,ntmps61;go_wp2_with (first|(go_at_call 45;refine H.1.mono ?_;rintro e w1 ⟨ev,rfl,hl,C⟩;obtain⟨b1,rfl,O,a1,J⟩:=hl.parts Qz;simp only[Int.reduceEq,Zgt,Zgj,reduceIte] at J;have F:=ZN hl C (HR.o _ C);clear hl C)|(go_at_call 19;refine(JL w _ _ _ _ (F.1.1.after ((Zu _ _).alloc (Zt _) _)) Qz).mono ?_;rintro e w2 ⟨rfl,rfl⟩)|(go_at_call 102;refine(ES _ _ (.pointer none) _ (F.2.2.below ((Zu _ _).alloc (Zt _) _)) Qx Qx).mono ?_;rintro e w3 ⟨rfl,ae,Z⟩;have M:Below w1.heap.size w1 w3:=(((Fr.refl [w1.heap.size] w1).alloc _).trans Z Qx).below (Zt _) Qx;have d10:=(M.cell (Z9 w1 _ O)).trans O;have d11:=(M.cell (Z9 w1 _ J)).trans J;have U:=ZI M;clear Z M O J));go_ret2
   first
    |exact⟨_,rfl,QK.nil _ _,F.2.1.after ((Zu _ _).alloc (Zt _) _)⟩
    |exact⟨_,rfl,QK.nil _ _,F.2.1.after U.o⟩
    |exact⟨_,rfl,F.1.1.after U.o,F.2.1.after U.o⟩
def Il(x:Bs):(str x).toList=x:=by
 have h:∀b:Qq,b.toList=b.data.toList:=λb=>by rw[ZdH]
 rw[h];rfl
def gtB(a b:Bs):Bool:= !(Op.bytesLess a b||a==b)
def hfn(sh:Bool)(h:Nat):Qt:=.func (.func (if sh then 231 else 70)) #[.pointer h] #[]
def Ar(h s:Nat)(i:Nat)(key:Bs)(sh:Bool)(rd:Int):Qk:=[.pointer s,.int .i64 (i:Int),.string (str key),hfn sh h,.int .i64 rd]
def X0(w:Qs)(h s:Nat)(i:Nat)(key:Bs)(sh:Bool):Prop:=∃rd,Row w h 138 (Ar h s i key sh rd)
def XC(n:Nat)(L:List Bs)(i:Nat)(key:Bs):Nat×Bs×Bool:=if L.any (λx=>gtB x key) then(i,key,true) else(if i+1=n then 0 else i+1,[],false)
def ON(w:Qs)(s:Nat):Calls prog 30 #[s] w λe w'=>∃h,e=.returned (h:Nat)/\w.heap.size<=h/\X0 w' h s 0 [] false/\Below w w w':=by have C:=λ(W:Qs) (a:Addr) (x:Array Qt)=>ZgA prog W a (.func (.func 70) x #[]) .plain rfl;go_enter func30,ntmps30;go_wp2;go_ret;exact⟨_,rfl,Zt _,⟨0,Z2 w _ (Ar w s 0 [] false 0)⟩,(Zu _ _).alloc (Zt _) _⟩
def OI(B:Nat)(w:Qs)(G:Eg)(V:Ev)(bl:Qj)(h i:Nat)(aj key:Bs)(sh:Bool)(a:Qm)(cap:Nat)(L:List Bs)(he:EAt B w G V bl)(hh:X0 w h G.s i aj sh)(hi:i<G.n)(hL:Yd w a (L.map str))(aq:∀g o,a=some ⟨g,o,none⟩->∃r,Row w g 9 r)(bq:L.length<=1000000):Calls prog 166 #[h,.slice a L.length cap,key] w λe w'=>e=.returned (.tuple #[])/\X0 w' h G.s (XC G.n L i key).1 (XC G.n L i key).2.1 (XC G.n L i key).2.2/\Fr [h] w w':=by
 obtain⟨rd,J⟩:=hh;have bu:=λ(W:Qs) (p:Addr) (x:Array Qt)=>ZgA prog W p (.func (.func 70) x #[]) .plain rfl;have bm:=λ(W:Qs) (p:Addr) (x:Array Qt)=>ZgA prog W p (.func (.func 231) x #[]) .plain rfl;have hn:=he.nle;have af:Fr [h] w ((w.setCell ⟨h,2,none⟩ (.string (str key))).setCell ⟨h,3,none⟩ (.func (.func 231) #[.pointer h] #[])):=((Fr.refl [h] w).setCell (Zv Qx) _).setCell (Zv Qx) _;have r1:Row ((w.setCell ⟨h,2,none⟩ (.string (str key))).setCell ⟨h,3,none⟩ (.func (.func 231) #[.pointer h] #[])) h 138 (Ar h G.s i key true rd):=(J.set 2 (.string (str key))).set 3 _;have f2:=J.free (j:=2) (by simp[Ar]);have f3:=(J.set 2 (.string (str key))).free (j:=3) (by simp[Ar]);have d2:=J.c2;have d3:=(J.set 2 (.string (str key))).c3;have HE:=ZI he;clear he;go_enter func166,ntmps166;go_wp2;generalize (w.setCell ⟨h,2,none⟩ (.string (str key))).setCell ⟨h,3,none⟩ (.func (.func 231) #[.pointer h] #[])=w1 at*
 have ak:Yd w1 a (L.map str):=λj hj=>by obtain⟨g,o,e,hc⟩:=hL j hj;obtain⟨r,hr⟩:=aq g o e;refine⟨g,o,e,?_⟩;rw[af.cell (a:=⟨g,o+j,none⟩) hr.lt (by rw[Z6];exact Row.ne hr J Qz)];exact hc
 have au:EAt B w1 G V bl:=HE.o.fr af (QL.row J (ts:=[138]) Qz) Qz Qz Qz (λk hk hm=>by rw[Z6] at hm;subst hm;exact HE.o.Za0 J Qz hk);have F:=ZY r1 af ak au;clear r1 af ak au hL aq f2 f3 d2 d3 J;go_loopw [19] (λkv wr=>∃q:Nat,q<=L.length/\kv=(q:Int)/\(∀x∈L.take q,gtB x key=false)/\wr=w1) (λkv _=>L.length- (intOf kv).toNat)
 .exact⟨0,Qw,rfl,Qx,rfl⟩
 obtain⟨q,hq,rfl,Z,rfl⟩:=hrel;by_cases ai:q<L.length
 .obtain⟨g,o,rfl,hc⟩:=F.3 q (by simpa using ai);obtain⟨x,hx⟩:=ZK L[q];rw[ZeP,hx] at hc;have bf:x∈L:=by rw[<-hx];exact Zl ai
  have az:L.take (q+1)=L.take q++[x]:=by rw[<-hx];exact Zc ai
  have bh:(q:Int)<(L.length:Int):=Qw;have HN:=ZN Z bf az;clear Z bf az hx;have bj:gtB x key=true/\Op.bytesLess (str x).toList (str key).toList=false/\((str x).toList==(str key).toList)=false∨gtB x key=false/\Op.bytesLess (str x).toList (str key).toList=true∨gtB x key=false/\Op.bytesLess (str x).toList (str key).toList=false/\((str x).toList==(str key).toList)=true:=by rw[Il,Il];unfold gtB;cases Op.bytesLess x key<;>cases x==key<;>simp
  rcases bj with ⟨U,e1,e2⟩|⟨U,e1⟩|⟨U,e1,e2⟩
  .have HG:=ZI U;clear U;go_wp2;have ag:XC G.n L i key=(i,key,true):=by unfold XC;rw[Zx (ZeO.2 ⟨x,HN.2.1,HG.o⟩)]
   rw[ag];exact ZD (results_none (by rfl) _ _ _) rfl ⟨rfl,⟨rd,F.1⟩,F.2⟩
  all_goals
   have HG:=ZI U;clear U;go_wp2;go_roundw
   .refine⟨q+1,Qw,QC,λy O=> ?_,trivial⟩;rw[HN.2.2] at O;rcases Zj.1 O with O|O
    .exact HN.1 y O
    .rw[Z6] at O;rw[O];exact HG.o
   simp[intOf];omega
 .obtain rfl:q=L.length:=by omega
  rw[Zs] at Z;have ag:XC G.n L i key=(if i+1=G.n then 0 else i+1,[],false):=by unfold XC;rw[Zw];intro h9;obtain⟨x,h1,h2⟩:=ZeO.1 h9;rw[Z x h1] at h2;cases h2
  have HN:=ZI ag;clear ag Z;have c1:=F.1.c1;have f1:=F.1.free (j:=1) (by simp[Ar]);obtain⟨C,ay⟩:=ZK (i+1);have ei:(i:Int)+1=(C:Int):=Qw;have r2:=F.1.set 1 (.int .i64 (C:Int));have c2:=r2.c2;have f2:=r2.free (j:=2) (by simp[Ar]);have r3:=r2.set 2 (.string ⟨#[]⟩);have c3:=r3.c3;have f3:=r3.free (j:=3) (by simp[Ar]);have r4:Row (((wr.setCell ⟨h,1,none⟩ (.int .i64 (C:Int))).setCell ⟨h,2,none⟩ (.string ⟨#[]⟩)).setCell ⟨h,3,none⟩ (.func (.func 70) #[.pointer h] #[])) h 138 (Ar h G.s C [] false rd):=r3.set 3 _;have ah:Fr [h] wr (((wr.setCell ⟨h,1,none⟩ (.int .i64 (C:Int))).setCell ⟨h,2,none⟩ (.string ⟨#[]⟩)).setCell ⟨h,3,none⟩ (.func (.func 70) #[.pointer h] #[])):=(((Fr.refl [h] wr).setCell (Zv Qx) _).setCell (Zv Qx) _).setCell (Zv Qx) _;have HI:=ZI ay;clear r2 r3 ay;go_wp2;generalize ((wr.setCell ⟨h,1,none⟩ (.int .i64 (C:Int))).setCell ⟨h,2,none⟩ (.string ⟨#[]⟩)).setCell ⟨h,3,none⟩ (.func (.func 70) #[.pointer h] #[])=w2 at*
  have aw:EAt B w2 G V bl:=F.4.fr ah (QL.row F.1 (ts:=[138]) Qz) Qz Qz Qz (λk hk hm=>by rw[Z6] at hm;subst hm;exact F.4.Za0 F.1 Qz hk);have R2:=ZX r4 (F.2.trans ah (λk hk _=>hk)) aw;have d0:=r4.c0;have d1:=r4.c1;clear r4 ah aw c1 c2 c3 f1 f2 f3 ei;go_quiet ((go_at_call 59;exact Calls.quiet_of_same (G4 (Z0F B _ G V bl (R2.3.after (YE (Zu _ _) _))))));have r5:=R2.1.after (YE (Zu _ _) nq);have ae:=R2.2.trans (Z1 (L:=[]) (YE (Zu w2 w2) nq)) Qx;generalize w2.drewN nq=w3 at*
  clear d0 d1;have f1:=r5.free (j:=1) (by simp[Ar]);have c1:=r5.c1;have f4:=(r5.set 1 (.int .i64 0)).free (j:=4) (by simp[Ar]);have c4:=(r5.set 1 (.int .i64 0)).c4;have bg:C<=16:=by have:=HI.o;omega
  have hcut:=HN.o;rw[HI.o] at hcut;by_cases he:C=G.n
  .rw[Zx he] at hcut;have M:=ZX r5 ae hcut;have e1:((C:Int)==(G.n:Int))=true:=by simp;omega
   clear r5 ae hcut;go_wp2;go_end0;rw[M.3];exact⟨rfl,⟨_,(M.1.set 1 _).set 4 _⟩,(M.2.setCell (Zv Qx) _).setCell (Zv Qx) _⟩
  .rw[Zw he] at hcut;have M:=ZX r5 ae hcut;have e1:((C:Int)==(G.n:Int))=false:=by simp;omega
   clear r5 ae hcut;go_wp2;go_end0;rw[M.3];exact⟨rfl,⟨rd,M.1⟩,M.2⟩
end
section
open Go.RowKit
variable{D:Dk}
def Dg(h:D.wait=[])(keep:Qn)(t:Int):D.lost keep t=D:=by cases D;subst h;rfl
def QV.Zb6{K:List Bs}{E:Nat}{S:Sto}{Z9Y:List Ac}{d:Dir}{f:QF}(h:QV K E D S)(hK:KOk K)(ok:D.ok 800)(U:D.dead=false)(ha:Ym K S Z9Y d f){P:Pw}(F:P.gone=false)(hc:(QG (S.ops Z9Y d f) P D).1≠0)(keep:Qn)(t:Int):(QV K E ((QG (S.ops Z9Y d f) P D).2.2.lost keep t) S/\stR ((QG (S.ops Z9Y d f) P D).2.2.lost keep t).reads S.dir=stR D.reads S.dir)∨ (QV K (E+1) ((QG (S.ops Z9Y d f) P D).2.2.lost keep t) (S.done d f)/\stR ((QG (S.ops Z9Y d f) P D).2.2.lost keep t).reads (S.done d f).dir=Z9Y.foldl Ac.on (stR D.reads S.dir)):=by
 have M:¬P.lets (S.ops Z9Y d f).length:=λhl=>by obtain⟨Q,O,_⟩:=DB ok.fit U ha.in_ hl;simp_all
 have af:0<=P.Za3:=by
  by_cases h9:0<=P.Za3
  .omega
  .exact absurd ⟨F,Zv Qw⟩ M
 have ag:P.Za3<((S.ops Z9Y d f).length:Int):=by
  by_cases h9:P.Za3<((S.ops Z9Y d f).length:Int)
  .omega
  .exact absurd ⟨F,Zy Qw⟩ M
 obtain⟨k,hk⟩:∃k:Nat,P.Za3=k:=⟨P.Za3.toNat,Qw⟩;obtain⟨Q,O,_⟩:=Sd ok.fit U ha.in_ F k hk Qw;rw[O];obtain⟨Za5,hi⟩:=h.img;have ae:=XJ D.reads hi.ok hi.used ha.Zab ha.Zar;have Z:∀o∈YK (S.Zbs Z9Y d f),o.In 800:=by rw[<-FD];exact ha.in_
 have hcut:=SG ok.fit h.wait Z k keep t;rw[<-FD] at hcut;have e0:D.reads=D.Zac:=funext λa=>AV h.wait a;obtain⟨D1,J⟩:=ZL ((Yn ((S.ops Z9Y d f).take k) D).lost keep t);rw[<-J] at hcut⊢;have C:D1.wait=[]:=by rw[J];rfl
 have e1:D1.reads=D1.Zac:=funext λa=>AV C a;rw[<-e0,<-e1] at hcut;rcases hi.cut Qw ae ha.room hcut with ⟨c1,c2⟩|c1
 .exact Zv ⟨⟨⟨Za5,c1⟩,h.sm,C,h.ep⟩,c2⟩
 .obtain⟨g1,g2⟩:=h.did hK ok ha;have e2:D1.reads=(Yn (S.ops Z9Y d f) D).reads:=by rw[c1,Bd ok.fit ha.in_]
  refine Zy ⟨⟨?_,g1.sm,C,g1.ep⟩,?_⟩
  .obtain⟨rs,q1⟩:=g1.img;exact⟨rs,by rw[e2];exact q1⟩
  .simp_all
def Od:∀ (l:List Wp) (V:Ev),(QS l V).1≠0->∃a x b,l=a++x::b/\(QS a V).1=0/\Yi (QS a V).2 x≠0/\QS l V=(Yi (QS a V).2 x,Y4 (QS a V).2 x):=by
 intro l
 induction l with
 |nil=>intro V h;exact absurd rfl h
 |cons x r ih=>
  intro V h;by_cases C:Yi V x=0
  .have e:QS (x::r) V=QS r (Y4 V x):=(by rw[QS,Zx C]);rw[e] at h⊢;obtain⟨a,y,b,rfl,F,J,M⟩:=ih _ h;refine⟨x::a,y,b,rfl,?_⟩;have e2:QS (x::a) V=QS a (Y4 V x):=(by rw[QS,Zx C]);simp_all
  .refine⟨[],x,r,rfl,rfl,C,?_⟩;show QS (x::r) V=(Yi V x,Y4 V x);rw[QS,Zw C]
section
variable{X:QM}{n:Nat}{V:Ev}
theorem NP{ph ph':Nat->Dk->Sto->Prop}(h:X.At ph n V){i:Nat}{a:Sto->List Ac}(hi:i<n)(hK:KOk X.K){E:Nat}(F:∀S,V.Ms i=some S->QV X.K E (V.Ds i) S/\∃d f,Ym X.K S (a S) d f)(hc:Yi V (i,a)≠0)(keep:Nat->List Bool)(t:Nat->Int)(hw:∀j D S,ph j D S->D.wait=[])(M:∀D D' S,ph i D S->QV X.K E D' S->stR D'.reads S.dir=stR D.reads S.dir->ph i D' S)(O:∀S d f,V.Ms i=some S->Ym X.K S (a S) d f->∀D',QV X.K (E+1) D' (S.done d f)->stR D'.reads (S.done d f).dir=(a S).foldl Ac.on (stR (V.Ds i).reads S.dir)->ph' i D' (S.done d f)):∀j,j<n->(V.Ms j).isSome=true->∃S,ph j (((Y4 V (i,a)).Ds j).lost (keep j) (t j)) S∨ph' j (((Y4 V (i,a)).Ds j).lost (keep j) (t j)) S:=by
 intro j J hM;obtain⟨S,C⟩:=Zdp.1 hM;obtain⟨g1,g2,g3⟩:=h.at_ j J S C;by_cases e:j=i
 .subst e;obtain⟨hB,d,f,ha⟩:=F S C;obtain⟨e1,e2⟩:=JM (V:=V) (x:=(j,a)) C;rw[ha.go] at e1 e2;rw[e2];simp[Y3];rw[e1] at hc;rcases hB.Zb6 hK g2 g3 ha h.gone hc (keep j) (t j) with ⟨c1,c2⟩|⟨c1,c2⟩
  .grind
  .grind
 .have e2:(Y4 V (i,a)).Ds j=V.Ds j:=by
   unfold Y4;split
   .exact QQ _ _ e
   .rfl
  rw[e2,Dg (hw j _ _ g1)];grind
def NO{ph:Nat->Dk->Sto->Prop}(h:X.At ph n V){i:Nat}{a:Sto->List Ac}(hi:i<n){E:Nat}(C:∀S,V.Ms i=some S->QV X.K E (V.Ds i) S/\∃d f,Ym X.K S (a S) d f)(hc:Yi V (i,a)≠0):Yi V (i,a)=10/\(Y4 V (i,a)).P.gone=true:=by
 cases hM:V.Ms i with
 |none=>unfold Yi at hc;rw[hM] at hc;exact absurd rfl hc
 |some S=>
  obtain⟨g1,g2,g3⟩:=h.at_ i hi S hM;obtain⟨_,d,f,ha⟩:=C S hM;obtain⟨e1,e2⟩:=JM (V:=V) (x:=(i,a)) hM;rw[e1] at hc⊢;rw[e2];simp only[ha.go] at hc⊢;rcases C2 (S.ops (a S) d f) (P:=V.P) ha.in_ g2.fit g3 h.gone with h9|h9
  .exact absurd h9.1 hc
  .exact h9
theorem PK{α β:Type}{f:α->β}:∀{l:List α} {a:List β} {x:β} {b:List β},l.map f=a++x::b->∃C y F,l=C++y::F/\a=C.map f/\x=f y/\b=F.map f:=by
 intro l
 induction l with
 |nil=>intro a x b h;simp at h
 |cons z r ih=>
  intro a x b h;cases a with
  |nil=>simp at h;exact⟨[],z,r,rfl,rfl,h.1.symm,h.2.symm⟩
  |cons y a=>grind
theorem QM.Zb6(M:X.Ok n)(h:X.At (ph1 X []) n V)(hc:(QS (YT X (Yj V n)) V).1≠0)(keep:Nat->List Bool)(t:Nat->Int):((∀j,j<n->(V.Ms j).isSome=true->∃S,X.p0 j (((QS (YT X (Yj V n)) V).2.Ds j).lost (keep j) (t j)) S∨X.p1 j (((QS (YT X (Yj V n)) V).2.Ds j).lost (keep j) (t j)) S)∨ (∀j,j<n->(V.Ms j).isSome=true->∃S,X.p1 j (((QS (YT X (Yj V n)) V).2.Ds j).lost (keep j) (t j)) S∨X.p2 j (((QS (YT X (Yj V n)) V).2.Ds j).lost (keep j) (t j)) S))/\(QS (YT X (Yj V n)) V).1=10/\(QS (YT X (Yj V n)) V).2.P.gone=true:=by
 have ah:(Yj V n).Nodup:=Fs;have aq:∀done j D S,ph1 X done j D S->D.wait=[]:=λdone j D S F=>by
  unfold ph1 at F;split at F
  .exact F.1.wait
  .exact F.1.wait
 have au:∀done j D S,ph2 X done j D S->D.wait=[]:=λdone j D S F=>by
  unfold ph2 at F;split at F
  .exact F.1.wait
  .exact F.1.wait
 unfold YT at hc⊢;rw[Fg] at hc⊢;by_cases h0:(QS ((Yj V n).map (op1 X)) V).1=0
 .rw[Zx h0] at hc⊢;have hs:=DX ((Yj V n).map (op1 X)) V;obtain⟨a1, -⟩:=Z9i M (Yj V n) [] V h (λi hi=>mem_ins.1 hi) (λi _=>Qx) ah;have ae:=Z9h (ins:=Yj V n) (λi hi hM=>mem_ins.2 ⟨hi,by rw[<-hs];exact hM⟩) (a1 h0);obtain⟨V1,ak⟩:=ZL (QS ((Yj V n).map (op1 X)) V).2;rw[<-ak] at ae hs hc⊢;obtain⟨a,x,b,hl,q0,q1,q2⟩:=Od _ _ hc;obtain⟨J,i,b',ag,rfl,rfl,rfl⟩:=PK hl;rw[ag] at ah;have af:∀q∈J++i::b',q<n/\(V1.Ms q).isSome=true:=λq O=>by rw[<-ag] at O;exact⟨(mem_ins.1 O).1,by rw[hs];exact(mem_ins.1 O).2⟩
  have Z:i∉J:=QA;obtain⟨b1, -⟩:=Z9t M J [] V1 ae (λq O=>af q (ZdP _ O)) (λq _=>Qx) (Zdm.1 ah).1;rw[Zdx] at b1;have hb:=b1 q0;have aj:=DX (J.map (op2 X)) V1;rw[q2];obtain⟨U,ai⟩:=ZL (QS (J.map (op2 X)) V1).2;rw[<-ai] at hb aj q1⊢;have hi:=(af i Qx).1;have hr:∀S,U.Ms i=some S->QV X.K (X.E+1) (U.Ds i) S/\∃d f,Ym X.K S (Yu S.dir (Y2 X.l)) d f:=λS C=>by obtain⟨r1,d,r2⟩:=Z97 M hb hi C Z;grind
  refine⟨Zy λj hj hM=> ?_,NO hb hi hr q1⟩
  obtain⟨S,C⟩:=NP (ph':=X.p2) hb hi M.hK hr q1 keep t (au J) (λD D' S F c1 c2=>by
    unfold ph2 at F⊢;rw[Zw Z] at F⊢
    exact⟨c1,by rw[c2];exact F.2⟩) (λS d f C ha D' c1 c2=>by
    obtain⟨g1,g2,g3⟩:=hb.at_ i hi S C;unfold ph2 at g1;rw[Zw Z] at g1;have hz:=FO M.hl.nd (M.rest i hi) g1.2 g1.1.sorted (λ_=>Xt)
    exact⟨c1,by rw[c2];exact hz.2.1,by rw[c2];exact hz.2.2⟩) j hj QB
  refine⟨S,?_⟩;rcases C with C|C
  .unfold ph2 at C;split at C
   .exact Zy C
   .exact Zv C
  .exact Zy C
 .rw[Zw h0] at hc⊢;obtain⟨a,x,b,hl,q0,q1,q2⟩:=Od _ _ h0;obtain⟨J,i,b',ag,rfl,rfl,rfl⟩:=PK hl;rw[ag] at ah;have af:∀q∈J++i::b',q<n/\(V.Ms q).isSome=true:=λq O=>by rw[<-ag] at O;exact mem_ins.1 O
  have Z:i∉J:=QA;obtain⟨b1, -⟩:=Z9i M J [] V h (λq O=>af q (ZdP _ O)) (λq _=>Qx) (Zdm.1 ah).1;rw[Zdx] at b1;have hb:=b1 q0;have aj:=DX (J.map (op1 X)) V;rw[q2];obtain⟨U,ai⟩:=ZL (QS (J.map (op1 X)) V).2;rw[<-ai] at hb aj q1⊢;have hi:=(af i Qx).1;have hr:∀S,U.Ms i=some S->QV X.K X.E (U.Ds i) S/\∃d f,Ym X.K S (Wd X.k X.m i X.g X.l) d f:=λS C=>Z96 M hb hi C Z;refine⟨Zv λj hj hM=> ?_,NO hb hi hr q1⟩
  obtain⟨S,C⟩:=NP (ph':=X.p1) hb hi M.hK hr q1 keep t (aq J) (λD D' S F c1 c2=>by
    unfold ph1 at F⊢;rw[Zw Z] at F⊢
    exact⟨c1,by rw[c2];exact F.2⟩) (λS d f C ha D' c1 c2=>by
    obtain⟨g1,g2,g3⟩:=hb.at_ i hi S C;unfold ph1 at g1;rw[Zw Z] at g1;refine⟨c1,?_⟩;rw[c2,g1.2]
    exact PX M.hl.nd (M.rest i hi)) j hj QB
  refine⟨S,?_⟩;rcases C with C|C
  .unfold ph1 at C;split at C
   .exact Zy C
   .exact Zv C
  .exact Zy C
end
end
def JF(D:Dk):Prop:=D.dead=true∨(D.dead=false/\D.wait=[]/\Cj 100 D.reads)
structure Wb(K:List Bs)(E k m g i:Nat)(H:Bs->Option Bs)(s:Bool)(D:Dk)(S I:Option Sto)(γ:Int)(A:List Ac):Prop where
 pre:AI K E k m g i D S γ I A
 o:I=none->s=false/\JF D
 fin:∀T,I=some T->(A≠[]->∃d f,Ym K T A d f)/\Wl k m i g H (A.foldl Ac.on (stR D.reads T.dir))/\(s=true->Xn k m i H (A.foldl Ac.on (stR D.reads T.dir)))
section
variable{K:List Bs}{E k m g i:Nat}{H:Bs->Option Bs}{s:Bool}{D:Dk}{S I:Option Sto}{γ:Int}{A:List Ac}{T:Sto}
def Wb.dsk(h:Wb K E k m g i H s D S I γ A)(J:I=some T):S=some T/\QV K E D T/\D.dead=false/\IG k m i (stR D.reads T.dir) γ:=by
 have M:S=some T:=by
  rcases h.pre.way with ⟨C,_⟩|⟨O,C,F,_⟩|⟨O,_,C,F,_⟩
  .rw[J] at C;cases C
  .rw[J] at F;cases F;exact C
  .rw[J] at F;cases F;exact C
 exact⟨M,h.pre.st T M⟩
def Ee(h:QV K E D T)(M:D.dead=false)(C:Wl k m i g H (stR D.reads T.dir))(hs:s=true->Xn k m i H (stR D.reads T.dir))(O:g<=1000000000):Wb K E k m g i H s D (some T) (some T) g []:=⟨⟨λe=>(by cases e),λF e=>(by cases e;exact⟨h,M,Zv ⟨g,rfl,O,C.ZaW⟩⟩),Zf2 _,Zy (Zv ⟨T,rfl,rfl,rfl,C.acts0.symm,Zv rfl⟩)⟩,λe=>(by cases e),λF e=>(by cases e;exact⟨λJ=>absurd rfl J,C,hs⟩)⟩
def Tq(R:Nat->ByteArray)(C:D.reads=R)(a:Nat)(ok:D.ok 800)(ha:a+100<=800):(D.text a 100).getD 0 0=WF (R a):=by
 have F:(D.reads a).size=64:=Eh ok Qw;unfold Dk.text WF;rw[show List.range 100=0::(List.range 99).map (· +1) from rfl,Zm,<-C,ZeE];have h:0<(D.reads a).data.toList.length:=by have:(D.reads a).data.toList.length=(D.reads a).size:=rfl;omega
 rw[Z7,Za h,<-Z7]
def Cj.first{R:Nat->ByteArray}(h:Cj 100 R)(C:R 0=str (QO 1 0 Yk)):Wc 800 100 R Sto.first [] where
 nn:=rfl
 hh:=rfl
 Zaq:=rfl
 open_:=rfl
 img:=by
  refine⟨⟨C,trivial,?_,λ_=> ?_⟩,Zv ?_,rfl,rfl,Zt 1⟩
  .show 1+Yf ([]:List Bs)<=100
   simp[Yf]
  .show WF (R (0+(1+Yf ([]:List Bs))))≠1
   exact h.b
  .show WF (R (0+100))≠1
   exact h.c
 dir:=rfl
 pre:=λk F=>by simpa using Fi
 used:=(Da R).used
 small:=Qx
 few:=Qx
 Za5:=Qx
def FB(h:JF D)(ok:D.ok 800)(O:1<=E):∃S,Wb K E k m g i H false D S none (-1) []:=by
 have hw:∀S,(S=none->II D)->(∀T,S=some T->QV K E D T/\D.dead=false/\stR D.reads T.dir nmC=none)->Wb K E k m g i H false D S none (-1) []:=λS M F=>⟨⟨λe=>⟨M e,rfl⟩,λT e=>⟨(F T e).1,(F T e).2.1,Zy ⟨rfl,(F T e).2.2⟩⟩,Qw,Zv ⟨rfl,rfl,Qw,Zy Qw⟩⟩,λ_=>⟨rfl,h⟩,λT e=>by cases e⟩;rcases h with C|⟨C,J,hi⟩
 .exact⟨none,hw none (λ_=>Zv C) (λT e=>by cases e)⟩
 .rcases hi.a with ha|ha
  .exact⟨none,hw none (λ_=>Zy ⟨C,by rw[Tq _ rfl 0 ok Qw];exact ha,by rw[Tq _ rfl 100 ok Qw];exact hi.c⟩) (λT e=>by cases e)⟩
  .exact⟨some Sto.first,hw _ (λe=>by cases e) (λT e=>by
    cases e
    exact⟨⟨⟨[],hi.first ha⟩,(λm hm=>by cases hm),J,O⟩,C,rfl⟩)⟩
def Wb.mono(h:Wb K E k m g i H s D S I γ A){E':Nat}(he:E<=E'):Wb K E' k m g i H s D S I γ A:=⟨⟨h.pre.no,λT e=>⟨(h.pre.st T e).1.mono he,(h.pre.st T e).2⟩,h.pre.le,h.pre.way⟩,h.o,h.fin⟩
def DO(K:List Bs)(E k m g i:Nat)(H:Bs->Option Bs)(s:Bool)(D:Dk)(S I:Option Sto)(γ:Int)(A:List Ac):Prop:=Wb K (E+1) k m g i H s D S I γ A/\(A≠[]->Wb K E k m g i H s D S I γ A)
def Wb.e(h:Wb K E k m g i H s D S I γ A):DO K E k m g i H s D S I γ A:=⟨h.mono (Zel E),λ_=>h⟩
def Wb.same(h:Wb K E k m g i H s D S I γ A)(M:I=some T){D':Dk}{E':Nat}(hB:QV K E' D' T)(U:D'.dead=false)(F:stR D'.reads T.dir=stR D.reads T.dir):Wb K E' k m g i H s D' S I γ A:=by
 obtain⟨rfl,Z,h2,O⟩:=h.dsk M;subst M;refine⟨⟨λe=>(by cases e),λJ e=>(by cases e;exact⟨hB,U,by rw[F];exact O⟩),h.pre.le,?_⟩,λe=>(by cases e),λJ e=>(by cases e;rw[F];exact h.fin T rfl)⟩;rcases h.pre.way with C|C|⟨J,gone,e1,e2,C⟩
 .exact Zv C
 .exact Zy (Zv C)
 .cases e2;rw[<-F] at C;exact Zy (Zy ⟨T,gone,e1,rfl,C⟩)
def Wb.did(h:Wb K E k m g i H s D S I γ A)(O:I=some T)(Z:g<=1000000000){D':Dk}{E':Nat}{C:Sto}(hB:QV K E' D' C)(U:D'.dead=false)(F:stR D'.reads C.dir=A.foldl Ac.on (stR D.reads T.dir)):Wb K E' k m g i H s D' (some C) (some C) g []:=by obtain⟨-,J,M⟩:=h.fin T O;exact Ee hB U (by rw[F];exact J) (λhs=>by rw[F];exact M hs) Z
end
def Rk(K:List Bs)(E k m g n:Nat)(H:Bs->Option Bs)(sd:Qr)(D:Nat->Dk):Prop:=
 ∃i0,i0<n/\∀i,i<n->∃S I γ A,DO K E k m g i H (sd i) (D i) S I γ A/\(i=i0->γ=(g:Int))
section
variable{K:List Bs}{E k m g n:Nat}{H:Bs->Option Bs}{sd:Qr}{S:Nat->Option Sto}{γ:Nat->Int}{A:Nat->List Ac}{V:Ev}
structure Gi(K:List Bs)(E k m g n:Nat)(H:Bs->Option Bs)(sd:Qr)(V:Ev)(t:Nat)(V':Ev):Prop where
 gone:V'.P.gone=false
 num:V'.k=V.k/\V'.m=V.m/\V'.gen=V.gen
 done:∀i,i<t->i<n->∀T,V.Ms i=some T->∃T',V'.Ms i=some T'/\Wb K (E+1) k m g i H (sd i) (V'.Ds i) (some T') (some T') g []
 o:∀i,i<n->V.Ms i=none->V'.Ms i=none/\V'.Ds i=V.Ds i
 rest:∀i,t<=i->V'.Ms i=V.Ms i/\V'.Ds i=V.Ds i
 Za2:∀i,(V'.Ds i).Za2=(V.Ds i).Za2/\(V'.Ds i).dead=(V.Ds i).dead
def Z5I(hK:KOk K)(hg:g<=1000000000)(h:∀i,i<n->DO K E k m g i H (sd i) (V.Ds i) (S i) (V.Ms i) (γ i) (A i))(ag:∀i,i<n->(V.Ds i).ok 800)(ae:V.P.gone=false):∀t,t<=n-> ((Yc A t V).1=0/\Gi K E k m g n H sd V t (Yc A t V).2)∨ ((Yc A t V).1=10/\(Yc A t V).2.P.gone=true/\(∀i,((Yc A t V).2.Ds i).Za2=(V.Ds i).Za2/\((Yc A t V).2.Ds i).dead=(V.Ds i).dead)/\∀i,i<n->(V.Ms i=none/\(Yc A t V).2.Ds i=V.Ds i)∨∃T,V.Ms i=some T/\∀keep (Z:Int),∃T' γ' A',Wb K (E+1) k m g i H (sd i) (((Yc A t V).2.Ds i).lost keep Z) (some T') (some T') γ' A'/\(γ'=g∨γ'=γ i)):=by
 intro t
 induction t with
 |zero=>intro _;exact Zv ⟨rfl,ae,⟨rfl,rfl,rfl⟩,λi hi=>Qw,λi _ hM=>⟨hM,rfl⟩,λi _=>⟨rfl,rfl⟩,λi=>⟨rfl,rfl⟩⟩
 |succ t ih=>
  intro ht;rcases ih Qw with ⟨h0,hx⟩|F
  .have e1:Yc A (t+1) V=Yo (A t) t (Yc A t V).2:=(by rw[show Yc A (t+1) V=if(Yc A t V).1=0 then Yo (A t) t (Yc A t V).2 else Yc A t V from rfl,Zx h0]);rw[e1];have J:=h t Qw;obtain⟨W,hW⟩:=ZK (Yc A t V).2;rw[hW] at hx⊢;obtain⟨em,ed⟩:=hx.rest t (Zt _);unfold Yo;by_cases U:A t=[]
   .rw[Zx U];refine Zv ⟨rfl,hx.gone,hx.num,λi hi hn T C=> ?_,hx.o,λi hi=>hx.rest i Qw,hx.Za2⟩;by_cases e:i=t
    .subst e;obtain⟨h1,h2,M,h4⟩:=J.1.dsk C;have h5:=J.1.did C hg (E':=E+1) h2 M (by rw[U];rfl);exact⟨T,by rw[em];exact C,by rw[ed];exact h5⟩
    .exact hx.done i Qw hn T C
   .rw[Zw U];have J:=J.2 U;cases hM:V.Ms t with
    |none=>
     rcases J.pre.way with ⟨_,F,_⟩|⟨T,_,F,_⟩|⟨T,_,_,F,_⟩
     .exact absurd F U
     .rw[hM] at F;cases F
     .rw[hM] at F;cases F
    |some T=>
     obtain⟨h1,h2,M,h4⟩:=J.dsk hM;obtain⟨d,f,ha⟩:=(J.fin T hM).1 U;obtain⟨s1,s2⟩:=JM (V:=W) (x:=(t,λ_=>A t)) (em.trans hM);simp only[ed] at s1 s2;rw[s1,s2];have af:=Jk (T.go (A t)) W.P (V.Ds t);rcases C2 (T.go (A t)) (P:=W.P) (D:=V.Ds t) (by rw[ha.go];exact ha.in_) (ag t Qw).fit M hx.gone with ⟨c0,c1⟩|⟨c0,c1⟩
     .have e9:=DC (T.go (A t)) (P:=W.P) (D:=V.Ds t) (by rw[ha.go];exact ha.in_) (ag t Qw).fit M c0;obtain⟨g1,g2⟩:=h2.did hK (ag t Qw) ha;rw[<-ha.go,<-ha.nx] at g1;rw[<-ha.go,<-ha.nx] at g2;rw[<-e9] at g1 g2;refine Zv ⟨c0,c1,hx.num,λi hi hn T1 C=> ?_,λi hi C=> ?_,λi hi=> ?_,λi=> ?_⟩
      .by_cases e:i=t
       .subst e;rw[hM] at C;cases C;simp only[Y3];exact⟨_,rfl,J.did hM hg g1 (by rw[af.2];exact M) g2⟩
       .simp only[QQ _ _ e];exact hx.done i Qw hn T1 C
      .by_cases e:i=t
       .subst e;rw[hM] at C;cases C
       .simp only[QQ _ _ e];exact hx.o i hi C
      .have e:i≠t:=(by omega);simp only[QQ _ _ e];exact hx.rest i Qw
      .by_cases e:i=t
       .subst e;simp only[Y3];exact af
       .simp only[QQ _ _ e];exact hx.Za2 i
     .refine Zy ⟨c0,c1,λi=> ?_,λi hi=> ?_⟩
      .by_cases e:i=t
       .subst e;simp only[Y3];exact af
       .simp only[QQ _ _ e];exact hx.Za2 i
      .by_cases e:i=t
       .subst e;simp only[Y3];refine Zy ⟨T,hM,λkeep Z=> ?_⟩;have hc:=h2.Zb6 hK (ag i hi) M ha hx.gone (by rw[<-ha.go,c0];decide) keep Z;rw[<-ha.go] at hc;rcases hc with ⟨c2,c3⟩|⟨c2,c3⟩
        .have h5:=J.same hM (c2.mono (Zel E)) (by show(QG _ _ _).2.2.dead=false;rw[af.2];exact M) c3;rw[hM,h1] at h5;exact⟨T,_,_,h5,Zy rfl⟩
        .exact⟨_,_,_,J.did hM hg c2 (by show(QG _ _ _).2.2.dead=false;rw[af.2];exact M) c3,Zv rfl⟩
       .simp only[QQ _ _ e];cases C:V.Ms i with
        |none=>exact Zv ⟨rfl,(hx.o i hi C).2⟩
        |some T1=>
         refine Zy ⟨T1,rfl,λkeep Z=> ?_⟩;by_cases ah:i<t
         .obtain⟨T',e2,O⟩:=hx.done i ah hi T1 C;have hq:=Dg (O.dsk rfl).2.1.wait keep Z;rw[hq];exact⟨T',_,_,O,Zv rfl⟩
         .rw[(hx.rest i Qw).2];have O:=(h i hi).1;obtain⟨q1,q2, -⟩:=O.dsk C;rw[Dg q2.wait keep Z];rw[q1,C] at O;exact⟨T1,_,_,O,Zy rfl⟩
  .refine Zy ?_;rw[Sc (by rw[F.1];decide) (t+1) Qw];exact F
end
section
open Go.RowKit Go.Shelf
variable{D:Dk}
section
variable{K:List Bs}{E k m g n:Nat}{H:Bs->Option Bs}{sd:Qr}{S:Nat->Option Sto}{γ:Nat->Int}{A:Nat->List Ac}{V:Ev}
def Hk(ok:D.ok 800)(keep:Qn)(t:Int):(D.lost keep t).ok 800:=⟨(PG ok.fit keep t).len,ok.n1,ok.n2,λx hx=>(by cases hx),λx hx=>(by cases hx),(by simp[Dk.lost]),ok.Zb4,ok.Zbf⟩
def JF.lost(h:JF D)(keep:Qn)(t:Int):JF (D.lost keep t):=by
 rcases h with h|h
 .exact Zv h
 .rw[Dg h.2.1];exact Zy h
def Wb.outs{i:Nat}{s:Bool}{S I:Option Sto}{γ:Int}{A:List Ac}(h:Wb K E k m g i H s D S I γ A)(M:I=none)(ok:D.ok 800)(J:1<=E)(keep:Qn)(t:Int):∃C,Wb K E k m g i H s (D.lost keep t) C none (-1) []:=by obtain⟨rfl,F⟩:=h.o M;exact FB (F.lost keep t) (Hk ok keep t) J
def Wb.top{i:Nat}{s:Bool}{S I:Option Sto}{A:List Ac}(h:Wb K E k m g i H s D S I g A):∃T,I=some T:=by
 rcases h.pre.way with ⟨_,_,F,_⟩|⟨T,_,C,_⟩|⟨T,_,_,C,_⟩
 .exact absurd rfl F
 .exact⟨T,C⟩
 .exact⟨T,C⟩
def Z5J(hK:KOk K)(hg:g<=1000000000)(hE:1<=E)(h:∀i,i<n->DO K E k m g i H (sd i) (V.Ds i) (S i) (V.Ms i) (γ i) (A i)){i0:Nat}(Z:i0<n)(hγ:γ i0=(g:Int))(O:∀i,i<n->(V.Ds i).ok 800)(ae:V.P.gone=false):((Yc A n V).1=0∨(Yc A n V).1=10)/\(Yc A n V).2.P.gone=decide ((Yc A n V).1=10)/\(∀i,((Yc A n V).2.Ds i).Za2=(V.Ds i).Za2/\((Yc A n V).2.Ds i).dead=(V.Ds i).dead)/\(∀ (keep:Nat->List Bool) (C:Nat->Int),Rk K (E+1) k m g n H sd (λi=>((Yc A n V).2.Ds i).lost (keep i) (C i)))/\((Yc A n V).1=0->Gi K E k m g n H sd V n (Yc A n V).2):=by
 rcases Z5I (S:=S) (γ:=γ) hK hg h O ae n (Zt _) with ⟨h0,hx⟩|⟨h0,h1,h2,h3⟩
 .refine⟨Zv h0,by rw[hx.gone,h0];rfl,hx.Za2,λkeep C=> ?_,λ_=>hx⟩;refine⟨i0,Z,λi hi=> ?_⟩;dsimp only;cases hM:V.Ms i with
  |none=>rw[(hx.o i hi hM).2];obtain⟨U,J⟩:=(h i hi).1.outs hM (O i hi) Qw (keep i) (C i);refine⟨U,none, -1,[],J.e,λe=> ?_⟩;subst e;have F:=h _ hi;rw[hγ] at F;obtain⟨T,M⟩:=F.1.top;rw[hM] at M;cases M
  |some T=>obtain⟨T',e1,e2⟩:=hx.done i hi hi T hM;rw[Dg (e2.dsk rfl).2.1.wait];exact⟨_,_,_,_,e2.e,λ_=>rfl⟩
 .refine⟨Zy h0,by rw[h1,h0];rfl,h2,λkeep C=> ?_,λe=>by rw[h0] at e;cases e⟩;refine⟨i0,Z,λi hi=> ?_⟩;dsimp only;rcases h3 i hi with ⟨hM,e⟩|⟨T,hM,J⟩
  .rw[e];obtain⟨U,J⟩:=(h i hi).1.outs hM (O i hi) Qw (keep i) (C i);refine⟨U,none, -1,[],J.e,λe=> ?_⟩;subst e;have F:=h _ hi;rw[hγ] at F;obtain⟨T,M⟩:=F.1.top;rw[hM] at M;cases M
  .obtain⟨T',γ',A',e1,e2⟩:=J (keep i) (C i);exact⟨_,_,_,_,e1.e,λe=>by subst e;rcases e2 with e2|e2<;>omega⟩
end
end
section
open Go.RowKit
structure IJ(A:Nat->List Ac)(V:Ev)(n:Nat)(r:Int×Ev):Prop where
 code:r.1=0
 gone:r.2.P.gone=false
 Za3:r.2.P.Za3<0
 num:r.2.k=V.k/\r.2.m=V.m/\r.2.gen=V.gen
 did:∀i,i<n->A i≠[]->∀S,V.Ms i=some S->r.2.Ms i=some (S.nx (A i))/\r.2.Ds i=Yn (S.go (A i)) (V.Ds i)
 not:∀i,n<=i∨A i=[]->r.2.Ms i=V.Ms i/\r.2.Ds i=V.Ds i
 Za2:∀i,(r.2.Ds i).Za2=(V.Ds i).Za2
 dead:∀i,(r.2.Ds i).dead=(V.Ds i).dead
def LL{K:List Bs}{A:Nat->List Ac}{V:Ev}(hg:V.P.gone=false)(hf:V.P.Za3<0):∀n,(∀i,i<n->A i≠[]->∃S d f,V.Ms i=some S/\Ym K S (A i) d f/\(V.Ds i).ok 800/\(V.Ds i).dead=false)->IJ A V n (Yc A n V):=by
 intro n
 induction n with
 |zero=>intro _;exact⟨rfl,hg,hf,⟨rfl,rfl,rfl⟩,λi hi=>Qw,λi _=>⟨rfl,rfl⟩,λ_=>rfl,λ_=>rfl⟩
 |succ t ih=>
  intro h;have C:=ih (λi hi=>h i Qw);unfold Yc;rw[Zx C.code];by_cases J:A t=[]
  .unfold Yo;rw[Zx J]
   refine⟨rfl,C.gone,C.Za3,C.num,λi hi M=>C.did i (by
    rcases Zfc.1 hi with F|rfl
    .exact F
    .exact absurd J M) M,λi hi=>C.not i (by
    by_cases e:i=t
    .subst e;exact Zy J
    .exact hi.imp (λ_=>Qw) id),C.Za2,C.dead⟩
  .obtain⟨S,d,f,hM,ha,ag,hd⟩:=h t Qw J;have Z:(Yc A t V).2.Ms t=some S:=(by rw[(C.not t (Zv (Zt _))).1,hM]);obtain⟨e1,e2⟩:=JM (V:=(Yc A t V).2) (x:=(t,λ_=>A t)) Z;simp only[(C.not t (Zv (Zt _))).2] at e1 e2;obtain⟨Q,U,ae,af⟩:=DB (l:=S.go (A t)) (P:=(Yc A t V).2.P) ag.fit hd (by rw[ha.go];exact ha.in_) ⟨C.gone,Zv C.Za3⟩;rw[U] at e1 e2;unfold Yo;rw[Zw J,e1,e2];refine⟨rfl,ae,?_,C.num,λi hi M S' O=> ?_,λi hi=> ?_,λi=> ?_,λi=> ?_⟩
   .show Q.Za3<0;rw[af,Zx C.Za3];exact C.Za3
   .by_cases e:i=t
    .subst e;rw[hM] at O;cases O;exact⟨Y3 _ _ _,Y3 _ _ _⟩
    .simp only[QQ _ _ e];exact C.did i Qw M S' O
   .have e:i≠t:=by
     rintro rfl;rcases hi with F|F
     .omega
     .exact J F
    simp only[QQ _ _ e];exact C.not i (hi.imp (λ_=>Qw) id)
   .by_cases e:i=t
    .subst e;simp only[Y3];have F:=(Jk (S.go (A i)) (Yc A i V).2.P (V.Ds i)).1;rw[U] at F;exact F
    .simp only[QQ _ _ e];exact C.Za2 i
   .by_cases e:i=t
    .subst e;simp only[Y3];have F:=(Jk (S.go (A i)) (Yc A i V).2.P (V.Ds i)).2;rw[U] at F;exact F
    .simp only[QQ _ _ e];exact C.dead i
def QM.q0(X:QM)(i:Nat)(D:Dk)(S:Sto):Prop:=QV X.K (X.E+2) D S/\stR D.reads S.dir=X.T i
section
variable{X:QM}{n:Nat}{D:Nat->Dk}
def Z9a(M:X.Ok n){i:Nat}(hi:i<n){D:Dk}{S:Sto}(U:X.g<=1000000000)(O:D.dead=false)(h:X.q0 i D S):AI X.K (X.E+2) X.k X.m X.g i D (some S) X.g (some S) (acts0 S.dir)/\acts0 S.dir=[]:=by have C:=M.rest i hi;obtain⟨F,J⟩:=h;rw[<-J] at C;exact⟨⟨λe=>(by cases e),λT e=>(by cases e;exact⟨F,O,Zv ⟨_,rfl,U,C.ZaW⟩⟩),Zf2 _,Zy (Zv ⟨S,rfl,rfl,rfl,rfl,Zv C.acts0⟩)⟩,C.acts0⟩
def PW{k m i g:Nat}{H:Bs->Option Bs}{l:List Chg}{T C:Tab}(h:Mid k m i g H l T C)(F:Wl k m i g H T):C nmC=some (some (YM k m i g)):=by rw[h.rest nmC (by simp[nmC,nmN]) (by simp[nmC,nmT]) (λx e=>by simp[nmC,nmS] at e)];exact F.ZaW
def QM.ZbA(C:X.Ok n){i:Nat}(hi:i<n){D:Dk}{S:Sto}(O:X.g<=1000000000)(M:D.dead=false)(h:X.p1 i D S):AI X.K (X.E+2) X.k X.m X.g i D (some S) X.g (some S) (acts0 S.dir)/\∃d,Ym X.K S (acts0 S.dir) d []:=by obtain⟨F,J⟩:=h;obtain⟨d,ha⟩:=F.dropped C.hK C.hl (C.rest i hi) J;exact⟨⟨λe=>(by cases e),λT e=>(by cases e;exact⟨F.mono Qw,M,Zv ⟨_,rfl,O,PW J (C.rest i hi)⟩⟩),Zf2 _,Zy (Zv ⟨S,rfl,rfl,rfl,rfl,Zy ⟨d,[],ha⟩⟩)⟩,d,ha⟩
def Z98(C:X.Ok n){i:Nat}(hi:i<n){D:Dk}{S:Sto}(U:X.g<=999999999)(M:D.dead=false)(h:X.p1 i D S):AI X.K (X.E+2) X.k X.m (X.g+1) i D (some S) X.g (some S) (Yu S.dir (Y2 X.l))/\∃d,Ym X.K S (Yu S.dir (Y2 X.l)) d []:=by
 obtain⟨J,F⟩:=h;obtain⟨d,ha⟩:=J.second C.hK C.hl (C.rest i hi) F;have hlen:(Y2 X.l).length<=X.l.length:=by unfold Y2;exact ZdJ _ _
 have O:=C.hl.few;refine⟨⟨λe=>(by cases e),λT e=>(by cases e;exact⟨J.mono Qw,M,Zv ⟨_,rfl,Qw,PW F (C.rest i hi)⟩⟩),Qw,Zy (Zy ⟨S,Y2 X.l,rfl,rfl,Qw,Qw,F.next,F.under,(Mm C.hK C.hl).2,Qw,λx hx=> ?_,rfl,d,ha⟩)⟩,d,ha⟩;obtain⟨c,hc,hx,_⟩:=Dc.1 hx;have:=(C.hK.len _ (C.hl.key c hc)).2;rw[<-hx];omega
def QM.ZbB(O:X.Ok n){i:Nat}{D:Dk}{S:Sto}(U:X.g<=999999999)(J:D.dead=false)(h:X.p2 i D S):AI X.K (X.E+2) X.k X.m (X.g+1) i D (some S) ((X.g+1:Nat):Int) (some S) (acts0 S.dir)/\acts0 S.dir=[]:=by obtain⟨F,C,M⟩:=h;exact⟨⟨λe=>(by cases e),λT e=>(by cases e;exact⟨F,J,Zv ⟨_,rfl,Qw,C.ZaW⟩⟩),Zf2 _,Zy (Zv ⟨S,rfl,rfl,rfl,rfl,Zv C.acts0⟩)⟩,C.acts0⟩
end
end
section
open Go.RowKit Go.Shelf
structure QT(K:List Bs)(E k m n g:Nat)(H:Bs->Option Bs)(sd:Qr)(V:Ev):Prop where
 set:∀P:Pw,P.gone=false->P.Za3<0->Y0 K E k m n g H sd {V with P:=P}
 o:∀i,i<n->V.Ms i=none->JF (V.Ds i)
section
variable{K:List Bs}{E k m g n:Nat}{H:Bs->Option Bs}{sd:Qr}{S:Nat->Option Sto}{γ:Nat->Int}{A:Nat->List Ac}{V:Ev}
def Gi.ZcV{V':Ev}(hx:Gi K E k m g n H sd V n V')(h:∀i,i<n->Wb K (E+1) k m g i H (sd i) (V.Ds i) (S i) (V.Ms i) (γ i) (A i))(hK:KOk K)(ae:1<=k)(af:k+m=n)(ah:V.k=k)(ai:V.m=m)(ag:V.gen=(g:Int))(hl:∀i,i<n->(V.Ds i).Za2<=(E:Int))(U:k<=YN sd n):QT K (E+1) k m n g H sd (Xg n V') where
 set:=λP h1 h2=>by
  have key:∀i,i<n->∀C,V'.Ms i=some C->QV K (E+1) (V'.Ds i) C/\Wl k m i g H (stR (V'.Ds i).reads C.dir)/\(sd i=true->Xn k m i H (stR (V'.Ds i).reads C.dir)):=λi hi C F=>by
   cases hM:V.Ms i with
   |none=>rw[(hx.o i hi hM).1] at F;cases F
   |some T=>
    obtain⟨J,e1,e2⟩:=hx.done i hi hi T hM
    rw[F] at e1
    cases e1
    exact⟨(e2.dsk rfl).2.1,(e2.fin C rfl).2.1,(e2.fin C rfl).2.2⟩
  refine⟨hK,ae,af,hx.num.1.trans ah,hx.num.2.1.trans ai,hx.num.2.2.trans ag,h1,h2,λi hi=> ?_,λi hi C F=> ?_,λi hi hs=> ?_,U⟩
  .have h9:=hl i hi
   show(V'.Ds i).Za2<=_
   rw[(hx.Za2 i).1];omega
  .have O:V'.Ms i=some C:=by rw[<-F];exact(Zx hi).symm
   exact⟨(key i hi C O).1,(key i hi C O).2.1⟩
  .cases hM:V.Ms i with
   |none=>rw[((h i hi).o hM).1] at hs;cases hs
   |some T=>
    obtain⟨J,e1,e2⟩:=hx.done i hi hi T hM
    exact⟨J,by rw[<-e1];exact Zx hi,(key i hi J e1).2.2 hs⟩
 o:=λi hi hM=>by
  have Z:V'.Ms i=none:=by rw[<-hM];exact(Zx hi).symm
  cases M:V.Ms i with
  |none=>
   show JF (V'.Ds i)
   rw[(hx.o i hi M).2]
   exact((h i hi).o M).2
  |some T=>
   obtain⟨J,e1,e2⟩:=hx.done i hi hi T M
   rw[Z] at e1;cases e1
end
structure U5(B:Nat)(K:List Bs)(E k m n g p:Nat)(ds:Nat->Nat)(H:Bs->Option Bs)(sd:Qr)(P:Pw)(Ds:Nat->Dk)(bl:Qj)(w:Qs)(sv:Qt)(c:Int)(w':Qs):Prop where
 code:c=0∨c=10
 last:P.Za3<0->c=0
 fr:Fr (p::bl) w w'
 left:∃P' D' blx,P'.gone=decide (c=10)/\Y6 w' p P'/\DAt B w' p n ds P' D' blx/\(∀q∈blx,q∈bl∨w.heap.size<=q)/\(∀ (keep:Nat->List Bool) (tn:Nat->Int),Rk K (E+1) k m g n H sd (λi=>(D' i).lost (keep i) (tn i)))/\∀i,(D' i).Za2=(Ds i).Za2/\(D' i).dead=(Ds i).dead
 bad:c≠0->sv=.pointer none
 ok:c=0->∃G' V' bl',sv=.pointer G'.s/\EAt B w' G' V' bl'/\G'.n=n/\G'.p=p/\G'.ds=ds/\(∀q∈bl',q∈bl∨w.heap.size<=q)/\QT K (E+1) k m n g H sd V'/\V'.P.gone=false/\(P.Za3<0->V'.P.Za3<0)/\∀i,(V'.Ds i).Za2=(Ds i).Za2
def O5(B:Nat)(w:Qs)(K:List Bs)(E gd n cap k m p g:Nat)(ds:Nat->Nat)(P:Pw)(Ds:Nat->Dk)(bl:Qj)(H:Bs->Option Bs)(sd:Qr)(hc:∀i,i<n->w.cell? ⟨gd,i,none⟩=some (.pointer (some ⟨ds i,0,none⟩)))(bu:gd<w)(bm:gd∉p::bl)(ak:1<=k)(hn:n=k+m)(ah:n<=16)(bh:B<=w)(hD:DAt B w p n ds P Ds bl)(hp:Y6 w p P)(hK:KOk K)(ae:P.gone=false)(cj:Ty w)(bq:0<B)(hR:Rk K E k m g n H sd Ds)(af:k<=YN sd n)(hl:∀i,i<n->(Ds i).Za2<=(E:Int))(bf:1<=E)(hE:E<=1900000000)(aj:g<=1000000000):Calls prog 27 #[.slice gd n cap,(k:Int),(m:Int)] w λe w'=>∃sv ev c,e=.returned (.tuple #[sv,ev])/\QK w' w c ev/\U5 B K E k m n g p ds H sd P Ds bl w sv c w':=by
 obtain⟨Ls,rfl,h1,h2⟩:=hD;obtain⟨i0,O,hR⟩:=hR;have bg:∀i,∃q:(Option Sto×Option Sto)×Int×List Ac,i<n->DO K E k m g i H (sd i) (Ds i) q.1.1 q.1.2 q.2.1 q.2.2/\(i=i0->q.2.1=(g:Int)):=λi=>by
  by_cases hi:i<n
  .obtain⟨S,I,γ,A,h3,h4⟩:=hR i hi;exact⟨((S,I),γ,A),λ_=>⟨h3,h4⟩⟩
  .exact⟨((none,none),0,[]),λh=>absurd h hi⟩
 obtain⟨f,Z⟩:=Classical.skolem.1 bg;obtain⟨V,C⟩:∃V:Ev,V=⟨k,m,(g:Int),P,Ds,λi=>(f i).1.2⟩:=⟨_,rfl⟩;have U:∀i,i<n->DO K E k m g i H (sd i) (V.Ds i) (f i).1.1 (V.Ms i) (f i).2.1 (f i).2.2:=λi hi=>by rw[C];exact(Z i hi).1
 have au:∀i,i<n->(V.Ds i).ok 800:=λi hi=>by rw[C];exact(h1 i hi).ok
 obtain⟨x1,x2,x3,x4,x5⟩:=Z5J (A:=λi=>(f i).2.2) hK aj bf U O ((Z i0 O).2 rfl) au (by rw[C];exact ae)
 have ag:k<=BM (λi=>(f i).1.2) n:=Zq af (GA λi hi hs=>by
  have F:=(U i hi).1;rw[C] at F;cases hI:(f i).1.2 with
  |none=>rw[(F.o hI).1] at hs;cases hs
  |some T=>exact(ZF Option.isSome hI))
 have aw:=Z0W B w K (E+1) gd n cap k m p g ds P Ds Ls (λi=>(f i).1.1) (λi=>(f i).1.2) (λi=>(f i).2.1) (λi=>(f i).2.2) hc bu bm ak hn ah bh h1 h2 hK ae cj bq (λi hi=>(Z i hi).1.1.pre) ⟨i0,O,(Z i0 O).2 rfl⟩ ag Qw aj;rw[<-C] at aw;have aq:P.Za3<0->(Yc (λi=>(f i).2.2) n V).1=0/\(Yc (λi=>(f i).2.2) n V).2.P.Za3<0:=λF=>by
  have h8:=LL (K:=K) (A:=λi=>(f i).2.2) (V:=V) (by rw[C];exact ae) (by rw[C];exact F) n (λi hi hA=>by
   have M:=(U i hi).1;have hM:∃T,V.Ms i=some T:=by
    rcases M.pre.way with ⟨_,J,_⟩|⟨T,_,J,_⟩|⟨T,_,_,J,_⟩
    .exact absurd J hA
    .exact⟨T,J⟩
    .exact⟨T,J⟩
   obtain⟨T,hM⟩:=hM;obtain⟨d,f',ha⟩:=(M.fin T hM).1 hA
   exact⟨T,d,f',hM,ha,au i hi,(M.dsk hM).2.2.1⟩)
  exact⟨h8.code,h8.Za3⟩
 refine aw.mono ?_;rintro e w' ⟨sv,ev,rfl,he,hd,ZaZ,ai⟩;have bj:Fr (p::(List.range n).flatMap Ls) w w':=by obtain⟨-, -, -, -,F⟩:=hd;exact F
 have bz:Y6 w' p (Yc (λi=>(f i).2.2) n V).2.P:=by obtain⟨cn,F, -⟩:=hd;exact(F 0 (by show 0<n;omega)).pw
 obtain⟨ay,J,M⟩:=hd.at_;refine⟨sv,ev,_,rfl,he,x1,λF=>(aq F).1,bj,⟨_,_,ay,x2,bz,J,M,x4,λi=>by rw[(x3 i).1,(x3 i).2,C];exact⟨rfl,rfl⟩⟩,ZaZ,λh0=> ?_⟩;obtain⟨s,ms,c,xs,bl',rfl,az,hg⟩:=ai h0;refine⟨_,_,bl',rfl,az,rfl,rfl,rfl,hg,(x5 h0).ZcV (λi hi=>(U i hi).1) hK ak Qw (by rw[C]) (by rw[C]) (by rw[C]) (λi hi=>by rw[C];exact hl i hi) af,?_,λF=>(aq F).2,λi=>(x3 i).1.trans (by rw[C])⟩;show(Yc (λi=>(f i).2.2) n V).2.P.gone=false;rw[x2,h0];rfl
def Z4p{w:Qs}{base k:Nat}{e:Qu}{v:Qt}{n:Nat}{xs:Qk}(h:w.ownsRow base e k v n xs):∃a c,v=.slice a n c:=by
 rcases h.2 with ⟨C,F⟩|⟨g,cap,cur,C,_⟩
 .simp_all
 .simp_all
def Z0L(w:Qs)(s:Nat)(l:Qk)(pre:Qq)(h:Row w s 78 l)(hl:l[4]? =some (.bool true)):Calls prog 43 #[s,.string pre] w λe w'=>∃b,e=.returned (.tuple #[(),.iface 139 (b:Nat)])/\QK w' w 16 (.iface 139 (b:Nat))/\Below w w w':=by have F:=h.cell hl;go_enter func43,ntmps43;go_wp2_with (go_at_call 31;refine(Ff _ _ Qz _).mono ?_;rintro e w1 ⟨b1,rfl,he, -,hb⟩;have C:=ZM he hb;clear he hb);go_ret2;exact⟨b1,rfl,C.1,C.2⟩
def OQ(w:Qs)(h s i:Nat)(J key:Bs)(O:Bool)(l:Qk)(hh:X0 w h s i J O)(hs:Row w s 78 l)(hl:l[4]? =some (.bool true)):Calls prog 117 #[h,key] w λe w'=>e=.returned (.tuple #[])/\Below w w w':=by obtain⟨rd,F⟩:=hh;have c0:=F.c0;have C:=Z0L w s l ⟨#[]⟩ hs hl;have H:=ZI C;clear C hs;go_enter func117,ntmps117;go_wp2_with (go_at_call 43;refine H.o.mono ?_;rintro e w1 ⟨b1,rfl,he,hb⟩;have M:=ZI hb;clear he hb);go_end0;exact⟨rfl,M.o⟩
def X9(V:Ev)(n:Nat):List Bs:=Lib.compact ((XY V [] n).mergeSort λx y=>decide (x<=y))
section
variable{K:List Bs}{E k m n g:Nat}{H:Bs->Option Bs}{sd:Qr}{V:Ev}
def QT.ok(h:QT K E k m n g H sd V):Y0 K E k m n g H sd {V with P:=⟨false, -1,0⟩}:=h.set _ rfl Qz
def QT.keys(h:QT K E k m n g H sd V){B:Nat}{w:Qs}{G:Eg}{bl:Qj}(he:EAt B w G V bl)(J:G.n=n):Calls prog 43 #[G.s,.string ⟨#[]⟩] w λe w'=>∃a c,e=.returned (.tuple #[.slice a (X9 V n).length c,.nilIface])/\Yd w' a ((X9 V n).map str)/\(∀q o,a=some ⟨q,o,none⟩->∃r,Row w' q 9 r)/\(X9 V n).length<=1000000/\QH B G bl V w w':=by
 have F:EJ V n:=h.ok.Zcn;refine(NZ B w G V bl [] he Qx (by rw[J];exact F)).mono ?_;rw[J];rintro e w' ⟨v,rfl,hs,O⟩;have hlen:(X9 V n).length<=160000:=by have M:=Lib.compact_length_le ((XY V [] n).mergeSort λx y=>decide (x<=y));rw[Zfr] at M;have U:=Hc F [] n (Zt _);have Z:=he.nle;unfold X9;omega
 have C:Strs w' w v (X9 V n):=hs;obtain⟨a,c,rfl⟩:=Z4p C;refine⟨a,c,rfl,C.rd,λq o e=> ?_,Qw,O⟩;exact YP C q (by subst e;simp[QU,Value.ownBlock])
def Fo(B:Nat)(w:Qs)(G:Eg)(bl:Qj)(hb i:Nat)(ae key:Bs)(sh:Bool)(h:QT K E k m n g H sd V)(he:EAt B w G V bl)(hn:G.n=n)(hh:X0 w hb G.s i ae sh)(hi:i<n):Calls prog 117 #[hb,key] w λe w'=>e=.returned (.tuple #[])/\X0 w' hb G.s (XC n (X9 V n) i key).1 (XC n (X9 V n) i key).2.1 (XC n (X9 V n) i key).2.2/\∃bl',EAt B w' G V bl'/\(∀q∈bl',q∈bl∨w.heap.size<=q)/\Fr (hb::G.p::bl) w w':=by obtain⟨rd,M⟩:=hh;have c0:=M.c0;have O:=h.keys he hn;obtain⟨L,hL⟩:=ZK (X9 V n);rw[hL] at O⊢;have H:=ZN O he M;clear O he M hL;go_enter func117,ntmps117;go_wp2_with (first|(go_at_call 43;refine H.1.mono ?_;rintro e w1 ⟨a,c,rfl,h1,C,h3,U⟩;have Z:=QH.row U H.2.1 H.2.2 Qz;have F:=ZZ h1 C h3 U Z;clear h1 C h3 U Z)|(go_at_call 166;obtain⟨af,e1,g1,f1⟩:=F.4;refine(OI B w1 G V af hb i ae key sh a c L e1 ⟨rd,F.5⟩ Qw F.1 F.2 F.3).mono ?_;rintro e w2 ⟨rfl,C,f2⟩;have R2:=ZP C f2 e1 g1 f1;clear C f2 e1 g1 f1));go_end0;obtain⟨C,f2,e1,g1,f1⟩:=R2.o;rw[hn] at C;refine⟨rfl,C,af,e1.fr f2 (QL.row F.5 (ts:=[138]) Qz) Qz Qz Qz (λq J hm=>by rw[Z6] at hm;subst hm;exact e1.Za0 F.5 Qz J),g1,?_⟩;exact(f1.mono (L':=hb::G.p::bl) (λq J _=>Zh _ J)).trans f2 (λq J _=>by rw[Z6] at J;subst J;exact ZeU)
end
end
section
variable{D:Dk}{K:List Bs}{P:Pw}{g i k m:Nat}{l:List Seg}
def Z0l{b:Nat}:∀{R C:Nat->ByteArray},Cut l R C->(∀s∈l,∀x∈s,x.1≠b)->C b=R b:=by
 induction l with
 |nil=>intro R C h _;rw[show C=R from h]
 |cons s r ih=>
  intro R C h hb;rcases h with ⟨j,h⟩|h
  .exact h.other λx hx=>hb s Qx x (Zdh hx)
  .rw[ih h (λF hs=>hb F (by simp[hs])),FL (hb s Qx)]
def Sh(ok:D.ok 800)(J:D.dead=false)(hw:D.wait=[])(F:∀o∈YK l,o.In 800)(M:P.gone=false)(hc:(QG (YK l) P D).1≠0)(keep:Qn)(t:Int):((QG (YK l) P D).2.2.lost keep t).wait=[]/\((QG (YK l) P D).2.2.lost keep t).dead=false/\Cut l D.reads ((QG (YK l) P D).2.2.lost keep t).reads:=by
 have C:((QG (YK l) P D).2.2.lost keep t).dead=false:=(Jk (YK l) P D).2.trans J;have O:¬P.lets (YK l).length:=λhl=>by obtain⟨Q,Z,_⟩:=DB ok.fit J F hl;simp_all
 have af:0<=P.Za3:=by
  by_cases h9:0<=P.Za3
  .omega
  .exact absurd ⟨M,Zv Qw⟩ O
 have ag:P.Za3<((YK l).length:Int):=by
  by_cases h9:P.Za3<((YK l).length:Int)
  .omega
  .exact absurd ⟨M,Zy Qw⟩ O
 obtain⟨k,hk⟩:∃k:Nat,P.Za3=k:=⟨P.Za3.toNat,Qw⟩;obtain⟨Q,Z,_⟩:=Sd ok.fit J F M k hk Qw;rw[Z] at C⊢;have hcut:=SG ok.fit hw F k keep t;have e0:D.reads=D.Zac:=funext λa=>AV hw a;obtain⟨D1,h⟩:=ZL ((Yn ((YK l).take k) D).lost keep t);have ae:((Q,Yn ((YK l).take k) D).2).lost keep t=D1:=h.symm;rw[<-h] at hcut;have U:D1.wait=[]:=by rw[h];rfl
 have e1:D1.reads=D1.Zac:=funext λa=>AV U a;rw[<-e0,<-e1] at hcut;simp only at C⊢;rw[<-h] at C⊢;exact⟨U,C,hcut⟩
def Ou(R:Nat->ByteArray):Cj 100 (QZ (Z3 100) R):=by
 have h:=Z9n R 100 Qw;refine⟨Zy h.on.head,h.on.stop (by show 1+0<100;omega),?_⟩;have C:(QO 1 0 Yk).length=64:=Xq _;have M:(Yl (QO 1 0 Yk)).length=64:=by rw[Jc _ (AT _ _ _),C]
 have F:(Jn.first 100).Zap true 0=[(100,YV)]:=by unfold Jn.Zap Jn.first Jn.at_;rw[Zw Qz];simp
 have J:(Jn.first 100).Zap false 1=[(1,YV)]:=by unfold Jn.Zap Jn.first Jn.at_;rw[Zw Qz];simp
 rw[GN,Hz];unfold DZ;rw[F,J,DM _ _ C,DM _ _ M];exact Aq
def Z1g(hK:KOk K){Z9Y:List Ac}{d:Dir}{f:QF}(ha:Ym K Sto.first Z9Y d f):∀s∈Sto.first.Zbs Z9Y d f,∀x∈s,x.1≠100:=by
 have hi:=Da (λ_=>YV);have F:=XJ (λ_=>YV) hi.ok hi.used ha.Zab ha.Zar;have hl:=SV (f:=f) (λm hm=>(Br hK m hm).2) (Fz hK) (λx hx=>by cases hx) ha.sm hi.ok F.ok;intro s hs x hx e;rcases Zj.1 hs with hs|hs
 .unfold F7 at hs;split at hs
  .cases hs
  .rw[Z6] at hs;subst hs;have hm:DOp.wr x.1 x.2∈W5 d Z9Y f:=by rw[IA];exact ZdT hx
   obtain⟨y,U,e2,J,h⟩:=Hl hm;rw[e] at h;exact F.apart (Zv Qw) y U e2 J h
 .unfold Sto.Zbn at hs;rw[Zx (by show _<=100-1;unfold QP;omega)] at hs;obtain⟨r,O⟩:=ZK (JA (YB Sto.first.dir d f));rw[O] at hs hl;have M:(QO 1 1 r).length=QP r.length:=BZ _ _ _;have hle:QP r.length / 64<=70:=by unfold QP;omega
  have ae:(Yl (QO 1 1 r)).length=QP r.length:=by rw[Jc _ (AT _ _ _),M]
  change s∈[WY 1 (Yl (QO 1 1 r))++(Jn.first 100).Zap false (1+(QO 1 1 r).length / 64),WY 1 ((QO 1 1 r).take 64)] at hs;have C:∀{l:Bs},l.length / 64<=70->x∈WY 1 l->False:=λZ hm=>by obtain⟨j,hj,rfl⟩:=L8 hm;simp only at e;omega
  rw[Zk,Z6] at hs;rcases hs with rfl|rfl
  .rcases Zj.1 hx with hx|hx
   .exact C Qw hx
   .obtain⟨h1,rfl⟩:=Dj hx;have:(1+(QO 1 1 r).length / 64)=100:=e;omega
  .exact C (by rw[Zg];omega) hx
def Ov(D:Dk):(Yn (Z3 100) D).wait=[]:=by rw[GN];unfold DZ YK;rw[Zm,Zm,Zgd,Zdg];unfold Seg.ops;rw[<-Zd];exact EQ _ D
def Vi(hK:KOk K)(ok:D.ok 800)(M:D.dead=false)(hw:D.wait=[])(U:P.gone=false):(Yv k m i g P D).2.2.ok 800:=by
 have C:∀o∈Z3 100,o.In 800:=λo O=>by
  have:=GM 100 Qw o O;cases o with
  |wr a s=>exact⟨Zp this.1 Qw,this.2⟩
  |fl=>trivial
 have h:=FT (Z3 100) (P:=P) C ok (by rw[hw];have:=KB;simp;omega);unfold Yv;split
 .rename_i c1;have F:=DC (Z3 100) (P:=P) C ok.fit M c1;have J:=Ov D;obtain⟨d,f,ha⟩:=EW hK k m i g;obtain⟨b1,b2⟩:=IY (k:=k) (m:=m) (i:=i) (g:=g) (R:=D.reads) hK (by rw[F] at h;exact h) (Bd ok.fit C) ha;rw[F] at h⊢;rw[ha.go];have hi:Wc 800 100 (Yn (Z3 100) D).reads Sto.first []:=by rw[Bd ok.fit C];exact Da D.reads
  have hB:QV K 1 (Yn (Z3 100) D) Sto.first:=⟨⟨[],hi⟩,λx hx=>(by cases hx),J,Zt 1⟩
  exact FT _ ha.in_ h (by have:=ha.len hB hK;rw[J];simp;omega)
 .exact h
def Vj(hK:KOk K)(ok:D.ok 800)(hd:D.dead=false)(hw:D.wait=[])(ho:Cj 100 D.reads)(hg:P.gone=false):((Yv k m i g P D).1=0/\(Yv k m i g P D).2.1.gone=false/\QV K 2 (Yv k m i g P D).2.2 (Sto.first.nx [YG k m i g])/\stR (Yv k m i g P D).2.2.reads (Sto.first.nx [YG k m i g]).dir=JG k m i g)∨ ((Yv k m i g P D).1=10/\(Yv k m i g P D).2.1.gone=true/\∀ (keep:Qn) (t:Int),JF ((Yv k m i g P D).2.2.lost keep t)∨(((Yv k m i g P D).2.2.lost keep t).dead=false/\QV K 2 ((Yv k m i g P D).2.2.lost keep t) (Sto.first.nx [YG k m i g])/\stR ((Yv k m i g P D).2.2.lost keep t).reads (Sto.first.nx [YG k m i g]).dir=JG k m i g)):=by
 have h:∀o∈Z3 100,o.In 800:=λo ho=>by
  have:=GM 100 Qw o ho;cases o with
  |wr a s=>exact⟨Zp this.1 Qw,this.2⟩
  |fl=>trivial
 rcases C2 (Z3 100) (P:=P) h ok.fit hd hg with ⟨c1,c2⟩|⟨c1,c2⟩
 .have ae:=DC (Z3 100) (P:=P) h ok.fit hd c1;have C:(Yn (Z3 100) D).ok 800:=by have F:=FT (Z3 100) (P:=P) h ok (by rw[hw];have:=KB;simp;omega);rw[ae] at F;exact F
  have U:(Yn (Z3 100) D).dead=false:=by rw[N6];exact hd
  have ag:=Ov D;obtain⟨d,f,ha⟩:=EW hK k m i g;have Z:=Bd ok.fit h;obtain⟨b1,b2⟩:=IY (k:=k) (m:=m) (i:=i) (g:=g) (R:=D.reads) hK C Z ha;obtain⟨D1,hD⟩:=ZK (Yn (Z3 100) D);rw[hD] at ae C U ag b1 b2 Z;have e:Yv k m i g P D=QG (Sto.first.ops [YG k m i g] d f) (QG (Z3 100) P D).2.1 D1:=by unfold Yv;rw[Zx c1,ha.go,ae]
  rw[e,ha.nx];obtain⟨P1,ai⟩:=ZK (QG (Z3 100) P D).2.1;rw[ai] at c2⊢;rcases C2 (Sto.first.ops [YG k m i g] d f) (P:=P1) ha.in_ C.fit U c2 with ⟨x1,x2⟩|⟨x1,x2⟩
  .rw[DC _ ha.in_ C.fit U x1];exact Zv ⟨x1,x2,b1,b2⟩
  .refine Zy ⟨x1,x2,λkeep t=> ?_⟩;have hi:Wc 800 100 D1.reads Sto.first []:=by rw[Z];exact Da D.reads
   have aj:=XJ D1.reads hi.ok hi.used ha.Zab ha.Zar;rw[FD] at x1;obtain⟨J,M,O⟩:=Sh C U ag (by rw[<-FD];exact ha.in_) c2 (by rw[x1];decide) keep t;rw[FD];have af:=Z0l O (Z1g hK ha);obtain⟨D2,ah⟩:=ZK ((QG (YK (Sto.first.Zbs [YG k m i g] d f)) P1 D1).2.2.lost keep t);rw[ah] at J M O af⊢;rcases hi.cut Qw aj ha.room O with ⟨z1, -⟩|z1
   .refine Zv (Zy ⟨M,J,Zy z1.img.on.head,z1.img.on.stop (by show 1+0<100;omega),?_⟩);rw[af,Z];exact(Ou D.reads).c
   .have e2:D2.reads=(Yn (Sto.first.ops [YG k m i g] d f) D1).reads:=(by rw[z1,Bd C.fit ha.in_]);obtain⟨rs,q1⟩:=b1.img;exact Zy ⟨M,⟨⟨rs,by rw[e2];exact q1⟩,b1.sm,J,b1.ep⟩,by rw[e2];exact b2⟩
 .have e:Yv k m i g P D=QG (Z3 100) P D:=by unfold Yv;rw[Zw (by rw[c1];decide)]
  rw[e];refine Zy ⟨c1,c2,λkeep t=>Zv ?_⟩;rw[GN] at c1 h⊢;obtain⟨J,M,O⟩:=Sh ok hd hw h hg (by rw[c1];decide) keep t;refine Zy ⟨M,J,?_⟩;rcases ho.ZbT Qw O with F|F
  .exact F
  .rw[F];exact Ou D.reads
end
section
open Go.RowKit Go.Shelf
variable{T:Tab}
def Jd(n:Nat)(V:Ev):Prop:=∀i,i<n->(V.Ds i).ok 800/\((V.Ms i).isSome=true->(V.Ds i).dead=false)
def EAt.alive{B:Nat}{w:Qs}{G:Eg}{V:Ev}{bl:Qj}(h:EAt B w G V bl):Jd G.n V:=λi hi=>by obtain⟨-,L,C⟩:=h.dsk hi;refine⟨C.ok,λhs=> ?_⟩;obtain⟨S,hM⟩:=Zdp.1 hs;exact(h.oks hi hM).2
def K7{sd:Qr}{n:Nat}(h:1<=YN sd n):∃i,i<n/\sd i=true:=by unfold YN at h;obtain⟨x,hx⟩:=ZeT (l:=(List.range n).filter sd) Qw;rw[Zdr,Zdo] at hx;exact⟨x,hx⟩
section
variable{K:List Bs}{E k m n g:Nat}{H:Bs->Option Bs}{sd:Qr}{V:Ev}
def QT.Zaj(h:QT K E k m n g H sd V):Y0 K E k m n g H sd {V with P:=⟨false, -1,0⟩}:=h.set _ rfl Qz
def QT.mono(h:QT K E k m n g H sd V){E':Nat}(he:E<=E'):QT K E' k m n g H sd V:=⟨λP C F=>(h.set P C F).mono he,h.o⟩
def QT.Zbt(h:QT K E k m n g H sd V){i:Nat}(hi:i<n)(hM:V.Ms i=none):sd i=false:=by
 cases hs:sd i with
 |false=>rfl
 |true=>obtain⟨S,C,_⟩:=h.Zaj.snd i hi hs;rw[show V.Ms i=some S from C] at hM;cases hM
def QT.rk(h:QT K E k m n g H sd V)(ha:Jd n V)(hg:g<=1000000000)(hE:1<=E){i:Nat}{Ds:Nat->Dk}{keep:Nat->List Bool}{O:Nat->Int}(ho:∀j,j≠i->Ds j=V.Ds j)(h':i<n->∃S I γ A,Wb K (E+1) k m g i H (sd i) ((Ds i).lost (keep i) (O i)) S I γ A/\(sd i=true->γ=(g:Int))):Rk K (E+1) k m g n H sd (λj=>(Ds j).lost (keep j) (O j)):=by
 have F:=h.Zaj;obtain⟨i0,U,hs0⟩:=K7 (Zq F.k1 F.many);refine⟨i0,U,λj C=> ?_⟩;by_cases e:j=i
 .subst e;obtain⟨S,I,γ,A,J,M⟩:=h' C;exact⟨S,I,γ,A,J.e,λe=>M (by rw[e];exact hs0)⟩
 .dsimp only;rw[ho j e];cases hM:V.Ms j with
  |none=>
   obtain⟨S,h9⟩:=FB (K:=K) (E:=E+1) (k:=k) (m:=m) (g:=g) (i:=j) (H:=H) ((h.o j C hM).lost (keep j) (O j)) (Hk (ha j C).1 _ _) Qw;rw[h.Zbt C hM]
   exact⟨S,none, -1,[],h9.e,λe2=>by
    subst e2
    rw[h.Zbt C hM] at hs0;cases hs0⟩
  |some T=>obtain⟨J,M⟩:=F.in_ j C T hM;rw[Dg J.wait];refine⟨_,_,_,_,(Ee (J.mono (Zel E)) ((ha j C).2 (by rw[hM];rfl)) M (λhs=> ?_) hg).e,λ_=>rfl⟩;obtain⟨Z,e1,e2⟩:=F.snd j C hs;rw[show V.Ms j=some Z from e1] at hM;cases hM;exact e2
def De(V:Ev)(i g:Nat):Ev:={V with P:=(WG V i g).2.1,Ds:=upd V.Ds i (WG V i g).2.2,Ms:=upd V.Ms i (some (Sto.first.nx [YG V.k V.m i g]))}
def Z2K(h:V.P.gone=false)(i g:Nat):WG V i g=Yv V.k V.m i g V.P (V.Ds i):=by unfold WG;rw[h];rfl
def QT.ZbP(h:QT K E k m n g H sd V)(ha:Jd n V)(Z:V.P.gone=false)(hg:g<=1000000000)(hE:1<=E){i:Nat}(hi:i<n)(hM:V.Ms i=none)(U:(V.Ds i).dead=false):(V.P.Za3<0->(WG V i g).1=0/\(WG V i g).2.1.Za3<0)/\ (((WG V i g).1=0/\(WG V i g).2.1.gone=false/\QT K (E+1) k m n g H sd (De V i g))∨ ((WG V i g).1=10/\(WG V i g).2.1.gone=true/\∀ (keep:Nat->List Bool) (tn:Nat->Int),Rk K (E+1) k m g n H sd (λj=>(upd V.Ds i (WG V i g).2.2 j).lost (keep j) (tn j)))):=by
 have J:=h.Zaj;have af:V.k=k:=J.vk;have ag:V.m=m:=J.vm;rcases h.o i hi hM with F|⟨-,hw,ho⟩
 .rw[U] at F;cases F
 unfold De;rw[Z2K Z,af,ag];refine⟨λhf=> ?_,?_⟩
 .obtain⟨e1, -,e2, -⟩:=Nj (k:=k) (m:=m) (i:=i) (g:=g) (P:=V.P) J.hK (ha i hi).1 U (by rw[hw];simp) Z hf;exact⟨e1,e2⟩
 rcases Vj (k:=k) (m:=m) (i:=i) (g:=g) J.hK (ha i hi).1 U hw ho Z with ⟨c1,c2,c3,c4⟩|⟨c1,c2,c3⟩
 .refine Zv ⟨c1,c2,λP h1 h2=> ?_,λj C M=> ?_⟩
  .have hs:=h.set P h1 h2;refine⟨hs.hK,hs.k1,hs.kn,rfl,rfl,hs.vg,h1,h2,λj C=> ?_,λj C T O=> ?_,λj C ae=> ?_,hs.many⟩
   .have F:=hs.Za2 j C;have h8:(upd V.Ds i (Yv k m i g V.P (V.Ds i)).2.2 j).Za2=(V.Ds j).Za2:=by
     by_cases e:j=i
     .subst e;rw[Y3,IW]
     .rw[QQ _ _ e]
    show(upd V.Ds i (Yv k m i g V.P (V.Ds i)).2.2 j).Za2<=_;have h7:(V.Ds j).Za2<=(E:Int):=F;rw[h8];omega
   .by_cases e:j=i
    .subst e;simp only[Y3] at O⊢;cases O;exact⟨c3.mono Qw,by rw[c4];exact Gs _ _ _ _ _⟩
    .simp only[QQ _ _ e] at O⊢;obtain⟨h5,h6⟩:=hs.in_ j C T O;exact⟨h5.mono Qw,h6⟩
   .have e:j≠i:=λe=>by subst e;rw[h.Zbt C hM] at ae;cases ae
    simp only[QQ _ _ e];exact hs.snd j C ae
  .have e:j≠i:=λe=>by subst e;simp only[Y3] at M;cases M
   simp only[QQ _ _ e] at M⊢;exact h.o j C M
 .refine Zy ⟨c1,c2,λkeep tn=>h.rk ha hg hE (λj e=>QQ _ _ e) λ_=> ?_⟩;rw[Y3,h.Zbt hi hM];rcases c3 (keep i) (tn i) with F|⟨x1,x2,x3⟩
  .obtain⟨S,h8⟩:=FB (K:=K) (E:=E+1) (k:=k) (m:=m) (g:=g) (i:=i) (H:=H) F (Hk (Vi J.hK (ha i hi).1 U hw Z) _ _) Qw;exact⟨S,_,_,_,h8,λe=>by cases e⟩
  .exact⟨_,_,_,_,Ee (x2.mono Qw) x1 (by rw[x3];exact Gs _ _ _ _ _) (λe=>by cases e) hg,λe=>by cases e⟩
def Pq(T:Tab)(k m i:Nat)(key v:Bs):[Wi k m i key v].foldl Ac.on T=λx=>if x=nmD key then some (some (shL k m i key v)) else T x:=rfl
def Ho{a b:Bs}(h:nmD a=nmD b):a=b:=by simpa[nmD] using h
def Wl.laid{i:Nat}{key v:Bs}(h:Wl k m i g H T)(C:H key=some v):Wl k m i g H ([Wi k m i key v].foldl Ac.on T):=by
 rw[Pq];refine⟨?_,?_,?_,λx=> ?_,λx hx=> ?_,λx v' hx=> ?_,λx hx=> ?_⟩
 .rw[Zw (by unfold nmD nmC;simp)];exact h.ZaW
 .rw[Zw (by unfold nmD nmN;simp)];exact h.next
 .rw[Zw (by unfold nmD nmT;simp)];exact h.under
 .rw[Zw (by unfold nmD nmS;simp)];exact h.ZaL x
 .rw[Zw (λe=>by rw[Ho e,C] at hx;cases hx)];exact h.none_ x hx
 .by_cases e:nmD x=nmD key
  .have e2:=Ho e;subst e2;rw[C] at hx;cases hx;rw[Zx rfl];exact Zy (Zy rfl)
  .rw[Zw e];exact h.some_ x v' hx
 .by_cases e:x=nmD key
  .exact Zy ⟨key,e⟩
  .rw[Zw e] at hx;exact h.other x hx
def Xn.laid{i:Nat}{key v:Bs}(h:Xn k m i H T)(C:H key=some v):Xn k m i H ([Wi k m i key v].foldl Ac.on T):=λx v' hx=>by
 rw[Pq];by_cases e:nmD x=nmD key
 .have e2:=Ho e;subst e2;rw[C] at hx;cases hx;simp
 .simp only[Zw e];exact h x v' hx
def Po{i:Nat}{D:Dk}{S:Sto}{key v:Bs}(h:QV K E D S)(hK:KOk K)(M:1<=k)(J:key∈K)(hv:v.length<=200):∃d f,Ym K S [Wi k m i key v] d f:=by
 have O:Ac.Zab (Wi k m i key v)=false/\Ac.Sm (WI K) (Wi k m i key v):=put_ok hK (XZ.2 (Zy (Zy (Zy (Zy ⟨_,J,rfl⟩))))) (DE M hv).1 (by unfold shL;rw[CG];omega);obtain⟨d0,f,F⟩:=Kh (l:=[Wi k m i key v]) Qx 0 S.dir [];have C:f.by (nmD key)≠none/\d0.get (nmD key)≠none:=Kg (a:=Wi k m i key v) (l:=[]) rfl (by simpa using F)
 obtain⟨d,ha⟩:=h.Z9Y hK (Z9Y:=[Wi k m i key v]) QB QB Qx Qx F ⟨nmD key,Zv C.1⟩ (λe=>C.2 (by rw[e];rfl));exact⟨d,f,ha⟩
def QT.laid(h:QT K E k m n g H sd V)(ha:Jd n V)(hp:V.P.gone=false)(hg:g<=1000000000)(hE:1<=E){i:Nat}(hi:i<n){S:Sto}(hM:V.Ms i=some S){key v:Bs}(Z:H key=some v)(ag:key∈K)(hv:v.length<=200):(V.P.Za3<0->Yi V (i,λ_=>[Wi k m i key v])=0/\(Y4 V (i,λ_=>[Wi k m i key v])).P.Za3<0)/\ ((Yi V (i,λ_=>[Wi k m i key v])=0/\(Y4 V (i,λ_=>[Wi k m i key v])).P.gone=false/\QT K (E+1) k m n g H sd (Y4 V (i,λ_=>[Wi k m i key v])))∨ (Yi V (i,λ_=>[Wi k m i key v])=10/\(Y4 V (i,λ_=>[Wi k m i key v])).P.gone=true/\∀ (keep:Nat->List Bool) (tn:Nat->Int),Rk K (E+1) k m g n H sd (λj=>((Y4 V (i,λ_=>[Wi k m i key v])).Ds j).lost (keep j) (tn j)))):=by
 have M:=h.Zaj;obtain⟨b1,b2⟩:=M.in_ i hi S hM;have O:=(ha i hi).2 (by rw[hM];rfl);have ok:=(ha i hi).1;obtain⟨d,f,C⟩:=Po (m:=m) (i:=i) b1 M.hK M.k1 ag hv;obtain⟨e1,e2⟩:=JM (V:=V) (x:=(i,λ_=>[Wi k m i key v])) hM;rw[e1,e2];dsimp only;rw[C.go,C.nx];have ah:QV K E (V.Ds i) S:=b1;have af:Wl k m i g H (stR (V.Ds i).reads S.dir):=b2;have ae:sd i=true->Xn k m i H (stR (V.Ds i).reads S.dir):=λhs=>by obtain⟨T',x1,J⟩:=M.snd i hi hs;rw[show V.Ms i=some T' from x1] at hM;cases hM;exact J
 refine⟨λhf=> ?_,?_⟩
 .obtain⟨Q,hQ,ak,aq⟩:=DB ok.fit O C.in_ (l:=S.ops [Wi k m i key v] d f) (P:=V.P) ⟨hp,Zv hf⟩;rw[hQ];exact⟨rfl,by show Q.Za3<0;omega⟩
 rcases C2 (S.ops [Wi k m i key v] d f) (P:=V.P) C.in_ ok.fit O hp with ⟨c1,c2⟩|⟨c1,c2⟩
 .obtain⟨g1,g2⟩:=ah.did M.hK ok C;rw[DC _ C.in_ ok.fit O c1];refine Zv ⟨c1,c2,λP h1 h2=> ?_,λj F U=> ?_⟩
  .have hs:=h.set P h1 h2;refine⟨hs.hK,hs.k1,hs.kn,hs.vk,hs.vm,hs.vg,h1,h2,λj F=> ?_,λj F T hT=> ?_,λj F aj=> ?_,hs.many⟩
   .have h9:(V.Ds j).Za2<=(E:Int):=hs.Za2 j F;have h8:(upd V.Ds i (Yn (S.ops [Wi k m i key v] d f) (V.Ds i)) j).Za2=(V.Ds j).Za2:=by
     by_cases e:j=i
     .subst e;rw[Y3,Uq]
     .rw[QQ _ _ e]
    show(upd V.Ds i (Yn (S.ops [Wi k m i key v] d f) (V.Ds i)) j).Za2<=_;rw[h8];omega
   .by_cases e:j=i
    .subst e;simp only[Y3] at hT⊢;cases hT;exact⟨g1,by rw[g2];exact af.laid Z⟩
    .simp only[QQ _ _ e] at hT⊢;obtain⟨h5,h6⟩:=hs.in_ j F T hT;exact⟨h5.mono Qw,h6⟩
   .by_cases e:j=i
    .subst e;simp only[Y3];exact⟨_,rfl,by rw[g2];exact(ae aj).laid Z⟩
    .simp only[QQ _ _ e];exact hs.snd j F aj
  .have e:j≠i:=λe=>by subst e;simp only[Y3] at U;cases U
   simp only[QQ _ _ e] at U⊢;exact h.o j F U
 .refine Zy ⟨c1,c2,λkeep tn=>h.rk ha hg hE (λj e=>QQ _ _ e) λ_=> ?_⟩;rw[Y3];have ai:((QG (S.ops [Wi k m i key v] d f) V.P (V.Ds i)).2.2.lost (keep i) (tn i)).dead=false:=(Jk _ V.P (V.Ds i)).2.trans O;rcases ah.Zb6 M.hK ok O C hp (by rw[c1];decide) (keep i) (tn i) with ⟨x1,J⟩|⟨x1,J⟩
  .exact⟨_,_,_,_,Ee (x1.mono Qw) ai (by rw[J];exact af) (λe=>by rw[J];exact ae e) hg,λ_=>rfl⟩
  .exact⟨_,_,_,_,Ee x1 ai (by rw[J];exact af.laid Z) (λe=>by rw[J];exact(ae e).laid Z) hg,λ_=>rfl⟩
end
end
section
open Go.RowKit Go.Shelf
variable{P:Pw}
def Zay(V:Ev)(i g:Nat):Int×Ev:=if CW V i=2 then((WG V i g).1,De V i g) else(0,V)
structure HAt(B:Nat)(G:Eg)(hb:Nat)(bl:Qj)(V:Ev)(p:Nat×Bs×Bool)(w w':Qs):Prop where
 row:X0 w' hb G.s p.1 p.2.1 p.2.2
 set:∃bl',EAt B w' G V bl'/\(∀q∈bl',q∈bl∨w.heap.size<=q)/\Fr (hb::G.p::bl) w w'
abbrev FZ(w:Qs)(q:Nat)(a b c:Qt):Qs:=((w.setCell ⟨q,0,none⟩ a).setCell ⟨q,1,none⟩ b).setCell ⟨q,2,none⟩ c
def CI{w:Qs}{q:Nat}{a b c:Qt}:Fr [q] w (FZ w q a b c):=(((Fr.refl [q] w).setCell (Zv Qx) _).setCell (Zv Qx) _).setCell (Zv Qx) _
section
variable{B:Nat}{w w':Qs}{G:Eg}{V:Ev}{bl:Qj}{hb q:Nat}{p:Nat×Bs×Bool}{l:Qk}{a b c:Qt}
def HAt.ZaS(h:HAt B G hb bl V p w w')(F:Row w' q 120 l)(O:w<=q):HAt B G hb bl V p w (FZ w' q a b c):=by obtain⟨⟨rd,J⟩,bl',e,g,f⟩:=h;refine⟨⟨rd,J.fr CI (by rw[Z6];exact Row.ne J F Qz)⟩,bl',e.fr CI (QL.row F (ts:=[120]) Qz) Qz Qz Qz (λk C hm=>by rw[Z6] at hm;subst hm;exact e.Za0 F Qz C),g,f.trans CI (λk C M=>by rw[Z6] at C;omega)⟩
def HAt.from(h:HAt B G hb bl V p w w'){w0:Qs}(C:Below w0 w0 w):HAt B G hb bl V p w0 w':=by obtain⟨F,bl',e,g,f⟩:=h;exact⟨F,bl',e,λk J=>(g k J).imp id (Zq C.size),(Z1 (L:=hb::G.p::bl) C).trans f (λi hi _=>hi)⟩
theorem HAt.of{J:Ev}{w1:Qs}{F:Qj}(M:EAt B w1 G J F/\(∀k∈F,k∈bl∨w.heap.size<=k)/\Fr (G.p::bl) w w1)(O:HAt B G hb F V p w1 w'):HAt B G hb bl V p w w':=by
 obtain⟨r,bl',e,g,f⟩:=O;obtain⟨-,g1,f1⟩:=M;refine⟨r,bl',e,λk C=> ?_,(f1.mono (L':=hb::G.p::bl) (λk C _=>Zh _ C)).trans f (λk C U=> ?_)⟩
 .rcases g k C with h|h
  .exact g1 k h
  .exact Zy (Zq f1.size h)
 .grind
def Ye.row{Ds:Nat->Dk}(h:Ye B G bl P Ds w w')(F:EAt B w G V bl){g:Nat}{e:Qu}{l:Qk}(C:Row w g e l)(he:e∉XT):Row w' g e l:=by obtain⟨-, -, -, -,f⟩:=h;exact C.fr f (F.Za0 C he)
def Ye.ZaS{Ds:Nat->Dk}(h:Ye B G bl P Ds w w')(J:Row w' q 120 l)(F:w<=q):Ye B G bl P Ds w (FZ w' q a b c):=h.fr CI (QL.row J (ts:=[120]) Qz) Qz (λk C=>by rw[Z6] at C;subst C;exact Zy F)
end
def Je(B:Nat)(G:Eg)(hb:Nat)(bl:Qj)(P:Pw)(Ds:Nat->Dk)(w w':Qs):Prop:=Y6 w' G.p P/\(∃blx,DAt B w' G.p G.n G.ds P Ds blx/\∀q∈blx,q∈bl∨w.heap.size<=q)/\Fr (hb::G.p::bl) w w'
def Ye.ZaZ{B:Nat}{w w':Qs}{G:Eg}{bl:Qj}{Ds:Nat->Dk}(h:Ye B G bl P Ds w w')(hb:Nat)(J:1<=G.n):Je B G hb bl P Ds w w':=by
 refine⟨?_,h.at_,?_⟩
 .obtain⟨Ls,C, -⟩:=h;exact(C 0 Qw).pw
 .obtain⟨-, -, -, -,f⟩:=h;exact f.mono (L':=hb::G.p::bl) (λk F _=>Zh _ F)
def JZ(B:Nat)(G:Eg)(hb:Nat)(bl:Qj)(w:Qs)(r:Int×Ev×(Nat×Bs×Bool))(e:Qv)(w':Qs):Prop:=∃ (x:Int) (y:Qq) (z:Int) (b ev:Qt),e=.returned (.tuple #[.agg #[(x:Int),.string y,(z:Int)],b,ev])/\QK w' w r.1 ev/\(r.1=0->HAt B G hb bl r.2.1 r.2.2 w w')/\(r.1≠0->Je B G hb bl r.2.1.P r.2.1.Ds w w')
def JB(V:Ev)(n g i:Nat):Int×Ev×(Nat×Bs×Bool):=((Zay V i g).1,(Zay V i g).2,XC n (X9 (Zay V i g).2 n) i [])
def NW(V:Ev)(i:Nat):CW V i=1∨CW V i=0∨CW V i=2/\(V.Ds i).dead=false/\V.Ms i=none:=by unfold CW;cases (V.Ds i).dead<;>cases h:V.Ms i<;>simp
section
variable{K:List Bs}{E k m n g:Nat}{H:Bs->Option Bs}{sd:Qr}{V:Ev}
def OR(B:Nat)(w:Qs)(G:Eg)(bl:Qj)(hb i:Nat)(af:Bs)(sh:Bool)(h:QT K E k m n g H sd V)(he:EAt B w G V bl)(hn:G.n=n)(ht:Ty w)(cn:0<B)(hh:X0 w hb G.s i af sh)(hi:i<n)(hp:V.P.gone=false)(hg:g<=1000000000)(hE:1<=E):Calls prog 70 #[hb] w (JZ B G hb bl w (JB V n g i)):=by
 obtain⟨rd,ah⟩:=hh;have ay:i<G.n:=Qw;have ak:Below w w (w.alloc (.cells #[(0:Int),.string ⟨#[]⟩,(0:Int)] 120)):=(Zu _ _).alloc (Zt _) _;have hs0:Row (w.alloc (.cells #[(0:Int),.string ⟨#[]⟩,(0:Int)] 120)) w 120 [.int .i64 0,.string ⟨#[]⟩,.int .i64 0]:=by exact Z2 w _ [.int .i64 0,.string ⟨#[]⟩,.int .i64 0]
 have au:=he.after ak;have bf:=ah.after ak;have hk:=h.keys au hn;have d0:=bf.c0;have C:=Q0 au bf hs0 hk (ht.below ak) ak;have HA:=ZI he.alive;rcases NW V i with hc|hc|⟨hc,hd,hM⟩
 .have hv:Zay V i g=(0,V):=by unfold Zay;rw[hc];rfl
  unfold JB;rw[hv];have HC:=ZI hc;clear hc hv au bf hs0 hk ak ht ah he;go_enter func70,ntmps70;go_wp2_with (first|(go_at_call 43;refine C.4.mono ?_;rintro e w1 ⟨a1,c1,rfl, -, -, -,Z⟩;have F:=QH.row Z C.1 C.2 Qz;have d10:=F.c0;have d11:=F.c1;have R1:=ZX Z F (QH.row Z C.1 C.3 Qz);clear Z F)|(go_at_call 60;obtain⟨ag,e1,g1,f1⟩:=R1.1;refine(GV B _ G V ag i e1 ay).mono ?_;rw[HC.o];rintro e w2 ⟨rfl,ae⟩;have M:=QH.trans ⟨e1,g1,f1⟩ ae;have F:=QH.row M C.1 C.2 Qz;have d20:=F.c0;have U:=ZX M F (QH.row M C.1 C.3 Qz);clear e1 g1 f1 ae M F)|(go_at_call 117;obtain⟨aj,e2,g2,f2⟩:=U.1;refine(Fo B _ G aj hb i af [] sh h e2 hn ⟨rd,U.2⟩ hi).mono ?_;rintro e w4 ⟨rfl,h4,aq,e4,g4,f4⟩;have hA:HAt B G hb bl V (XC n (X9 V n) i []) (w.alloc (.cells #[(0:Int),.string ⟨#[]⟩,(0:Int)] 120)) w4:=HAt.of ⟨e2,g2,f2⟩ ⟨h4,aq,e4,g4,f4⟩;have J:=U.3.fr f4 (λhm=>(by rcases Zk.1 hm with O|O;exact Row.ne U.3 U.2 Qz O;exact e2.Za0 U.3 Qz O));have s0:=J.c0;have s1:=J.c1;have s2:=J.c2;have t0:=J.free (j:=0) Qx;have t1:=J.free (j:=1) Qx;have t2:=J.free (j:=2) Qx;have R4:=ZM hA J;clear e2 g2 f2 h4 e4 g4 f4 hA J));have hy:=(((R4.2.set 0 (.int .i64 (i:Int))).set 1 (.string ⟨#[]⟩)).set 2 (.int .i64 1));have y0:=hy.c0;have y1:=hy.c1;have y2:=hy.c2;exact ZD (v:=.tuple #[.agg #[(i:Int),.string ⟨#[]⟩,(1:Int)],true,.nilIface]) (by simp[results,go_sem,y0,y1,y2]) rfl ⟨_,_,_,_,_,rfl,QK.nil _ _,λ_=>((R4.1.from C.6).ZaS R4.2 (Zt _)),λh=>absurd rfl h⟩
 .have hv:Zay V i g=(0,V):=by unfold Zay;rw[hc];rfl
  unfold JB;rw[hv];have HC:=ZI hc;clear hc hv au bf hs0 hk ak ht ah he;go_enter func70,ntmps70;go_wp2_with (first|(go_at_call 43;refine C.4.mono ?_;rintro e w1 ⟨a1,c1,rfl, -, -, -,Z⟩;have F:=QH.row Z C.1 C.2 Qz;have d10:=F.c0;have d11:=F.c1;have R1:=ZX Z F (QH.row Z C.1 C.3 Qz);clear Z F)|(go_at_call 60;obtain⟨ag,e1,g1,f1⟩:=R1.1;refine(GV B _ G V ag i e1 ay).mono ?_;rw[HC.o];rintro e w2 ⟨rfl,ae⟩;have M:=QH.trans ⟨e1,g1,f1⟩ ae;have F:=QH.row M C.1 C.2 Qz;have d20:=F.c0;have U:=ZX M F (QH.row M C.1 C.3 Qz);clear e1 g1 f1 ae M F)|(go_at_call 117;obtain⟨aj,e2,g2,f2⟩:=U.1;refine(Fo B _ G aj hb i af [] sh h e2 hn ⟨rd,U.2⟩ hi).mono ?_;rintro e w4 ⟨rfl,h4,aq,e4,g4,f4⟩;have hA:HAt B G hb bl V (XC n (X9 V n) i []) (w.alloc (.cells #[(0:Int),.string ⟨#[]⟩,(0:Int)] 120)) w4:=HAt.of ⟨e2,g2,f2⟩ ⟨h4,aq,e4,g4,f4⟩;have J:=U.3.fr f4 (λhm=>(by rcases Zk.1 hm with O|O;exact Row.ne U.3 U.2 Qz O;exact e2.Za0 U.3 Qz O));have s0:=J.c0;have s1:=J.c1;have s2:=J.c2;have t0:=J.free (j:=0) Qx;have t1:=J.free (j:=1) Qx;have t2:=J.free (j:=2) Qx;have R4:=ZM hA J;clear e2 g2 f2 h4 e4 g4 f4 hA J));have hy:=(((R4.2.set 0 (.int .i64 0)).set 1 (.string ⟨#[]⟩)).set 2 (.int .i64 0));have y0:=hy.c0;have y1:=hy.c1;have y2:=hy.c2;exact ZD (v:=.tuple #[.agg #[(0:Int),.string ⟨#[]⟩,(0:Int)],false,.nilIface]) (by simp[results,go_sem,y0,y1,y2]) rfl ⟨_,_,_,_,_,rfl,QK.nil _ _,λ_=>((R4.1.from C.6).ZaS R4.2 (Zt _)),λh=>absurd rfl h⟩
 .have hv:Zay V i g=((WG V i g).1,De V i g):=by unfold Zay;rw[hc];rfl
  unfold JB;rw[hv];have h0:=h.Zaj;have ct:V.k=k:=h0.vk;have cu:V.m=m:=h0.vm;have cr:=h0.kn;have bj:=he.nle;have hw:(V.Ds i).wait.length<=1000:=by
   rcases h.o i hi hM with O|⟨-,O, -⟩
   .rw[hd] at O;cases O
   .rw[O];simp
  have hj:=λ(w1:Qs) (ag:Qj) (e1:EAt B w1 G V ag) (t1:Ty w1)=>Z0K B w1 G V ag K i g e1 t1 cn ay hM h0.hK Qw Qw h0.vg hg hw hd;have bu:=(h.ZbP (by rw[<-hn];exact he.alive) hp hg hE hi hM hd).2;have HC:=ZI hc;clear au bf hs0 hk ak ht ah he hd hM h0 ct cu cr bj hw hv;obtain⟨c,bq⟩:=ZK (WG V i g).1;rw[bq] at hj bu⊢;have HJ:=ZI hj;clear hj bq hc;rcases bu with ⟨rfl, -,hX⟩|⟨rfl, -, -⟩
  .have HX:=ZI hX;clear hX;go_enter func70,ntmps70;go_wp2_with (first|(go_at_call 43;refine C.4.mono ?_;rintro e w1 ⟨a1,c1,rfl, -, -, -,Z⟩;have F:=QH.row Z C.1 C.2 Qz;have d10:=F.c0;have d11:=F.c1;have R1:=ZX Z F (QH.row Z C.1 C.3 Qz);clear Z F)|(go_at_call 60;obtain⟨ag,e1,g1,f1⟩:=R1.1;refine(GV B _ G V ag i e1 ay).mono ?_;rw[HC.o];rintro e w2 ⟨rfl,ae⟩;have M:=QH.trans ⟨e1,g1,f1⟩ ae;have F:=QH.row M C.1 C.2 Qz;have d20:=F.c0;have U:=ZX M F (QH.row M C.1 C.3 Qz);clear e1 g1 f1 ae M F)|(go_at_call 116;obtain⟨aj,e2,g2,f2⟩:=U.1;refine(HJ.o _ _ e2 (QH.ty U.1 C.1 C.5)).mono ?_;rintro e w3 ⟨bm,rfl,aw,az, -, -⟩;obtain rfl:=aw.zero;have M:=QH.trans ⟨e2,g2,f2⟩ (az (by first|rfl|trivial));have F:=QH.row M C.1 C.2 Qz;have R3:=ZN M F (QH.row M C.1 C.3 Qz);clear e2 g2 f2 az M F aw)|(go_at_call 117;obtain⟨aj,e2,g2,f2⟩:=R3.1;refine(Fo B _ G aj hb i af [] sh HX.o e2 hn ⟨rd,R3.2.1⟩ hi).mono ?_;rintro e w4 ⟨rfl,h4,aq,e4,g4,f4⟩;have hA:HAt B G hb bl (De V i g) (XC n (X9 (De V i g) n) i []) (w.alloc (.cells #[(0:Int),.string ⟨#[]⟩,(0:Int)] 120)) w4:=HAt.of ⟨e2,g2,f2⟩ ⟨h4,aq,e4,g4,f4⟩;have J:=R3.2.2.fr f4 (λhm=>(by rcases Zk.1 hm with O|O;exact Row.ne R3.2.2 R3.2.1 Qz O;exact e2.Za0 R3.2.2 Qz O));have s0:=J.c0;have s1:=J.c1;have s2:=J.c2;have t0:=J.free (j:=0) Qx;have t1:=J.free (j:=1) Qx;have t2:=J.free (j:=2) Qx;have R4:=ZM hA J;clear e2 g2 f2 h4 e4 g4 f4 hA J));have hy:=(((R4.2.set 0 (.int .i64 (i:Int))).set 1 (.string ⟨#[]⟩)).set 2 (.int .i64 2));have y0:=hy.c0;have y1:=hy.c1;have y2:=hy.c2;exact ZD (v:=.tuple #[.agg #[(i:Int),.string ⟨#[]⟩,(2:Int)],true,.nilIface]) (by simp[results,go_sem,y0,y1,y2]) rfl ⟨_,_,_,_,_,rfl,QK.nil _ _,λ_=>((R4.1.from C.6).ZaS R4.2 (Zt _)),λh=>absurd rfl h⟩
  .go_enter func70,ntmps70;go_wp2_with (first|(go_at_call 43;refine C.4.mono ?_;rintro e w1 ⟨a1,c1,rfl, -, -, -,Z⟩;have F:=QH.row Z C.1 C.2 Qz;have d10:=F.c0;have d11:=F.c1;have R1:=ZX Z F (QH.row Z C.1 C.3 Qz);clear Z F)|(go_at_call 60;obtain⟨ag,e1,g1,f1⟩:=R1.1;refine(GV B _ G V ag i e1 ay).mono ?_;rw[HC.o];rintro e w2 ⟨rfl,ae⟩;have M:=QH.trans ⟨e1,g1,f1⟩ ae;have F:=QH.row M C.1 C.2 Qz;have d20:=F.c0;have U:=ZX M F (QH.row M C.1 C.3 Qz);clear e1 g1 f1 ae M F)|(go_at_call 116;obtain⟨aj,e2,g2,f2⟩:=U.1;refine(HJ.o _ _ e2 (QH.ty U.1 C.1 C.5)).mono ?_;rintro e w3 ⟨bm,rfl,aw, -,ai,bg⟩;have M:=Ye.trans ⟨e2,g2,f2⟩ ai;have F:=M.row C.1 C.2 Qz;have R3:=ZQ M F (M.row C.1 C.3 Qz) (bg hp (by first|decide|trivial|simp)) aw f2.size;clear e2 g2 f2 ai M F aw bg)|(go_at_call 117;obtain⟨l9,cj,bz⟩:=R3.2.2.2.1;refine(OQ _ hb G.s i af [] sh l9 ⟨rd,R3.2.1⟩ cj bz).mono ?_;rintro e w4 ⟨rfl,bh⟩;have J:=R3.2.2.1.after bh;have s0:=J.c0;have s1:=J.c1;have s2:=J.c2;have t0:=J.free (j:=0) Qx;have t1:=J.free (j:=1) Qx;have t2:=J.free (j:=2) Qx;have R4:=ZO (R3.1.after bh) J (R3.2.2.2.2.1.after bh) R3.2.2.2.2.2;clear cj bz bh J));have hy:=(((R4.2.1.set 0 (.int .i64 (i:Int))).set 1 (.string ⟨#[]⟩)).set 2 (.int .i64 2));have y0:=hy.c0;have y1:=hy.c1;have y2:=hy.c2;exact ZD (v:=.tuple #[.agg #[(i:Int),.string ⟨#[]⟩,(2:Int)],true,bm]) (by simp[results,go_sem,y0,y1,y2]) rfl ⟨_,_,_,_,_,rfl,(R4.2.2.1.fr (CI (q:=w.heap.size)) (λk hk=>(by have O:=R4.2.2.2;rw[Z6] at hk;simp at O;omega))).base (by have O:=R4.2.2.2;simp at O;omega),λh=>absurd h (by show¬ (10:Int)=0;decide),λ_=>((R4.1.from C.6).ZaS R4.2.1 (Zt _)).ZaZ hb Qw⟩
end
end
section
open Go.RowKit Go.Shelf
def WR(H:Bs->Option Bs)(V:Ev)(i:Nat)(key:Bs):Int×Ev:=if DF (Wq V i key)=0 then(0,V) else(Yi V (i,λ_=>[Wi V.k V.m i key ((H key).getD [])]),Y4 V (i,λ_=>[Wi V.k V.m i key ((H key).getD [])]))
def Fy(L:List Bs)(key:Bs):Option Bs:=L.find? λx=>gtB x key
def Es(H:Bs->Option Bs)(V:Ev)(n g i:Nat)(key:Bs):Int×Ev×(Nat×Bs×Bool):=match Fy (X9 V n) key with
 |some x=>((WR H V i x).1,(WR H V i x).2,XC n (X9 (WR H V i x).2 n) i x)
 |none=>JB V n g (if i+1=n then 0 else i+1)
def Ja(H:Bs->Option Bs)(V:Ev)(n g:Nat)(p:Nat×Bs×Bool):Int×Ev×(Nat×Bs×Bool):=if p.2.2 then Es H V n g p.1 p.2.1 else JB V n g p.1
section
variable{B:Nat}{w w':Qs}{G:Eg}{V:Ev}{bl:Qj}{hb q:Nat}{P:Pw}{Ds:Nat->Dk}{l:Qk}{a b c:Qt}
def Je.from(h:Je B G hb bl P Ds w w'){w0:Qs}(C:Below w0 w0 w):Je B G hb bl P Ds w0 w':=by obtain⟨J,⟨F,M,O⟩,f⟩:=h;exact⟨J,⟨F,M,λq U=>(O q U).imp id (Zq C.size)⟩,(Z1 (L:=hb::G.p::bl) C).trans f (λi hi _=>hi)⟩
def DAt.frT{p n:Nat}{ds:Nat->Nat}(h:DAt B w p n ds P Ds bl){Y:Qj}{ts:List Qu}(M:Fr Y w w')(O:QL w Y ts)(J:∀e∈ts,e∉Ap):DAt B w' p n ds P Ds bl:=by obtain⟨Ls,rfl,C,F⟩:=h;exact⟨Ls,rfl,λi hi=>(C i hi).fr M (O.ZaH (C i hi).typed J),F⟩
def Je.ZaS(h:Je B G hb bl P Ds w w')(hn:1<=G.n)(Z:Row w' q 120 l)(hq:w<=q):Je B G hb bl P Ds w (FZ w' q a b c):=by obtain⟨h1,⟨F,J,M⟩,f⟩:=h;have C:=J.frT (CI (a:=a) (b:=b) (c:=c)) (QL.row Z (ts:=[120]) Qz) Qz;refine⟨?_,⟨F,C,M⟩,f.trans CI (λk U ae=>by rw[Z6] at U;omega)⟩;obtain⟨Ls, -,O, -⟩:=C;exact(O 0 Qw).pw
def Z6X{r:Int×Ev×(Nat×Bs×Bool)}(C:r.1=0->HAt B G hb bl r.2.1 r.2.2 w w')(F:r.1≠0->Je B G hb bl r.2.1.P r.2.1.Ds w w'):Fr (hb::G.p::bl) w w':=by
 by_cases h:r.1=0
 .obtain⟨-,bl', -, -,f⟩:=C h;exact f
 .exact(F h).2.2
def M9{r:Int×Ev×(Nat×Bs×Bool)}(C:r.1=0->HAt B G hb bl r.2.1 r.2.2 w w')(F:r.1≠0->Je B G hb bl r.2.1.P r.2.1.Ds w w')(e:EAt B w G V bl){l':Qk}(hh:Row w hb 138 l')(h:Row w q 120 l):Row w' q 120 l:=
 h.fr (Z6X C F) (λhm=>by
  rcases Zk.1 hm with h9|h9
  .exact Row.ne h hh Qz h9
  .exact e.Za0 h Qz h9)
def JZ.ZaS{r:Int×Ev×(Nat×Bs×Bool)}{x z:Int}{y:Qq}{b2 ev:Qt}{w0:Qs}(Z:1<=G.n)(C:Below w0 w0 w)(he:QK w' w r.1 ev)(M:r.1=0->HAt B G hb bl r.2.1 r.2.2 w w')(O:r.1≠0->Je B G hb bl r.2.1.P r.2.1.Ds w w')(F:Row w' w0 120 l)(J:w0<w.heap.size):JZ B G hb bl w0 r (.returned (.tuple #[.agg #[x,.string y,z],b2,ev])) (FZ w' w0 a b c):=⟨x,y,z,b2,ev,rfl,(he.fr (CI (q:=w0.heap.size)) (λk U=>by rw[Z6] at U;omega)).base (Zef J),λh=>((M h).from C).ZaS F (Zt _),λh=>((O h).from C).ZaS Z F (Zt _)⟩
end
section
variable{K:List Bs}{E k m n g:Nat}{H:Bs->Option Bs}{sd:Qr}{V:Ev}
def Z2m(f:Bool)(B:Nat)(w:Qs)(G:Eg)(bl:Qj)(hb i:Nat)(key:Bs)(r:Int×Ev×(Nat×Bs×Bool))(he:EAt B w G V bl)(hh:X0 w hb G.s i key f)(hn:1<=G.n)(hc:∀w1 ag,EAt B w1 G V ag->Ty w1->X0 w1 hb G.s i key f->Calls prog (if f then 231 else 70) #[.pointer hb] w1 (JZ B G hb ag w1 r))(ht:Ty w):Calls prog 58 #[hb] w (JZ B G hb bl w r):=by
 obtain⟨rd,ae⟩:=hh;have J:Below w w (w.alloc (.cells #[(0:Int),.string ⟨#[]⟩,(0:Int)] 120)):=(Zu _ _).alloc (Zt _) _;have hs0:Row (w.alloc (.cells #[(0:Int),.string ⟨#[]⟩,(0:Int)] 120)) w 120 [.int .i64 0,.string ⟨#[]⟩,.int .i64 0]:=Z2 w _ [.int .i64 0,.string ⟨#[]⟩,.int .i64 0];have ah:=hc _ _ (he.after J) (ht.below J) ⟨rd,ae.after J⟩;have d3:=(ae.after J).c3;have F:=ZZ ah J hs0 (he.after J) (ae.after J);clear hc ah J hs0 he ae;cases f
 .replace d3:(w.alloc (.cells #[(0:Int),.string ⟨#[]⟩,(0:Int)] 120)).cell? ⟨hb,3,none⟩=some (.func (.func 70) #[.pointer hb] #[]):=d3;go_enter func58,ntmps58;go_wp2_with (go_at_call 70;refine F.1.mono ?_;rintro e w1 ⟨x1,x2,x3,b1,af,rfl,Z,O,M⟩;have h:Row w1 w 120 [(0:Int),.string ⟨#[]⟩,(0:Int)]:=M9 O M F.4 F.5 F.3;have s0:=h.c0;have s1:=h.c1;have s2:=h.c2;have t0:=h.free (j:=0) Qx;have t1:=h.free (j:=1) Qx;have t2:=h.free (j:=2) Qx;have C:=ZY h Z O M;clear h Z O M);have U:=(((C.1.set 0 (.int .i64 x1)).set 1 (.string x2)).set 2 (.int .i64 x3));have y0:=U.c0;have y1:=U.c1;have y2:=U.c2;refine ZD (v:=.tuple #[.agg #[(x1:Int),.string x2,(x3:Int)],b1,af]) ?_ rfl ?_
  .simp[results,go_sem,y0,y1,y2]
  exact JZ.ZaS hn F.2 C.2 C.3 C.4 C.1 Qx
 .replace d3:(w.alloc (.cells #[(0:Int),.string ⟨#[]⟩,(0:Int)] 120)).cell? ⟨hb,3,none⟩=some (.func (.func 231) #[.pointer hb] #[]):=d3;go_enter func58,ntmps58;go_wp2_with (go_at_call 231;refine F.1.mono ?_;rintro e w1 ⟨x1,x2,x3,b1,af,rfl,Z,O,M⟩;have h:Row w1 w 120 [(0:Int),.string ⟨#[]⟩,(0:Int)]:=M9 O M F.4 F.5 F.3;have s0:=h.c0;have s1:=h.c1;have s2:=h.c2;have t0:=h.free (j:=0) Qx;have t1:=h.free (j:=1) Qx;have t2:=h.free (j:=2) Qx;have C:=ZY h Z O M;clear h Z O M);have U:=(((C.1.set 0 (.int .i64 x1)).set 1 (.string x2)).set 2 (.int .i64 x3));have y0:=U.c0;have y1:=U.c1;have y2:=U.c2;refine ZD (v:=.tuple #[.agg #[(x1:Int),.string x2,(x3:Int)],b1,af]) ?_ rfl ?_
  .simp[results,go_sem,y0,y1,y2]
  exact JZ.ZaS hn F.2 C.2 C.3 C.4 C.1 Qx
end
section
variable{K:List Bs}{E k m n g:Nat}{H:Bs->Option Bs}{sd:Qr}{V:Ev}
def QT.Zb8(h:QT K E k m n g H sd V){key v:Bs}(C:H key=some v):Ch K E V n key v/\V.k<=WT V key v n:=⟨⟨(h.Zaj.Zb8 C).b,(h.Zaj.Zb8 C).t⟩,h.Zaj.Zco C⟩
theorem QT.Zcz(h:QT K E k m n g H sd V){B:Nat}{w:Qs}{G:Eg}{bl:Qj}{i:Nat}{key v:Bs}(he:EAt B w G V bl)(M:G.n=n)(O:Ty w)(J:0<B)(hi:i<n)(U:H key=some v)(Z:key∈K)(hv:v.length<=200)(hp:V.P.gone=false):Calls prog 61 #[G.s,(i:Int),key] w λe w'=>e=.returned (.tuple #[(DF (Wq V i key):Int),.nilIface])/\QH B G bl V w w':=by
 have C:=h.Zaj;obtain⟨q1,q2⟩:=h.Zb8 U;have hl:=C.hK.len key Z;have ag:V.k=k:=C.vk;have ah:V.m=m:=C.vm;have ae:=C.k1;have af:=C.kn;have hc:Wq V i key≠10:=by
  unfold Wq;rw[hp];cases V.Ms i with
  |none=>simp;grind
  |some S=>simp;grind
 refine(Z2j B w G V bl i key (Wq V i key) he O J (Z3g V i key) (Kj B w G V bl K E i key v he O J Qw hl.1 Qw hv Qw Qw (by rw[M];exact q1) (by rw[M];omega))).mono ?_;rintro e w' ⟨ev,rfl,F,hr⟩;rw[Zw hc] at F;rw[F.zero];exact⟨rfl,hr⟩
theorem QT.ZcU(h:QT K E k m n g H sd V){B:Nat}{w:Qs}{G:Eg}{bl:Qj}{i:Nat}{key v:Bs}(he:EAt B w G V bl)(M:G.n=n)(ht:Ty w)(U:0<B)(hi:i<n)(F:H key=some v)(J:key∈K)(hv:v.length<=200)(hp:V.P.gone=false)(Z:E<=2000000000)(hs:DF (Wq V i key)≠0):Calls prog 258 #[G.s,(i:Int),key] w λe w'=>∃ev,e=.returned ev/\QK w' w (WR H V i key).1 ev/\((WR H V i key).1=0->QH B G bl (WR H V i key).2 w w')/\Ye B G bl (WR H V i key).2.P (WR H V i key).2.Ds w w'/\((WR H V i key).1≠0->CS w' G.s):=by
 have C:=h.Zaj;obtain⟨O,q2⟩:=h.Zb8 F;have hl:=C.hK.len key J;have ag:V.k=k:=C.vk;have ah:V.m=m:=C.vm;have ae:=C.k1;have af:=C.kn;have hc:Wq V i key=13∨Wq V i key=14:=by unfold DF at hs;grind
 have hM:∃S,V.Ms i=some S:=by
  cases hM:V.Ms i with
  |none=>unfold Wq at hc;rw[hM] at hc;simp at hc;grind
  |some S=>exact⟨S,rfl⟩
 obtain⟨S,hM⟩:=hM;obtain⟨d,f,ha⟩:=Po (k:=V.k) (m:=V.m) (i:=i) (O.b i hi S hM) C.hK Qw J hv;unfold WR;rw[Zw hs,F];exact Z0S B w G V bl K E i S key v d f he ht U Qw hM hl.1 Qw hv Qw Qw (by rw[M];exact O) (by rw[M];exact q2) C.hK Z ha hp hc
def QT.vis(h:QT K E k m n g H sd V)(ha:Jd n V)(F:V.P.gone=false)(U:g<=1000000000)(M:1<=E){i:Nat}(hi:i<n){key v:Bs}(C:H key=some v)(J:key∈K)(hv:v.length<=200):(V.P.Za3<0->(WR H V i key).1=0/\(WR H V i key).2.P.Za3<0)/\ (((WR H V i key).1=0/\(WR H V i key).2.P.gone=false/\QT K (E+1) k m n g H sd (WR H V i key).2)∨ ((WR H V i key).1=10/\(WR H V i key).2.P.gone=true/\∀ (keep:Nat->List Bool) (Z:Nat->Int),Rk K (E+1) k m g n H sd (λj=>((WR H V i key).2.Ds j).lost (keep j) (Z j)))):=by
 unfold WR;by_cases hs:DF (Wq V i key)=0
 .rw[Zx hs];exact⟨λO=>⟨rfl,O⟩,Zv ⟨rfl,F,h.mono (Zel E)⟩⟩
 .rw[Zw hs,C,show V.k=k from h.Zaj.vk,show V.m=m from h.Zaj.vm];cases hM:V.Ms i with
  |none=>exfalso;apply hs;unfold Wq;rw[hM];cases (V.Ds i).dead<;>rfl
  |some S=>exact h.laid ha F U M hi hM C J hv
def QT.Zay(h:QT K E k m n g H sd V)(ha:Jd n V)(F:V.P.gone=false)(O:g<=1000000000)(J:1<=E){i:Nat}(hi:i<n):(V.P.Za3<0->(Zay V i g).1=0/\(Zay V i g).2.P.Za3<0)/\ (((Zay V i g).1=0/\(Zay V i g).2.P.gone=false/\QT K (E+1) k m n g H sd (Zay V i g).2)∨ ((Zay V i g).1=10/\(Zay V i g).2.P.gone=true/\∀ (keep:Nat->List Bool) (U:Nat->Int),Rk K (E+1) k m g n H sd (λj=>((Zay V i g).2.Ds j).lost (keep j) (U j)))):=by
 unfold Go.Proofs.YthppfllkocphbaaGreatDoor.Zay;rcases NW V i with hc|hc|⟨hc,M,hM⟩
 .rw[hc,Zw Qz];exact⟨λC=>⟨rfl,C⟩,Zv ⟨rfl,F,h.mono (Zel E)⟩⟩
 .rw[hc,Zw Qz];exact⟨λC=>⟨rfl,C⟩,Zv ⟨rfl,F,h.mono (Zel E)⟩⟩
 .rw[Zx hc];exact h.ZbP ha F O J hi hM M
def QT.step(h:QT K E k m n g H sd V)(hK:∀x v,H x=some v->x∈K/\v.length<=200)(ha:Jd n V)(Z:V.P.gone=false)(U:g<=1000000000)(O:1<=E){p:Nat×Bs×Bool}(hi:p.1<n):(V.P.Za3<0->(Ja H V n g p).1=0/\(Ja H V n g p).2.1.P.Za3<0)/\ (((Ja H V n g p).1=0/\(Ja H V n g p).2.1.P.gone=false/\QT K (E+1) k m n g H sd (Ja H V n g p).2.1/\(Ja H V n g p).2.2.1<n)∨ ((Ja H V n g p).1=10/\(Ja H V n g p).2.1.P.gone=true/\∀ (keep:Nat->List Bool) (C:Nat->Int),Rk K (E+1) k m g n H sd (λj=>((Ja H V n g p).2.1.Ds j).lost (keep j) (C j)))):=by
 have J:∀{L:List Bs} {j:Nat} {x:Bs},j<n->(XC n L j x).1<n:=fun{L j x} hj=>by
  unfold XC;split
  .exact hj
  .dsimp only;split<;>omega
 have M:∀{j:Nat},j<n->(V.P.Za3<0->(JB V n g j).1=0/\(JB V n g j).2.1.P.Za3<0)/\
  (((JB V n g j).1=0/\(JB V n g j).2.1.P.gone=false/\QT K (E+1) k m n g H sd (JB V n g j).2.1/\(JB V n g j).2.2.1<n)∨
    ((JB V n g j).1=10/\(JB V n g j).2.1.P.gone=true/\∀ (keep:Nat->List Bool) (C:Nat->Int),Rk K (E+1) k m g n H sd (λi=>((JB V n g j).2.1.Ds i).lost (keep i) (C i)))):=fun{j} hj=>by
  obtain⟨x1,F⟩:=h.Zay ha Z U O hj;refine⟨x1,F.imp (λx=>⟨x.1,x.2.1,x.2.2,J hj⟩) id⟩
 unfold Ja;split
 .unfold Es;cases hx:Fy (X9 V n) p.2.1 with
  |none=>exact M (by split<;>omega)
  |some x=>have ae:x∈X9 V n:=ZfW hx;have hH:=(h.Zaj.keys.2 x).1 ae;obtain⟨v,hv⟩:=ZdC.1 hH;obtain⟨af,ag⟩:=hK x v hv;obtain⟨x1,F⟩:=h.vis ha Z U O hi hv af ag;refine⟨x1,F.imp (λx=>⟨x.1,x.2.1,x.2.2,J hi⟩) id⟩
 .exact M hi
end
end
section
open Go.RowKit Go.Shelf
variable{G:Eg}{w w' w1:World}
theorem Z9V{B:Nat}{V:Ev}{bl C:Qj}{hb:Nat}{p:Nat×Bs×Bool}(g1:∀k∈C,k∈bl∨w.heap.size<=k)(f1:Fr (hb::G.p::bl) w w1)(J:HAt B G hb C V p w1 w'):HAt B G hb bl V p w w':=by
 obtain⟨r,bl',e,g,f⟩:=J;refine⟨r,bl',e,λk F=> ?_,f1.trans f (λk F M=> ?_)⟩
 .rcases g k F with h|h
  .exact g1 k h
  .exact Zy (Zq f1.size h)
 .grind
theorem Z9S{B:Nat}{P:Pw}{Ds:Nat->Dk}{bl C:Qj}{hb:Nat}(g1:∀k∈C,k∈bl∨w.heap.size<=k)(f1:Fr (hb::G.p::bl) w w1)(M:Je B G hb C P Ds w1 w'):Je B G hb bl P Ds w w':=by
 obtain⟨r,⟨J,e,g⟩,f⟩:=M;refine⟨r,⟨J,e,λk F=> ?_⟩,f1.trans f (λk F O=> ?_)⟩
 .rcases g k F with h|h
  .exact g1 k h
  .exact Zy (Zq f1.size h)
 .grind
def Ty.one{q:Nat}(h:Ty w)(F:Fr [q] w w')(J:0≠q):Ty w':=by have C:=F.cell (a:=⟨0,0,none⟩) h.lt (by rw[Z6];exact J);unfold Ty at h⊢;rw[C];exact h
def Z3V{L:List Bs}{key x:Bs}{q:Nat}(h:L=L.take q++x::L.drop (q+1))(C:∀y∈L.take q,gtB y key=false)(hx:gtB x key=true):Fy L key=some x:=by unfold Fy;rw[h,List.find?_append,List.find?_eq_none.2 (λy F=>by rw[C y F];simp),List.find?_cons,hx];rfl
section
variable{K:List Bs}{E k m n g:Nat}{H:Bs->Option Bs}{sd:Qr}{V:Ev}
def Z2l(B:Nat)(w:Qs)(G:Eg)(bl:Qj)(hb i:Nat)(ae:Bs)(h:QT K E k m n g H sd V)(hK:∀x v,H x=some v->x∈K/\v.length<=200)(he:EAt B w G V bl)(hn:G.n=n)(ht:Ty w)(cu:0<B)(hh:X0 w hb G.s i ae true)(hi:i<n)(hp:V.P.gone=false)(hg:g<=1000000000)(hE:1<=E)(ek:E<=2000000000)(ey:B<=hb):Calls prog 231 #[hb] w (JZ B G hb bl w (Es H V n g i ae)):=by
 obtain⟨rd,bq⟩:=hh;have eo:i<G.n:=Qw;have bg:Below w w (w.alloc (.cells #[(0:Int),.string ⟨#[]⟩,(0:Int)] 120)):=(Zu _ _).alloc (Zt _) _;have hs0:Row (w.alloc (.cells #[(0:Int),.string ⟨#[]⟩,(0:Int)] 120)) w 120 [.int .i64 0,.string ⟨#[]⟩,.int .i64 0]:=Z2 w _ [.int .i64 0,.string ⟨#[]⟩,.int .i64 0];have ct:=he.after bg;have dh:=bq.after bg;have hk:=h.keys ct hn;have aj:∀x,x∈X9 V n->∃v,H x=some v/\x∈K/\v.length<=200:=λx hx=>by obtain⟨v,hv⟩:=ZdC.1 ((h.Zaj.keys.2 x).1 hx);exact⟨v,hv,hK x v hv⟩
 have d0:=dh.c0;obtain⟨L,hL⟩:=ZK (X9 V n);obtain⟨r,J⟩:=ZK (Es H V n g i ae);rw[J];unfold Es at J;rw[hL] at hk aj J;have du:=he.alive;have F:=Q0 ct dh hs0 hk (ht.below bg) bg;have HM:=ZY aj du hL J;clear ct dh hs0 hk bg ht bq he aj du hL J;go_enter func231,ntmps231;go_wp2_with (go_at_call 43;refine F.4.mono ?_;rintro e w1 ⟨a1,c1,rfl,h1,h2,h3,J⟩;have Z:=QH.row J F.1 F.2 Qz;have d10:=Z.c0;have d11:=Z.c1;have d12:=Z.c2;have R1:=Q0 J Z (QH.row J F.1 F.3 Qz) h1 h2 h3;clear J Z h1 h2 h3);have ew:=R1.6;go_loopw [26] (λkv wr=>∃q:Nat,q<=L.length/\kv=(q:Int)/\(∀x∈L.take q,gtB x ae=false)/\wr=w1) (λkv _=>L.length- (intOf kv).toNat)
 .exact⟨0,Qw,rfl,Qx,rfl⟩
 obtain⟨q,hq,rfl,bj,rfl⟩:=hrel;by_cases de:q<L.length
 .obtain⟨ga,o,rfl,hc⟩:=R1.4 q (by simpa using de);obtain⟨x,hx⟩:=ZK L[q];rw[ZeP,hx] at hc;have ee:x∈L:=by rw[<-hx];exact Zl de
  have dz:L.take (q+1)=L.take q++[x]:=by rw[<-hx];exact Zc de
  have er:(q:Int)<(L.length:Int):=Qw;have af:L=L.take q++x::L.drop (q+1):=by rw[<-hx];simp
  have HN:=ZO bj ee dz af;clear bj ee dz hx af;have eu:gtB x ae=true/\Op.bytesLess (str x).toList (str ae).toList=false/\((str x).toList==(str ae).toList)=false∨gtB x ae=false/\Op.bytesLess (str x).toList (str ae).toList=true∨gtB x ae=false/\Op.bytesLess (str x).toList (str ae).toList=false/\((str x).toList==(str ae).toList)=true:=by rw[Il,Il];unfold gtB;cases Op.bytesLess x ae<;>cases x==ae<;>simp
  rcases eu with ⟨cn,e1,e2⟩|⟨hg,e1⟩|⟨hg,e1,e2⟩
  .have ak:=Z3V HN.2.2.2 HN.1 cn;obtain⟨v,hv,dp,dm⟩:=HM.1 x HN.2.1;have aq:=λ(w2:Qs) (ag:Qj) (e2:EAt B w2 G V ag) (t2:Ty w2)=>h.Zcz e2 hn t2 cu hi hv dp dm hp;have J:=HM.4;rw[ak] at J;dsimp only at J;obtain⟨kk,au⟩:=ZK (DF (Wq V i x));rw[au] at aq;have az:=(QH.ty R1.1 F.1 F.5);by_cases cz:kk=0
   .subst cz;have ay:WR H V i x=(0,V):=by unfold WR;rw[Zx au]
    rw[ay] at J;have HV:=ZN aq J az;clear aq J ak hv au ay cn az;go_wp2_with (first|(go_at_call 61;obtain⟨bf,e1,g1,f1⟩:=R1.1;refine(HV.1 _ _ e1 HV.2.2).mono ?_;rintro e w2 ⟨rfl,ai⟩;have O:=QH.trans ⟨e1,g1,f1⟩ ai;have Z:=QH.row O F.1 F.2 Qz;have d20:=Z.c0;have M:=ZN O Z (QH.row O F.1 F.3 Qz);clear e1 g1 f1 ai O Z)|(go_at_call 117;obtain⟨ag,e2,g2,f2⟩:=M.1;refine(Fo B _ G ag hb i ae x true h e2 hn ⟨rd,M.2.1⟩ hi).mono ?_;rintro e w4 ⟨rfl,h4,cr,e4,g4,f4⟩;have hA:HAt B G hb bl V (XC n (X9 V n) i x) (w.alloc (.cells #[(0:Int),.string ⟨#[]⟩,(0:Int)] 120)) w4:=HAt.of ⟨e2,g2,f2⟩ ⟨h4,cr,e4,g4,f4⟩;have C:=M.2.2.fr f4 (λhm=>(by rcases Zk.1 hm with h9|h9;exact Row.ne M.2.2 M.2.1 Qz h9;exact e2.Za0 M.2.2 Qz h9));have s0:=C.c0;have s1:=C.c1;have s2:=C.c2;have t0:=C.free (j:=0) Qx;have t1:=C.free (j:=1) Qx;have t2:=C.free (j:=2) Qx;have R4:=ZM hA C;clear e2 g2 f2 h4 e4 g4 f4 hA C));have U:=(((R4.2.set 0 (.int .i64 0)).set 1 (.string ⟨#[]⟩)).set 2 (.int .i64 0));have y0:=U.c0;have y1:=U.c1;have y2:=U.c2;refine ZD (v:=.tuple #[.agg #[(0:Int),.string ⟨#[]⟩,(0:Int)],false,.nilIface]) ?_ rfl ?_
    .simp[results,go_sem,y0,y1,y2]
    rw[<-HV.2.1];exact JZ.ZaS Qw F.6 (QK.nil _ _) (λh9=>R4.1) (λh9=>absurd rfl h9) R4.2 Qx
   .obtain⟨r1,dj⟩:=ZK (WR H V i x);have aw:=λ(w2:Qs) (ag:Qj) (e2:EAt B w2 G V ag) (t2:Ty w2)=>h.ZcU e2 hn t2 cu hi hv dp dm hp ek (by rw[au];exact cz);have ay:=(h.vis (by rw[<-hn];exact HM.2) hp hg hE hi hv dp dm).2;rw[dj] at aw ay J;obtain⟨c,V1⟩:=r1;dsimp only at aw ay J;have ez:(kk==0)=false:=(by simp[cz]);rcases ay with ⟨rfl, -,hX⟩|⟨rfl, -, -⟩
    .have HX:=ZI hX;have HV:=ZO aq J az aw;clear aq J ak hv au cn az aw dj hX;go_wp2_with (first|(go_at_call 61;obtain⟨bf,e1,g1,f1⟩:=R1.1;refine(HV.1 _ _ e1 HV.2.2.1).mono ?_;rintro e w2 ⟨rfl,ai⟩;have O:=QH.trans ⟨e1,g1,f1⟩ ai;have Z:=QH.row O F.1 F.2 Qz;have d20:=Z.c0;have M:=ZN O Z (QH.row O F.1 F.3 Qz);clear e1 g1 f1 ai O Z)|(go_at_call 258;obtain⟨ag,e2,g2,f2⟩:=M.1;refine(HV.2.2.2 _ _ e2 (QH.ty M.1 F.1 F.5)).mono ?_;rintro e w3 ⟨dt,rfl,bh,bm, -, -⟩;obtain rfl:=bh.zero;have O:=QH.trans ⟨e2,g2,f2⟩ (bm (by first|rfl|trivial));have Z:=QH.row O F.1 F.2 Qz;have R3:=ZN O Z (QH.row O F.1 F.3 Qz);clear e2 g2 f2 bm O Z bh)|(go_at_call 117;obtain⟨ag,e2,g2,f2⟩:=R3.1;refine(Fo B _ G ag hb i ae x true HX.o e2 hn ⟨rd,R3.2.1⟩ hi).mono ?_;rintro e w4 ⟨rfl,h4,cr,e4,g4,f4⟩;have hA:HAt B G hb bl V1 (XC n (X9 V1 n) i x) (w.alloc (.cells #[(0:Int),.string ⟨#[]⟩,(0:Int)] 120)) w4:=HAt.of ⟨e2,g2,f2⟩ ⟨h4,cr,e4,g4,f4⟩;have C:=R3.2.2.fr f4 (λhm=>(by rcases Zk.1 hm with h9|h9;exact Row.ne R3.2.2 R3.2.1 Qz h9;exact e2.Za0 R3.2.2 Qz h9));have s0:=C.c0;have s1:=C.c1;have s2:=C.c2;have t0:=C.free (j:=0) Qx;have t1:=C.free (j:=1) Qx;have t2:=C.free (j:=2) Qx;have R4:=ZM hA C;clear e2 g2 f2 h4 e4 g4 f4 hA C));have U:=(((R4.2.set 0 (.int .i64 (i:Int))).set 1 (.string (str x))).set 2 (.int .i64 kk));have y0:=U.c0;have y1:=U.c1;have y2:=U.c2;refine ZD (v:=.tuple #[.agg #[(i:Int),.string (str x),(kk:Int)],true,.nilIface]) ?_ rfl ?_
     .simp[results,go_sem,y0,y1,y2]
     rw[<-HV.2.1];exact JZ.ZaS Qw F.6 (QK.nil _ _) (λh9=>R4.1) (λh9=>absurd rfl h9) R4.2 Qx
    .have HV:=ZO aq J az aw;clear aq J ak hv au cn az aw dj;go_wp2_with (first|(go_at_call 61;obtain⟨bf,e1,g1,f1⟩:=R1.1;refine(HV.1 _ _ e1 HV.2.2.1).mono ?_;rintro e w2 ⟨rfl,ai⟩;have O:=QH.trans ⟨e1,g1,f1⟩ ai;have Z:=QH.row O F.1 F.2 Qz;have d20:=Z.c0;have M:=ZN O Z (QH.row O F.1 F.3 Qz);clear e1 g1 f1 ai O Z)|(go_at_call 258;obtain⟨ag,e2,g2,f2⟩:=M.1;refine(HV.2.2.2 _ _ e2 (QH.ty M.1 F.1 F.5)).mono ?_;rintro e w3 ⟨dt,rfl,bh, -,ah,bu⟩;have O:=Ye.trans ⟨e2,g2,f2⟩ ah;have Z:=O.row F.1 F.2 Qz;have R3:=ZP O Z (O.row F.1 F.3 Qz) (bu (by first|decide|trivial|simp)) (bh.base f2.size);clear e2 g2 f2 ah O Z bh bu)|(go_at_call 117;obtain⟨l9,dy,dx⟩:=R3.2.2.2.1;refine(OQ _ hb G.s i ae x true l9 ⟨rd,R3.2.1⟩ dy dx).mono ?_;rintro e w4 ⟨rfl,cj⟩;have C:=R3.2.2.1.after cj;have s0:=C.c0;have s1:=C.c1;have s2:=C.c2;have t0:=C.free (j:=0) Qx;have t1:=C.free (j:=1) Qx;have t2:=C.free (j:=2) Qx;have R4:=ZN (R3.1.after cj) C (R3.2.2.2.2.after cj);clear dy dx cj C));have U:=(((R4.2.1.set 0 (.int .i64 (i:Int))).set 1 (.string (str x))).set 2 (.int .i64 kk));have y0:=U.c0;have y1:=U.c1;have y2:=U.c2;refine ZD (v:=.tuple #[.agg #[(i:Int),.string (str x),(kk:Int)],true,dt]) ?_ rfl ?_
     .simp[results,go_sem,y0,y1,y2]
     rw[<-HV.2.1];exact JZ.ZaS Qw F.6 R4.2.2 (λh9=>absurd h9 (by show¬ (10:Int)=0;decide)) (λh9=>R4.1.ZaZ hb Qw) R4.2.1 Qx
  all_goals
   have HG:=ZI hg;clear hg;go_wp2;go_roundw
   .refine⟨q+1,Qw,QC,λy U=> ?_,trivial⟩;rw[HN.2.2.1] at U;rcases Zj.1 U with U|U
    .exact HN.1 y U
    .rw[Z6] at U;rw[U];exact HG.o
   simp[intOf];omega
 .obtain rfl:q=L.length:=by omega
  rw[Zs] at bj;have ak:Fy L ae=none:=List.find?_eq_none.2 (λx hx=>by rw[bj x hx];simp);obtain⟨i',cw⟩:=ZK (if i+1=n then 0 else i+1);have cy:i'<n:=by rw[<-cw];split<;>omega
  have HN:=ZM ak cw;clear bj ak cw;go_wp2_with (first|(go_at_call 166;obtain⟨bf,e1,g1,f1⟩:=R1.1;refine(OI B _ G V bf hb i ae ae true none 0 [] e1 ⟨rd,R1.2⟩ eo (λj hj=>absurd hj Qx) (λ_ _ e=>(by cases e)) Qx).mono ?_;rintro e w2 ⟨rfl,⟨ef,h2⟩,f2⟩;have bz:Row w2 hb 138 (Ar hb G.s (if i+1=G.n then 0 else i+1) [] false ef):=h2;rw[hn,HN.2] at bz;have d23:w2.cell? ⟨hb,3,none⟩=some (.func (.func 70) #[.pointer hb] #[]):=bz.c3;have e2:=e1.fr f2 (QL.row R1.2 (ts:=[138]) Qz) Qz Qz Qz (λk hk hm=>(by rw[Z6] at hm;subst hm;exact e1.Za0 R1.2 Qz hk));have C:=R1.3.fr f2 (by rw[Z6];exact Row.ne R1.3 R1.2 Qz);have ff:=(f1.mono (L':=hb::G.p::bl) (λk hk _=>Zh _ hk)).trans f2 (λk hk _=>(by rw[Z6] at hk;subst hk;exact ZeU));have ty:=(QH.ty R1.1 F.1 F.5);have M:=ZR bz e2 C g1 ff ty f2;clear h2 bz e2 C g1 ff e1 f1 ty f2 d10 d11 d12)|(go_at_call 70;refine(OR B _ G bf hb i' [] false h M.2.1 hn (M.2.2.2.2.2.1.one M.2.2.2.2.2.2 Qw) cu ⟨ef,M.1⟩ cy hp hg hE).mono ?_;rintro e w3 ⟨x1,x2,x3,b1,eh,rfl,dw,dq,df⟩;have C:=M9 dq df M.2.1 M.1 M.2.2.1;have s0:=C.c0;have s1:=C.c1;have s2:=C.c2;have t0:=C.free (j:=0) Qx;have t1:=C.free (j:=1) Qx;have t2:=C.free (j:=2) Qx;have R3:=ZO C dw dq df;clear C dw dq df));have U:=(((R3.1.set 0 (.int .i64 x1)).set 1 (.string x2)).set 2 (.int .i64 x3));have y0:=U.c0;have y1:=U.c1;have y2:=U.c2;refine ZD (v:=.tuple #[.agg #[(x1:Int),.string x2,(x3:Int)],b1,eh]) ?_ rfl ?_
  .simp[results,go_sem,y0,y1,y2]
  have J:=HM.4;rw[HN.1] at J;dsimp only at J;rw[HN.2] at J;rw[<-J];exact JZ.ZaS Qw F.6 (R3.2.1.base M.2.2.2.2.1.size) (λh9=>Z9V M.2.2.2.1 M.2.2.2.2.1 (R3.2.2.1 h9)) (λh9=>Z9S M.2.2.2.1 M.2.2.2.2.1 (R3.2.2.2 h9)) R3.1 Qx
end
end
section
open Go.RowKit Go.Shelf
section
variable{K:List Bs}{E k m n g:Nat}{H:Bs->Option Bs}{sd:Qr}{V:Ev}
def OS(B:Nat)(w:Qs)(G:Eg)(bl:Qj)(hb:Nat)(p:Nat×Bs×Bool)(h:QT K E k m n g H sd V)(hK:∀x v,H x=some v->x∈K/\v.length<=200)(he:EAt B w G V bl)(U:G.n=n)(ht:Ty w)(F:0<B)(hh:X0 w hb G.s p.1 p.2.1 p.2.2)(hi:p.1<n)(Z:V.P.gone=false)(O:g<=1000000000)(M:1<=E)(ae:E<=2000000000)(af:B<=hb):Calls prog 58 #[hb] w (JZ B G hb bl w (Ja H V n g p)):=by
 obtain⟨i,key,f⟩:=p;refine Z2m f B w G bl hb i key _ he hh Qw (λw1 C e1 t1 J=> ?_) ht;cases f
 .exact OR B w1 G C hb i key false h e1 U t1 F J hi Z O M
 .exact Z2l B w1 G C hb i key h hK e1 U t1 F J hi Z O M ae af
end
structure RmH(B:Nat)(w:Qs)(R:Rg)(G:Eg)(V:Ev)(bl:Qj)(hb:Nat)(p:Nat×Bs×Bool)(ha:Qm)(hc:Nat)(hs:QY)(sd:Qr):Prop where
 rm:Ys B w R G V bl (.pointer G.s) (.pointer hb) ha hc hs sd
 hl:X0 w hb G.s p.1 p.2.1 p.2.2
 hB:B<=hb
 gB:B<=R.gs
section
variable{B:Nat}{w w':Qs}{R:Rg}{G:Eg}{V V':Ev}{bl:Qj}{hb:Nat}{p p':Nat×Bs×Bool}{ha:Qm}{hc:Nat}{hs:QY}{sd:Qr}
def X0.after{h s i:Nat}{key:Bs}{f:Bool}(hh:X0 w h s i key f)(hb:Below w w w'):X0 w' h s i key f:=by obtain⟨rd,C⟩:=hh;exact⟨rd,C.after hb⟩
def RmH.after(h:RmH B w R G V bl hb p ha hc hs sd)(C:Below w w w'):RmH B w' R G V bl hb p ha hc hs sd:=⟨h.rm.after C,h.hl.after C,h.hB,h.gB⟩
def HAt.ZcT(h:HAt B G hb bl V' p' w w')(he:EAt B w G V bl){l0:Qk}(hh:Row w hb 138 l0){g:Nat}{e:Qu}{l:Qk}(C:Row w g e l)(F:e∉XT)(J:e≠138):Row w' g e l:=by
 obtain⟨-,bl', -, -,f⟩:=h;refine C.fr f (λhm=> ?_);rcases Zk.1 hm with h9|h9
 .exact Row.ne C hh J h9
 .exact he.Za0 C F h9
def RmH.step(h:RmH B w R G V bl hb p ha hc hs sd)(C:HAt B G hb bl V' p' w w'):(∃bl',RmH B w' R G V' bl' hb p' ha hc hs sd)/\Below B w w':=by
 obtain⟨s1,U⟩:=h.rm.Zax;obtain⟨s2,Z,z2⟩:=h.rm.ZaJ;obtain⟨rd,h3⟩:=h.hl;have he:=h.rm.set;have row:=fun{g:Nat} {e:Qu} {l:Qk} (hr:Row w g e l) (J:e∉XT) (M:e≠138)=>C.ZcT he h3 hr J M;obtain⟨bl',O,g',f'⟩:=C.set;refine⟨⟨bl',⟨⟨row h.rm.room Qz Qz,⟨s1,row U Qz Qz⟩,⟨s2,row Z Qz Qz,z2⟩,?_,O,h.rm.rB,h.rm.gn,h.rm.kn,h.rm.k1⟩,C.row,h.hB,h.gB⟩⟩,f'.below he.bw (λk F=> ?_)⟩
 .rcases h.rm.held with h9|⟨g9,sp,J,M⟩
  .exact Zv h9
  .exact Zy ⟨g9,sp,J,row M Qz Qz⟩
 .rcases Zk.1 F with rfl|F
  .exact h.hB
  .exact he.ge k F
end
def AO(H:Bs->Option Bs)(n g:Nat):Nat->Ev×(Nat×Bs×Bool)->Ev×(Nat×Bs×Bool)
 |0,s=>s
 |t+1,s=>(Ja H (AO H n g t s).1 n g (AO H n g t s).2).2
structure IH(K:List Bs)(E k m n g:Nat)(H:Bs->Option Bs)(sx:Qr)(s:Ev×(Nat×Bs×Bool)):Prop where
 set:QT K E k m n g H sx s.1
 al:Jd n s.1
 pl:s.2.1<n
 gone:s.1.P.gone=false
 Za3:s.1.P.Za3<0
def Z2c{K:List Bs}{E k m n g:Nat}{H:Bs->Option Bs}{sx:Qr}{V:Ev}(B:Nat)(w:Qs)(R:Rg)(G:Eg)(bl:Qj)(hb:Nat)(p:Nat×Bs×Bool)(ha:Qm)(hc:Nat)(hs:QY)(sd:Qr)(N:Nat)(M:RmH B w R G V bl hb p ha hc hs sd)(h:QT K E k m n g H sx V)(hK:∀x v,H x=some v->x∈K/\v.length<=200)(hn:G.n=n)(ht:Ty w)(aw:0<B)(hi:p.1<n)(hp:V.P.gone=false)(hf:V.P.Za3<0)(hg:g<=1000000000)(hE:1<=E)(hN:N<=1000)(bj:E<=1900000000):Calls prog 24 #[R.r,(N:Int)] w λe w'=>e=.returned true/\(∃bl',RmH B w' R G (AO H n g N (V,p)).1 bl' hb (AO H n g N (V,p)).2 ha hc hs sd)/\(∀u,u<=N->IH K (E+u) k m n g H sx (AO H n g u (V,p)))/\Below B w w':=by
 have ak:Jd n V:=by rw[<-hn];exact M.rm.set.alive
 have H0:=ZX M (show∀u,u<=0->IH K (E+u) k m n g H sx (AO H n g u (V,p)) from λu hu=>by
  obtain rfl:u=0:=Qw
  exact⟨h,ak,hi,hp,hf⟩) ht
 clear M h ht ak;go_enter func24,ntmps24;go_wp2;go_loopw [5] (λkv wr=>∃t:Nat,t<=N/\kv=(t:Int)/\(∃bl',RmH B wr R G (AO H n g t (V,p)).1 bl' hb (AO H n g t (V,p)).2 ha hc hs sd)/\(∀u,u<=t->IH K (E+u) k m n g H sx (AO H n g u (V,p)))/\Below B w wr) (λkv _=>N- (intOf kv).toNat)
 .exact⟨0,Qw,rfl,⟨bl,H0.1⟩,H0.2,Zu _ _⟩
 obtain⟨t,bu,rfl,⟨aj,F⟩,O,U⟩:=hrel;by_cases bm:t<N
 .have bq:(t:Int)<(N:Int):=by omega
  obtain⟨hX, -,ae,af,ag⟩:=O t (Zt _);obtain⟨s1,ah⟩:=ZK (AO H n g t (V,p));rw[ah] at F hX ae af ag;have J:AO H n g (t+1) (V,p)=(Ja H s1.1 n g s1.2).2:=by rw[<-ah];rfl
  have ay:Ty wr:=by have Z:=H0.3;unfold Ty at Z⊢;rw[U.cell (p:=⟨0,0,none⟩) aw];exact Z
  have ai:=OS B wr G aj hb s1.2 hX hK F.rm.set hn ay aw F.hl ae af hg Qw Qw F.hB;obtain⟨q1,q2⟩:=hX.step hK (by rw[<-hn];exact F.rm.set.alive) af hg Qw ae;obtain⟨q3,q4⟩:=q1 ag;obtain⟨r,M⟩:=ZK (Ja H s1.1 n g s1.2);rw[M] at ai q2 q3 q4 J;obtain⟨c,V2,p2⟩:=r;dsimp only at q2 q3 q4 J;subst q3;rcases q2 with ⟨-,q5,q6,q7⟩|⟨Z, -⟩
  .have d5:=F.rm.room.c5;have C:=ZT ai F q6 q7 q5 q4 U J O;clear ai F q6 q7 q5 q4 U J M ah hX ae af ag ay q1 O;go_wp2_with (go_at_call 58;refine C.1.mono ?_;rintro e w2 ⟨x1,x2,x3,b1,bh,rfl,au,az, -⟩;obtain rfl:=au.zero;have bf:=C.2.1.step (az rfl);have R2:=ZI bf;clear au az bf);go_roundw
   .obtain⟨⟨bg,h2⟩,hB2⟩:=R2.o;have J:=C.2.2.2.2.2.2.2.1;refine⟨t+1,Qw,QC,?_⟩;rw[J];have aq:=(Zu w2 w2).alloc (Zt _) (.cells #[(x1:Int),.string x2,(x3:Int)] 120);refine⟨⟨bg,h2.after aq⟩,λu hu=> ?_,(C.2.2.2.2.2.2.1.trans hB2).trans (aq.mono h2.rm.bw)⟩;rcases Zfc.1 (Nat.lt_succ_of_le hu) with Z|rfl
    .exact C.2.2.2.2.2.2.2.2 u Qw
    .rw[J];exact⟨by rw[<-ZeH];exact C.2.2.1,by rw[<-hn];exact h2.rm.set.alive,C.2.2.2.1,C.2.2.2.2.1,C.2.2.2.2.2.1⟩
   simp[intOf];omega
  .cases Z
 .obtain rfl:t=N:=by omega
  have C:=ZN F O U;clear F O U;go_wp2;go_ret;exact⟨rfl,⟨aj,C.1⟩,C.2.1,C.2.2⟩
def Cy(sd:Qr)(n m i:Nat):Bool:= !sd i||decide (YN (λj=> !sd j) n<m)
def F4(sd:Qr)(t:Nat):YN sd (t+1)=YN sd t+if sd t then 1 else 0:=by unfold YN;rw[Zds,ZdQ,Zb];cases h:sd t<;>simp[h]
def NK(sd:Qr)(t:Nat):YN sd t<=t:=by unfold YN;have:=Zdk sd (List.range t);simpa using this
def PA{B:Nat}{w:Qs}{R:Rg}{G:Eg}{V:Ev}{bl:Qj}{sv hv:Qt}{ha:Qm}{hc:Nat}{hs:QY}{sd:Qr}(i:Nat)(h:Ys B w R G V bl sv hv ha hc hs sd)(hi:i<R.n):Calls prog 54 #[R.r,(i:Int)] w λe w'=>e=.returned (.bool (Cy sd R.n R.m i))/\w=w':=by
 have ag:R.n<=16:=by rw[<-h.gn];exact h.set.nle.2
 have d7:=h.room.c7;have d3:=h.room.c3;have dc:=fun{j:Nat} (U:j<R.n)=>h.Zaa U;have ah:=dc hi;have HD:=ZM h (λ(j:Nat) (U:j<R.n)=>h.Zaa U);clear dc h;have aj:(i:Int)<(R.n:Int):=Qw;obtain⟨bb,C⟩:=ZK (Cy sd R.n R.m i);rw[C];have HM:=ZI C;clear C;go_enter func54,ntmps54;go_wp2;go_loopw [5,6] (λnv Z wr=>∃t:Nat,t<=R.n/\Z=(t:Int)/\nv=.int .i64 (YN (λj=> !sd j) t:Nat)/\wr=w) (λ_ Z _=>R.n- (intOf Z).toNat)
 .exact⟨0,Qw,rfl,rfl,rfl⟩
 obtain⟨t,aq,rfl,rfl,rfl⟩:=hrel;by_cases af:t<R.n
 .have ak:(t:Int)<(R.n:Int):=by omega
  have ai:=HD.2 t af;have hle:=NK (λj=> !sd j) t;have M:=F4 (λj=> !sd j) t;obtain⟨q,J⟩:=ZK (YN (λj=> !sd j) t);rw[J] at hle M⊢;have HQ:=ZI M;clear M J;cases hb:sd t
  all_goals
   rw[hb] at ai;have O:=ZI hb;clear hb;go_wp2;go_roundw
   .have F:=HQ.o;rw[O.o] at F;refine⟨t+1,Qw,QC,?_,by trivial⟩;rw[F]
    first|rfl|go_num|simp
   simp[intOf];omega
 .obtain rfl:t=R.n:=by omega
  have hle:=NK (λj=> !sd j) R.n;have C:=HM.o;unfold Cy at C;obtain⟨q,J⟩:=ZK (YN (λj=> !sd j) R.n);rw[J] at hle C⊢;have ae:((q:Int)<(R.m:Int))=(q<R.m):=Qx;have O:=ZM C ae;clear J C HM ae;cases hb:sd i
  all_goals
   rw[hb] at ah;have HC:=ZI hb;clear hb;go_wp2;go_ret;have F:=O.1;rw[HC.o] at F;simp at F;simp[<-F]
section
variable{B:Nat}{w w':Qs}{G:Eg}{V:Ev}{bl:Qj}
def WE.frU{s j d:Nat}{S:Sto}(h:WE w s j d S){X:Qj}{ts:List Qu}(C:Fr X w w')(F:QL w X ts)(O:197∉ts)(U:∀g,Row w g 4 (S.used.map .bool)->g∉X)(hs:s∉X)(Z:j∉X):WE w' s j d S:=by
 obtain⟨b,uv,r1,r2,J,g,hv,r4⟩:=h;have M:b∉X:=by obtain⟨fv,m1,_⟩:=J;obtain⟨es,cl,hb⟩:=m1.block;exact F.ZaK hb
 exact⟨b,uv,r1.fr C hs,Row.fr r2 C Z,J.fr C M (λk hk l hl=>F.Za0 hl O hk),g,hv,r4.fr C (U g r4)⟩
def EAt.frU(h:EAt B w G V bl){X:Qj}{ts:List Qu}(F:Fr X w w')(ht:QL w X ts)(h1:197∉ts)(hU:∀i,i<G.n->∀S,V.Ms i=some S->∀g,Row w g 4 (S.used.map .bool)->g∉X)(h3:92∉ts)(Z:∀k∈G.p::bl,k∉X):EAt B w' G V bl:=by
 obtain⟨Ls,Os,rfl,h⟩:=h;have hb:∀k∈Wu G Ls Os,k∉X:=λk J=>Z k (Zh _ J);obtain⟨sp,hm⟩:=h.mem;refine⟨Ls,Os,rfl,h.set.fr F (hb _ (by simp[Wu])),⟨sp,hm.fr F (ht.Za0 hm h3)⟩,h.n1,h.n16,λi hi=>(h.pd i hi).fr F (λk J hm=> ?_),h.dap,λi hi=> ?_,h.oap,h.bO,h.bs⟩
 .rcases Zk.1 hm with rfl|hm
  .exact Z _ Qx J
  .exact hb k (WH.2 (Zy (Zv ⟨i,hi,hm⟩))) J
 .have O:∀k∈Os i,k∉X:=λk J=>hb k (WH.2 (Zy (Zy ⟨i,hi,J⟩)));have M:=h.at_ i hi;cases hM:V.Ms i with
  |none=>rw[hM] at M;obtain⟨sv,lf,inn,C,U,ae⟩:=M;exact⟨sv,lf,inn,C,U.fr F (O _ (by rw[C];simp)),ae⟩
  |some S=>rw[hM] at M;obtain⟨s,j,C,U,hs,hd⟩:=M;exact⟨s,j,C,U.fr F (O _ (by rw[C];simp)),hs.frU F ht h1 (hU i hi S hM) (O _ (by rw[C];simp)) (O _ (by rw[C];simp)),hd⟩
def Z7I{g:Nat}{sd:Qr}{n:Nat}{sp:Qk}{d:Dir}(h:Row w g 4 (sdC sd n++sp))(U:n<=16)(O:∀v,sp[0]? =some v->v=.bool false){F:Nat}(hu:Row w F 4 ((Yy 800 100 d).map .bool)):F≠g:=λe=>by
 subst e;have hl:sdC sd n++sp=(Yy 800 100 d).map .bool:=by
  obtain⟨f1,J, -⟩:=h;obtain⟨f2,C, -⟩:=hu;rw[J] at C;simp at C
  first|exact C.1|exact C
 have hu:((Yy 800 100 d).map Value.bool)[n]? =some (.bool true):=by unfold Yy;rw[ZdF,ZdF,Zf9 Qw];simp;omega
 rw[<-hl,Zda (by simp[sdC])] at hu;have hlen:n- (sdC sd n).length=0:=by simp[sdC]
 rw[hlen] at hu;have M:=O _ hu;cases M
def EAt.mark{K:List Bs}{E:Nat}(h:EAt B w G V bl){g i:Nat}{sd:Qr}{n:Nat}{sp:Qk}(C:Row w g 4 (sdC sd n++sp))(U:n<=16)(Z:∀v,sp[0]? =some v->v=.bool false)(M:∀i,i<G.n->∀S,V.Ms i=some S->QV K E (V.Ds i) S)(v:Qt):EAt B (w.setCell ⟨g,i,none⟩ v) G V bl:=
 h.frU (X:=[g]) (ts:=[4]) ((Fr.refl _ _).setCell (Zv Qx) v) (QL.row C Qx) Qz (λi hi S hM g' F hm=>by
  rw[Z6] at hm;obtain⟨Za5,J⟩:=(M i hi S hM).img;have e:S.used=Yy 800 100 S.dir:=J.used;rw[e] at F
  exact Z7I C U Z F hm) Qz (λk O hm=>by rw[Z6] at hm;subst hm;exact h.Za0 C Qz O)
def Z6c(sd:Qr)(n i:Nat)(sp:Qk)(b:Bool)(hi:i<n):(sdC sd n++sp).set i (.bool b)=sdC (upd sd i b) n++sp:=by
 rw[ZfA _ _ (by simpa[sdC] using hi)];congr 1;apply ZdX
 .simp[sdC]
 .intro j F C;simp only[sdC,Zf,ZeW] at C;rw[Zg9];by_cases e:i=j
  .subst e;simp[sdC,Y3]
  .rw[Zw e];simp[sdC,QQ _ _ (λh=>e h.symm)]
def Ys.mark{K:List Bs}{E:Nat}{R:Rg}{sv hv:Qt}{ha:Qm}{hc:Nat}{hs:QY}{sd:Qr}(h:Ys B w R G V bl sv hv ha hc hs sd)(M:∀i,i<G.n->∀S,V.Ms i=some S->QV K E (V.Ds i) S){i:Nat}(hi:i<R.n)(b:Bool):Ys B (w.setCell ⟨R.gs,i,none⟩ (.bool b)) R G V bl sv hv ha hc hs (upd sd i b):=by
 obtain⟨s1,d1⟩:=h.Zax;obtain⟨s2,d2,z2⟩:=h.ZaJ;have J:R.n<=16:=by rw[<-h.gn];exact h.set.nle.2
 have F:Fr [R.gs] w (w.setCell ⟨R.gs,i,none⟩ (.bool b)):=(Fr.refl _ _).setCell (Zv Qx) _;refine⟨h.room.fr F (by rw[Z6];exact Row.ne h.room d2 Qz),⟨s1,d1.fr F (by rw[Z6];exact Row.ne d1 d2 Qz)⟩,⟨s2,?_,z2⟩,h.held.set (ad:=⟨R.gs,i,none⟩) d2 Qz _,h.set.mark d2 J z2 M _,h.rB,h.gn,h.kn,h.k1⟩;have C:=d2.set i (.bool b);rw[Z6c sd R.n i s2 b hi] at C;exact C
end
end
def Au(V:Ev)(hs:QY)(i:Nat):Bool:=(V.Ms i).isSome&&hs.all λp=>Wq V i p.1==0
section
variable{K:List Bs}{E k m n g:Nat}{H:Bs->Option Bs}{sd:Qr}{V:Ev}
def QT.marks(h:QT K E k m n g H sd V){F:Qr}(hs:∀i,i<n->F i=true->∃S,V.Ms i=some S/\Xn k m i H (stR (V.Ds i).reads S.dir))(hm:k<=YN F n):QT K E k m n g H F V:=by refine⟨λP J M=> ?_,h.o⟩;have C:=h.set P J M;exact⟨C.hK,C.k1,C.kn,C.vk,C.vm,C.vg,J,M,C.Za2,C.in_,hs,hm⟩
def QT.ZcH(h:QT K E k m n g H sd V){hs:QY}(M:∀x v,H x=some v->(x,v)∈hs)(O:V.P.gone=false){i:Nat}(hi:i<n)(hl:Au V hs i=true):∃S,V.Ms i=some S/\Xn k m i H (stR (V.Ds i).reads S.dir):=by
 unfold Au at hl;rw[Zeu] at hl;obtain⟨S,hM⟩:=Zdp.1 hl.1;refine⟨S,hM,λx v hx=> ?_⟩;have J:=Zfx.1 hl.2 _ (M x v hx);have C:Wq V i x=0:=by simpa using J
 unfold Wq at C;rw[hM,O] at C;obtain⟨-,U⟩:=h.Zaj.in_ i hi S hM;rcases U.some_ x v hx with h3|h3|h3
 .have F:stR (V.Ds i).reads S.dir (nmD x)=none:=h3;simp[F] at C
 .have F:stR (V.Ds i).reads S.dir (nmD x)=some none:=h3;simp[F] at C
 .exact h3
def QT.ZcI(h:QT K E k m n g H sd V){hs:QY}(M:∀p∈hs,H p.1=some p.2)(Z:V.P.gone=false){i:Nat}(hi:i<n)(U:sd i=true):Au V hs i=true:=by obtain⟨S,hM,O⟩:=h.Zaj.snd i hi U;have C:V.Ms i=some S:=hM;unfold Au;rw[C,Zeu];refine⟨rfl,Zfx.2 λp F=> ?_⟩;have J:stR (V.Ds i).reads S.dir (nmD p.1)=_:=O p.1 p.2 (M p F);unfold Wq;rw[C,Z];simp[J]
def QT.looked(h:QT K E k m n g H sd V){hs:QY}(F:∀x v,H x=some v->(x,v)∈hs)(J:∀p∈hs,H p.1=some p.2)(C:V.P.gone=false):QT K E k m n g H (Au V hs) V:=h.marks (λi hi hl=>h.ZcH F C hi hl) (Zq h.Zaj.many (GA λi hi M=>h.ZcI J C hi M))
def QT.of(h:Y0 K E k m n g H sd V)(C:∀i,i<n->V.Ms i≠none):QT K E k m n g H sd V:=⟨λP F J=>⟨h.hK,h.k1,h.kn,h.vk,h.vm,h.vg,F,J,h.Za2,h.in_,h.snd,h.many⟩,λi hi hM=>absurd hM (C i hi)⟩
def Z09(sd:Qr)(i:Nat):∀n,YN sd n<=YN (upd sd i false) n+1:=by
 intro n
 induction n with
 |zero=>unfold YN;simp
 |succ t ih=>
  rw[F4,F4];by_cases e:t=i
  .subst e;have h:YN (upd sd t false) t=YN sd t:=by unfold YN;congr 1;apply Zfm;intro j C;rw[Zdo] at C;rw[QQ _ _ Qw]
   rw[Y3,h];split<;>simp
  .rw[QQ _ _ e];split<;>omega
def Z08(sd:Qr):∀n,YN sd n+YN (λj=> !sd j) n=n:=by
 intro n
 induction n with
 |zero=>rfl
 |succ t ih=>rw[F4,F4];cases h:sd t<;>simp<;>omega
def PM{i:Nat}(h:Cy sd n m i=true)(M:k+m=n)(hm:k<=YN sd n)(hi:i<n):k<=YN (upd sd i false) n:=by
 unfold Cy at h;rcases Bool.or_eq_true _ _▸h with h1|h1
 .have e:upd sd i false=sd:=by
   funext j
   by_cases e:j=i
   .subst e;rw[Y3];simp at h1;exact h1.symm
   .rw[QQ _ _ e]
  rw[e];exact hm
 .have C:=Z08 sd n;have F:=Z09 sd i n;have J:=of_decide_eq_true h1;omega
end
section
open Go.RowKit Go.Shelf
section
variable{B:Nat}{w w':Qs}{R:Rg}{G:Eg}{V V':Ev}{bl:Qj}{hb:Nat}{p:Nat×Bs×Bool}{ha:Qm}{hc:Nat}{hs:QY}{sd:Qr}
def RmH.ran(h:RmH B w R G V bl hb p ha hc hs sd)(C:QH B G bl V' w w'):(∃bl',RmH B w' R G V' bl' hb p ha hc hs sd)/\Below B w w':=by obtain⟨bl',F⟩:=h.rm.ran C;obtain⟨rd,J⟩:=h.hl;exact⟨⟨bl',F,⟨rd,C.row h.rm.set J Qz⟩,h.hB,h.gB⟩,C.below h.rm.set⟩
def RmH.mark{K:List Bs}{E:Nat}(h:RmH B w R G V bl hb p ha hc hs sd)(F:∀i,i<G.n->∀S,V.Ms i=some S->QV K E (V.Ds i) S){i:Nat}(hi:i<R.n)(b:Bool):RmH B (w.setCell ⟨R.gs,i,none⟩ (.bool b)) R G V bl hb p ha hc hs (upd sd i b):=by obtain⟨s2,d2,z2⟩:=h.rm.ZaJ;obtain⟨rd,C⟩:=h.hl;have J:Fr [R.gs] w (w.setCell ⟨R.gs,i,none⟩ (.bool b)):=(Fr.refl _ _).setCell (Zv Qx) _;exact⟨h.rm.mark F hi b,⟨rd,C.fr J (by rw[Z6];exact Row.ne C d2 Qz)⟩,h.hB,h.gB⟩
def RmH.same(h:RmH B w R G V bl hb p ha hc hs sd){F:Qr}(e:∀i,i<R.n->sd i=F i):RmH B w R G V bl hb p ha hc hs F:=by
 have e2:sdC sd R.n=sdC F R.n:=ZdG λi hi=>by rw[e i (Zdo.1 hi)]
 obtain⟨C,J,M,O⟩:=h;exact⟨⟨C.room,C.Zax,by rw[<-e2];exact C.ZaJ,C.held,C.set,C.rB,C.gn,C.kn,C.k1⟩,J,M,O⟩
end
def Ed(V:Ev)(hs:QY)(sd:Qr)(t:Nat):Qr:=λj=>if j<t then Au V hs j else sd j
def Z3h(V:Ev)(hs:QY)(sd:Qr)(t:Nat):upd (Ed V hs sd t) t (Au V hs t)=Ed V hs sd (t+1):=by
 funext j
 unfold Ed;by_cases e:j=t
 .subst e;rw[Y3,Zx Qw]
 .rw[QQ _ _ e];by_cases h:j<t
  .rw[Zx h,Zx Qw]
  .rw[Zw h,Zw Qw]
section
variable{K:List Bs}{E k m n g:Nat}{H:Bs->Option Bs}{sx:Qr}{V:Ev}
def Z3i(B:Nat)(w:Qs)(R:Rg)(G:Eg)(bl:Qj)(hb:Nat)(p:Nat×Bs×Bool)(ha:Qm)(hc:Nat)(hs:QY)(sd:Qr)(hr:RmH B w R G V bl hb p ha hc hs sd)(h:QT K E k m n g H sx V)(hH:∀q∈hs,H q.1=some q.2/\q.1∈K/\q.2.length<=200)(hn:G.n=n)(ht:Ty w)(bj:0<B)(hp:V.P.gone=false)(aq:hs.length<=1000):Calls prog 57 #[R.r] w λe w'=>e=.returned (.tuple #[])/\(∃bl',RmH B w' R G V bl' hb p ha hc hs (Au V hs))/\Below B w w':=by
 have dj:R.n=n:=by rw[<-hr.rm.gn];exact hn
 have cz:R.n<=16:=by rw[<-hr.rm.gn];exact hr.rm.set.nle.2
 have U:=ZX hr h ht;clear hr h ht;go_enter func57,ntmps57;go_wp2;go_loopw [2] (λM wr=>∃t:Nat,t<=R.n/\M=(t:Int)/\(∃bl',RmH B wr R G V bl' hb p ha hc hs (Ed V hs sd t))/\Below B w wr) (λM _=>R.n- (intOf M).toNat)
 .exact⟨0,Qw,rfl,⟨bl,U.1.same (λi _=>rfl)⟩,Zu _ _⟩
 obtain⟨t,du,rfl,⟨az,hR⟩,ai⟩:=hrel;by_cases bz:t<R.n
 .have dt:(t:Int)<(R.n:Int):=by omega
  have c1:=hR.rm.room.c1;have c4:=hR.rm.room.c4;have bm:=Ki B wr G V az t hR.rm.set Qw;obtain⟨N,hN⟩:=ZK hs.length;have Z:=ZO bm hR ai hN;clear bm hR ai;rw[hN] at aq;clear hN;go_wp2_with (go_at_call 44;refine Z.1.mono ?_;rintro e w2 ⟨rfl,cr⟩;have C:=Z.2.1.ran cr;have R2:=ZI C;clear cr C);go_loopw [3,4] (λbv nv wr=>∃q:Nat,q<=N/\nv=(q:Int)/\bv=.bool ((V.Ms t).isSome&&(hs.take q).all λx=>Wq V t x.1==0)/\(∃bl',RmH B wr R G V bl' hb p ha hc hs (Ed V hs sd t))/\Below B w wr) (λ_ nv _=>N- (intOf nv).toNat)
  .exact⟨0,Qw,rfl,Qx,R2.1,Z.2.2.1.trans R2.2⟩
  obtain⟨q,hq,rfl,rfl,⟨bf,J⟩,ae⟩:=hrel;obtain⟨bb,O⟩:=ZK ((V.Ms t).isSome&&(hs.take q).all λx=>Wq V t x.1==0);rw[O];have d6:=J.rm.room.c6;rw[Z.2.2.2] at d6;by_cases aj:q<N/\bb=true
  .obtain⟨cn,rfl⟩:=aj;have de:(q:Int)<(N:Int):=Qw;have aw:q<hs.length:=by rw[Z.2.2.2];exact cn
   obtain⟨ga,rfl,dm,e0, -⟩:=J.rm.held.at_ aw;obtain⟨q1,q2,q3⟩:=hH _ (Zl aw);have ay:hs.take (q+1)=hs.take q++[hs[q]]:=Zc aw;obtain⟨M,bq⟩:=ZK hs[q];rw[bq] at e0 q1 q2 q3 ay;have hl:=U.2.Zaj.hK.len M.1 q2;obtain⟨o1,o2⟩:=U.2.Zb8 q1;have df:V.k=k:=U.2.Zaj.vk;have dh:V.m=m:=U.2.Zaj.vm;have cw:=U.2.Zaj.k1;have cy:=U.2.Zaj.kn;have ct:Ty wr:=by have C:=U.3;unfold Ty at C⊢;rw[ae.cell (p:=⟨0,0,none⟩) bj];exact C
   have bu:=λ(W:Qs) (bh:Below wr wr W)=>Kj B W G V bf K E t M.1 M.2 (J.rm.set.after bh) (ct.below bh) bj Qw hl.1 Qw q3 Qw Qw (by rw[hn];exact o1) (by rw[hn];omega);have d4:=J.rm.room.c4;have F:=ZP bu J ae O ay;clear bu J ae O ay q1 q2 q3 bq hl o1 o2 df dh cw cy ct;by_cases hz:Wq V t M.1=0
   .have HZ:=ZI hz;clear hz;go_wp2_with fail;go_region_law ((try go_simp);go_at_call 45;refine(F.1 _ ((Zu _ _).drew)).mono ?_;rintro e w4 ⟨ev,rfl,ag,ah⟩;have C:=(F.2.1.after ((Zu _ _).drew)).ran ah;have R4:=ZM C.1 (((Zu B wr).drew).trans C.2);clear ah C;have au:=ag.1;rw[HZ.o] at au;obtain rfl:=au.zero;clear au ag)
    all_goals (try go_wp2)
    all_goals
     refine⟨⟨q+1,Qw,QC,?_,R4.1,F.2.2.1.trans R4.2⟩,by simp[intOf];omega⟩;have h8:=F.2.2.2.1;rw[Zeu] at h8;rw[F.2.2.2.2,List.all_append,h8.1,h8.2];have hz:=HZ.o;simp[hz]
   .have HZ:=ZI hz;clear hz;go_wp2_with fail;go_region_law ((try go_simp);go_at_call 45;refine(F.1 _ ((Zu _ _).drew)).mono ?_;rintro e w4 ⟨ev,rfl,ag,ah⟩;have C:=(F.2.1.after ((Zu _ _).drew)).ran ah;have R4:=ZM C.1 (((Zu B wr).drew).trans C.2);clear ah C;obtain⟨b9,rfl⟩:=(ag.1.split.resolve_left (λh=>HZ.o h.1)).2;clear ag)
    all_goals (try go_wp2)
    all_goals
     refine⟨⟨q+1,Qw,QC,?_,R4.1,F.2.2.1.trans R4.2⟩,by simp[intOf];omega⟩;have h8:=F.2.2.2.1;rw[Zeu] at h8;rw[F.2.2.2.2,List.all_append,h8.1,h8.2];have hz:=HZ.o;simp[hz]
  .have af:bb=Au V hs t:=by
    cases bb with
    |true=>
     have e:q=N:=by
      by_cases C:q<N
      .exact absurd ⟨C,rfl⟩ aj
      .omega
     rw[e,<-Z.2.2.2,Zs] at O;exact O.symm
    |false=>
     symm;cases ak:Au V hs t with
     |false=>rfl
     |true=>unfold Au at ak;rw[Zeu] at ak;rw[ak.1,Bool.true_and] at O;have C:((hs.take q).all λx=>Wq V t x.1==0)=true:=Zfx.2 λx hx=>Zfx.1 ak.2 x (Zdh hx);rw[C] at O;cases O
   have d7:=J.rm.room.c7;have dp:=J.rm.Zaa bz;obtain⟨s2,r2, -⟩:=J.rm.ZaJ;have dq:=r2.free (j:=t) (by simp[sdC];omega);have bg:∀i,i<G.n->∀S,V.Ms i=some S->QV K E (V.Ds i) S:=λi hi S hM=>(U.2.Zaj.in_ i Qw S hM).1;have cj:=λb=>J.mark bg bz b;have F:=ZO af cj ae J.gB;have cu:(q<N/\bb=false)∨q=N:=by
    by_cases C:q<N
    .left;refine⟨C,?_⟩;cases bb with
     |false=>rfl
     |true=>exact absurd ⟨C,rfl⟩ aj
    .right;omega
   clear af J ae cj bg r2 aj O;rcases cu with ⟨cn,rfl⟩|rfl
   all_goals
    try have de:(q:Int)<(N:Int):=Qw
    go_wp2;go_roundw
    .have C:=F.2.1 (Au V hs t);rw[Z3h] at C;have h8:=F.1;refine⟨t+1,Qw,QC,⟨bf,?_⟩,?_⟩
     .rw[<-h8] at C;exact C
     .exact F.2.2.1.setCell (p:=⟨R.gs,t,none⟩) F.2.2.2 _
    simp[intOf];omega
 .obtain rfl:t=R.n:=by omega
  have c1:=hR.rm.room.c1;have Z:=ZM hR ai;clear hR ai;go_wp2;go_end0;exact⟨rfl,⟨az,Z.1.same (λi hi=>by unfold Ed;rw[Zx hi])⟩,Z.2⟩
end
def Z0I(B:Nat)(w:Qs)(G:Eg)(V:Ev)(bl:Qj)(key:Bs)(h:EAt B w G V bl)(ae:1<=key.length)(Z:key.length<=200)(M:EO V G.n)(O:(List.range G.n).any (Jq V key)=false):Calls prog 28 #[G.s,key] w λe w'=>∃ev,e=.returned (.tuple #[.string ⟨#[]⟩,ev])/\QK w' w 13 ev/\QH B G bl V w w':=by
 have c4:=h.Zaa.c4;have hm:(decide (1<=(str key).size)&&decide ((str key).size<=200))=true:=by rw[QW];simp;omega
 have F:=It B w G V bl key h Z M;rw[O] at F;have H:=ZI F;clear h F M O;go_enter func28,ntmps28;go_wp2_with (first|(go_at_call 66;refine(BO _ _).mono ?_;rw[hm];rintro e w1 ⟨rfl,rfl⟩)|(go_at_call 67;refine H.o.mono ?_;rintro e w2 ⟨rfl,C⟩;have C:=ZI C)|(go_at_call 31;refine(Ff 13 0 Qz _).mono ?_;rintro e w3 ⟨b,rfl,he, -,hb⟩;have U:w<=w2.heap.size:=(by obtain⟨_,_,_,f9⟩:=C.o;exact f9.size);have J:=ZX he (C.o.after hb) U;clear he hb U));go_ret2;exact⟨_,rfl,J.1.base J.3,J.2⟩
end
section
open Go.RowKit Go.Shelf
variable{E g k m n:Nat}{H:Bs->Option Bs}{K:List Bs}{V:Ev}{sd:Nat->Bool}
def Strs.sl{w:Qs}{base:Nat}{v:Qt}{l:List Bs}(h:Strs w base v l):∃a c,v=.slice a l.length c:=by
 rcases h.2 with ⟨C,F⟩|⟨g,cap,cur,C,_⟩
 .exact⟨none,0,by rw[C,F]⟩
 .exact⟨_,cap,C⟩
def Y0.Zc8(h:Y0 K E k m n g H sd V){key:Bs}(C:H key=none):(List.range n).any (Jq V key)=false:=by
 rw[List.any_eq_false];intro i hi;unfold Jq;cases hM:V.Ms i with
 |none=>simp
 |some S=>simp only[Xt.2 ((h.in_ i (Zdo.1 hi) S hM).2.none_ key C)];simp
def Y0.runs(h:Y0 K E k m n g H sd V):EO V n:=λi hi S hM _ _ hm=>by obtain⟨_,C,F⟩:=(h.in_ i hi S hM).1.runs hm;exact⟨C,F⟩
def Y0.ZcY(h:Y0 K E k m n g H sd V){B:Nat}{w:Qs}{G:Eg}{bl:Qj}(he:EAt B w G V bl)(F:G.n=n)(Z:Ty w)(O:0<B){key:Bs}(M:key∈K)(hv:∀v,H key=some v->v.length<=200):Calls prog 28 #[G.s,key] w λe w'=>∃v ev,e=.returned (.tuple #[.string (str v),ev])/\((H key=some v/\ev=.nilIface)∨(H key=none/\∃b,ev=.iface 139 (b:Nat)))/\QH B G bl V w w':=by
 have U:=h.hK.len key M;cases C:H key with
 |none=>refine(Z0I B w G V bl key he U.1 Qw (by rw[F];exact h.runs) (by rw[F];exact h.Zc8 C)).mono ?_;rintro e w' ⟨ev,rfl,he,J⟩;exact⟨[],ev,rfl,Zy ⟨rfl,(he.split.resolve_left (λh=>absurd h.1 Qz)).2⟩,J⟩
 |some v=>refine(h.get he F Z O C M (hv v C)).mono ?_;rintro e w' ⟨rfl,J⟩;exact⟨v,_,rfl,Zv ⟨rfl,rfl⟩,J⟩
def Z2d{hs:QY}{L:List Bs}(ae:L.Nodup)(J:∀x,x∈L↔H x≠none)(hn:(hs.map (·.1)).Nodup)(hl:L.length=hs.length)(h:∀q (O:q<hs.length),H hs[q].1=some hs[q].2):∀x,H x=Hof hs x:=by
 have M:∀p∈hs,H p.1=some p.2:=λp C=>by obtain⟨q,O,rfl⟩:=Zeg C;exact h q O
 intro x;cases hx:Hof hs x with
 |some v=>exact M _ (B9 hx)
 |none=>
  cases hH:H x with
  |none=>rfl
  |some v=>
   exfalso;have U:x∉hs.map (·.1):=λhm=>by obtain⟨p,C,e⟩:=Zz.1 hm;exact ML.1 hx p C e
   have Z:=(Zdn.2 ⟨U,hn⟩).length_le_of_subset (l₂:=L) (λy F=>by
    rcases Zk.1 F with rfl|F
    .exact(J _).2 (by rw[hH];exact Option.some_ne_none _)
    .obtain⟨p,C,rfl⟩:=Zz.1 F
     exact(J _).2 (by rw[M p C];exact Option.some_ne_none _))
   rw[Ze,Zf] at Z;omega
def Z2i(B:Nat)(w:Qs)(G:Eg)(V:Ev)(bl:Qj)(K:List Bs)(E k m n g:Nat)(H:Bs->Option Bs)(sd:Qr)(hs:QY)(a:Qm)(cp:Nat)(aq:Y0 K E k m n g H sd V)(O:∀x v,H x=some v->v.length<=200)(hh:HOk K hs)(he:EAt B w G V bl)(hn:G.n=n)(ht:Ty w)(bq:0<B)(hr:YW w a hs):Calls prog 14 #[G.s,.slice a hs.length cp] w λe w'=>∃b,e=.returned (.bool b)/\((∀x,H x=Hof hs x)->b=true)/\(b=true->∀x,H x=Hof hs x)/\QH B G bl V w w':=by
 have hk:=aq.Zca he hn;have au:=hh.few aq.hK;obtain⟨N,hN⟩:=ZK hs.length;have C:=Q4 hk aq hh he ht hr hN hn O;rw[hN] at au⊢;clear hk aq hh he ht hr hN hn O;go_enter func14,ntmps14;go_wp2_with (go_at_call 43;refine(show Calls prog 43 #[G.s,.string ⟨#[]⟩] _ _ from C.1).mono ?_;rintro e w1 ⟨v,L,rfl,bz,az,ah,aj⟩;obtain⟨a1,c1,rfl⟩:=bz.sl;have hlen:(∀x,H x=Hof hs x)->L.length=N:=(λhx=>by have J:=Z2Y C.3.nd az (λx=>by rw[ah,hx]);rw[C.7] at J;exact J);have af:L.length=N->(∀q (U:q<hs.length),H hs[q].1=some hs[q].2)->∀x,H x=Hof hs x:=(λhl h=>Z2d az ah C.3.nd (by rw[hl];exact C.7.symm) h);obtain⟨M,bj⟩:=ZK L.length;rw[bj] at hlen af⊢;have R1:=ZX aj hlen af;clear bz az ah aj bj hlen af;by_cases bm:M=N;case' neg=>have df:((M:Int) !=(N:Int))=true:=(by simp;omega))
 .go_ret;exact⟨_,rfl,λh=>absurd (R1.2 h) bm,λh=>(by cases h),R1.1⟩
 .subst bm;go_loopw [7] (λkv wr=>∃t:Nat,t<=M/\kv=(t:Int)/\(∀q (U:q<hs.length),q<t->H hs[q].1=some hs[q].2)/\QH B G bl V w wr) (λkv _=>M- (intOf kv).toNat)
  .exact⟨0,Qw,rfl,λq _ h=>absurd h Qw,R1.1⟩
  obtain⟨t,dp,rfl,hold,Z⟩:=hrel;by_cases cy:t<M
  .have dm:(t:Int)<(M:Int):=(by omega);have ae:t<hs.length:=by rw[C.7];exact cy
   have aw:=C.6.ran Z C.4;obtain⟨ga,rfl,hg,c0,cn⟩:=aw.at_ ae;have cj:=QH.ty Z C.4 C.5 bq;obtain⟨de,e1,g1,f1⟩:=Z;have ag:=C.2.ZcY e1 C.8 cj bq (C.3.key _ (Zl ae)) (C.9 _);have ak:=C.3.at_ ae;obtain⟨kk,ay⟩:=ZK hs[t].1;obtain⟨vv,bg⟩:=ZK hs[t].2;rw[ay] at c0 ag ak;rw[bg] at cn ak;have F:=Q4 ag e1 g1 f1 aw bg ak ay hold;clear ag e1 g1 f1 aw bg ay cj ak hold;go_wp2_with (go_at_call 28;refine F.1.mono ?_;rintro e w2 ⟨v,ev,rfl,cw,bf⟩;have bu:=F.5.ran bf F.2;obtain⟨cu,bh,dh,cr,ct⟩:=bu.at_ ae;obtain rfl:cu=ga:=(by simpa using bh.symm);rw[F.6] at ct;have R2:=ZI (QH.trans ⟨F.2,F.3,F.4⟩ bf);clear bf bu bh cr;rcases cw with ⟨O,rfl⟩|⟨O,b2,rfl⟩;case' inl=>have HV:=ZI O;case' inl=>clear O;case' inl=>by_cases ai:v=vv;case' neg=>have dj:((str v).toList==(str vv).toList)=false:=(by rw[Tk];simpa using ai))
   .go_ret;exact⟨false,rfl,λh=>absurd (by have J:=h kk;rw[HV.o,F.7] at J;exact Zdu J) ai,λh=>(by cases h),R2.o⟩
   .go_roundw
    .refine⟨t+1,Qw,QC,λq U cz=> ?_,R2.o⟩;rcases Zfc.1 cz with J|rfl
     .exact F.9 q U J
     .rw[F.8,F.6,HV.o,ai]
    simp[intOf];omega
   .go_ret;exact⟨false,rfl,λh=>(by have J:=h kk;rw[O,F.7] at J;cases J),λh=>(by cases h),R2.o⟩
  .obtain rfl:t=M:=(by omega);have HR:=ZM Z hold;clear Z hold;go_wp2_with fail;go_ret;refine Zy ⟨rfl,R1.3 trivial λq U=>HR.2 q U ?_,HR.1⟩;rw[<-C.7];exact U
