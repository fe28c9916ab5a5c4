/- Part 13: lemmas. -/
import Derived.Deep.OwnRows
import Derived.Test.YthppfllkocphbaaGreatDoorV11
namespace Go.Proofs.YthppfllkocphbaaGreatDoor
set_option linter.all false
set_option maxHeartbeats 25600000
set_option maxRecDepth 100000
open Tryz
open Go renaming World->Qs,Value->Qt,TypeId->Qu,Ending->Qv
open Go.RowKit Go.Shelf
variable{B E g gb n sb t:Nat}{G:Eg}{K:List Bs}{Ls Os Q:Nat->List Nat}{Ss:Nat->Option Sto}{V V0:Ev}{bl0:List Nat}{gl:List Value}{gv:Nat->Int}{q:Int}{w0 w1 wr:World}
def Z7o:(prog.info? 89).map (λi=>(i.zero,i.size,i.bytes))=some (some (.pointer none),1,8):=Qy
def IQ(D:Dk):Prop:=D.dead=true∨(D.dead=false/\(D.text 0 100).getD 0 0≠1/\(D.text 100 100).getD 0 0≠1)
theorem Z75(B p d:Nat)(P:Pw)(D:Dk)(L:Qj)(w:Qs)(h:PD B w p d 800 P D L)(J:Ty w)(F:P.gone=false)(U:IQ D):Calls prog 62 #[d] w λe w'=>∃c ev,c≠0/\c≠10/\e=.returned (.tuple #[.pointer none,ev])/\QK w' w c ev/\Below w w w':=by
 rcases U with C|⟨C,M,O⟩
 .have e:WV P D=11:=by unfold WV;rw[F,C];rfl
  refine(Z72 B p d P D L w h J Qw).mono ?_;grind
 .refine(Z73 B p d P D L w h J (FV F C) M O).mono ?_;grind
def IP(k m i:Nat)(T:Tab)(γ:Int):Prop:=(∃g:Nat,γ=g/\g<=1000000000/\T nmC=some (some (YQ k m i g)))∨(γ= -1/\T nmC=none)
structure AQ(K:List Bs)(E k m g i:Nat)(D:Dk)(S:Option Sto)(γ:Int)(I:Option Sto)(A:List Ac):Prop where
 no:S=none->IQ D/\γ= -1
 st:∀T,S=some T->QU K E D T/\D.dead=false/\IP k m i (stR D.reads T.dir) γ
 le:γ<=g
 way:(I=none/\A=[]/\γ≠g/\(γ≠g-1∨γ<0))∨(∃T,S=some T/\I=some T/\γ=g/\A=acts0 T.dir/\(A=[]∨∃d f,Ym K T A d f))∨
  (∃T gone,S=some T/\I=some T/\1<=g/\γ=g-1/\stR D.reads T.dir nmN=some (some (YQ k m i g))/\stR D.reads T.dir nmT=some (some (AN g gone))/\(Y8 (QI g::gone)).length<=9000/\gone.length<=1000/\(∀x∈gone,x.length<=1000)/\A=Yv T.dir gone/\∃d,Ym K T A d [])
def Yo(a:List Ac)(t:Nat)(V:Ev):Int×Ev:=if a=[] then(0,V) else(Yi V (t,λ_=>a),Y3 V (t,λ_=>a))
def Yd(A:Nat->List Ac):Nat->Ev->Int×Ev
 |0,V=>(0,V)
 |t+1,V=>if(Yd A t V).1=0 then Yo (A t) t (Yd A t V).2 else Yd A t V
def SN{A:Nat->List Ac}(h:(Yd A t V).1≠0):∀n,t<=n->Yd A n V=Yd A t V:=by
 intro n C
 induction n with
 |zero=>obtain rfl:t=0:=by omega
        rfl
 |succ n ih=>
  by_cases e:t=n+1
  .rw[e]
  .have:=ih Qw;rw[show Yd A (n+1) V=if(Yd A n V).1=0 then Yo (A n) n (Yd A n V).2 else Yd A n V from rfl,this,Zw h]
def AE(gv:Nat->Int):Nat->Int
 |0=> -1
 |t+1=>max (AE gv t) (gv t)
theorem Z3V{g:Int}(C:∀a,a<n->gv a<=g)(F:∃a,a<n/\gv a=g)(h:0<=g):AE gv n=g:=by
 have:∀t,t<=n->AE gv t<=g/\∀a,a<t->gv a<=AE gv t:=by
  intro t
  induction t with
  |zero=>intro _;exact⟨by unfold AE;omega,λa ha=>Qw⟩
  |succ t ih=>intro J;unfold AE;grind
 grind
def Rp(gv:Nat->Int)(t:Nat): -1<=AE gv t:=by
 cases t with
 |zero=>exact Zff _
 |succ t=>have: -1<=AE gv t:=Rp gv t;unfold AE;omega
def BW(I:Nat->Option Sto)(t:Nat):Nat:=((List.range t).filter λi=>(I i).isSome).length
theorem Z0z(I:Nat->Option Sto)(t:Nat):BW I (t+1)=BW I t+if(I t).isSome then 1 else 0:=by unfold BW;rw[ZdX,Zeo,Zb];grind
def Z0y(I:Nat->Option Sto)(t:Nat):BW I t<=t:=by have:=ZdM (λi=>(I i).isSome) (List.range t);rwa[Zfv] at this
section
variable{sl:Qk}
theorem Z4A(h:Op1 B w0 w1 G V0 Ls Ss gv gb sb t q Q gl sl wr)(M:t<G.n){S:Sto}(C:QU K E (V0.Ds t) S)(J:V0.P.gone=false)(F:(V0.Ds t).dead=false)(Z:E<=2000000000):Calls prog 62 #[.pointer (some ⟨G.ds t,0,none⟩)] wr λe w'=>∃s j,e=.returned (.tuple #[(s:Nat),.nilIface])/\wr.heap.size<=s/\wr.heap.size<=j/\WI w' s j (G.ds t) S/\Below wr wr w':=by have⟨Zau,hi⟩:=C.img;refine(TF B G.p (G.ds t) V0.P (V0.Ds t) (Ls t) S Zau wr (h.ep.pd t M) (FV J F) hi (by have:=C.ep;omega)).mono ?_;rintro e w' ⟨s,rfl,hs,hb⟩;have⟨U,j,hj,O⟩:=hs.j;grind
def Z4z(h:Op1 B w0 w1 G V0 Ls Ss gv gb sb t q Q gl sl wr)(O:t<G.n){S:Sto}{s j:Nat}(C:WI wr s j (G.ds t) S)(F:QU K E (V0.Ds t) S)(M:V0.P.gone=false)(J:(V0.Ds t).dead=false){γ:Int}(Z:IP V0.k V0.m t (stR (V0.Ds t).reads S.dir) γ)(hk:V0.k<=16)(hm:V0.m<=16):Calls prog 63 #[G.s,s,.string ⟨#[33]⟩,(t:Int)] wr λe w'=>e=.returned (.int .i64 γ)/\Below wr wr w':=by
 have:=h.ep.n16;rcases Z with ⟨g,rfl,U,hc⟩|⟨rfl,hc⟩
 .exact OX G.s s nmC wr (h.ep.pd t O) C.at_ F M J Qz hc hk hm Qw U h.ep.set.c0 h.ep.set.c1
 .exact Z29 G.s s t nmC _ wr (LO (h.ep.pd t O) C.at_ F M J Qz (Zv hc))
theorem Z4C(h:Op2 B w0 w1 G bl0 Q gb sb t gl sl V Ls Os wr)(hF:OpF w0 w1 G Q)(ht:t<G.n)(hB:B<=w0)(ct:Ty wr)(bz:0<B)(hK:KOk K)(hE:E<=2000000000){S:Option Sto}{γ:Int}{A:List Ac}(aq:AQ K E V.k V.m g t (V.Ds t) S γ (V.Ms t) A)(ag:V.P.gone=false)(hk:V.k<=16)(hm:V.m<=16)(cu:V.gen=(g:Int))(aw:g<=1000000000):Calls prog 64 #[G.s,(t:Int),CO (Q t),.int .i64 γ] wr λe w'=>∃ev,e=.returned (.tuple #[.bool (V.Ms t).isSome,ev])/\QK w' wr (Yo A t V).1 ev/\Ye B G bl0 (Yo A t V).2.P (Yo A t V).2.Ds w0 w'/\((Yo A t V).1=0->∃F,Op2 B w0 w1 G bl0 Q gb sb t gl sl (Yo A t V).2 F Os w'):=by
 have c3:=h.ep.set.c3;rw[show(Xl t V).gen=(g:Int) from cu] at c3;have hn:=h.ep.n16;have same:∀w',Below wr wr w'->A=[]->QK w' wr (Yo A t V).1 .nilIface/\Ye B G bl0 (Yo A t V).2.P (Yo A t V).2.Ds w0 w'/\((Yo A t V).1=0->∃F,Op2 B w0 w1 G bl0 Q gb sb t gl sl (Yo A t V).2 F Os w'):=λw' hb O=>by unfold Yo;rw[Zx O];exact⟨QK.nil _ _,(h.after hb).d,λ_=>⟨_,h.after hb⟩⟩
 have af:∀T,V.Ms t=some T->QU K E (V.Ds t) T->A≠[]->(∃d f,Ym K T A d f)->∀s j,Q t=[s,j]->∀ga na ca bf,Below wr wr bf->A8 bf ga 0 A->na=A.length->na<=ca->Calls prog 38 #[(s:Nat),.slice (ga:Nat) na ca] bf λe w'=>∃ev,e=.returned ev/\QK w' wr (Yo A t V).1 ev/\Ye B G bl0 (Yo A t V).2.P (Yo A t V).2.Ds w0 w'/\((Yo A t V).1=0->∃F,Op2 B w0 w1 G bl0 Q gb sb t gl sl (Yo A t V).2 F Os w'):=by rintro T hM C O ⟨d,f,ha⟩ s j Z ga na ca w2 hb ah aj ak;have M:=h.after hb;have⟨J,ae⟩:=M.st t (Zt _) ht T hM;have⟨s',j',bj,J⟩:=J;rw[Z] at bj;cases bj;have au:=hF.ge t ht;rw[Z] at au;have:=au s Qx;have:=au j Qx;have:=hF.le;have⟨Zau,az⟩:=C.img;have hc:=Kk B G.p (G.ds t) V.P (V.Ds t) (Ls t) s j ga 0 na ca T Zau (V.Ds t).reads A d f w2 (M.ep.pd t ht) (by have:=M.le;omega) J Qw Qw ah aj ak az ha.ZaQ ha.room ha.ZaA ha.ne ha.few (by rw[C.wait];simp) (ct.below hb) bz (by have:=C.ep;omega) (by have:=C.few hK;omega);rw[<-ha.go,<-ha.nx] at hc;go_fit hc;rintro e w3 ⟨ev,rfl,bq,hC⟩;have⟨e1,e2⟩:=JB (V:=V) (x:=(t,λ_=>A)) hM;have⟨r1,r2⟩:=M.did (a:=λ_=>A) hF ht hM Z hC;unfold Yo;rw[Zw O];refine⟨ev,rfl,?_,r1,r2⟩;show QK w3 wr.heap.size (Yi V (t,λ_=>A)) ev;rw[e1];exact bq.base hb.size
 rcases aq.way with ⟨U,O,h1,M⟩|⟨T,hS,U,rfl,O,ah⟩|⟨T,gone,hS,U,cy,rfl,hN,hT,cr,bg,cj,O,ah⟩
 .rw[U];refine(Z5B G.s t g γ (CO (Q t)) wr c3 aw h1 M).mono ?_;simp_all
 .obtain⟨C,ae, -⟩:=aq.st T hS;have⟨s,j,Z,J⟩:=(h.st t (Zt _) ht T U).1;have hp:CO (Q t)=.pointer (s:Nat):=by rw[Z];rfl
  rw[U,hp];refine Sr G.s s t g wr c3 (R:=λev w'=>QK w' wr (Yo A t V).1 ev/\Ye B G bl0 (Yo A t V).2.P (Yo A t V).2.Ds w0 w'/\((Yo A t V).1=0->∃F,Op2 B w0 w1 G bl0 Q gb sb t gl sl (Yo A t V).2 F Os w')) ?_
  refine Z10 s (G.ds t) T wr J.at_ C.sorted (by have:=C.few hK;omega) (λn e hn=>by
   have⟨_,h1,M⟩:=C.runs hn
   exact⟨h1,Qw⟩) (λh0 w' hb=>same w' hb (O.trans h0)) (λh0 ga na ca w' hb _ ai _ aj ak=> ?_)
  grind
 .obtain⟨C,ae, -⟩:=aq.st T hS;have⟨s,j,Z,J⟩:=(h.st t (Zt _) ht T U).1;have hp:CO (Q t)=.pointer (s:Nat):=by rw[Z];rfl
  rw[U,hp];have bh:=h.ep.pd t ht;obtain⟨g',rfl⟩:∃g',g=g'+1:=⟨g-1,Qw⟩;rw[show((g'+1:Nat):Int)-1=(g':Int) from Qw];have cn:∀n∈T.dir.names,n.length<=1000:=λn hn=>by obtain⟨x,hx,rfl⟩:=Zz.1 hn;have:=(BB hK _ (C.sm x hx).1).2;omega
  have⟨d,ah⟩:=ah;refine Z5A G.s s t g' gone wr aw bg c3 (λx hx=> ?_) (λx hb=> ?_) (λx cw hb ay=> ?_)
  .exact OX G.s s nmN x (bh.after hx.2) (J.at_.after hx.2) C ag ae Qz hN hk hm Qw aw ((hx.2.cell h.ep.set.lt).trans h.ep.set.c0) ((hx.2.cell h.ep.set.lt).trans h.ep.set.c1)
  .exact FL (bh.after hb) (J.at_.after hb) C ag ae Qx Qx cr hT
  .obtain⟨a,cap,rfl,ay,bu⟩:=ay;have h0:A≠[]:=ah.ne
   refine Tr s (G.ds t) T _ gone x (J.at_.after hb) C.sorted (by have:=C.few hK;omega) cn ⟨a,cap,rfl,ay,bu⟩ bg cj (λn e hn=>by
    have⟨_,h1,M⟩:=C.runs hn
    exact⟨h1,Qw⟩) (R:=λev w'=>QK w' wr (Yo A t V).1 ev/\Ye B G bl0 (Yo A t V).2.P (Yo A t V).2.Ds w0 w'/\((Yo A t V).1=0->∃F,Op2 B w0 w1 G bl0 Q gb sb t gl sl (Yo A t V).2 F Os w')) (λga na ca w' bm _ ai _ aj ak=> ?_)
   rw[<-O] at ai aj;exact af T U C h0 ⟨d,[],ah⟩ s j Z ga na ca w' (hb.trans (bm.mono hb.size)) ai aj ak
def Z4B(h:Op2 B w0 w1 G bl0 Q gb sb t gl sl V Ls Os wr)(hF:OpF w0 w1 G Q)(C:t<G.n)(hB:B<=w0){S:Sto}(hM:V.Ms t=some S):Calls prog 65 #[G.s,(t:Int),CO (Q t)] wr λe w'=>e=.returned (.tuple #[])/\∃O,Op2 B w0 w1 G bl0 Q gb sb (t+1) gl sl V Ls O w':=by have J:=h.ep.at_ t C;rw[show(Xl t V).Ms t=none from Zw (ZgD t)] at J;obtain⟨sv,lf,inn,hO,F, -⟩:=J;obtain⟨gh,v, -,U⟩:=(h.ep.pd t C).dk;have⟨s,j,M,ae⟩:=(h.st t (Zt _) C S hM).1;rw[show CO (Q t)=.pointer s from by rw[M];rfl];go_fit (KE G.s G.ms (G.xs t) t G.n G.cap G.p (G.ds t) gh s v sv (.int .i64 lf) (.bool inn) (V.Ds t) wr C h.ep.set.c2 (h.ep.ZaK C) F U);rintro e w' ⟨rfl,hr,Z⟩;exact⟨rfl,_,h.enter hF hB C hM M F hr Z⟩
def Op2.ty(h:Op2 B w0 w1 G bl0 Q gb sb t gl sl V Ls Os wr)(hb:∀k∈bl0,B<=k)(hB:B<=w0)(J:Ty w0)(F:0<B):Ty wr:=by
 have M:Below B w0 wr:=h.fr.below hB (λk C=>by
  rcases Zk.1 C with rfl|C
  .exact(h.ep.pd 0 h.ep.n1).bp
  .exact hb k C)
 unfold Ty at J⊢;rw[M.cell (p:=⟨0,0,none⟩) F];omega
def Ye.ty{P:Pw}{Ds:Nat->Dk}{w w':Qs}(h:Ye B G bl0 P Ds w w')(hb:∀k∈G.p::bl0,B<=k)(hB:B<=w)(F:Ty w)(C:0<B):Ty w':=by have⟨_,_,_,_,J⟩:=h;unfold Ty at F⊢;rw[(J.below hB hb).cell (p:=⟨0,0,none⟩) C];omega
def Op2.Zda(h:Op2 B w0 w1 G bl0 Q gb sb t gl sl V Ls Os wr)(hF:OpF w0 w1 G Q)(hs:w0<=G.s)(F:G.n<=t):∀k∈Wx G Ls Os,k∈bl0∨w0.heap.size<=k:=λk C=>by
 rcases WL.1 C with rfl|⟨i,hi,C⟩|⟨i,hi,C⟩
 .omega
 .exact h.ZaT i hi k C
 .have:=hF.le;rcases h.in_ i Qw k C with rfl|h1
  .exact Zy (hF.xs i hi).1
  .have:=hF.ge i hi k h1;omega
end
def TL(a:List Ac)(t:Nat)(V:Ev):(Yo a t V).2.k=V.k/\(Yo a t V).2.m=V.m/\(Yo a t V).2.gen=V.gen/\(∀i,((Yo a t V).2.Ms i).isSome=(V.Ms i).isSome)/\∀i,i≠t->(Yo a t V).2.Ms i=V.Ms i/\(Yo a t V).2.Ds i=V.Ds i:=by
 unfold Yo;split
 .simp
 .have⟨h,C,F,J⟩:=Ec V (t,λ_=>a);refine⟨h,C,F,J,λi hi=> ?_⟩;unfold Y3;split
  .exact⟨QP _ _ hi,QP _ _ hi⟩
  .simp
structure DX(V0:Ev)(n t:Nat)(V:Ev):Prop where
 k:V.k=V0.k
 m:V.m=V0.m
 gen:V.gen=V0.gen
 gone:V.P.gone=false
 same:∀i,t<=i->V.Ms i=V0.Ms i/\V.Ds i=V0.Ds i
 some_:∀i,(V.Ms i).isSome=(V0.Ms i).isSome
def DX.step{k m:Nat}{S:Option Sto}{γ:Int}{A:List Ac}(h:DX V0 n t V)(J:AQ K E k m g t (V.Ds t) S γ (V.Ms t) A)(Z:(V.Ds t).ok 800)(U:(Yo A t V).1=0):DX V0 n (t+1) (Yo A t V).2:=by
 have⟨h1,h2,h3,h4,h5⟩:=TL A t V;refine⟨h1.trans h.k,h2.trans h.m,h3.trans h.gen,?_,λi hi=> ?_,λi=>(h4 i).trans (h.some_ i)⟩
 .unfold Yo at U⊢;split
  .exact h.gone
  .rename_i hA;have C:∃T d f,V.Ms t=some T/\Ym K T A d f/\(V.Ds t).dead=false:=by
    rcases J.way with ⟨_,O,_⟩|⟨T,M,F,_,O,C⟩|⟨T,gone,M,F,_,_,_,_,_,_,_,O,d,C⟩
    .simp_all
    .have⟨d,f,C⟩:=C.resolve_left hA;exact⟨T,d,f,F,C,(J.st T M).2.1⟩
    .exact⟨T,d,[],F,C,(J.st T M).2.1⟩
   have⟨T,d,f,F,C,hd⟩:=C;have⟨e1,e2⟩:=JB (V:=V) (x:=(t,λ_=>A)) F;rw[e1,C.go] at U;rw[e2,C.go];have:=Cg (T.ops A d f) (P:=V.P) C.in_ Z.fit hd h.gone;simp_all
 .have⟨e1,e2⟩:=h5 i Qw;have⟨e3,e4⟩:=h.same i Qw;simp_all
def Z1n(B:Nat)(w:Qs)(K:List Bs)(E gd n cap k m p g:Nat)(ds:Nat->Nat)(P:Pw)(Ds:Nat->Dk)(Ls:Nat->List Nat)(Ss I:Nat->Option Sto)(gv:Nat->Int)(A:Nat->List Ac)(hc:∀i,i<n->w.cell? ⟨gd,i,none⟩=some (.pointer (some ⟨ds i,0,none⟩)))(ez:gd<w)(eu:gd∉p::(List.range n).flatMap Ls)(ic:1<=k)(hn:n=k+m)(bu:n<=16)(ay:B<=w)(fh:∀i,i<n->PD B w p (ds i) 800 P (Ds i) (Ls i))(bg:∀i j,i<n->j<n->i≠j->∀q∈Ls i,q∉Ls j)(hK:KOk K)(ag:P.gone=false)(fo:Ty w)(dj:0<B)(aj:∀i,i<n->AQ K E k m g i (Ds i) (Ss i) (gv i) (I i) (A i))(bq:∃i,i<n/\gv i=(g:Int))(ah:k<=BW I n)(hE:E<=2000000000)(ia:g<=1000000000):Calls prog 27 #[.slice gd n cap,(k:Int),(m:Int)] w λe w'=>∃sv ev,e=.returned (.tuple #[sv,ev])/\QK w' w (Yd A n ⟨k,m,(g:Int),P,Ds,I⟩).1 ev/\Ye B ⟨n,p,0,0,0,λ_=>0,ds⟩ ((List.range n).flatMap Ls) (Yd A n ⟨k,m,(g:Int),P,Ds,I⟩).2.P (Yd A n ⟨k,m,(g:Int),P,Ds,I⟩).2.Ds w w'/\ ((Yd A n ⟨k,m,(g:Int),P,Ds,I⟩).1≠0->sv=.pointer none)/\((Yd A n ⟨k,m,(g:Int),P,Ds,I⟩).1=0->∃s ms c xs bl',sv=.pointer (s:Nat)/\EAt B w' ⟨n,p,s,ms,c,xs,ds⟩ (Xl n (Yd A n ⟨k,m,(g:Int),P,Ds,I⟩).2) bl'/\∀q∈bl',q∈(List.range n).flatMap Ls∨w.heap.size<=q):=by
 have aw:=Ol w gd n cap k m ds hc ez ic hn bu;have ie:1<=n:=Qw;have bj:k<=16:=Qw;have bm:m<=16:=Qw;have ij:=run_make_row' (P:=prog) 46 3 (.int .i64 0) 8 underlying46 Pv rfl .i64 .i64 n Qw Qw;have ik:=run_make_row' (P:=prog) 126 89 (.pointer none) 8 underlying126 Z7o rfl .i64 .i64 n Qw Qw;have:decide ((g:Int)<0)=false:=Qx;have fa:=Z3V (λa ha=>(aj a ha).le) bq Qw;have U:=Q6 aw fh bg aj ag hc hn eu fo fa ah;clear aw fh bg aj ag hn hc eu fo fa bq ah;go_enter func27,ntmps27;go_wp2_with (go_at_call 47;go_fit U.1;rintro e w1 ⟨s,v,xs,rfl,C⟩;have⟨ms,c_,hp⟩:=C.eat ay ie bu U.2 U.3;have fp:∀i,i<n->xs i<w1.heap.size:=λi hi=>(C.mem i hi).lt;have c3:w1.cell? ⟨s,3,none⟩=(0:Int):=hp.set.c3;have f3:w1.frozen? ⟨s,3,none⟩=false:=hp.set.free (j:=3) Qx;have dt:s<w1.heap.size:=hp.set.lt;have cj:s<w1.heap.size+1:=Qw;have fA:∀o o',((w1.alloc o).alloc o').frozen? ⟨s,3,none⟩=false:=(λo o'=>((hp.set.alloc o).alloc o').free (j:=3) Qx);have cA:∀o o',((w1.alloc o).alloc o').cell? ⟨s,3,none⟩=(0:Int):=(λo o'=>((hp.set.alloc o).alloc o').c3);have H1:=ZZ hp C.bel C.sge C.ge fp;clear C hp fp);have dy:Op1 B w (w1.setCell ⟨s,3,none⟩ (.int .i64 (-1))) ⟨n,p,s,ms,c_,xs,ds⟩ ⟨k,m,0,P,Ds,λ_=>none⟩ Ls Ss gv w1 (w1.heap.size+1) 0 (-1) (λ_=>[]) (madeCells #[.int .i64 0] n).toList (madeCells #[.pointer none] n).toList (((w1.setCell ⟨s,3,none⟩ (.int .i64 (-1))).alloc (.cells (madeCells #[.int .i64 0] n) 3)).alloc (.cells (madeCells #[.pointer none] n) 89)):=by have e:(w1.setCell ⟨s,3,none⟩ (.int .i64 (-1))).heap.size=w1.heap.size:=Qx;have h9:=Op1.start (w1:=w1.setCell ⟨s,3,none⟩ (.int .i64 (-1))) (G:=⟨n,p,s,ms,c_,xs,ds⟩) (V0:=⟨k,m,0,P,Ds,λ_=>none⟩) (q:= -1) (Ss:=Ss) (gv:=gv) (H1.1.ZbX (-1)) (H1.2.setCell (p:=⟨s,3,none⟩) H1.3 _) H1.3;rw[e] at h9;exact h9
 have H2:=ZI dy;clear dy c3 f3 dt cj fA cA
 have fq:∀a,a<n->w.heap.size<=xs a/\xs a<(w1.setCell ⟨s,3,none⟩ (.int .i64 (-1))).heap.size:=λa ha=>⟨H1.4 a ha,by
  have e:(w1.setCell ⟨s,3,none⟩ (.int .i64 (-1))).heap.size=w1.heap.size:=Qx
  rw[e];exact H1.5 a ha⟩
 have fw:=ZI fq;clear fq;generalize fy:((w1.setCell ⟨s,3,none⟩ (.int .i64 (-1))).alloc (.cells (madeCells #[.int .i64 0] n) 3)).alloc (.cells (madeCells #[.pointer none] n) 89)=w2 at*
 clear fy ij ik;generalize w1.setCell ⟨s,3,none⟩ (.int .i64 (-1))=wb at*
 generalize w1.heap.size+1=sb at*
 generalize w1.heap.size=gb at*
 generalize (madeCells #[.int .i64 0] n).toList=iq at*
 generalize (madeCells #[.pointer none] n).toList=ja at*
 go_loopw [42] (λkv wr=>∃ (t:Nat) (Q:Nat->List Nat) (gl sl:Qk),t<=n/\kv=(t:Int)/\Op1 B w wb ⟨n,p,s,ms,c_,xs,ds⟩ ⟨k,m,0,P,Ds,λ_=>none⟩ Ls Ss gv gb sb t (AE gv t) Q gl sl wr) (λkv _=>n- (intOf kv).toNat)
 .exact⟨0,_,_,_,Qw,rfl,H2.o⟩
 obtain⟨t,Q,gl,sl,iz,rfl,C⟩:=hrel;by_cases M:t<n
 .have:(t:Int)<(n:Int):=by omega
  have gj:=(C.bel.cell (p:=⟨gd,t,none⟩) ez).trans (U.6 t M);have hM:=C.mark (.int .i64 (-1));have f1:=C.gr.free (j:=t) (by rw[C.gn];exact M);obtain⟨u1,y1⟩:∃u,wr.cell? ⟨gb,t,none⟩=some u:=⟨_,C.gr.cell (Z8 (by rw[C.gn];exact M))⟩;have hD:=U.4 t M;have du:=C.sz t (Zt _) M;have⟨q,hq⟩:=ZK (AE gv t);obtain⟨γ,hγ⟩:∃γ,gv t=γ:=⟨_,rfl⟩;have⟨q1,dp⟩:=ZK (max q γ);have cw:AE gv (t+1)=q1:=by rw[<-dp,<-hq,<-hγ];rfl
  have cu:=Rp gv t;rw[hq] at hM cu;rw[hγ] at hD;have dh:=hM.ep.pd t M;clear C;cases cr:Ss t with
  |none=>
   have⟨fc,er⟩:=hD.no cr;have fg:=Z75 B p (ds t) P (Ds t) (Ls t) _ dh (U.9.below hM.bel) U.5 fc;have J:=ZS hM fg cw hγ er dp cu du;clear hM hD dh fg cw hγ er fc dp cu du;go_wp2_with (first|(go_at_call 62;go_fit J.2.1;rintro e w3 ⟨c,ev,ak,az,rfl,he,au⟩;obtain⟨b,rfl⟩:=(he.split.resolve_left (λh=>ak h.1)).2;have ee:(c==10)=false:=(by rw[ZeL];exact az);have O:=ZN he ee au;clear he au ak az ee)|(go_at_call 19;refine(JQ _ c 10 _ _ O.1 Qz).mono ?_;rw[O.2.1];rintro e w4 ⟨rfl,rfl⟩));go_roundw
   .have h3:=J.1.after O.2.2;have e1:max q (-1)=q:=by have:=J.2.2.2.2.2.2.1;omega
    refine⟨t+1,upd Q t [],gl.set t (.int .i64 (-1)),sl,Qw,QC,?_⟩;rw[J.2.2.1,<-J.2.2.2.2.2.1,J.2.2.2.2.1,e1];refine J.1.next O.2.2 M (N:=[]) (by rw[cr];rfl) (λx hx=>by cases hx) (Fr.refl _ _) h3.gr h3.sr ?_ ?_
    .rw[J.2.2.2.1,J.2.2.2.2.1,List.set_set]
    .exact Z6P J.2.2.2.2.2.2.2
   simp[intOf];omega
  |some S=>
   have⟨dw,eh,hC⟩:=hD.st S cr;have J:=ZR hM dw eh hC cw hγ U.5;clear hM hD dh cw hγ dw eh hC cu du;go_wp2_with (first|(go_at_call 62;go_fit (Z4A J.1 M J.2.1 J.2.2.2.2.2.2 J.2.2.1 hE);rintro e w3 ⟨s3,j3,rfl,fi,ey,cn,au⟩;have O:=ZP (J.1.after au) cn fi ey au;clear fi ey cn au)|(go_at_call 19;go_fit (OA 10 _);rintro e w4 ⟨rfl,rfl⟩)|(go_at_call 63;go_fit (Z4z O.1 M O.2.1 J.2.1 J.2.2.2.2.2.2 J.2.2.1 J.2.2.2.1 bj bm);rintro e w5 ⟨rfl,ct⟩;have Z:=O.1.after ct;have z1:=Z.gr.free (j:=t) (by rw[Z.gn];exact M);have z2:=Z.sr.free (j:=t) (by rw[Z.sn];exact M);obtain⟨v1,z3⟩:∃u,w5.cell? ⟨gb,t,none⟩=some u:=⟨_,Z.gr.cell (Z8 (by rw[Z.gn];exact M))⟩;obtain⟨v2,z4⟩:∃u,w5.cell? ⟨sb,t,none⟩=some u:=⟨_,Z.sr.cell (Z8 (by rw[Z.sn];exact M))⟩;have ib:gb≠sb:=Row.ne Z.gr Z.sr Qz;have:sb≠gb:=ib.symm;have⟨b1,b2,b3⟩:=Z.both (.int .i64 γ) (.pointer s3);have R5:=ZI (J.1.next (O.2.2.2.2.trans (ct.mono O.2.2.2.2.size)) M (N:=[s3,j3]) (by rw[cr];exact⟨s3,j3,rfl,O.2.1.after ct⟩) (λx hx=>(by simp[Zk,ZdG,ZgN] at hx;rcases hx with rfl|rfl;exact O.2.2.1;exact O.2.2.2.1)) b3 b1 b2 (by rw[J.2.2.2.2.2.1]) rfl);clear Z ct b1 b2 b3));have h6:=R5.o;clear R5 z1 z2 z3 z4 f1 y1 gj;generalize ((w5.setCell ⟨gb,t,none⟩ (.int .i64 γ)).setCell ⟨sb,t,none⟩ (.pointer s3))=W at*
   have c3:W.cell? ⟨s,3,none⟩=(q:Int):=h6.ep.set.c3;have f3:W.frozen? ⟨s,3,none⟩=false:=h6.ep.set.free (j:=3) Qx;have cg:W.cell? ⟨gb,t,none⟩=some (.int .i64 γ):=by have h9:=h6.gr.cell (h6.gv t Qw);rw[J.2.2.2.2.2.1] at h9;exact h9
   have H7:=ZI ((h6.tell q1).after ((Zu _ _).drew));clear h6;go_region;go_wp2;go_roundw
   .exact⟨t+1,_,_,_,Qw,QC,by rw[J.2.2.2.2.1];exact H7.o⟩
   simp[intOf];omega
 .obtain rfl:t=n:=by omega
  have h2:=C.op2 (V:=⟨k,m,(g:Int),P,Ds,I⟩) (bl0:=(List.range t).flatMap Ls) rfl (by rw[U.10]) (λa ha S hM=>by
   rcases(U.4 a ha).way with ⟨h9,_⟩|⟨T,h8,h9,_⟩|⟨T,_,h8,h9,_⟩
   .have h7:I a=some S:=hM;rw[h9] at h7;cases h7
   .have h7:I a=some S:=hM;rw[h9] at h7;cases h7;exact⟨h8,((U.4 a ha).st _ h8).2.1⟩
   .have h7:I a=some S:=hM;rw[h9] at h7;cases h7
    exact⟨h8,((U.4 a ha).st _ h8).2.1⟩) (λa ha q hq=>Zeg.2 ⟨a,ZdS.2 ha,hq⟩)
  have hF:=C.opF fw.o;have ew:=C.gv;have fm:=C.sv;have c3:wr.cell? ⟨s,3,none⟩=(g:Int):=h2.ep.set.c3;have bh:∀q∈(List.range t).flatMap Ls,B<=q:=λq hq=>by have⟨i,hi,hq⟩:=Zeg.1 hq;exact(U.2 i (ZdS.1 hi)).bL q hq
  have hI:DX ⟨k,m,(g:Int),P,Ds,I⟩ t 0 ⟨k,m,(g:Int),P,Ds,I⟩:=⟨rfl,rfl,rfl,U.5,λ_ _=>⟨rfl,rfl⟩,λ_=>rfl⟩;have ae:=Q0 h2 hF ew fm bh hI;have:¬ ((BW I t:Nat):Int)<(k:Int):=by have:=U.11;omega
  clear C h2 hF ew fm bh hI H2;go_wp2;go_loopw [16,94] (λmv kv wk=>∃ (i:Nat) (V:Ev) (cy Os:Nat->List Nat),i<=t/\mv=(BW I i:Int)/\kv=(i:Int)/\(Yd A i ⟨k,m,(g:Int),P,Ds,I⟩)=(0,V)/\DX ⟨k,m,(g:Int),P,Ds,I⟩ t i V/\Op2 B w wb ⟨t,p,s,ms,c_,xs,ds⟩ ((List.range t).flatMap Ls) Q gb sb i gl sl V cy Os wk) (λ_ kv _=>t- (intOf kv).toNat)
  .exact⟨0,_,_,_,Qw,rfl,rfl,rfl,ae.6,ae.1⟩
  obtain⟨i,V,cy,Os,iw,rfl,rfl,af,hR,C⟩:=hrel;by_cases M:i<t
  .have:(i:Int)<(t:Int):=(by omega);have⟨dq,fj⟩:=hR.same i (Zt _);have de:AQ K E V.k V.m g i (V.Ds i) (Ss i) (gv i) (V.Ms i) (A i):=by rw[hR.k,hR.m,dq,fj];exact U.4 i M
   have cg:=C.gr.cell (ae.3 i M);have:=C.sr.cell (ae.4 i M);have aq:=Z4C C ae.2 M ay (C.ty ae.5 ay U.9 dj) dj hK hE de hR.gone (by rw[hR.k];exact bj) (by rw[hR.m];exact bm) hR.gen ia;have ai:Yd A (i+1) ⟨k,m,(g:Int),P,Ds,I⟩=Yo (A i) i V:=by rw[show Yd A (i+1) ⟨k,m,(g:Int),P,Ds,I⟩=if(Yd A i ⟨k,m,(g:Int),P,Ds,I⟩).1=0 then Yo (A i) i (Yd A i ⟨k,m,(g:Int),P,Ds,I⟩).2 else Yd A i ⟨k,m,(g:Int),P,Ds,I⟩ from rfl,af];rfl
   have fe:(Yo (A i) i V).1=0->DX ⟨k,m,(g:Int),P,Ds,I⟩ t (i+1) (Yo (A i) i V).2:=hR.step de (C.ep.pd i M).ok;have bf:=Z0z I i;have gy:=Z0y I i;have df:=(TL (A i) i V).2.2.2.1 i;rw[<-show V.Ms i=I i from dq] at bf;have⟨q,hq⟩:=ZK (BW I i);have⟨b,hb⟩:=ZK (V.Ms i).isSome;have⟨c,ef⟩:=ZK (Yo (A i) i V).1;rw[hq] at bf gy⊢;rw[hb] at aq bf df;have F:=ZQ aq ai fe bf df ef;have fu:=ZI C.le
   have ft:=ZI (show∀k'∈p::(List.range t).flatMap Ls,B<=k' from λk' dm=>by
    rcases Zk.1 dm with rfl|dm
    .exact(C.ep.pd i M).bp
    .exact ae.5 k' dm)
   clear C aq ai fe bf df ef hq hb de dq fj af hR;by_cases ak:c=0
   .subst ak;cases b with
    |false=>
     go_wp2_with (go_at_call 64;go_fit F.1;rintro e w3 ⟨ev,rfl,he, -,bz⟩;rw[F.2.2.2.2.2] at he;obtain rfl:=he.zero;have O:=ZI (bz F.2.2.2.2.2);clear he bz);go_roundw
     .have⟨cz,h3⟩:=O.o;refine⟨i+1,(Yo (A i) i V).2,cz,Os,Qw,by rw[F.2.2.2.1];rfl,QC,?_,F.2.2.1 F.2.2.2.2.2,h3.skip ?_⟩
      .rw[F.2.1];exact Prod.ext F.2.2.2.2.2 rfl
      .exact Option.not_isSome_iff_eq_none.1 (by rw[F.2.2.2.2.1];simp)
     simp[intOf];omega
    |true=>
     go_wp2_with (first|(go_at_call 64;go_fit F.1;rintro e w3 ⟨ev,rfl,he, -,bz⟩;rw[F.2.2.2.2.2] at he;obtain rfl:=he.zero;have⟨cz,h3⟩:=bz F.2.2.2.2.2;have⟨S',dx⟩:=ZdQ.1 F.2.2.2.2.1;have eo:=Z4B h3 ae.2 M ay dx;have O:=ZI eo;clear he bz h3 dx eo)|(go_at_call 65;go_fit O.o;rintro e w4 ⟨rfl,fx,h4⟩;have R4:=ZI h4;clear h4));go_roundw
     .exact⟨i+1,(Yo (A i) i V).2,cz,fx,Qw,by rw[F.2.2.2.1];rfl,QC,by rw[F.2.1];exact Prod.ext F.2.2.2.2.2 rfl,F.2.2.1 F.2.2.2.2.2,R4.o⟩
     simp[intOf];omega
   .go_wp2_with (first|(go_at_call 64;go_fit F.1;rintro e w3 ⟨ev,rfl,he,hd, -⟩;rw[F.2.2.2.2.2] at he;obtain⟨b3,rfl⟩:=(he.split.resolve_left (λh=>ak h.1)).2;have O:=ZM he hd;clear he hd)|(go_at_call 49;go_fit (Gn _ _ _ _ O.1 (O.2.ty (G:=⟨t,p,s,ms,c_,xs,ds⟩) ft.o ay U.9 dj));rintro e w4 ⟨v4,rfl,ek,dz⟩;have R4:=ZM ek dz;clear ek dz));go_ret2;have ig:=SN (A:=A) (V:=⟨k,m,(g:Int),P,Ds,I⟩) (t:=i+1) (by rw[F.2.1,F.2.2.2.2.2];exact ak) t Qw;rw[ig,F.2.1,F.2.2.2.2.2];have:=fu.o;have:=ae.2.le;have:=Fh O.2;exact⟨_,_,rfl,R4.1.base Qw,O.2.after R4.2,λ_=>rfl,λh=>absurd h ak⟩
  .obtain rfl:i=t:=(by omega);have F:=ZM C af;clear C hR af;go_wp2;go_ret2;rw[F.2];refine⟨_,_,rfl,QK.nil _ _,F.1.d,λh=>absurd rfl h,λ_=>⟨s,ms,c_,xs,_,rfl,⟨cy,Os,rfl,F.1.ep⟩,F.1.Zda ae.2 H1.3 (Zt _)⟩⟩
def UA{i:Nat}{S:Sto}{a:Sto->List Ac}{d:Dir}{f:QF}(hM:V.Ms i=some S)(ha:Ym K S (a S) d f)(ok:(V.Ds i).ok 800)(h:(V.Ds i).dead=false)(C:V.P.gone=false):Yi V (i,a)=0∨Yi V (i,a)=10:=by
 obtain⟨e1, -⟩:=JB (V:=V) (x:=(i,a)) hM;rw[e1,ha.go];rcases Cg (S.ops (a S) d f) (P:=V.P) ha.in_ ok.fit h C with h9|h9
 .exact Zv h9.1
 .exact Zy h9.1
def Gs(G:Eg)(i s:Nat)(w:Qs):Prop:=w.cell? ⟨G.s,2,none⟩=some (.slice (some ⟨G.ms,0,none⟩) G.n G.cap)/\w.cell? ⟨G.ms,i,none⟩=some (.pointer (some ⟨G.xs i,0,none⟩))/\w.cell? ⟨G.xs i,1,none⟩=s
def De(w:Qs)(s:Nat):Prop:=∃l,Row w s 78 l/\l[4]? =some (.bool true)
def Z1f(B:Nat)(w:Qs)(G:Eg)(V:Ev)(bl:Qj)(K:List Bs)(E i:Nat)(S:Sto)(n v:Bs)(d:Dir)(f:QF)(h:EAt B w G V bl)(ht:Ty w)(ak:0<B)(hi:i<G.n)(hM:V.Ms i=some S)(hD:QU K E (V.Ds i) S)(hK:KOk K)(hE:E<=2000000000)(ha:Ym K S [⟨1,n,[],v⟩] d f)(hg:V.P.gone=false){s:Nat}{o:Qk}(hr:Row w (G.xs i) 91 (.pointer (some ⟨G.ds i,0,none⟩):: .pointer s::o)):Calls prog 274 #[G.s,s,.agg #[(1:Int),n,.string ⟨#[]⟩,v]] w λe w'=>∃ev,e=.returned ev/\QK w' w (Yi V (i,λ_=>[⟨1,n,[],v⟩])) ev/\(Yi V (i,λ_=>[⟨1,n,[],v⟩])=0->QG B G bl (Y3 V (i,λ_=>[⟨1,n,[],v⟩])) w w')/\Ye B G bl (Y3 V (i,λ_=>[⟨1,n,[],v⟩])).P (Y3 V (i,λ_=>[⟨1,n,[],v⟩])).Ds w w'/\Gs G i s w'/\(Yi V (i,λ_=>[⟨1,n,[],v⟩])≠0->De w' G.s):=by
 have az:=h.bw;have ag:=UA (a:=λ_=>[⟨1,n,[],v⟩]) hM ha (h.dsk hi).2.choose_spec.ok (h.mem hi hM).choose_spec.2.2.1 hg;obtain⟨ob,Z⟩:∃ob:Obj,.cells #[(1:Int),n,.string ⟨#[]⟩,v] 151=ob:=⟨_,rfl⟩;have F:Below w w ((w.alloc ob).alloc ob):=((Zu _ _).alloc (Zt _) _).alloc Qx _;have aq:Row ((w.alloc ob).alloc ob) (w.heap.size+1) 151 (AcC ⟨1,n,[],v⟩):=by have J:=Z2 (w.alloc ob) 151 (AcC ⟨1,n,[],v⟩);rw[show(w.alloc ob).heap.size=w.heap.size+1 from Qx] at J;rw[<-Z] at J⊢;exact J
 have O:=Rs (na:=1) (ca:=1) (h.after F) hi hM hD hK hE ha (Gx aq) rfl (Zt 1) (ht.below F) ak (hr.after F);have⟨e1,e2⟩:=JB (V:=V) (x:=(i,λ_=>[⟨1,n,[],v⟩])) hM;rw[<-e1] at O;have ae:=(hr.after F);have⟨c,hc⟩:=ZK (Yi V (i,λ_=>[⟨1,n,[],v⟩]));rw[hc] at O ag⊢;have ah:=e1.symm.trans hc;rw[<-Z] at O F ae;have H:=Q1 h O ht F e2 ae ah;clear O h ht aq F hr Z e1 e2 ae ah hc;rcases ag with rfl|rfl
 .go_enter func274,ntmps274;go_wp2_with (go_at_call 38;go_fit H.2;rintro e w1 ⟨ev,rfl,he,hm⟩;obtain rfl:=he.zero;have C:=ZI hm;clear he hm);go_ret;have J:=C.o.from H.4;rw[H.5];refine⟨_,rfl,QK.nil _ _,λ_=>J.ok H.7,J.bad,⟨C.o.set.c2,(by have⟨sp,U⟩:=C.o.ms;exact U.cell (by rw[Za (by rw[BG];exact hi)];exact BF _ _ _ hi)),(C.o.x1 _ H.6).c1⟩,λh=>absurd rfl h⟩
 .go_enter func274,ntmps274;go_wp2_with (first|(go_at_call 38;go_fit H.2;rintro e w1 ⟨ev,rfl,he,hm⟩;obtain⟨b1,rfl⟩:=(he.split.resolve_left (λh=>absurd h.1 Qz)).2;have Zbo:=hm.bad.from H.4;have aw:=Zbo.ty H.1.ge az H.3 ak;have C:=ZO he Zbo hm aw;clear he Zbo hm aw)|(go_at_call 19;go_fit (JQ _ 10 12 _ _ C.1 Qz);rintro e w2 ⟨rfl,rfl⟩)|(go_at_call 40;refine(GQ 10 _ G.s _ _ C.2.2.1.set rfl C.2.2.2 (by have J:=H.1.ge G.s (Zh _ H.1.ZbC);omega) w (Fh C.2.1) (C.1.base H.4.size) (H.1.typed.lt _ (Zh _ H.1.ZbC))).mono ?_;rintro e w3 ⟨bf,rfl,ai,aj,au⟩;have M:=ZX ai aj au;clear ai aj au));go_ret;have af:QL w1 [G.s] [78]:=QL.row C.2.2.1.set Qz;have⟨sp,U⟩:=C.2.2.1.ms;have ay:=C.2.2.1.x1 _ H.6;rw[H.5];refine⟨_,rfl,M.1,λh=>absurd h Qz,C.2.1.fr M.2 af Qz (λk hk=>by rw[Z6] at hk;subst hk;exact Zv (Zh _ H.1.ZbC)),⟨M.3.c2,?_,(ay.fr M.2 (af.Zap ay Qz)).c1⟩,λ_=>⟨_,M.3,rfl⟩⟩;exact(U.fr M.2 (af.Zap U Qz)).cell (by rw[Za (by rw[BG];exact hi)];exact BF _ _ _ hi)
def AT.parts{w:Qs}{c:Int}{v:Qt}(h:AT w B c v)(hc:c≠0):∃b,v=.iface 139 (b:Nat)/\w.cell? (b:Nat)=(c:Int)/\∃a:Int,w.cell? ⟨b,1,none⟩=(if c=13 then 1 else a:Int):=by
 have⟨J,M⟩:=h;rcases J with ⟨e,_⟩|⟨_,n,O⟩
 .exact absurd e hc
 .match n,O with
  |n+1,⟨b,at_,inner,hv,hB,hr,hi⟩=>
   refine⟨b,hv,hr.c0,at_,?_⟩;by_cases e:c=13
   .have⟨C,e1,e2⟩:=M e;rw[hv] at e1;have F:b=C:=(by simpa using e1);subst F;rw[Zx e];exact e2
   .rw[Zw e];exact hr.c1
abbrev YH(k m i:Nat)(key v:Bs):Ac:=⟨1,nmD key,[],shL k m i key v⟩
def Z1h(B:Nat)(w:Qs)(G:Eg)(V:Ev)(bl:Qj)(K:List Bs)(E i:Nat)(S:Sto)(key v:Bs)(d:Dir)(f:QF)(h:EAt B w G V bl)(ht:Ty w)(cr:0<B)(hi:i<G.n)(hM:V.Ms i=some S)(ef:1<=key.length)(cy:key.length<=200)(hv:v.length<=200)(ak:1<=V.k)(cz:V.k+V.m=G.n)(az:Cs K E V G.n key v)(af:V.k<=WY V key v G.n)(hK:KOk K)(hE:E<=2000000000)(ha:Ym K S [YH V.k V.m i key v] d f)(hg:V.P.gone=false)(hc:YI V i key=13∨YI V i key=14):Calls prog 258 #[G.s,(i:Int),key] w λe w'=>∃ev,e=.returned ev/\QK w' w (Yi V (i,λ_=>[YH V.k V.m i key v])) ev/\(Yi V (i,λ_=>[YH V.k V.m i key v])=0->QG B G bl (Y3 V (i,λ_=>[YH V.k V.m i key v])) w w')/\Ye B G bl (Y3 V (i,λ_=>[YH V.k V.m i key v])).P (Y3 V (i,λ_=>[YH V.k V.m i key v])).Ds w w'/\(Yi V (i,λ_=>[YH V.k V.m i key v])≠0->De w' G.s):=by
 have:=h.nle;have ae:=Kz B w G V bl K E i key v h ht cr hi ef cy hv ak cz az (Zq ak af);have ag:=Br key Qw;have dm:=BL V.k V.m (str v);have dp:=(DN (m:=V.m) (i:=i) (key:=key) ak hv).2;have⟨c,bu⟩:=ZK (YI V i key);rw[bu] at ae hc;have⟨ss,aq⟩:=ZK (Y5 V.k V.m (str v));have⟨X,hX⟩:=ZK (ss.getD i ⟨#[]⟩);have⟨M,bm⟩:=ZK v.length;have hT:str (shT V.k V.m v i)=X:=by rw[<-hX,<-aq];rfl
 have dj:∀W:Qs,Calls prog 82 #[.string (str (nmD key)),.slice (some ⟨W,0,none⟩) 3 3] (W.alloc (.cells #[.string (s32 i),.string (s32 M),.string X] 9)) λe w'=>e=.returned (.tuple #[.string (str (shL V.k V.m i key v)),.nilIface])/\Below (W.alloc (.cells #[.string (s32 i),.string (s32 M),.string X] 9)).heap.size (W.alloc (.cells #[.string (s32 i),.string (s32 M),.string X] 9)) w':=λW=>by have h9:=Z2 W 9 [.string (s32 i),.string (s32 M),.string X];rw[<-hT,<-bm] at h9⊢;exact Ii (nmD key) (by simp[nmD];omega) W.heap.size 3 [QI i,QI v.length,shT V.k V.m v i] [] _ h9 dp
 rw[aq] at dm;have⟨nn,df⟩:=ZK ss.length;have:(i:Int)<(G.n:Int):=Qw;have:(i:Int)<(nn:Int):=Qw;have:i<nn:=Qw;have:¬nn=i:=Qw;have:i<=nn:=Qw;have:i<=4294967295:=Qw;have:M<=4294967295:=Qw;have H:=Q7 h ae ht az af ha ag aq hX df bm dj;rcases hc with rfl|rfl
 all_goals
  go_enter func258,ntmps258;go_wp2_with (first|(go_at_call 45;go_fit H.2;rintro e w1 ⟨ev,rfl,de,bg⟩;obtain⟨b1,rfl,au,a1,aj⟩:=de.parts Qz;simp[Int.reduceEq,Zh3,ZgV,reduceIte] at aj;have R1:=ZM bg (QG.ty bg H.1 H.3)));have dq:Ty (w1.alloc (.cells #[.pointer none] 139)):=R1.2.below ((Zu _ _).alloc (Zt _) _);have bq:(w1.alloc (.cells #[.pointer none] 139)).cell? ⟨w1,0,none⟩=some (.pointer none):=Qx;have cn:(w1.alloc (.cells #[.pointer none] 139)).frozen? ⟨w1,0,none⟩=false:=Qx;go_fit (F0 _ _ (.pointer none) _ dq bq cn);rintro e w2 ⟨rfl,dx,cj⟩;have U:Below w1 w1 w2:=(((Fr.refl [w1.heap.size] w1).alloc _).trans cj Qx).below (Zt _) Qx;have d10:=(U.cell (Z9 w1 _ au)).trans au;have d11:=(U.cell (Z9 w1 _ aj)).trans aj;have⟨du,e2,g2,f2⟩:=R1.1.after U;have R2:=ZM (ZJ e2 (ZJ g2 f2)) (R1.2.below U);go_wp2_with (first|(go_at_call 68;refine(OC B _ G V du K E key v R2.1.1 cy hv ak cz hg H.4 H.5).mono ?_;rw[H.8,H.10,H.11];rintro e w3 ⟨a,cap,rfl,dh,er,eu,bh⟩;obtain⟨ga,oa,rfl,ek,bz⟩:=dh.open (by have:=H.10;omega);have c3:=bz i (by have:=H.10;omega);rw[H.9] at c3;have R3:=ZM (QG.trans R2.1 bh) (QG.ty bh R2.1.1 R2.2)));have ay:∀A C:Qs,(A.cell? ⟨ga,oa+i,none⟩=some (.string X)/\Below w3 w3 A)->Below A A C->(C.cell? ⟨ga,oa+i,none⟩=some (.string X)/\Below w3 w3 C):=by rintro A C ⟨h0,O⟩ hb;exact⟨(hb.cell (Z9 A _ h0)).trans h0,O.trans (hb.mono O.size)⟩
  have hs0:=ay w3 w3.drew ⟨c3,Zu _ _⟩ ((Zu _ _).drew);have HK:=ZI ay;have ag:=H.7;go_region_held3 (λx=>x.cell? ⟨ga,oa+i,none⟩=some (.string X)/\Below w3 w3 x) (first|assumption|exact hs0|(exact HK.o _ _ (by assumption) ((Zu _ _).alloc (Zt _) _))|(exact HK.o _ _ (by assumption) (by assumption)))
   (first|(go_at_call 80;go_fit (Ea _ (by assumption) _);rintro e w8 ⟨rfl,Z⟩)|(go_at_call 82;go_fit (H.12 _);rintro e w9 ⟨rfl,J⟩))
  rename_i hHeld;obtain⟨-,O⟩:=hHeld;have R4:=ZM (QG.after R3.1 O) (R3.2.below O);go_wp2;have⟨dw,e4,g4,f4⟩:=R4.1;obtain⟨s,ah, -⟩:=e4.mem hi hM;have aw:=e4.after (Zu _ _).drew;have c2:=aw.Zaz.c2;have cm:=aw.ZaK hi;have x1:=(ah.after (Zu _ _).drew).c1;have F:=ZY e4 g4 f4 ah;go_region_law (first|(go_simp;go_at_call 81;go_fit (GS _ _ _);rintro e w8 ⟨rfl,Z⟩;have:=(Z.cell (Z9 _ _ c2)).trans c2;have:=(Z.cell (Z9 _ _ cm)).trans cm;have:=(Z.cell (Z9 _ _ x1)).trans x1)|((try go_simp);go_at_call 274;have J:=((Zu _ _).drew).trans Z;go_fit (Z1f B _ G V dw K E i S (nmD key) (shL V.k V.m i key v) d f (F.1.after J) (R4.2.below J) cr hi hM (H.4.b i hi S hM) hK hE H.6 hg (F.4.after J));rintro e w9 ⟨eh,rfl,dy,bf,ai, -,bj⟩))
  all_goals
   go_wp2;go_ret;exact⟨_,rfl,dy.base (Zq F.3.size J.size),λh0=>QG.trans ⟨F.1,F.2,F.3⟩ ((bf h0).from J),Ye.trans ⟨F.1,F.2,F.3⟩ (ai.from J),bj⟩
def WK(V:Ev)(i g:Nat):Int×Pw×Dk:=if V.P.gone then(10,V.P,V.Ds i) else Yt V.k V.m i g V.P (V.Ds i)
def QG.d2{w w':Qs}{bl:Qj}(h:QG B G bl V w w')(i:Nat):Ye B G bl V.P (upd V.Ds i (V.Ds i)) w w':=by rw[IF];exact h.d
def Z19(B:Nat)(w:Qs)(G:Eg)(V:Ev)(bl:Qj)(K:List Bs)(i g:Nat)(h:EAt B w G V bl)(ht:Ty w)(aw:0<B)(hi:i<G.n)(hM:V.Ms i=none)(hK:KOk K)(hk:V.k<=16)(hm:V.m<=16)(bf:V.gen=(g:Int))(hg:g<=1000000000)(ai:(V.Ds i).wait.length<=1000)(ae:(V.Ds i).dead=false):Calls prog 116 #[G.s,(i:Int)] w λe w'=>∃ev,e=.returned ev/\QK w' w (WK V i g).1 ev/\((WK V i g).1=0->QG B G bl {V with P:=(WK V i g).2.1,Ds:=upd V.Ds i (WK V i g).2.2,Ms:=upd V.Ms i (some (Sto.first.nx [YK V.k V.m i g]))} w w')/\Ye B G bl (WK V i g).2.1 (upd V.Ds i (WK V i g).2.2) w w'/\(V.P.gone=false->(WK V i g).1≠0->De w' G.s):=by
 have:=h.bw;have:=h.nle;have c4:=h.Zaz.c4;have c2:=h.Zaz.c2;have:=h.ZaK hi;have⟨x0,L,af⟩:=h.dsk hi;have J:=af.read 0;have:(i:Int)<(G.n:Int):=Qw;have hlen:=af.ok.len;cases M:V.P.gone with
 |true=>
  have U:rdy V.P (V.Ds i) 0=10:=by unfold rdy;rw[M];rfl
  have hj:WK V i g=(10,V.P,V.Ds i):=by unfold WK;rw[M];rfl
  rw[hj];rw[U] at J;have⟨tx,Z⟩:=ZK (AH V.P (V.Ds i) 0);rw[Z] at J;have H:=ZN J ht (QG.refl h);go_enter func116,ntmps116;go_wp2_with (first|(go_at_call 73;go_fit H.1;rintro e w1 ⟨ev,rfl,he,hb⟩;obtain⟨b1,rfl⟩:=(he.split.resolve_left (λh=>absurd h.1 Qz)).2;have S1:=ZM he hb)|(go_at_call 49;go_fit (Gn w 10 _ _ S1.1 (H.2.1.below S1.2));rintro e w3 ⟨v',rfl,hv,ak⟩;have F:=ZM hv (S1.2.trans (ak.mono S1.2.size))));go_ret;exact⟨_,rfl,F.1.base (by have:=S1.2.size;omega),λh=>absurd h Qz,(H.2.2.after F.2).d2 i,λh=>by cases h⟩
 |false=>
  have U:rdy V.P (V.Ds i) 0=0:=by rw[Et M ae hlen];rfl
  have hj:WK V i g=Yt V.k V.m i g V.P (V.Ds i):=by unfold WK;rw[M];rfl
  rw[hj];rw[U] at J;have⟨tx,Z⟩:=ZK (AH V.P (V.Ds i) 0);rw[Z] at J;have ah:=λ(w1:Qs) (aj:Qj) (h1:EAt B w1 G V aj) (t1:Ty w1)=>Z12 B w1 G V aj K i g h1 t1 aw hi hM hK hk hm hg ai ae;have⟨c,hc⟩:=ZK (Yt V.k V.m i g V.P (V.Ds i)).1;rw[hc] at ah⊢;have H:=ZR J ht h ah hc bf hM;by_cases hz:c=0
  .subst hz;go_enter func116,ntmps116;go_wp2_with (first|(go_at_call 73;go_fit H.1;rintro e w1 ⟨ev,rfl,he,hb⟩;obtain rfl:=he.zero;have S1:=ZM (H.2.2.1.after hb) hb)|(go_at_call 34;go_fit (CF B _ G V bl i S1.1 hi H.2.2.2.2.2.2);rintro e w2 ⟨rfl,O⟩;have⟨ag,e2,g2,f2⟩:=O.from S1.2;have c3:=e2.Zaz.c3;have C:=ZM (ZJ e2 (ZJ g2 f2)) (QG.ty ⟨ag,e2,g2,f2⟩ H.2.2.1 H.2.1);rw[H.2.2.2.2.2.1] at c3)|(go_at_call 48;go_fit (H.2.2.2.1 _ _ C.1.1 C.2);rintro e w3 ⟨ev,rfl,he,hB⟩;obtain rfl:=he.zero;have F:=ZI hB));go_ret;exact⟨_,rfl,QK.nil _ _,λ_=>QG.trans C.1 (F.o.ok H.2.2.2.2.1),Ye.trans C.1 F.o.bad,λ_ h=>absurd rfl h⟩
  .go_enter func116,ntmps116;go_wp2_with (first|(go_at_call 73;go_fit H.1;rintro e w1 ⟨ev,rfl,he,hb⟩;obtain rfl:=he.zero;have S1:=ZM (H.2.2.1.after hb) hb)|(go_at_call 34;go_fit (CF B _ G V bl i S1.1 hi H.2.2.2.2.2.2);rintro e w2 ⟨rfl,O⟩;have⟨ag,e2,g2,f2⟩:=O.from S1.2;have c3:=e2.Zaz.c3;have C:=ZM (ZJ e2 (ZJ g2 f2)) (QG.ty ⟨ag,e2,g2,f2⟩ H.2.2.1 H.2.1);rw[H.2.2.2.2.2.1] at c3)|(go_at_call 48;go_fit (H.2.2.2.1 _ _ C.1.1 C.2);rintro e w3 ⟨ev,rfl,he,hB⟩;obtain⟨b3,rfl⟩:=(he.split.resolve_left (λh=>absurd h.1 hz)).2;have az:=hB.bad.ty C.1.1.ge C.1.1.bw C.2 aw;have F:=ZN he hB az)|(go_at_call 40;refine(GQ c _ G.s _ _ F.2.1.set rfl F.2.2 (by have:=H.2.2.1.ge G.s (Zh _ H.2.2.1.ZbC);omega) w2 (Fh F.2.1.bad) F.1 (C.1.1.typed.lt _ (Zh _ C.1.1.ZbC))).mono ?_;rintro e w4 ⟨bg,rfl,aq,au,ay⟩;have S4:=ZX aq au ay));go_ret;refine⟨_,rfl,S4.1.base C.1.2.2.size,λh=>absurd h hz,Ye.trans C.1 (F.2.1.bad.fr S4.2 (QL.row F.2.1.set (ts:=[78]) Qz) Qz (λk hk=>by rw[Z6] at hk;subst hk;exact Zv (Zh _ C.1.1.ZbC))),λ_ _=>⟨_,S4.3,rfl⟩⟩
def Z14(B:Nat)(w:Qs)(G:Eg)(V:Ev)(bl:Qj)(i:Nat)(h:EAt B w G V bl)(hi:i<G.n):Calls prog 106 #[G.s,(i:Int)] w λe w'=>e=.returned (.bool (V.Ds i).dead)/\w=w':=by have c2:=h.Zaz.c2;have:=h.ZaK hi;have:=h.nle;have:(i:Int)<(G.n:Int):=Qw;have⟨U,L,F⟩:=h.dsk hi;obtain⟨gh,v, -,C⟩:=F.dk;have H:=ZI C;go_enter func106,ntmps106;go_wp2_with (go_at_call 22;go_fit (BY _ _ gh v _ _ H.o);rintro e w' ⟨rfl,rfl⟩);go_ret;simp
def Oo(B:Nat)(w:Qs)(G:Eg)(V:Ev)(bl:Qj)(h:EAt B w G V bl):Calls prog 59 #[G.s] w λe w'=>e=.returned (G.n:Int)/\w=w':=by have c2:=h.Zaz.c2;go_enter func59,ntmps59;go_wp2;go_ret;simp
def Ag(V:Ev)(i:Nat):Int:=if(V.Ds i).dead then 1 else if(V.Ms i).isSome then 0 else 2
def Fw(B:Nat)(w:Qs)(G:Eg)(V:Ev)(bl:Qj)(i:Nat)(h:EAt B w G V bl)(hi:i<G.n):Calls prog 60 #[G.s,(i:Int)] w λe w'=>e=.returned (Ag V i:Int)/\QG B G bl V w w':=by
 have C:=Z14 B w G V bl i h hi;have he:=Ky B w G V bl i h hi;have J:=QG.refl h;unfold Ag;cases F:(V.Ds i).dead
 all_goals
  rw[F] at C;have H:=ZN C he J;cases hM:(V.Ms i).isSome
  all_goals
   rw[hM] at H;have H:=ZI H.o;go_enter func60,ntmps60;go_wp2_with (first|(go_at_call 106;go_fit H.1;rintro e w' ⟨rfl,rfl⟩)|(go_at_call 44;go_fit H.2.1;rintro e w1 ⟨rfl,M⟩));go_ret
 .simp_all
 .simp_all
 .have:=H.2.2;simp_all
 .have:=H.2.2;simp_all
def AJ(c:Int):Int:=if c=14 then 4 else if c=13 then 3 else 0
def LkC(c:Int):Prop:=c=0∨c=10∨c=11∨c=13∨c=14∨c=15
theorem Z3E(V:Ev)(i:Nat)(key:Bs):LkC (YI V i key):=by unfold YI LkC;grind
def Z2K(B:Nat)(w:Qs)(G:Eg)(V:Ev)(bl:Qj)(i:Nat)(key:Bs)(c:Int)(h:EAt B w G V bl)(ht:Ty w)(af:0<B)(hc:LkC c)(hl:Calls prog 45 #[G.s,(i:Int),key] w λe w'=>∃ev,e=.returned ev/\AT w' w c ev/\QG B G bl V w w'):Calls prog 61 #[G.s,(i:Int),key] w λe w'=>∃ev,e=.returned (.tuple #[(AJ c:Int),ev])/\QK w' w (if c=10 then 10 else 0) ev/\QG B G bl V w w':=by
 have H:=ZX hl ht h;by_cases h0:c=0
 .subst h0;go_enter func61,ntmps61;go_wp2_with (go_at_call 45;go_fit H.1;rintro e w1 ⟨ev,rfl,hl,C⟩;obtain rfl:=hl.1.zero;have F:=ZI C);go_ret2;exact⟨_,rfl,QK.nil _ _,F.o.after ((Zu _ _).alloc (Zt _) _)⟩
 .have C:∀w1,QG B G bl V w w1->Ty w1:=λw1 h=>QG.ty h H.3 H.2;have HR:=ZI C;rcases hc with rfl|rfl|rfl|rfl|rfl|rfl
  .exact absurd rfl h0
  all_goals
   go_enter func61,ntmps61;go_wp2_with (first|(go_at_call 45;go_fit H.1;rintro e w1 ⟨ev,rfl,hl,C⟩;obtain⟨b1,rfl,O,a1,J⟩:=hl.parts Qz;simp[Int.reduceEq,Zh3,ZgV,reduceIte] at J;have F:=ZN hl C (HR.o _ C))|(go_at_call 19;go_fit (JQ w _ _ _ _ (F.1.1.after ((Zu _ _).alloc (Zt _) _)) Qz);rintro e w2 ⟨rfl,rfl⟩)|(go_at_call 102;go_fit (F0 _ _ (.pointer none) _ (F.2.2.below ((Zu _ _).alloc (Zt _) _)) Qx Qx);rintro e w3 ⟨rfl,ae,Z⟩;have M:Below w1.heap.size w1 w3:=(((Fr.refl [w1.heap.size] w1).alloc _).trans Z Qx).below (Zt _) Qx;have:=(M.cell (Z9 w1 _ O)).trans O;have:=(M.cell (Z9 w1 _ J)).trans J;have U:=ZI M));go_ret2
   first
    |exact⟨_,rfl,QK.nil _ _,F.2.1.after ((Zu _ _).alloc (Zt _) _)⟩
    |exact⟨_,rfl,QK.nil _ _,F.2.1.after U.o⟩
    |exact⟨_,rfl,F.1.1.after U.o,F.2.1.after U.o⟩
def Iv(x:Bs):(str x).toList=x:=by
 have h:∀b:Qq,b.toList=b.data.toList:=λb=>by rw[Zeb]
 rw[h];rfl
def gtB(a b:Bs):Bool:= !(Op.bytesLess a b||a==b)
def hfn(sh:Bool)(h:Nat):Qt:=.func (.func (if sh then 231 else 70)) #[.pointer h] #[]
def AC(h s:Nat)(i:Nat)(key:Bs)(sh:Bool)(rd:Int):Qk:=[.pointer s,.int .i64 (i:Int),.string (str key),hfn sh h,.int .i64 rd]
def Xb(w:Qs)(h s:Nat)(i:Nat)(key:Bs)(sh:Bool):Prop:=∃rd,Row w h 138 (AC h s i key sh rd)
def WU(n:Nat)(L:List Bs)(i:Nat)(key:Bs):Nat×Bs×Bool:=if L.any (λx=>gtB x key) then(i,key,true) else(if i+1=n then 0 else i+1,[],false)
def Ph(w:Qs)(s:Nat):Calls prog 30 #[s] w λe w'=>∃h,e=.returned (h:Nat)/\w.heap.size<=h/\Xb w' h s 0 [] false/\Below w w w':=by have:=λ(W:Qs) (a:Addr) (x:Array Qt)=>Zha prog W a (.func (.func 70) x #[]) .plain rfl;go_enter func30,ntmps30;go_wp2;go_ret;exact⟨_,rfl,Zt _,⟨0,Z2 w _ (AC w s 0 [] false 0)⟩,(Zu _ _).alloc (Zt _) _⟩
def Pd(B:Nat)(w:Qs)(G:Eg)(V:Ev)(bl:Qj)(h i:Nat)(aj key:Bs)(sh:Bool)(a:Qm)(cap:Nat)(L:List Bs)(he:EAt B w G V bl)(hh:Xb w h G.s i aj sh)(hi:i<G.n)(hL:Y9 w a (L.map str))(aq:∀g o,a=some ⟨g,o,none⟩->∃r,Row w g 9 r)(bq:L.length<=1000000):Calls prog 166 #[h,.slice a L.length cap,key] w λe w'=>e=.returned (.tuple #[])/\Xb w' h G.s (WU G.n L i key).1 (WU G.n L i key).2.1 (WU G.n L i key).2.2/\Fr [h] w w':=by
 have⟨rd,J⟩:=hh;have:=λ(W:Qs) (p:Addr) (x:Array Qt)=>Zha prog W p (.func (.func 70) x #[]) .plain rfl;have:=λ(W:Qs) (p:Addr) (x:Array Qt)=>Zha prog W p (.func (.func 231) x #[]) .plain rfl;have:=he.nle;have af:Fr [h] w ((w.setCell ⟨h,2,none⟩ (.string (str key))).setCell ⟨h,3,none⟩ (.func (.func 231) #[.pointer h] #[])):=((Fr.refl [h] w).setCell (Zv Qx) _).setCell (Zv Qx) _;have r1:Row ((w.setCell ⟨h,2,none⟩ (.string (str key))).setCell ⟨h,3,none⟩ (.func (.func 231) #[.pointer h] #[])) h 138 (AC h G.s i key true rd):=(J.set 2 (.string (str key))).set 3 _;have f2:=J.free (j:=2) (by simp[AC]);have f3:=(J.set 2 (.string (str key))).free (j:=3) (by simp[AC]);have d2:=J.c2;have d3:=(J.set 2 (.string (str key))).c3;have HE:=ZI he;go_enter func166,ntmps166;go_wp2;generalize (w.setCell ⟨h,2,none⟩ (.string (str key))).setCell ⟨h,3,none⟩ (.func (.func 231) #[.pointer h] #[])=w1 at*
 have ak:Y9 w1 a (L.map str):=λj hj=>by have⟨g,o,e,hc⟩:=hL j hj;have⟨r,hr⟩:=aq g o e;refine⟨g,o,e,?_⟩;rw[af.cell (a:=⟨g,o+j,none⟩) hr.lt (by rw[Z6];exact Row.ne hr J Qz)];exact hc
 have au:EAt B w1 G V bl:=HE.o.fr af (QL.row J (ts:=[138]) Qz) Qz Qz Qz (λk hk hm=>by rw[Z6] at hm;subst hm;exact HE.o.Zap J Qz hk);have F:=ZY r1 af ak au;go_loopw [19] (λkv wr=>∃q:Nat,q<=L.length/\kv=(q:Int)/\(∀x∈L.take q,gtB x key=false)/\wr=w1) (λkv _=>L.length- (intOf kv).toNat)
 .exact⟨0,Qw,rfl,Qx,rfl⟩
 obtain⟨q,hq,rfl,Z,rfl⟩:=hrel;by_cases ai:q<L.length
 .obtain⟨g,o,rfl,hc⟩:=F.3 q (by simpa using ai);have⟨x,hx⟩:=ZK L[q];rw[Zf1,hx] at hc;have bf:x∈L:=by rw[<-hx];exact Zl ai
  have az:L.take (q+1)=L.take q++[x]:=by rw[<-hx];exact Zc ai
  have:(q:Int)<(L.length:Int):=Qw;have HN:=ZN Z bf az;have bj:gtB x key=true/\Op.bytesLess (str x).toList (str key).toList=false/\((str x).toList==(str key).toList)=false∨gtB x key=false/\Op.bytesLess (str x).toList (str key).toList=true∨gtB x key=false/\Op.bytesLess (str x).toList (str key).toList=false/\((str x).toList==(str key).toList)=true:=by rw[Iv,Iv];unfold gtB;cases Op.bytesLess x key<;>cases x==key<;>simp
  rcases bj with ⟨U,e1,e2⟩|⟨U,e1⟩|⟨U,e1,e2⟩
  .have HG:=ZI U;go_wp2;have ag:WU G.n L i key=(i,key,true):=by unfold WU;rw[Zx (Zf0.2 ⟨x,HN.2.1,HG.o⟩)]
   rw[ag];exact ZD (results_none (by rfl) _ _ _) rfl ⟨rfl,⟨rd,F.1⟩,F.2⟩
  all_goals
   have HG:=ZI U;go_wp2;go_roundw
   .refine⟨q+1,Qw,QC,λy O=> ?_,trivial⟩;rw[HN.2.2] at O;rcases Zj.1 O with O|O
    .exact HN.1 y O
    .rw[Z6] at O;rw[O];exact HG.o
   simp[intOf];omega
 .obtain rfl:q=L.length:=by omega
  rw[Zs] at Z;have ag:WU G.n L i key=(if i+1=G.n then 0 else i+1,[],false):=by unfold WU;rw[Zw];intro h9;have⟨x,h1,h2⟩:=Zf0.1 h9;rw[Z x h1] at h2;cases h2
  have HN:=ZI ag;have c1:=F.1.c1;have f1:=F.1.free (j:=1) (by simp[AC]);have⟨C,ay⟩:=ZK (i+1);have ei:(i:Int)+1=(C:Int):=Qw;have r2:=F.1.set 1 (.int .i64 (C:Int));have c2:=r2.c2;have f2:=r2.free (j:=2) (by simp[AC]);have r3:=r2.set 2 (.string ⟨#[]⟩);have c3:=r3.c3;have f3:=r3.free (j:=3) (by simp[AC]);have r4:Row (((wr.setCell ⟨h,1,none⟩ (.int .i64 (C:Int))).setCell ⟨h,2,none⟩ (.string ⟨#[]⟩)).setCell ⟨h,3,none⟩ (.func (.func 70) #[.pointer h] #[])) h 138 (AC h G.s C [] false rd):=r3.set 3 _;have ah:Fr [h] wr (((wr.setCell ⟨h,1,none⟩ (.int .i64 (C:Int))).setCell ⟨h,2,none⟩ (.string ⟨#[]⟩)).setCell ⟨h,3,none⟩ (.func (.func 70) #[.pointer h] #[])):=(((Fr.refl [h] wr).setCell (Zv Qx) _).setCell (Zv Qx) _).setCell (Zv Qx) _;have HI:=ZI ay;go_wp2;generalize ((wr.setCell ⟨h,1,none⟩ (.int .i64 (C:Int))).setCell ⟨h,2,none⟩ (.string ⟨#[]⟩)).setCell ⟨h,3,none⟩ (.func (.func 70) #[.pointer h] #[])=w2 at*
  have aw:EAt B w2 G V bl:=F.4.fr ah (QL.row F.1 (ts:=[138]) Qz) Qz Qz Qz (λk hk hm=>by rw[Z6] at hm;subst hm;exact F.4.Zap F.1 Qz hk);have R2:=ZX r4 (F.2.trans ah (λk hk _=>hk)) aw;have d0:=r4.c0;have d1:=r4.c1;go_quiet ((go_at_call 59;exact Calls.quiet_of_same (Gd (Oo B _ G V bl (R2.3.after (YE (Zu _ _) _))))));have r5:=R2.1.after (YE (Zu _ _) nq);have ae:=R2.2.trans (Z1 (L:=[]) (YE (Zu w2 w2) nq)) Qx;generalize w2.drewN nq=w3 at*
  have f1:=r5.free (j:=1) (by simp[AC]);have c1:=r5.c1;have:=(r5.set 1 (.int .i64 0)).free (j:=4) (by simp[AC]);have c4:=(r5.set 1 (.int .i64 0)).c4;have:C<=16:=by have:=HI.o;omega
  have hcut:=HN.o;rw[HI.o] at hcut;by_cases he:C=G.n
  .rw[Zx he] at hcut;have M:=ZX r5 ae hcut;have e1:((C:Int)==(G.n:Int))=true:=by simp;omega
   go_wp2;go_end0;rw[M.3];exact⟨rfl,⟨_,(M.1.set 1 _).set 4 _⟩,(M.2.setCell (Zv Qx) _).setCell (Zv Qx) _⟩
  .rw[Zw he] at hcut;have M:=ZX r5 ae hcut;have e1:((C:Int)==(G.n:Int))=false:=by simp;omega
   go_wp2;go_end0;rw[M.3];exact⟨rfl,⟨rd,M.1⟩,M.2⟩
variable{D:Dk}{ph:Nat->Dk->Sto->Prop}
def Dt(h:D.wait=[])(keep:Qn)(t:Int):D.lost keep t=D:=by cases D;subst h;rfl
def QU.Zbv{S:Sto}{Zan:List Ac}{d:Dir}{f:QF}(h:QU K E D S)(hK:KOk K)(ok:D.ok 800)(U:D.dead=false)(ha:Ym K S Zan d f){P:Pw}(F:P.gone=false)(hc:(QH (S.ops Zan d f) P D).1≠0)(keep:Qn)(t:Int):(QU K E ((QH (S.ops Zan d f) P D).2.2.lost keep t) S/\stR ((QH (S.ops Zan d f) P D).2.2.lost keep t).reads S.dir=stR D.reads S.dir)∨ (QU K (E+1) ((QH (S.ops Zan d f) P D).2.2.lost keep t) (S.done d f)/\stR ((QH (S.ops Zan d f) P D).2.2.lost keep t).reads (S.done d f).dir=Zan.foldl Ac.on (stR D.reads S.dir)):=by
 have M:¬P.lets (S.ops Zan d f).length:=λhl=>by have⟨Q,O,_⟩:=CR ok.fit U ha.in_ hl;simp_all
 have:0<=P.Zas:=by
  by_cases h9:0<=P.Zas
  .omega
  .exact absurd ⟨F,Zv Qw⟩ M
 have:P.Zas<((S.ops Zan d f).length:Int):=by
  by_cases h9:P.Zas<((S.ops Zan d f).length:Int)
  .omega
  .exact absurd ⟨F,Zy Qw⟩ M
 obtain⟨k,hk⟩:∃k:Nat,P.Zas=k:=⟨P.Zas.toNat,Qw⟩;have⟨Q,O,_⟩:=SO ok.fit U ha.in_ F k hk Qw;rw[O];have⟨Zau,hi⟩:=h.img;have ae:=XR D.reads hi.ok hi.used ha.ZaA ha.ZaQ;have Z:∀o∈YO (S.ZbU Zan d f),o.In 800:=by rw[<-FM];exact ha.in_
 have hcut:=Ts ok.fit h.wait Z k keep t;rw[<-FM] at hcut;have e0:D.reads=D.ZaB:=funext λa=>B6 h.wait a;have⟨D1,J⟩:=ZL ((Yn ((S.ops Zan d f).take k) D).lost keep t);rw[<-J] at hcut⊢;have C:D1.wait=[]:=by rw[J];rfl
 have e1:D1.reads=D1.ZaB:=funext λa=>B6 C a;rw[<-e0,<-e1] at hcut;rcases hi.cut Qw ae ha.room hcut with ⟨c1,c2⟩|c1
 .exact Zv ⟨⟨⟨Zau,c1⟩,h.sm,C,h.ep⟩,c2⟩
 .have⟨g1,g2⟩:=h.did hK ok ha;have e2:D1.reads=(Yn (S.ops Zan d f) D).reads:=by rw[c1,Bo ok.fit ha.in_]
  refine Zy ⟨⟨?_,g1.sm,C,g1.ep⟩,?_⟩
  .have⟨rs,q1⟩:=g1.img;exact⟨rs,by rw[e2];exact q1⟩
  .simp_all
def OF:∀ (l:List Wt) (V:Ev),(QT l V).1≠0->∃a x b,l=a++x::b/\(QT a V).1=0/\Yi (QT a V).2 x≠0/\QT l V=(Yi (QT a V).2 x,Y3 (QT a V).2 x):=by
 intro l
 induction l with
 |nil=>intro V h;exact absurd rfl h
 |cons x r ih=>
  intro V h;by_cases C:Yi V x=0
  .have e:QT (x::r) V=QT r (Y3 V x):=(by rw[QT,Zx C]);rw[e] at h⊢;obtain⟨a,y,b,rfl,F,J,M⟩:=ih _ h;refine⟨x::a,y,b,rfl,?_⟩;have:QT (x::a) V=QT a (Y3 V x):=(by rw[QT,Zx C]);simp_all
  .refine⟨[],x,r,rfl,rfl,C,?_⟩;show QT (x::r) V=(Yi V x,Y3 V x);rw[QT,Zw C]
section
variable{X:QM}
theorem Od{ph':Nat->Dk->Sto->Prop}(h:X.At ph n V){i:Nat}{a:Sto->List Ac}(hi:i<n)(hK:KOk X.K){E:Nat}(F:∀S,V.Ms i=some S->QU X.K E (V.Ds i) S/\∃d f,Ym X.K S (a S) d f)(hc:Yi V (i,a)≠0)(keep:Nat->List Bool)(t:Nat->Int)(hw:∀j D S,ph j D S->D.wait=[])(M:∀D D' S,ph i D S->QU X.K E D' S->stR D'.reads S.dir=stR D.reads S.dir->ph i D' S)(O:∀S d f,V.Ms i=some S->Ym X.K S (a S) d f->∀D',QU X.K (E+1) D' (S.done d f)->stR D'.reads (S.done d f).dir=(a S).foldl Ac.on (stR (V.Ds i).reads S.dir)->ph' i D' (S.done d f)):∀j,j<n->(V.Ms j).isSome=true->∃S,ph j (((Y3 V (i,a)).Ds j).lost (keep j) (t j)) S∨ph' j (((Y3 V (i,a)).Ds j).lost (keep j) (t j)) S:=by
 intro j J hM;have⟨S,C⟩:=ZdQ.1 hM;have⟨g1,g2,g3⟩:=h.at_ j J S C;by_cases e:j=i
 .subst e;have⟨hB,d,f,ha⟩:=F S C;have⟨e1,e2⟩:=JB (V:=V) (x:=(j,a)) C;rw[ha.go] at e1 e2;rw[e2];simp[QX];rw[e1] at hc;rcases hB.Zbv hK g2 g3 ha h.gone hc (keep j) (t j) with ⟨c1,c2⟩|⟨c1,c2⟩
  .grind
  .grind
 .have e2:(Y3 V (i,a)).Ds j=V.Ds j:=by
   unfold Y3;split
   .exact QP _ _ e
   .rfl
  rw[e2,Dt (hw j _ _ g1)];grind
def Oc(h:X.At ph n V){i:Nat}{a:Sto->List Ac}(hi:i<n){E:Nat}(C:∀S,V.Ms i=some S->QU X.K E (V.Ds i) S/\∃d f,Ym X.K S (a S) d f)(hc:Yi V (i,a)≠0):Yi V (i,a)=10/\(Y3 V (i,a)).P.gone=true:=by
 cases hM:V.Ms i with
 |none=>unfold Yi at hc;rw[hM] at hc;exact absurd rfl hc
 |some S=>
  have⟨g1,g2,g3⟩:=h.at_ i hi S hM;have⟨_,d,f,ha⟩:=C S hM;have⟨e1,e2⟩:=JB (V:=V) (x:=(i,a)) hM;rw[e1] at hc⊢;rw[e2];simp[ha.go] at hc⊢;rcases Cg (S.ops (a S) d f) (P:=V.P) ha.in_ g2.fit g3 h.gone with h9|h9
  .exact absurd h9.1 hc
  .exact h9
theorem Ro{α β:Type}{f:α->β}:∀{l:List α} {a:List β} {x:β} {b:List β},l.map f=a++x::b->∃C y F,l=C++y::F/\a=C.map f/\x=f y/\b=F.map f:=by
 intro l
 induction l with
 |nil=>intro a x b h;simp at h
 |cons z r ih=>
  intro a x b h;cases a with
  |nil=>simp at h;exact⟨[],z,r,rfl,rfl,h.1.symm,h.2.symm⟩
  |cons y a=>grind
theorem QM.Zbv(M:X.Ok n)(h:X.At (ph1 X []) n V)(hc:(QT (YW X (Yj V n)) V).1≠0)(keep:Nat->List Bool)(t:Nat->Int):((∀j,j<n->(V.Ms j).isSome=true->∃S,X.p0 j (((QT (YW X (Yj V n)) V).2.Ds j).lost (keep j) (t j)) S∨X.p1 j (((QT (YW X (Yj V n)) V).2.Ds j).lost (keep j) (t j)) S)∨ (∀j,j<n->(V.Ms j).isSome=true->∃S,X.p1 j (((QT (YW X (Yj V n)) V).2.Ds j).lost (keep j) (t j)) S∨X.p2 j (((QT (YW X (Yj V n)) V).2.Ds j).lost (keep j) (t j)) S))/\(QT (YW X (Yj V n)) V).1=10/\(QT (YW X (Yj V n)) V).2.P.gone=true:=by
 have ah:(Yj V n).Nodup:=FA;have aq:∀done j D S,ph1 X done j D S->D.wait=[]:=λdone j D S F=>by
  unfold ph1 at F;split at F
  .exact F.1.wait
  .exact F.1.wait
 have au:∀done j D S,ph2 X done j D S->D.wait=[]:=λdone j D S F=>by
  unfold ph2 at F;split at F
  .exact F.1.wait
  .exact F.1.wait
 unfold YW at hc⊢;rw[Fn] at hc⊢;by_cases h0:(QT ((Yj V n).map (op1 X)) V).1=0
 .rw[Zx h0] at hc⊢;have hs:=Eb ((Yj V n).map (op1 X)) V;obtain⟨a1, -⟩:=Z9H M (Yj V n) [] V h (λi hi=>mem_ins.1 hi) (λi _=>Qx) ah;have ae:=Z9G (ins:=Yj V n) (λi hi hM=>mem_ins.2 ⟨hi,by rw[<-hs];exact hM⟩) (a1 h0);have⟨V1,ak⟩:=ZL (QT ((Yj V n).map (op1 X)) V).2;rw[<-ak] at ae hs hc⊢;have⟨a,x,b,hl,q0,q1,q2⟩:=OF _ _ hc;obtain⟨J,i,b',ag,rfl,rfl,rfl⟩:=Ro hl;rw[ag] at ah;have af:∀q∈J++i::b',q<n/\(V1.Ms q).isSome=true:=λq O=>by rw[<-ag] at O;exact⟨(mem_ins.1 O).1,by rw[hs];exact(mem_ins.1 O).2⟩
  have Z:i∉J:=QA;obtain⟨b1, -⟩:=Z9S M J [] V1 ae (λq O=>af q (Zen _ O)) (λq _=>Qx) (ZdP.1 ah).1;rw[Ze3] at b1;have hb:=b1 q0;have aj:=Eb (J.map (op2 X)) V1;rw[q2];have⟨U,ai⟩:=ZL (QT (J.map (op2 X)) V1).2;rw[<-ai] at hb aj q1⊢;have hi:=(af i Qx).1;have hr:∀S,U.Ms i=some S->QU X.K (X.E+1) (U.Ds i) S/\∃d f,Ym X.K S (Yv S.dir (Y4 X.l)) d f:=λS C=>by have⟨r1,d,r2⟩:=Z9w M hb hi C Z;grind
  refine⟨Zy λj hj hM=> ?_,Oc hb hi hr q1⟩
  have⟨S,C⟩:=Od (ph':=X.p2) hb hi M.hK hr q1 keep t (au J) (λD D' S F c1 c2=>by
    unfold ph2 at F⊢;rw[Zw Z] at F⊢
    exact⟨c1,by rw[c2];exact F.2⟩) (λS d f C ha D' c1 c2=>by
    have⟨g1,g2,g3⟩:=hb.at_ i hi S C;unfold ph2 at g1;rw[Zw Z] at g1;have hz:=FX M.hl.nd (M.rest i hi) g1.2 g1.1.sorted (λ_=>XA)
    exact⟨c1,by rw[c2];exact hz.2.1,by rw[c2];exact hz.2.2⟩) j hj QB
  refine⟨S,?_⟩;rcases C with C|C
  .unfold ph2 at C;split at C
   .exact Zy C
   .exact Zv C
  .exact Zy C
 .rw[Zw h0] at hc⊢;have⟨a,x,b,hl,q0,q1,q2⟩:=OF _ _ h0;obtain⟨J,i,b',ag,rfl,rfl,rfl⟩:=Ro hl;rw[ag] at ah;have af:∀q∈J++i::b',q<n/\(V.Ms q).isSome=true:=λq O=>by rw[<-ag] at O;exact mem_ins.1 O
  have Z:i∉J:=QA;obtain⟨b1, -⟩:=Z9H M J [] V h (λq O=>af q (Zen _ O)) (λq _=>Qx) (ZdP.1 ah).1;rw[Ze3] at b1;have hb:=b1 q0;have aj:=Eb (J.map (op1 X)) V;rw[q2];have⟨U,ai⟩:=ZL (QT (J.map (op1 X)) V).2;rw[<-ai] at hb aj q1⊢;have hi:=(af i Qx).1;have hr:∀S,U.Ms i=some S->QU X.K X.E (U.Ds i) S/\∃d f,Ym X.K S (Wg X.k X.m i X.g X.l) d f:=λS C=>Z9v M hb hi C Z;refine⟨Zv λj hj hM=> ?_,Oc hb hi hr q1⟩
  have⟨S,C⟩:=Od (ph':=X.p1) hb hi M.hK hr q1 keep t (aq J) (λD D' S F c1 c2=>by
    unfold ph1 at F⊢;rw[Zw Z] at F⊢
    exact⟨c1,by rw[c2];exact F.2⟩) (λS d f C ha D' c1 c2=>by
    have⟨g1,g2,g3⟩:=hb.at_ i hi S C;unfold ph1 at g1;rw[Zw Z] at g1;refine⟨c1,?_⟩;rw[c2,g1.2]
    exact RA M.hl.nd (M.rest i hi)) j hj QB
  refine⟨S,?_⟩;rcases C with C|C
  .unfold ph1 at C;split at C
   .exact Zy C
   .exact Zv C
  .exact Zy C
end
variable{A:List Ac}{H:Bs->Option Bs}{I:Option Sto}{S:Nat->Option Sto}{T:Sto}{i k m:Nat}{s:Bool}{sd:Nat->Bool}
def Jy(D:Dk):Prop:=D.dead=true∨(D.dead=false/\D.wait=[]/\Cu 100 D.reads)
structure We(K:List Bs)(E k m g i:Nat)(H:Bs->Option Bs)(s:Bool)(D:Dk)(S I:Option Sto)(γ:Int)(A:List Ac):Prop where
 pre:AQ K E k m g i D S γ I A
 o:I=none->s=false/\Jy D
 fin:∀T,I=some T->(A≠[]->∃d f,Ym K T A d f)/\Wn k m i g H (A.foldl Ac.on (stR D.reads T.dir))/\(s=true->Xt k m i H (A.foldl Ac.on (stR D.reads T.dir)))
section
variable{S:Option Sto}{γ:Int}
def We.dsk(h:We K E k m g i H s D S I γ A)(J:I=some T):S=some T/\QU K E D T/\D.dead=false/\IP k m i (stR D.reads T.dir) γ:=by
 have M:S=some T:=by
  rcases h.pre.way with ⟨C,_⟩|⟨O,C,F,_⟩|⟨O,_,C,F,_⟩
  .rw[J] at C;cases C
  .rw[J] at F;cases F;exact C
  .rw[J] at F;cases F;exact C
 exact⟨M,h.pre.st T M⟩
def Es(h:QU K E D T)(M:D.dead=false)(C:Wn k m i g H (stR D.reads T.dir))(hs:s=true->Xt k m i H (stR D.reads T.dir))(O:g<=1000000000):We K E k m g i H s D (some T) (some T) g []:=⟨⟨λe=>(by cases e),λF e=>(by cases e;exact⟨h,M,Zv ⟨g,rfl,O,C.Zbl⟩⟩),Zff _,Zy (Zv ⟨T,rfl,rfl,rfl,C.acts0.symm,Zv rfl⟩)⟩,λe=>(by cases e),λF e=>(by cases e;exact⟨λJ=>absurd rfl J,C,hs⟩)⟩
def TU(R:Nat->ByteArray)(C:D.reads=R)(a:Nat)(ok:D.ok 800)(ha:a+100<=800):(D.text a 100).getD 0 0=WJ (R a):=by
 have:(D.reads a).size=64:=Eu ok Qw;unfold Dk.text WJ;rw[show List.range 100=0::(List.range 99).map (· +1) from rfl,Zm,<-C,Zfc];have h:0<(D.reads a).data.toList.length:=by have:(D.reads a).data.toList.length=(D.reads a).size:=rfl;omega
 rw[Z7,Za h,<-Z7]
def Cu.first{R:Nat->ByteArray}(h:Cu 100 R)(C:R 0=str (QO 1 0 Yk)):Wf 800 100 R Sto.first [] where
 nn:=rfl
 hh:=rfl
 ZaP:=rfl
 open_:=rfl
 img:=by
  refine⟨⟨C,trivial,?_,λ_=> ?_⟩,Zv ?_,rfl,rfl,Zt 1⟩
  .show 1+Yf ([]:List Bs)<=100
   simp[Yf]
  .show WJ (R (0+(1+Yf ([]:List Bs))))≠1
   exact h.b
  .show WJ (R (0+100))≠1
   exact h.c
 dir:=rfl
 pre:=λk F=>by simpa using Fp
 used:=(Dm R).used
 small:=Qx
 few:=Qx
 Zau:=Qx
def FK(h:Jy D)(ok:D.ok 800)(O:1<=E):∃S,We K E k m g i H false D S none (-1) []:=by
 have hw:∀S,(S=none->IQ D)->(∀T,S=some T->QU K E D T/\D.dead=false/\stR D.reads T.dir nmC=none)->We K E k m g i H false D S none (-1) []:=λS M F=>⟨⟨λe=>⟨M e,rfl⟩,λT e=>⟨(F T e).1,(F T e).2.1,Zy ⟨rfl,(F T e).2.2⟩⟩,Qw,Zv ⟨rfl,rfl,Qw,Zy Qw⟩⟩,λ_=>⟨rfl,h⟩,λT e=>by cases e⟩;rcases h with C|⟨C,J,hi⟩
 .exact⟨none,hw none (λ_=>Zv C) (λT e=>by cases e)⟩
 .rcases hi.a with ha|ha
  .exact⟨none,hw none (λ_=>Zy ⟨C,by rw[TU _ rfl 0 ok Qw];exact ha,by rw[TU _ rfl 100 ok Qw];exact hi.c⟩) (λT e=>by cases e)⟩
  .exact⟨some Sto.first,hw _ (λe=>by cases e) (λT e=>by
    cases e
    exact⟨⟨⟨[],hi.first ha⟩,(λm hm=>by cases hm),J,O⟩,C,rfl⟩)⟩
def We.mono(h:We K E k m g i H s D S I γ A){E':Nat}(he:E<=E'):We K E' k m g i H s D S I γ A:=⟨⟨h.pre.no,λT e=>⟨(h.pre.st T e).1.mono he,(h.pre.st T e).2⟩,h.pre.le,h.pre.way⟩,h.o,h.fin⟩
def DW(K:List Bs)(E k m g i:Nat)(H:Bs->Option Bs)(s:Bool)(D:Dk)(S I:Option Sto)(γ:Int)(A:List Ac):Prop:=We K (E+1) k m g i H s D S I γ A/\(A≠[]->We K E k m g i H s D S I γ A)
def We.e(h:We K E k m g i H s D S I γ A):DW K E k m g i H s D S I γ A:=⟨h.mono (ZeE E),λ_=>h⟩
def We.same(h:We K E k m g i H s D S I γ A)(M:I=some T){D':Dk}{E':Nat}(hB:QU K E' D' T)(U:D'.dead=false)(F:stR D'.reads T.dir=stR D.reads T.dir):We K E' k m g i H s D' S I γ A:=by
 obtain⟨rfl,Z,h2,O⟩:=h.dsk M;subst M;refine⟨⟨λe=>(by cases e),λJ e=>(by cases e;exact⟨hB,U,by rw[F];exact O⟩),h.pre.le,?_⟩,λe=>(by cases e),λJ e=>(by cases e;rw[F];exact h.fin T rfl)⟩;rcases h.pre.way with C|C|⟨J,gone,e1,e2,C⟩
 .exact Zv C
 .exact Zy (Zv C)
 .cases e2;rw[<-F] at C;exact Zy (Zy ⟨T,gone,e1,rfl,C⟩)
def We.did(h:We K E k m g i H s D S I γ A)(O:I=some T)(Z:g<=1000000000){D':Dk}{E':Nat}{C:Sto}(hB:QU K E' D' C)(U:D'.dead=false)(F:stR D'.reads C.dir=A.foldl Ac.on (stR D.reads T.dir)):We K E' k m g i H s D' (some C) (some C) g []:=by obtain⟨-,J,M⟩:=h.fin T O;exact Es hB U (by rw[F];exact J) (λhs=>by rw[F];exact M hs) Z
end
def Rk(K:List Bs)(E k m g n:Nat)(H:Bs->Option Bs)(sd:Qr)(D:Nat->Dk):Prop:=
 ∃i0,i0<n/\∀i,i<n->∃S I γ A,DW K E k m g i H (sd i) (D i) S I γ A/\(i=i0->γ=(g:Int))
section
variable{γ:Nat->Int}{A:Nat->List Ac}
structure Gt(K:List Bs)(E k m g n:Nat)(H:Bs->Option Bs)(sd:Qr)(V:Ev)(t:Nat)(V':Ev):Prop where
 gone:V'.P.gone=false
 num:V'.k=V.k/\V'.m=V.m/\V'.gen=V.gen
 done:∀i,i<t->i<n->∀T,V.Ms i=some T->∃T',V'.Ms i=some T'/\We K (E+1) k m g i H (sd i) (V'.Ds i) (some T') (some T') g []
 o:∀i,i<n->V.Ms i=none->V'.Ms i=none/\V'.Ds i=V.Ds i
 rest:∀i,t<=i->V'.Ms i=V.Ms i/\V'.Ds i=V.Ds i
 Zaq:∀i,(V'.Ds i).Zaq=(V.Ds i).Zaq/\(V'.Ds i).dead=(V.Ds i).dead
def Z66(hK:KOk K)(hg:g<=1000000000)(h:∀i,i<n->DW K E k m g i H (sd i) (V.Ds i) (S i) (V.Ms i) (γ i) (A i))(ag:∀i,i<n->(V.Ds i).ok 800)(ae:V.P.gone=false):∀t,t<=n-> ((Yd A t V).1=0/\Gt K E k m g n H sd V t (Yd A t V).2)∨ ((Yd A t V).1=10/\(Yd A t V).2.P.gone=true/\(∀i,((Yd A t V).2.Ds i).Zaq=(V.Ds i).Zaq/\((Yd A t V).2.Ds i).dead=(V.Ds i).dead)/\∀i,i<n->(V.Ms i=none/\(Yd A t V).2.Ds i=V.Ds i)∨∃T,V.Ms i=some T/\∀keep (Z:Int),∃T' γ' A',We K (E+1) k m g i H (sd i) (((Yd A t V).2.Ds i).lost keep Z) (some T') (some T') γ' A'/\(γ'=g∨γ'=γ i)):=by
 intro t
 induction t with
 |zero=>intro _;exact Zv ⟨rfl,ae,⟨rfl,rfl,rfl⟩,λi hi=>Qw,λi _ hM=>⟨hM,rfl⟩,λi _=>⟨rfl,rfl⟩,λi=>⟨rfl,rfl⟩⟩
 |succ t ih=>
  intro ht;rcases ih Qw with ⟨h0,hx⟩|F
  .have e1:Yd A (t+1) V=Yo (A t) t (Yd A t V).2:=(by rw[show Yd A (t+1) V=if(Yd A t V).1=0 then Yo (A t) t (Yd A t V).2 else Yd A t V from rfl,Zx h0]);rw[e1];have J:=h t Qw;obtain⟨W,hW⟩:=ZK (Yd A t V).2;rw[hW] at hx⊢;obtain⟨em,ed⟩:=hx.rest t (Zt _);unfold Yo;by_cases U:A t=[]
   .rw[Zx U];refine Zv ⟨rfl,hx.gone,hx.num,λi hi hn T C=> ?_,hx.o,λi hi=>hx.rest i Qw,hx.Zaq⟩;by_cases e:i=t
    .subst e;obtain⟨h1,h2,M,h4⟩:=J.1.dsk C;have h5:=J.1.did C hg (E':=E+1) h2 M (by rw[U];rfl);exact⟨T,by rw[em];exact C,by rw[ed];exact h5⟩
    .exact hx.done i Qw hn T C
   .rw[Zw U];have J:=J.2 U;cases hM:V.Ms t with
    |none=>
     rcases J.pre.way with ⟨_,F,_⟩|⟨T,_,F,_⟩|⟨T,_,_,F,_⟩
     .exact absurd F U
     .rw[hM] at F;cases F
     .rw[hM] at F;cases F
    |some T=>
     obtain⟨h1,h2,M,h4⟩:=J.dsk hM;obtain⟨d,f,ha⟩:=(J.fin T hM).1 U;obtain⟨s1,s2⟩:=JB (V:=W) (x:=(t,λ_=>A t)) (em.trans hM);simp only[ed] at s1 s2;rw[s1,s2];have af:=XK (T.go (A t)) W.P (V.Ds t);rcases Cg (T.go (A t)) (P:=W.P) (D:=V.Ds t) (by rw[ha.go];exact ha.in_) (ag t Qw).fit M hx.gone with ⟨c0,c1⟩|⟨c0,c1⟩
     .have e9:=DL (T.go (A t)) (P:=W.P) (D:=V.Ds t) (by rw[ha.go];exact ha.in_) (ag t Qw).fit M c0;obtain⟨g1,g2⟩:=h2.did hK (ag t Qw) ha;rw[<-ha.go,<-ha.nx] at g1;rw[<-ha.go,<-ha.nx] at g2;rw[<-e9] at g1 g2;refine Zv ⟨c0,c1,hx.num,λi hi hn T1 C=> ?_,λi hi C=> ?_,λi hi=> ?_,λi=> ?_⟩
      .by_cases e:i=t
       .subst e;rw[hM] at C;cases C;simp only[QX];exact⟨_,rfl,J.did hM hg g1 (by rw[af.2];exact M) g2⟩
       .simp only[QP _ _ e];exact hx.done i Qw hn T1 C
      .by_cases e:i=t
       .subst e;rw[hM] at C;cases C
       .simp only[QP _ _ e];exact hx.o i hi C
      .have e:i≠t:=(by omega);simp only[QP _ _ e];exact hx.rest i Qw
      .by_cases e:i=t
       .subst e;simp only[QX];exact af
       .simp only[QP _ _ e];exact hx.Zaq i
     .refine Zy ⟨c0,c1,λi=> ?_,λi hi=> ?_⟩
      .by_cases e:i=t
       .subst e;simp only[QX];exact af
       .simp only[QP _ _ e];exact hx.Zaq i
      .by_cases e:i=t
       .subst e;simp only[QX];refine Zy ⟨T,hM,λkeep Z=> ?_⟩;have hc:=h2.Zbv hK (ag i hi) M ha hx.gone (by rw[<-ha.go,c0];decide) keep Z;rw[<-ha.go] at hc;rcases hc with ⟨c2,c3⟩|⟨c2,c3⟩
        .have h5:=J.same hM (c2.mono (ZeE E)) (by show(QH _ _ _).2.2.dead=false;rw[af.2];exact M) c3;rw[hM,h1] at h5;exact⟨T,_,_,h5,Zy rfl⟩
        .exact⟨_,_,_,J.did hM hg c2 (by show(QH _ _ _).2.2.dead=false;rw[af.2];exact M) c3,Zv rfl⟩
       .simp only[QP _ _ e];cases C:V.Ms i with
        |none=>exact Zv ⟨rfl,(hx.o i hi C).2⟩
        |some T1=>
         refine Zy ⟨T1,rfl,λkeep Z=> ?_⟩;by_cases ah:i<t
         .obtain⟨T',e2,O⟩:=hx.done i ah hi T1 C;have hq:=Dt (O.dsk rfl).2.1.wait keep Z;rw[hq];exact⟨T',_,_,O,Zv rfl⟩
         .rw[(hx.rest i Qw).2];have O:=(h i hi).1;obtain⟨q1,q2, -⟩:=O.dsk C;rw[Dt q2.wait keep Z];rw[q1,C] at O;exact⟨T1,_,_,O,Zy rfl⟩
  .refine Zy ?_;rw[SN (by rw[F.1];decide) (t+1) Qw];exact F
end
section
variable{γ:Nat->Int}{A:Nat->List Ac}
def Hu(ok:D.ok 800)(keep:Qn)(t:Int):(D.lost keep t).ok 800:=⟨(Ri ok.fit keep t).len,ok.n1,ok.n2,λx hx=>(by cases hx),λx hx=>(by cases hx),(by simp[Dk.lost]),ok.Zbt,ok.ZbG⟩
def Jy.lost(h:Jy D)(keep:Qn)(t:Int):Jy (D.lost keep t):=by
 rcases h with h|h
 .exact Zv h
 .rw[Dt h.2.1];exact Zy h
def We.outs{S:Option Sto}{γ:Int}{A:List Ac}(h:We K E k m g i H s D S I γ A)(M:I=none)(ok:D.ok 800)(J:1<=E)(keep:Qn)(t:Int):∃C,We K E k m g i H s (D.lost keep t) C none (-1) []:=by obtain⟨rfl,F⟩:=h.o M;exact FK (F.lost keep t) (Hu ok keep t) J
def We.top{S:Option Sto}{A:List Ac}(h:We K E k m g i H s D S I g A):∃T,I=some T:=by
 rcases h.pre.way with ⟨_,_,F,_⟩|⟨T,_,C,_⟩|⟨T,_,_,C,_⟩
 .exact absurd rfl F
 .exact⟨T,C⟩
 .exact⟨T,C⟩
def Z67(hK:KOk K)(hg:g<=1000000000)(hE:1<=E)(h:∀i,i<n->DW K E k m g i H (sd i) (V.Ds i) (S i) (V.Ms i) (γ i) (A i)){i0:Nat}(Z:i0<n)(hγ:γ i0=(g:Int))(O:∀i,i<n->(V.Ds i).ok 800)(ae:V.P.gone=false):((Yd A n V).1=0∨(Yd A n V).1=10)/\(Yd A n V).2.P.gone=decide ((Yd A n V).1=10)/\(∀i,((Yd A n V).2.Ds i).Zaq=(V.Ds i).Zaq/\((Yd A n V).2.Ds i).dead=(V.Ds i).dead)/\(∀ (keep:Nat->List Bool) (C:Nat->Int),Rk K (E+1) k m g n H sd (λi=>((Yd A n V).2.Ds i).lost (keep i) (C i)))/\((Yd A n V).1=0->Gt K E k m g n H sd V n (Yd A n V).2):=by
 rcases Z66 (S:=S) (γ:=γ) hK hg h O ae n (Zt _) with ⟨h0,hx⟩|⟨h0,h1,h2,h3⟩
 .refine⟨Zv h0,by rw[hx.gone,h0];rfl,hx.Zaq,λkeep C=> ?_,λ_=>hx⟩;refine⟨i0,Z,λi hi=> ?_⟩;dsimp only;cases hM:V.Ms i with
  |none=>rw[(hx.o i hi hM).2];have⟨U,J⟩:=(h i hi).1.outs hM (O i hi) Qw (keep i) (C i);refine⟨U,none, -1,[],J.e,λe=> ?_⟩;subst e;have F:=h _ hi;rw[hγ] at F;have⟨T,M⟩:=F.1.top;rw[hM] at M;cases M
  |some T=>have⟨T',e1,e2⟩:=hx.done i hi hi T hM;rw[Dt (e2.dsk rfl).2.1.wait];exact⟨_,_,_,_,e2.e,λ_=>rfl⟩
 .refine⟨Zy h0,by rw[h1,h0];rfl,h2,λkeep C=> ?_,λe=>by rw[h0] at e;cases e⟩;refine⟨i0,Z,λi hi=> ?_⟩;dsimp only;rcases h3 i hi with ⟨hM,e⟩|⟨T,hM,J⟩
  .rw[e];have⟨U,J⟩:=(h i hi).1.outs hM (O i hi) Qw (keep i) (C i);refine⟨U,none, -1,[],J.e,λe=> ?_⟩;subst e;have F:=h _ hi;rw[hγ] at F;have⟨T,M⟩:=F.1.top;rw[hM] at M;cases M
  .have⟨T',γ',A',e1,e2⟩:=J (keep i) (C i);exact⟨_,_,_,_,e1.e,λe=>by subst e;rcases e2 with e2|e2<;>omega⟩
end
variable{D:Nat->Dk}
structure IR(A:Nat->List Ac)(V:Ev)(n:Nat)(r:Int×Ev):Prop where
 code:r.1=0
 gone:r.2.P.gone=false
 Zas:r.2.P.Zas<0
 num:r.2.k=V.k/\r.2.m=V.m/\r.2.gen=V.gen
 did:∀i,i<n->A i≠[]->∀S,V.Ms i=some S->r.2.Ms i=some (S.nx (A i))/\r.2.Ds i=Yn (S.go (A i)) (V.Ds i)
 not:∀i,n<=i∨A i=[]->r.2.Ms i=V.Ms i/\r.2.Ds i=V.Ds i
 Zaq:∀i,(r.2.Ds i).Zaq=(V.Ds i).Zaq
 dead:∀i,(r.2.Ds i).dead=(V.Ds i).dead
def Me{A:Nat->List Ac}(hg:V.P.gone=false)(hf:V.P.Zas<0):∀n,(∀i,i<n->A i≠[]->∃S d f,V.Ms i=some S/\Ym K S (A i) d f/\(V.Ds i).ok 800/\(V.Ds i).dead=false)->IR A V n (Yd A n V):=by
 intro n
 induction n with
 |zero=>intro _;exact⟨rfl,hg,hf,⟨rfl,rfl,rfl⟩,λi hi=>Qw,λi _=>⟨rfl,rfl⟩,λ_=>rfl,λ_=>rfl⟩
 |succ t ih=>
  intro h;have C:=ih (λi hi=>h i Qw);unfold Yd;rw[Zx C.code];by_cases J:A t=[]
  .unfold Yo;rw[Zx J]
   refine⟨rfl,C.gone,C.Zas,C.num,λi hi M=>C.did i (by
    rcases Zfg.1 hi with F|rfl
    .exact F
    .exact absurd J M) M,λi hi=>C.not i (by
    by_cases e:i=t
    .subst e;exact Zy J
    .exact hi.imp (λ_=>Qw) id),C.Zaq,C.dead⟩
  .have⟨S,d,f,hM,ha,ag,hd⟩:=h t Qw J;have Z:(Yd A t V).2.Ms t=some S:=(by rw[(C.not t (Zv (Zt _))).1,hM]);have⟨e1,e2⟩:=JB (V:=(Yd A t V).2) (x:=(t,λ_=>A t)) Z;simp[(C.not t (Zv (Zt _))).2] at e1 e2;have⟨Q,U,ae,af⟩:=CR (l:=S.go (A t)) (P:=(Yd A t V).2.P) ag.fit hd (by rw[ha.go];exact ha.in_) ⟨C.gone,Zv C.Zas⟩;rw[U] at e1 e2;unfold Yo;rw[Zw J,e1,e2];refine⟨rfl,ae,?_,C.num,λi hi M S' O=> ?_,λi hi=> ?_,λi=> ?_,λi=> ?_⟩
   .show Q.Zas<0;rw[af,Zx C.Zas];exact C.Zas
   .by_cases e:i=t
    .subst e;rw[hM] at O;cases O;exact⟨QX _ _ _,QX _ _ _⟩
    .simp[QP _ _ e];exact C.did i Qw M S' O
   .have e:i≠t:=by
     rintro rfl;rcases hi with F|F
     .omega
     .exact J F
    simp[QP _ _ e];exact C.not i (hi.imp (λ_=>Qw) id)
   .by_cases e:i=t
    .subst e;simp[QX];have F:=(XK (S.go (A i)) (Yd A i V).2.P (V.Ds i)).1;rw[U] at F;exact F
    .simp[QP _ _ e];exact C.Zaq i
   .by_cases e:i=t
    .subst e;simp[QX];have F:=(XK (S.go (A i)) (Yd A i V).2.P (V.Ds i)).2;rw[U] at F;exact F
    .simp[QP _ _ e];exact C.dead i
def QM.q0(X:QM)(i:Nat)(D:Dk)(S:Sto):Prop:=QU X.K (X.E+2) D S/\stR D.reads S.dir=X.T i
section
variable{X:QM}
def Z9z(M:X.Ok n){i:Nat}(hi:i<n){D:Dk}{S:Sto}(U:X.g<=1000000000)(O:D.dead=false)(h:X.q0 i D S):AQ X.K (X.E+2) X.k X.m X.g i D (some S) X.g (some S) (acts0 S.dir)/\acts0 S.dir=[]:=by have C:=M.rest i hi;have⟨F,J⟩:=h;rw[<-J] at C;exact⟨⟨λe=>(by cases e),λT e=>(by cases e;exact⟨F,O,Zv ⟨_,rfl,U,C.Zbl⟩⟩),Zff _,Zy (Zv ⟨S,rfl,rfl,rfl,rfl,Zv C.acts0⟩)⟩,C.acts0⟩
def Rz{l:List Chg}{T C:Tab}(h:Mid k m i g H l T C)(F:Wn k m i g H T):C nmC=some (some (YQ k m i g)):=by rw[h.rest nmC (by simp[nmC,nmN]) (by simp[nmC,nmT]) (λx e=>by simp[nmC,nmS] at e)];exact F.Zbl
def QM.Zc0(C:X.Ok n){i:Nat}(hi:i<n){D:Dk}{S:Sto}(O:X.g<=1000000000)(M:D.dead=false)(h:X.p1 i D S):AQ X.K (X.E+2) X.k X.m X.g i D (some S) X.g (some S) (acts0 S.dir)/\∃d,Ym X.K S (acts0 S.dir) d []:=by have⟨F,J⟩:=h;have⟨d,ha⟩:=F.dropped C.hK C.hl (C.rest i hi) J;exact⟨⟨λe=>(by cases e),λT e=>(by cases e;exact⟨F.mono Qw,M,Zv ⟨_,rfl,O,Rz J (C.rest i hi)⟩⟩),Zff _,Zy (Zv ⟨S,rfl,rfl,rfl,rfl,Zy ⟨d,[],ha⟩⟩)⟩,d,ha⟩
def Z9x(C:X.Ok n){i:Nat}(hi:i<n){D:Dk}{S:Sto}(U:X.g<=999999999)(M:D.dead=false)(h:X.p1 i D S):AQ X.K (X.E+2) X.k X.m (X.g+1) i D (some S) X.g (some S) (Yv S.dir (Y4 X.l))/\∃d,Ym X.K S (Yv S.dir (Y4 X.l)) d []:=by
 have⟨J,F⟩:=h;have⟨d,ha⟩:=J.second C.hK C.hl (C.rest i hi) F;have:(Y4 X.l).length<=X.l.length:=by unfold Y4;exact Zee _ _
 have:=C.hl.few;refine⟨⟨λe=>(by cases e),λT e=>(by cases e;exact⟨J.mono Qw,M,Zv ⟨_,rfl,Qw,Rz F (C.rest i hi)⟩⟩),Qw,Zy (Zy ⟨S,Y4 X.l,rfl,rfl,Qw,Qw,F.next,F.under,(ML C.hK C.hl).2,Qw,λx hx=> ?_,rfl,d,ha⟩)⟩,d,ha⟩;have⟨c,hc,hx,_⟩:=Do.1 hx;have:=(C.hK.len _ (C.hl.key c hc)).2;rw[<-hx];omega
def QM.Zc1(O:X.Ok n){i:Nat}{D:Dk}{S:Sto}(U:X.g<=999999999)(J:D.dead=false)(h:X.p2 i D S):AQ X.K (X.E+2) X.k X.m (X.g+1) i D (some S) ((X.g+1:Nat):Int) (some S) (acts0 S.dir)/\acts0 S.dir=[]:=by have⟨F,C,M⟩:=h;exact⟨⟨λe=>(by cases e),λT e=>(by cases e;exact⟨F,J,Zv ⟨_,rfl,Qw,C.Zbl⟩⟩),Zff _,Zy (Zv ⟨S,rfl,rfl,rfl,rfl,Zv C.acts0⟩)⟩,C.acts0⟩
end
variable{A:Nat->List Ac}
structure QR(K:List Bs)(E k m n g:Nat)(H:Bs->Option Bs)(sd:Qr)(V:Ev):Prop where
 set:∀P:Pw,P.gone=false->P.Zas<0->Y1 K E k m n g H sd {V with P:=P}
 o:∀i,i<n->V.Ms i=none->Jy (V.Ds i)
section
variable{γ:Nat->Int}
def Gt.Zdn{V':Ev}(hx:Gt K E k m g n H sd V n V')(h:∀i,i<n->We K (E+1) k m g i H (sd i) (V.Ds i) (S i) (V.Ms i) (γ i) (A i))(hK:KOk K)(ae:1<=k)(af:k+m=n)(ah:V.k=k)(ai:V.m=m)(ag:V.gen=(g:Int))(hl:∀i,i<n->(V.Ds i).Zaq<=(E:Int))(U:k<=YG sd n):QR K (E+1) k m n g H sd (Xl n V') where
 set:=λP h1 h2=>by
  have key:∀i,i<n->∀C,V'.Ms i=some C->QU K (E+1) (V'.Ds i) C/\Wn k m i g H (stR (V'.Ds i).reads C.dir)/\(sd i=true->Xt k m i H (stR (V'.Ds i).reads C.dir)):=λi hi C F=>by
   cases hM:V.Ms i with
   |none=>rw[(hx.o i hi hM).1] at F;cases F
   |some T=>
    have⟨J,e1,e2⟩:=hx.done i hi hi T hM
    rw[F] at e1
    cases e1
    exact⟨(e2.dsk rfl).2.1,(e2.fin C rfl).2.1,(e2.fin C rfl).2.2⟩
  refine⟨hK,ae,af,hx.num.1.trans ah,hx.num.2.1.trans ai,hx.num.2.2.trans ag,h1,h2,λi hi=> ?_,λi hi C F=> ?_,λi hi hs=> ?_,U⟩
  .have:=hl i hi
   show(V'.Ds i).Zaq<=_
   rw[(hx.Zaq i).1];omega
  .have O:V'.Ms i=some C:=by rw[<-F];exact(Zx hi).symm
   exact⟨(key i hi C O).1,(key i hi C O).2.1⟩
  .cases hM:V.Ms i with
   |none=>rw[((h i hi).o hM).1] at hs;cases hs
   |some T=>
    have⟨J,e1,e2⟩:=hx.done i hi hi T hM
    exact⟨J,by rw[<-e1];exact Zx hi,(key i hi J e1).2.2 hs⟩
 o:=λi hi hM=>by
  have Z:V'.Ms i=none:=by rw[<-hM];exact(Zx hi).symm
  cases M:V.Ms i with
  |none=>
   show Jy (V'.Ds i)
   rw[(hx.o i hi M).2]
   exact((h i hi).o M).2
  |some T=>
   have⟨J,e1,e2⟩:=hx.done i hi hi T M
   rw[Z] at e1;cases e1
end
structure Uv(B:Nat)(K:List Bs)(E k m n g p:Nat)(ds:Nat->Nat)(H:Bs->Option Bs)(sd:Qr)(P:Pw)(Ds:Nat->Dk)(bl:Qj)(w:Qs)(sv:Qt)(c:Int)(w':Qs):Prop where
 code:c=0∨c=10
 last:P.Zas<0->c=0
 fr:Fr (p::bl) w w'
 left:∃P' D' blx,P'.gone=decide (c=10)/\Y6 w' p P'/\DAt B w' p n ds P' D' blx/\(∀q∈blx,q∈bl∨w.heap.size<=q)/\(∀ (keep:Nat->List Bool) (tn:Nat->Int),Rk K (E+1) k m g n H sd (λi=>(D' i).lost (keep i) (tn i)))/\∀i,(D' i).Zaq=(Ds i).Zaq/\(D' i).dead=(Ds i).dead
 bad:c≠0->sv=.pointer none
 ok:c=0->∃G' V' bl',sv=.pointer G'.s/\EAt B w' G' V' bl'/\G'.n=n/\G'.p=p/\G'.ds=ds/\(∀q∈bl',q∈bl∨w.heap.size<=q)/\QR K (E+1) k m n g H sd V'/\V'.P.gone=false/\(P.Zas<0->V'.P.Zas<0)/\∀i,(V'.Ds i).Zaq=(Ds i).Zaq
def Ox(B:Nat)(w:Qs)(K:List Bs)(E gd n cap k m p g:Nat)(ds:Nat->Nat)(P:Pw)(Ds:Nat->Dk)(bl:Qj)(H:Bs->Option Bs)(sd:Qr)(hc:∀i,i<n->w.cell? ⟨gd,i,none⟩=some (.pointer (some ⟨ds i,0,none⟩)))(bu:gd<w)(bm:gd∉p::bl)(ak:1<=k)(hn:n=k+m)(ah:n<=16)(bh:B<=w)(hD:DAt B w p n ds P Ds bl)(hp:Y6 w p P)(hK:KOk K)(ae:P.gone=false)(cj:Ty w)(bq:0<B)(hR:Rk K E k m g n H sd Ds)(af:k<=YG sd n)(hl:∀i,i<n->(Ds i).Zaq<=(E:Int))(bf:1<=E)(hE:E<=1900000000)(aj:g<=1000000000):Calls prog 27 #[.slice gd n cap,(k:Int),(m:Int)] w λe w'=>∃sv ev c,e=.returned (.tuple #[sv,ev])/\QK w' w c ev/\Uv B K E k m n g p ds H sd P Ds bl w sv c w':=by
 obtain⟨Ls,rfl,h1,h2⟩:=hD;have⟨i0,O,hR⟩:=hR;have bg:∀i,∃q:(Option Sto×Option Sto)×Int×List Ac,i<n->DW K E k m g i H (sd i) (Ds i) q.1.1 q.1.2 q.2.1 q.2.2/\(i=i0->q.2.1=(g:Int)):=λi=>by
  by_cases hi:i<n
  .have⟨S,I,γ,A,h3,h4⟩:=hR i hi;exact⟨((S,I),γ,A),λ_=>⟨h3,h4⟩⟩
  .exact⟨((none,none),0,[]),λh=>absurd h hi⟩
 have⟨f,Z⟩:=Classical.skolem.1 bg;obtain⟨V,C⟩:∃V:Ev,V=⟨k,m,(g:Int),P,Ds,λi=>(f i).1.2⟩:=⟨_,rfl⟩;have U:∀i,i<n->DW K E k m g i H (sd i) (V.Ds i) (f i).1.1 (V.Ms i) (f i).2.1 (f i).2.2:=λi hi=>by rw[C];exact(Z i hi).1
 have au:∀i,i<n->(V.Ds i).ok 800:=λi hi=>by rw[C];exact(h1 i hi).ok
 have⟨x1,x2,x3,x4,x5⟩:=Z67 (A:=λi=>(f i).2.2) hK aj bf U O ((Z i0 O).2 rfl) au (by rw[C];exact ae)
 have ag:k<=BW (λi=>(f i).1.2) n:=Zq af (GK λi hi hs=>by
  have F:=(U i hi).1;rw[C] at F;cases hI:(f i).1.2 with
  |none=>rw[(F.o hI).1] at hs;cases hs
  |some T=>exact(ZF Option.isSome hI))
 have aw:=Z1n B w K (E+1) gd n cap k m p g ds P Ds Ls (λi=>(f i).1.1) (λi=>(f i).1.2) (λi=>(f i).2.1) (λi=>(f i).2.2) hc bu bm ak hn ah bh h1 h2 hK ae cj bq (λi hi=>(Z i hi).1.1.pre) ⟨i0,O,(Z i0 O).2 rfl⟩ ag Qw aj;rw[<-C] at aw;have aq:P.Zas<0->(Yd (λi=>(f i).2.2) n V).1=0/\(Yd (λi=>(f i).2.2) n V).2.P.Zas<0:=λF=>by
  have h8:=Me (K:=K) (A:=λi=>(f i).2.2) (V:=V) (by rw[C];exact ae) (by rw[C];exact F) n (λi hi hA=>by
   have M:=(U i hi).1;have hM:∃T,V.Ms i=some T:=by
    rcases M.pre.way with ⟨_,J,_⟩|⟨T,_,J,_⟩|⟨T,_,_,J,_⟩
    .exact absurd J hA
    .exact⟨T,J⟩
    .exact⟨T,J⟩
   have⟨T,hM⟩:=hM;have⟨d,f',ha⟩:=(M.fin T hM).1 hA
   exact⟨T,d,f',hM,ha,au i hi,(M.dsk hM).2.2.1⟩)
  exact⟨h8.code,h8.Zas⟩
 go_fit aw;rintro e w' ⟨sv,ev,rfl,he,hd,Zbo,ai⟩;have bj:Fr (p::(List.range n).flatMap Ls) w w':=by obtain⟨-, -, -, -,F⟩:=hd;exact F
 have bz:Y6 w' p (Yd (λi=>(f i).2.2) n V).2.P:=by obtain⟨cn,F, -⟩:=hd;exact(F 0 (by show 0<n;omega)).pw
 have⟨ay,J,M⟩:=hd.at_;refine⟨sv,ev,_,rfl,he,x1,λF=>(aq F).1,bj,⟨_,_,ay,x2,bz,J,M,x4,λi=>by rw[(x3 i).1,(x3 i).2,C];exact⟨rfl,rfl⟩⟩,Zbo,λh0=> ?_⟩;obtain⟨s,ms,c,xs,bl',rfl,az,hg⟩:=ai h0;refine⟨_,_,bl',rfl,az,rfl,rfl,rfl,hg,(x5 h0).Zdn (λi hi=>(U i hi).1) hK ak Qw (by rw[C]) (by rw[C]) (by rw[C]) (λi hi=>by rw[C];exact hl i hi) af,?_,λF=>(aq F).2,λi=>(x3 i).1.trans (by rw[C])⟩;show(Yd (λi=>(f i).2.2) n V).2.P.gone=false;rw[x2,h0];rfl
def Z4N{w:Qs}{base:Nat}{e:Qu}{v:Qt}{xs:Qk}(h:w.ownsRow base e k v n xs):∃a c,v=.slice a n c:=by
 rcases h.2 with ⟨C,F⟩|⟨g,cap,cur,C,_⟩
 .simp_all
 .simp_all
def Z1a(w:Qs)(s:Nat)(l:Qk)(pre:Qq)(h:Row w s 78 l)(hl:l[4]? =some (.bool true)):Calls prog 43 #[s,.string pre] w λe w'=>∃b,e=.returned (.tuple #[(),.iface 139 (b:Nat)])/\QK w' w 16 (.iface 139 (b:Nat))/\Below w w w':=by have:=h.cell hl;go_enter func43,ntmps43;go_wp2_with (go_at_call 31;go_fit (Fm _ _ Qz _);rintro e w1 ⟨b1,rfl,he, -,hb⟩;have C:=ZM he hb);go_ret2;exact⟨b1,rfl,C.1,C.2⟩
def Pm(w:Qs)(h s i:Nat)(J key:Bs)(O:Bool)(l:Qk)(hh:Xb w h s i J O)(hs:Row w s 78 l)(hl:l[4]? =some (.bool true)):Calls prog 117 #[h,key] w λe w'=>e=.returned (.tuple #[])/\Below w w w':=by have⟨rd,F⟩:=hh;have c0:=F.c0;have C:=Z1a w s l ⟨#[]⟩ hs hl;have H:=ZI C;go_enter func117,ntmps117;go_wp2_with (go_at_call 43;go_fit H.o;rintro e w1 ⟨b1,rfl,he,hb⟩;have M:=ZI hb);go_end0;exact⟨rfl,M.o⟩
def Yx(V:Ev)(n:Nat):List Bs:=Lib.compact ((Xx V [] n).mergeSort λx y=>decide (x<=y))
def QR.ok(h:QR K E k m n g H sd V):Y1 K E k m n g H sd {V with P:=⟨false, -1,0⟩}:=h.set _ rfl Qz
def QR.keys(h:QR K E k m n g H sd V){B:Nat}{w:Qs}{G:Eg}{bl:Qj}(he:EAt B w G V bl)(J:G.n=n):Calls prog 43 #[G.s,.string ⟨#[]⟩] w λe w'=>∃a c,e=.returned (.tuple #[.slice a (Yx V n).length c,.nilIface])/\Y9 w' a ((Yx V n).map str)/\(∀q o,a=some ⟨q,o,none⟩->∃r,Row w' q 9 r)/\(Yx V n).length<=1000000/\QG B G bl V w w':=by
 have F:ES V n:=h.ok.ZcV;refine(Oq B w G V bl [] he Qx (by rw[J];exact F)).mono ?_;rw[J];rintro e w' ⟨v,rfl,hs,O⟩;have:(Yx V n).length<=160000:=by have M:=Lib.compact_length_le ((Xx V [] n).mergeSort λx y=>decide (x<=y));rw[ZfY] at M;have:=Hm F [] n (Zt _);have:=he.nle;unfold Yx;omega
 have C:Strs w' w v (Yx V n):=hs;obtain⟨a,c,rfl⟩:=Z4N C;refine⟨a,c,rfl,C.rd,λq o e=> ?_,Qw,O⟩;exact YS C q (by subst e;simp[QV,Value.ownBlock])
def Fx(B:Nat)(w:Qs)(G:Eg)(bl:Qj)(hb i:Nat)(ae key:Bs)(sh:Bool)(h:QR K E k m n g H sd V)(he:EAt B w G V bl)(hn:G.n=n)(hh:Xb w hb G.s i ae sh)(hi:i<n):Calls prog 117 #[hb,key] w λe w'=>e=.returned (.tuple #[])/\Xb w' hb G.s (WU n (Yx V n) i key).1 (WU n (Yx V n) i key).2.1 (WU n (Yx V n) i key).2.2/\∃bl',EAt B w' G V bl'/\(∀q∈bl',q∈bl∨w.heap.size<=q)/\Fr (hb::G.p::bl) w w':=by have⟨rd,M⟩:=hh;have c0:=M.c0;have O:=h.keys he hn;have⟨L,hL⟩:=ZK (Yx V n);rw[hL] at O⊢;have H:=ZN O he M;go_enter func117,ntmps117;go_wp2_with (first|(go_at_call 43;go_fit H.1;rintro e w1 ⟨a,c,rfl,h1,C,h3,U⟩;have Z:=QG.row U H.2.1 H.2.2 Qz;have F:=ZZ h1 C h3 U Z)|(go_at_call 166;have⟨af,e1,g1,f1⟩:=F.4;go_fit (Pd B w1 G V af hb i ae key sh a c L e1 ⟨rd,F.5⟩ Qw F.1 F.2 F.3);rintro e w2 ⟨rfl,C,f2⟩;have R2:=ZP C f2 e1 g1 f1));go_end0;have⟨C,f2,e1,g1,f1⟩:=R2.o;rw[hn] at C;refine⟨rfl,C,af,e1.fr f2 (QL.row F.5 (ts:=[138]) Qz) Qz Qz Qz (λq J hm=>by rw[Z6] at hm;subst hm;exact e1.Zap F.5 Qz J),g1,?_⟩;exact(f1.mono (L':=hb::G.p::bl) (λq J _=>Zh _ J)).trans f2 (λq J _=>by rw[Z6] at J;subst J;exact Zfs)
variable{D:Dk}{P:Pw}{l:List Seg}
def Z0L{b:Nat}:∀{R C:Nat->ByteArray},Cut l R C->(∀s∈l,∀x∈s,x.1≠b)->C b=R b:=by
 induction l with
 |nil=>intro R C h _;rw[show C=R from h]
 |cons s r ih=>
  intro R C h hb;rcases h with ⟨j,h⟩|h
  .exact h.other λx hx=>hb s Qx x (ZdK hx)
  .rw[ih h (λF hs=>hb F (by simp[hs])),FU (hb s Qx)]
def SU(ok:D.ok 800)(J:D.dead=false)(hw:D.wait=[])(F:∀o∈YO l,o.In 800)(M:P.gone=false)(hc:(QH (YO l) P D).1≠0)(keep:Qn)(t:Int):((QH (YO l) P D).2.2.lost keep t).wait=[]/\((QH (YO l) P D).2.2.lost keep t).dead=false/\Cut l D.reads ((QH (YO l) P D).2.2.lost keep t).reads:=by
 have C:((QH (YO l) P D).2.2.lost keep t).dead=false:=(XK (YO l) P D).2.trans J;have O:¬P.lets (YO l).length:=λhl=>by have⟨Q,Z,_⟩:=CR ok.fit J F hl;simp_all
 have:0<=P.Zas:=by
  by_cases h9:0<=P.Zas
  .omega
  .exact absurd ⟨M,Zv Qw⟩ O
 have:P.Zas<((YO l).length:Int):=by
  by_cases h9:P.Zas<((YO l).length:Int)
  .omega
  .exact absurd ⟨M,Zy Qw⟩ O
 obtain⟨k,hk⟩:∃k:Nat,P.Zas=k:=⟨P.Zas.toNat,Qw⟩;have⟨Q,Z,_⟩:=SO ok.fit J F M k hk Qw;rw[Z] at C⊢;have hcut:=Ts ok.fit hw F k keep t;have e0:D.reads=D.ZaB:=funext λa=>B6 hw a;have⟨D1,h⟩:=ZL ((Yn ((YO l).take k) D).lost keep t);have:((Q,Yn ((YO l).take k) D).2).lost keep t=D1:=h.symm;rw[<-h] at hcut;have U:D1.wait=[]:=by rw[h];rfl
 have e1:D1.reads=D1.ZaB:=funext λa=>B6 U a;rw[<-e0,<-e1] at hcut;simp only at C⊢;rw[<-h] at C⊢;exact⟨U,C,hcut⟩
def OS(R:Nat->ByteArray):Cu 100 (Y0 (Z3 100) R):=by
 have h:=Z9M R 100 Qw;refine⟨Zy h.on.head,h.on.stop (by show 1+0<100;omega),?_⟩;have C:(QO 1 0 Yk).length=64:=Xw _;have M:(Yl (QO 1 0 Yk)).length=64:=by rw[Jj _ (B4 _ _ _),C]
 have F:(Jn.first 100).ZaO true 0=[(100,YY)]:=by unfold Jn.ZaO Jn.first Jn.at_;rw[Zw Qz];simp
 have J:(Jn.first 100).ZaO false 1=[(1,YY)]:=by unfold Jn.ZaO Jn.first Jn.at_;rw[Zw Qz];simp
 rw[GX,I9];unfold Ed;rw[F,J,DU _ _ C,DU _ _ M];exact AA
def Z1H(hK:KOk K){Zan:List Ac}{d:Dir}{f:QF}(ha:Ym K Sto.first Zan d f):∀s∈Sto.first.ZbU Zan d f,∀x∈s,x.1≠100:=by
 have hi:=Dm (λ_=>YY);have F:=XR (λ_=>YY) hi.ok hi.used ha.ZaA ha.ZaQ;have hl:=TE (f:=f) (λm hm=>(BB hK m hm).2) (FI hK) (λx hx=>by cases hx) ha.sm hi.ok F.ok;intro s hs x hx e;rcases Zj.1 hs with hs|hs
 .unfold Fe at hs;split at hs
  .cases hs
  .rw[Z6] at hs;subst hs;have hm:DOp.wr x.1 x.2∈Wb d Zan f:=by rw[IJ];exact Zeq hx
   have⟨y,U,e2,J,h⟩:=Hv hm;rw[e] at h;exact F.apart (Zv Qw) y U e2 J h
 .unfold Sto.ZbP at hs;rw[Zx (by show _<=100-1;unfold QQ;omega)] at hs;have⟨r,O⟩:=ZK (JI (YD Sto.first.dir d f));rw[O] at hs hl;have M:(QO 1 1 r).length=QQ r.length:=Ce _ _ _;have:QQ r.length / 64<=70:=by unfold QQ;omega
  have:(Yl (QO 1 1 r)).length=QQ r.length:=by rw[Jj _ (B4 _ _ _),M]
  change s∈[X9 1 (Yl (QO 1 1 r))++(Jn.first 100).ZaO false (1+(QO 1 1 r).length / 64),X9 1 ((QO 1 1 r).take 64)] at hs;have C:∀{l:Bs},l.length / 64<=70->x∈X9 1 l->False:=λZ hm=>by obtain⟨j,hj,rfl⟩:=Lu hm;simp only at e;omega
  rw[Zk,Z6] at hs;rcases hs with rfl|rfl
  .rcases Zj.1 hx with hx|hx
   .exact C Qw hx
   .obtain⟨h1,rfl⟩:=Dw hx;have:(1+(QO 1 1 r).length / 64)=100:=e;omega
  .exact C (by rw[Zg];omega) hx
def OT(D:Dk):(Yn (Z3 100) D).wait=[]:=by rw[GX];unfold Ed YO;rw[Zm,Zm,ZgM,ZdJ];unfold Seg.ops;rw[<-Zd];exact EY _ D
def VL(hK:KOk K)(ok:D.ok 800)(M:D.dead=false)(hw:D.wait=[])(U:P.gone=false):(Yt k m i g P D).2.2.ok 800:=by
 have C:∀o∈Z3 100,o.In 800:=λo O=>by
  have:=GW 100 Qw o O;cases o with
  |wr a s=>exact⟨Zp this.1 Qw,this.2⟩
  |fl=>trivial
 have h:=G2 (Z3 100) (P:=P) C ok (by rw[hw];have:=KS;simp;omega);unfold Yt;split
 .rename_i c1;have F:=DL (Z3 100) (P:=P) C ok.fit M c1;have J:=OT D;have⟨d,f,ha⟩:=F6 hK k m i g;have⟨b1,b2⟩:=K8 (k:=k) (m:=m) (i:=i) (g:=g) (R:=D.reads) hK (by rw[F] at h;exact h) (Bo ok.fit C) ha;rw[F] at h⊢;rw[ha.go];have hi:Wf 800 100 (Yn (Z3 100) D).reads Sto.first []:=by rw[Bo ok.fit C];exact Dm D.reads
  have hB:QU K 1 (Yn (Z3 100) D) Sto.first:=⟨⟨[],hi⟩,λx hx=>(by cases hx),J,Zt 1⟩
  exact G2 _ ha.in_ h (by have:=ha.len hB hK;rw[J];simp;omega)
 .exact h
def VM(hK:KOk K)(ok:D.ok 800)(hd:D.dead=false)(hw:D.wait=[])(ho:Cu 100 D.reads)(hg:P.gone=false):((Yt k m i g P D).1=0/\(Yt k m i g P D).2.1.gone=false/\QU K 2 (Yt k m i g P D).2.2 (Sto.first.nx [YK k m i g])/\stR (Yt k m i g P D).2.2.reads (Sto.first.nx [YK k m i g]).dir=JM k m i g)∨ ((Yt k m i g P D).1=10/\(Yt k m i g P D).2.1.gone=true/\∀ (keep:Qn) (t:Int),Jy ((Yt k m i g P D).2.2.lost keep t)∨(((Yt k m i g P D).2.2.lost keep t).dead=false/\QU K 2 ((Yt k m i g P D).2.2.lost keep t) (Sto.first.nx [YK k m i g])/\stR ((Yt k m i g P D).2.2.lost keep t).reads (Sto.first.nx [YK k m i g]).dir=JM k m i g)):=by
 have h:∀o∈Z3 100,o.In 800:=λo ho=>by
  have:=GW 100 Qw o ho;cases o with
  |wr a s=>exact⟨Zp this.1 Qw,this.2⟩
  |fl=>trivial
 rcases Cg (Z3 100) (P:=P) h ok.fit hd hg with ⟨c1,c2⟩|⟨c1,c2⟩
 .have ae:=DL (Z3 100) (P:=P) h ok.fit hd c1;have C:(Yn (Z3 100) D).ok 800:=by have F:=G2 (Z3 100) (P:=P) h ok (by rw[hw];have:=KS;simp;omega);rw[ae] at F;exact F
  have U:(Yn (Z3 100) D).dead=false:=by rw[IX];exact hd
  have ag:=OT D;obtain⟨d,f,ha⟩:=F6 hK k m i g;have Z:=Bo ok.fit h;obtain⟨b1,b2⟩:=K8 (k:=k) (m:=m) (i:=i) (g:=g) (R:=D.reads) hK C Z ha;obtain⟨D1,hD⟩:=ZK (Yn (Z3 100) D);rw[hD] at ae C U ag b1 b2 Z;have e:Yt k m i g P D=QH (Sto.first.ops [YK k m i g] d f) (QH (Z3 100) P D).2.1 D1:=by unfold Yt;rw[Zx c1,ha.go,ae]
  rw[e,ha.nx];obtain⟨P1,ai⟩:=ZK (QH (Z3 100) P D).2.1;rw[ai] at c2⊢;rcases Cg (Sto.first.ops [YK k m i g] d f) (P:=P1) ha.in_ C.fit U c2 with ⟨x1,x2⟩|⟨x1,x2⟩
  .rw[DL _ ha.in_ C.fit U x1];exact Zv ⟨x1,x2,b1,b2⟩
  .refine Zy ⟨x1,x2,λkeep t=> ?_⟩;have hi:Wf 800 100 D1.reads Sto.first []:=by rw[Z];exact Dm D.reads
   have aj:=XR D1.reads hi.ok hi.used ha.ZaA ha.ZaQ;rw[FM] at x1;obtain⟨J,M,O⟩:=SU C U ag (by rw[<-FM];exact ha.in_) c2 (by rw[x1];decide) keep t;rw[FM];have af:=Z0L O (Z1H hK ha);obtain⟨D2,ah⟩:=ZK ((QH (YO (Sto.first.ZbU [YK k m i g] d f)) P1 D1).2.2.lost keep t);rw[ah] at J M O af⊢;rcases hi.cut Qw aj ha.room O with ⟨z1, -⟩|z1
   .refine Zv (Zy ⟨M,J,Zy z1.img.on.head,z1.img.on.stop (by show 1+0<100;omega),?_⟩);rw[af,Z];exact(OS D.reads).c
   .have e2:D2.reads=(Yn (Sto.first.ops [YK k m i g] d f) D1).reads:=(by rw[z1,Bo C.fit ha.in_]);obtain⟨rs,q1⟩:=b1.img;exact Zy ⟨M,⟨⟨rs,by rw[e2];exact q1⟩,b1.sm,J,b1.ep⟩,by rw[e2];exact b2⟩
 .have e:Yt k m i g P D=QH (Z3 100) P D:=by unfold Yt;rw[Zw (by rw[c1];decide)]
  rw[e];refine Zy ⟨c1,c2,λkeep t=>Zv ?_⟩;rw[GX] at c1 h⊢;obtain⟨J,M,O⟩:=SU ok hd hw h hg (by rw[c1];decide) keep t;refine Zy ⟨M,J,?_⟩;rcases ho.Zci Qw O with F|F
  .exact F
  .rw[F];exact OS D.reads
variable{T:Tab}{key v:Bs}
def XO(n:Nat)(V:Ev):Prop:=∀i,i<n->(V.Ds i).ok 800/\((V.Ms i).isSome=true->(V.Ds i).dead=false)
def EAt.alive{w:Qs}{bl:Qj}(h:EAt B w G V bl):XO G.n V:=λi hi=>by obtain⟨-,L,C⟩:=h.dsk hi;refine⟨C.ok,λhs=> ?_⟩;have⟨S,hM⟩:=ZdQ.1 hs;exact(h.oks hi hM).2
def Kj(h:1<=YG sd n):∃i,i<n/\sd i=true:=by unfold YG at h;have⟨x,hx⟩:=Zfr (l:=(List.range n).filter sd) Qw;rw[ZdV,ZdS] at hx;exact⟨x,hx⟩
def QR.ZaE(h:QR K E k m n g H sd V):Y1 K E k m n g H sd {V with P:=⟨false, -1,0⟩}:=h.set _ rfl Qz
def QR.mono(h:QR K E k m n g H sd V){E':Nat}(he:E<=E'):QR K E' k m n g H sd V:=⟨λP C F=>(h.set P C F).mono he,h.o⟩
def QR.ZbK(h:QR K E k m n g H sd V){i:Nat}(hi:i<n)(hM:V.Ms i=none):sd i=false:=by
 cases hs:sd i with
 |false=>rfl
 |true=>have⟨S,C,_⟩:=h.ZaE.snd i hi hs;rw[show V.Ms i=some S from C] at hM;cases hM
def QR.rk(h:QR K E k m n g H sd V)(ha:XO n V)(hg:g<=1000000000)(hE:1<=E){i:Nat}{Ds:Nat->Dk}{keep:Nat->List Bool}{O:Nat->Int}(ho:∀j,j≠i->Ds j=V.Ds j)(h':i<n->∃S I γ A,We K (E+1) k m g i H (sd i) ((Ds i).lost (keep i) (O i)) S I γ A/\(sd i=true->γ=(g:Int))):Rk K (E+1) k m g n H sd (λj=>(Ds j).lost (keep j) (O j)):=by
 have F:=h.ZaE;have⟨i0,U,hs0⟩:=Kj (Zq F.k1 F.many);refine⟨i0,U,λj C=> ?_⟩;by_cases e:j=i
 .subst e;have⟨S,I,γ,A,J,M⟩:=h' C;exact⟨S,I,γ,A,J.e,λe=>M (by rw[e];exact hs0)⟩
 .dsimp only;rw[ho j e];cases hM:V.Ms j with
  |none=>
   have⟨S,h9⟩:=FK (K:=K) (E:=E+1) (k:=k) (m:=m) (g:=g) (i:=j) (H:=H) ((h.o j C hM).lost (keep j) (O j)) (Hu (ha j C).1 _ _) Qw;rw[h.ZbK C hM]
   exact⟨S,none, -1,[],h9.e,λe2=>by
    subst e2
    rw[h.ZbK C hM] at hs0;cases hs0⟩
  |some T=>have⟨J,M⟩:=F.in_ j C T hM;rw[Dt J.wait];refine⟨_,_,_,_,(Es (J.mono (ZeE E)) ((ha j C).2 (by rw[hM];rfl)) M (λhs=> ?_) hg).e,λ_=>rfl⟩;have⟨Z,e1,e2⟩:=F.snd j C hs;rw[show V.Ms j=some Z from e1] at hM;cases hM;exact e2
def C7(V:Ev)(i g:Nat):Ev:={V with P:=(WK V i g).2.1,Ds:=upd V.Ds i (WK V i g).2.2,Ms:=upd V.Ms i (some (Sto.first.nx [YK V.k V.m i g]))}
def PG(h:V.P.gone=false)(i g:Nat):WK V i g=Yt V.k V.m i g V.P (V.Ds i):=by unfold WK;rw[h];rfl
def QR.Zca(h:QR K E k m n g H sd V)(ha:XO n V)(Z:V.P.gone=false)(hg:g<=1000000000)(hE:1<=E){i:Nat}(hi:i<n)(hM:V.Ms i=none)(U:(V.Ds i).dead=false):(V.P.Zas<0->(WK V i g).1=0/\(WK V i g).2.1.Zas<0)/\ (((WK V i g).1=0/\(WK V i g).2.1.gone=false/\QR K (E+1) k m n g H sd (C7 V i g))∨ ((WK V i g).1=10/\(WK V i g).2.1.gone=true/\∀ (keep:Nat->List Bool) (tn:Nat->Int),Rk K (E+1) k m g n H sd (λj=>(upd V.Ds i (WK V i g).2.2 j).lost (keep j) (tn j)))):=by
 have J:=h.ZaE;have af:V.k=k:=J.vk;have ag:V.m=m:=J.vm;rcases h.o i hi hM with F|⟨-,hw,ho⟩
 .rw[U] at F;cases F
 unfold C7;rw[PG Z,af,ag];refine⟨λhf=> ?_,?_⟩
 .obtain⟨e1, -,e2, -⟩:=NJ (k:=k) (m:=m) (i:=i) (g:=g) (P:=V.P) J.hK (ha i hi).1 U (by rw[hw];simp) Z hf;exact⟨e1,e2⟩
 rcases VM (k:=k) (m:=m) (i:=i) (g:=g) J.hK (ha i hi).1 U hw ho Z with ⟨c1,c2,c3,c4⟩|⟨c1,c2,c3⟩
 .refine Zv ⟨c1,c2,λP h1 h2=> ?_,λj C M=> ?_⟩
  .have hs:=h.set P h1 h2;refine⟨hs.hK,hs.k1,hs.kn,rfl,rfl,hs.vg,h1,h2,λj C=> ?_,λj C T O=> ?_,λj C ae=> ?_,hs.many⟩
   .have F:=hs.Zaq j C;have h8:(upd V.Ds i (Yt k m i g V.P (V.Ds i)).2.2 j).Zaq=(V.Ds j).Zaq:=by
     by_cases e:j=i
     .subst e;rw[QX,K6]
     .rw[QP _ _ e]
    show(upd V.Ds i (Yt k m i g V.P (V.Ds i)).2.2 j).Zaq<=_;have h7:(V.Ds j).Zaq<=(E:Int):=F;rw[h8];omega
   .by_cases e:j=i
    .subst e;simp only[QX] at O⊢;cases O;exact⟨c3.mono Qw,by rw[c4];exact GC _ _ _ _ _⟩
    .simp only[QP _ _ e] at O⊢;obtain⟨h5,h6⟩:=hs.in_ j C T O;exact⟨h5.mono Qw,h6⟩
   .have e:j≠i:=λe=>by subst e;rw[h.ZbK C hM] at ae;cases ae
    simp only[QP _ _ e];exact hs.snd j C ae
  .have e:j≠i:=λe=>by subst e;simp only[QX] at M;cases M
   simp only[QP _ _ e] at M⊢;exact h.o j C M
 .refine Zy ⟨c1,c2,λkeep tn=>h.rk ha hg hE (λj e=>QP _ _ e) λ_=> ?_⟩;rw[QX,h.ZbK hi hM];rcases c3 (keep i) (tn i) with F|⟨x1,x2,x3⟩
  .obtain⟨S,h8⟩:=FK (K:=K) (E:=E+1) (k:=k) (m:=m) (g:=g) (i:=i) (H:=H) F (Hu (VL J.hK (ha i hi).1 U hw Z) _ _) Qw;exact⟨S,_,_,_,h8,λe=>by cases e⟩
  .exact⟨_,_,_,_,Es (x2.mono Qw) x1 (by rw[x3];exact GC _ _ _ _ _) (λe=>by cases e) hg,λe=>by cases e⟩
def Lj(T:Tab)(k m i:Nat)(key v:Bs):[YH k m i key v].foldl Ac.on T=λx=>if x=nmD key then some (some (shL k m i key v)) else T x:=rfl
def FH{a b:Bs}(h:nmD a=nmD b):a=b:=by simpa[nmD] using h
def Wn.laid(h:Wn k m i g H T)(C:H key=some v):Wn k m i g H ([YH k m i key v].foldl Ac.on T):=by
 rw[Lj];refine⟨?_,?_,?_,λx=> ?_,λx hx=> ?_,λx v' hx=> ?_,λx hx=> ?_⟩
 .rw[Zw (by unfold nmD nmC;simp)];exact h.Zbl
 .rw[Zw (by unfold nmD nmN;simp)];exact h.next
 .rw[Zw (by unfold nmD nmT;simp)];exact h.under
 .rw[Zw (by unfold nmD nmS;simp)];exact h.Zba x
 .rw[Zw (λe=>by rw[FH e,C] at hx;cases hx)];exact h.none_ x hx
 .by_cases e:nmD x=nmD key
  .have e2:=FH e;subst e2;rw[C] at hx;cases hx;rw[Zx rfl];exact Zy (Zy rfl)
  .rw[Zw e];exact h.some_ x v' hx
 .by_cases e:x=nmD key
  .exact Zy ⟨key,e⟩
  .rw[Zw e] at hx;exact h.other x hx
def Xt.laid(h:Xt k m i H T)(C:H key=some v):Xt k m i H ([YH k m i key v].foldl Ac.on T):=λx v' hx=>by
 rw[Lj];by_cases e:nmD x=nmD key
 .have e2:=FH e;subst e2;rw[C] at hx;cases hx;simp
 .simp[Zw e];exact h x v' hx
def Li{S:Sto}(h:QU K E D S)(hK:KOk K)(M:1<=k)(J:key∈K)(hv:v.length<=200):∃d f,Ym K S [YH k m i key v] d f:=by
 have:Ac.ZaA (YH k m i key v)=false/\Ac.Sm (WM K) (YH k m i key v):=put_ok hK (Jd.2 (Zy (Zy (Zy (Zy ⟨_,J,rfl⟩))))) (DN M hv).1 (by unfold shL;rw[CS];omega);have⟨d0,f,F⟩:=Kx (l:=[YH k m i key v]) Qx 0 S.dir [];have C:f.by (nmD key)≠none/\d0.get (nmD key)≠none:=Kw (a:=YH k m i key v) (l:=[]) rfl (by simpa using F)
 have⟨d,ha⟩:=h.Zan hK (Zan:=[YH k m i key v]) QB QB Qx Qx F ⟨nmD key,Zv C.1⟩ (λe=>C.2 (by rw[e];rfl));exact⟨d,f,ha⟩
def QR.laid(h:QR K E k m n g H sd V)(ha:XO n V)(hp:V.P.gone=false)(hg:g<=1000000000)(hE:1<=E){i:Nat}(hi:i<n){S:Sto}(hM:V.Ms i=some S){key v:Bs}(Z:H key=some v)(ag:key∈K)(hv:v.length<=200):(V.P.Zas<0->Yi V (i,λ_=>[YH k m i key v])=0/\(Y3 V (i,λ_=>[YH k m i key v])).P.Zas<0)/\ ((Yi V (i,λ_=>[YH k m i key v])=0/\(Y3 V (i,λ_=>[YH k m i key v])).P.gone=false/\QR K (E+1) k m n g H sd (Y3 V (i,λ_=>[YH k m i key v])))∨ (Yi V (i,λ_=>[YH k m i key v])=10/\(Y3 V (i,λ_=>[YH k m i key v])).P.gone=true/\∀ (keep:Nat->List Bool) (tn:Nat->Int),Rk K (E+1) k m g n H sd (λj=>((Y3 V (i,λ_=>[YH k m i key v])).Ds j).lost (keep j) (tn j)))):=by
 have M:=h.ZaE;obtain⟨b1,b2⟩:=M.in_ i hi S hM;have O:=(ha i hi).2 (by rw[hM];rfl);have ok:=(ha i hi).1;obtain⟨d,f,C⟩:=Li (m:=m) (i:=i) b1 M.hK M.k1 ag hv;obtain⟨e1,e2⟩:=JB (V:=V) (x:=(i,λ_=>[YH k m i key v])) hM;rw[e1,e2];dsimp only;rw[C.go,C.nx];have ah:QU K E (V.Ds i) S:=b1;have af:Wn k m i g H (stR (V.Ds i).reads S.dir):=b2;have ae:sd i=true->Xt k m i H (stR (V.Ds i).reads S.dir):=λhs=>by obtain⟨T',x1,J⟩:=M.snd i hi hs;rw[show V.Ms i=some T' from x1] at hM;cases hM;exact J
 refine⟨λhf=> ?_,?_⟩
 .obtain⟨Q,hQ,ak,aq⟩:=CR ok.fit O C.in_ (l:=S.ops [YH k m i key v] d f) (P:=V.P) ⟨hp,Zv hf⟩;rw[hQ];exact⟨rfl,by show Q.Zas<0;omega⟩
 rcases Cg (S.ops [YH k m i key v] d f) (P:=V.P) C.in_ ok.fit O hp with ⟨c1,c2⟩|⟨c1,c2⟩
 .obtain⟨g1,g2⟩:=ah.did M.hK ok C;rw[DL _ C.in_ ok.fit O c1];refine Zv ⟨c1,c2,λP h1 h2=> ?_,λj F U=> ?_⟩
  .have hs:=h.set P h1 h2;refine⟨hs.hK,hs.k1,hs.kn,hs.vk,hs.vm,hs.vg,h1,h2,λj F=> ?_,λj F T hT=> ?_,λj F aj=> ?_,hs.many⟩
   .have h9:(V.Ds j).Zaq<=(E:Int):=hs.Zaq j F;have h8:(upd V.Ds i (Yn (S.ops [YH k m i key v] d f) (V.Ds i)) j).Zaq=(V.Ds j).Zaq:=by
     by_cases e:j=i
     .subst e;rw[QX,UR]
     .rw[QP _ _ e]
    show(upd V.Ds i (Yn (S.ops [YH k m i key v] d f) (V.Ds i)) j).Zaq<=_;rw[h8];omega
   .by_cases e:j=i
    .subst e;simp only[QX] at hT⊢;cases hT;exact⟨g1,by rw[g2];exact af.laid Z⟩
    .simp only[QP _ _ e] at hT⊢;obtain⟨h5,h6⟩:=hs.in_ j F T hT;exact⟨h5.mono Qw,h6⟩
   .by_cases e:j=i
    .subst e;simp only[QX];exact⟨_,rfl,by rw[g2];exact(ae aj).laid Z⟩
    .simp only[QP _ _ e];exact hs.snd j F aj
  .have e:j≠i:=λe=>by subst e;simp only[QX] at U;cases U
   simp only[QP _ _ e] at U⊢;exact h.o j F U
 .refine Zy ⟨c1,c2,λkeep tn=>h.rk ha hg hE (λj e=>QP _ _ e) λ_=> ?_⟩;rw[QX];have ai:((QH (S.ops [YH k m i key v] d f) V.P (V.Ds i)).2.2.lost (keep i) (tn i)).dead=false:=(XK _ V.P (V.Ds i)).2.trans O;rcases ah.Zbv M.hK ok O C hp (by rw[c1];decide) (keep i) (tn i) with ⟨x1,J⟩|⟨x1,J⟩
  .exact⟨_,_,_,_,Es (x1.mono Qw) ai (by rw[J];exact af) (λe=>by rw[J];exact ae e) hg,λ_=>rfl⟩
  .exact⟨_,_,_,_,Es x1 ai (by rw[J];exact af.laid Z) (λe=>by rw[J];exact(ae e).laid Z) hg,λ_=>rfl⟩
variable{Ds:Nat->Dk}{a b c:Value}{bl:List Nat}{hb q:Nat}{l:List Value}{p:Nat×Bs×Bool}{w w':World}
def ZaW(V:Ev)(i g:Nat):Int×Ev:=if Ag V i=2 then((WK V i g).1,C7 V i g) else(0,V)
structure HAt(B:Nat)(G:Eg)(hb:Nat)(bl:Qj)(V:Ev)(p:Nat×Bs×Bool)(w w':Qs):Prop where
 row:Xb w' hb G.s p.1 p.2.1 p.2.2
 set:∃bl',EAt B w' G V bl'/\(∀q∈bl',q∈bl∨w.heap.size<=q)/\Fr (hb::G.p::bl) w w'
abbrev G8(w:Qs)(q:Nat)(a b c:Qt):Qs:=((w.setCell ⟨q,0,none⟩ a).setCell ⟨q,1,none⟩ b).setCell ⟨q,2,none⟩ c
def CU:Fr [q] w (G8 w q a b c):=(((Fr.refl [q] w).setCell (Zv Qx) _).setCell (Zv Qx) _).setCell (Zv Qx) _
def HAt.Zbh(h:HAt B G hb bl V p w w')(F:Row w' q 120 l)(O:w<=q):HAt B G hb bl V p w (G8 w' q a b c):=by obtain⟨⟨rd,J⟩,bl',e,g,f⟩:=h;refine⟨⟨rd,J.fr CU (by rw[Z6];exact Row.ne J F Qz)⟩,bl',e.fr CU (QL.row F (ts:=[120]) Qz) Qz Qz Qz (λk C hm=>by rw[Z6] at hm;subst hm;exact e.Zap F Qz C),g,f.trans CU (λk C M=>by rw[Z6] at C;omega)⟩
def HAt.from(h:HAt B G hb bl V p w w'){w0:Qs}(C:Below w0 w0 w):HAt B G hb bl V p w0 w':=by have⟨F,bl',e,g,f⟩:=h;exact⟨F,bl',e,λk J=>(g k J).imp id (Zq C.size),(Z1 (L:=hb::G.p::bl) C).trans f (λi hi _=>hi)⟩
theorem HAt.of{J:Ev}{F:Qj}(M:EAt B w1 G J F/\(∀k∈F,k∈bl∨w.heap.size<=k)/\Fr (G.p::bl) w w1)(O:HAt B G hb F V p w1 w'):HAt B G hb bl V p w w':=by
 have⟨r,bl',e,g,f⟩:=O;obtain⟨-,g1,f1⟩:=M;refine⟨r,bl',e,λk C=> ?_,(f1.mono (L':=hb::G.p::bl) (λk C _=>Zh _ C)).trans f (λk C U=> ?_)⟩
 .rcases g k C with h|h
  .exact g1 k h
  .exact Zy (Zq f1.size h)
 .grind
def Ye.row(h:Ye B G bl P Ds w w')(F:EAt B w G V bl){g:Nat}{e:Qu}{l:Qk}(C:Row w g e l)(he:e∉J9):Row w' g e l:=by obtain⟨-, -, -, -,f⟩:=h;exact C.fr f (F.Zap C he)
def Ye.Zbh(h:Ye B G bl P Ds w w')(J:Row w' q 120 l)(F:w<=q):Ye B G bl P Ds w (G8 w' q a b c):=h.fr CU (QL.row J (ts:=[120]) Qz) Qz (λk C=>by rw[Z6] at C;subst C;exact Zy F)
def Jk(B:Nat)(G:Eg)(hb:Nat)(bl:Qj)(P:Pw)(Ds:Nat->Dk)(w w':Qs):Prop:=Y6 w' G.p P/\(∃blx,DAt B w' G.p G.n G.ds P Ds blx/\∀q∈blx,q∈bl∨w.heap.size<=q)/\Fr (hb::G.p::bl) w w'
def Ye.Zbo(h:Ye B G bl P Ds w w')(hb:Nat)(J:1<=G.n):Jk B G hb bl P Ds w w':=by
 refine⟨?_,h.at_,?_⟩
 .obtain⟨Ls,C, -⟩:=h;exact(C 0 Qw).pw
 .obtain⟨-, -, -, -,f⟩:=h;exact f.mono (L':=hb::G.p::bl) (λk F _=>Zh _ F)
def Aa(B:Nat)(G:Eg)(hb:Nat)(bl:Qj)(w:Qs)(r:Int×Ev×(Nat×Bs×Bool))(e:Qv)(w':Qs):Prop:=∃ (x:Int) (y:Qq) (z:Int) (b ev:Qt),e=.returned (.tuple #[.agg #[(x:Int),.string y,(z:Int)],b,ev])/\QK w' w r.1 ev/\(r.1=0->HAt B G hb bl r.2.1 r.2.2 w w')/\(r.1≠0->Jk B G hb bl r.2.1.P r.2.1.Ds w w')
def WA(V:Ev)(n g i:Nat):Int×Ev×(Nat×Bs×Bool):=((ZaW V i g).1,(ZaW V i g).2,WU n (Yx (ZaW V i g).2 n) i [])
def Kv(V:Ev)(i:Nat):Ag V i=1∨Ag V i=0∨Ag V i=2/\(V.Ds i).dead=false/\V.Ms i=none:=by unfold Ag;cases (V.Ds i).dead<;>cases h:V.Ms i<;>simp
def Pn(B:Nat)(w:Qs)(G:Eg)(bl:Qj)(hb i:Nat)(af:Bs)(sh:Bool)(h:QR K E k m n g H sd V)(he:EAt B w G V bl)(hn:G.n=n)(ht:Ty w)(cn:0<B)(hh:Xb w hb G.s i af sh)(hi:i<n)(hp:V.P.gone=false)(hg:g<=1000000000)(hE:1<=E):Calls prog 70 #[hb] w (Aa B G hb bl w (WA V n g i)):=by
 have⟨rd,ah⟩:=hh;have ay:i<G.n:=Qw;have ak:Below w w (w.alloc (.cells #[(0:Int),.string ⟨#[]⟩,(0:Int)] 120)):=(Zu _ _).alloc (Zt _) _;have hs0:Row (w.alloc (.cells #[(0:Int),.string ⟨#[]⟩,(0:Int)] 120)) w 120 [.int .i64 0,.string ⟨#[]⟩,.int .i64 0]:=by exact Z2 w _ [.int .i64 0,.string ⟨#[]⟩,.int .i64 0]
 have au:=he.after ak;have bf:=ah.after ak;have hk:=h.keys au hn;have:=bf.c0;have C:=Q0 au bf hs0 hk (ht.below ak) ak;have:=ZI he.alive;rcases Kv V i with hc|hc|⟨hc,hd,hM⟩
 .have hv:ZaW V i g=(0,V):=by unfold ZaW;rw[hc];rfl
  unfold WA;rw[hv];have HC:=ZI hc;go_enter func70,ntmps70;go_wp2_with (first|(go_at_call 43;go_fit C.4;rintro e w1 ⟨a1,c1,rfl, -, -, -,Z⟩;have F:=QG.row Z C.1 C.2 Qz;have d10:=F.c0;have d11:=F.c1;have R1:=ZX Z F (QG.row Z C.1 C.3 Qz))|(go_at_call 60;have⟨ag,e1,g1,f1⟩:=R1.1;refine(Fw B _ G V ag i e1 ay).mono ?_;rw[HC.o];rintro e w2 ⟨rfl,ae⟩;have M:=QG.trans ⟨e1,g1,f1⟩ ae;have F:=QG.row M C.1 C.2 Qz;have d20:=F.c0;have U:=ZX M F (QG.row M C.1 C.3 Qz))|(go_at_call 117;have⟨aj,e2,g2,f2⟩:=U.1;go_fit (Fx B _ G aj hb i af [] sh h e2 hn ⟨rd,U.2⟩ hi);rintro e w4 ⟨rfl,h4,aq,e4,g4,f4⟩;have hA:HAt B G hb bl V (WU n (Yx V n) i []) (w.alloc (.cells #[(0:Int),.string ⟨#[]⟩,(0:Int)] 120)) w4:=HAt.of ⟨e2,g2,f2⟩ ⟨h4,aq,e4,g4,f4⟩;have J:=U.3.fr f4 (λhm=>(by rcases Zk.1 hm with O|O;exact Row.ne U.3 U.2 Qz O;exact e2.Zap U.3 Qz O));have s0:=J.c0;have s1:=J.c1;have s2:=J.c2;have t0:=J.free (j:=0) Qx;have t1:=J.free (j:=1) Qx;have t2:=J.free (j:=2) Qx;have R4:=ZM hA J));have hy:=(((R4.2.set 0 (.int .i64 (i:Int))).set 1 (.string ⟨#[]⟩)).set 2 (.int .i64 1));have y0:=hy.c0;have y1:=hy.c1;have y2:=hy.c2;exact ZD (v:=.tuple #[.agg #[(i:Int),.string ⟨#[]⟩,(1:Int)],true,.nilIface]) (by simp[results,go_sem,y0,y1,y2]) rfl ⟨_,_,_,_,_,rfl,QK.nil _ _,λ_=>((R4.1.from C.6).Zbh R4.2 (Zt _)),λh=>absurd rfl h⟩
 .have hv:ZaW V i g=(0,V):=by unfold ZaW;rw[hc];rfl
  unfold WA;rw[hv];have HC:=ZI hc;go_enter func70,ntmps70;go_wp2_with (first|(go_at_call 43;go_fit C.4;rintro e w1 ⟨a1,c1,rfl, -, -, -,Z⟩;have F:=QG.row Z C.1 C.2 Qz;have d10:=F.c0;have d11:=F.c1;have R1:=ZX Z F (QG.row Z C.1 C.3 Qz))|(go_at_call 60;have⟨ag,e1,g1,f1⟩:=R1.1;refine(Fw B _ G V ag i e1 ay).mono ?_;rw[HC.o];rintro e w2 ⟨rfl,ae⟩;have M:=QG.trans ⟨e1,g1,f1⟩ ae;have F:=QG.row M C.1 C.2 Qz;have d20:=F.c0;have U:=ZX M F (QG.row M C.1 C.3 Qz))|(go_at_call 117;have⟨aj,e2,g2,f2⟩:=U.1;go_fit (Fx B _ G aj hb i af [] sh h e2 hn ⟨rd,U.2⟩ hi);rintro e w4 ⟨rfl,h4,aq,e4,g4,f4⟩;have hA:HAt B G hb bl V (WU n (Yx V n) i []) (w.alloc (.cells #[(0:Int),.string ⟨#[]⟩,(0:Int)] 120)) w4:=HAt.of ⟨e2,g2,f2⟩ ⟨h4,aq,e4,g4,f4⟩;have J:=U.3.fr f4 (λhm=>(by rcases Zk.1 hm with O|O;exact Row.ne U.3 U.2 Qz O;exact e2.Zap U.3 Qz O));have s0:=J.c0;have s1:=J.c1;have s2:=J.c2;have t0:=J.free (j:=0) Qx;have t1:=J.free (j:=1) Qx;have t2:=J.free (j:=2) Qx;have R4:=ZM hA J));have hy:=(((R4.2.set 0 (.int .i64 0)).set 1 (.string ⟨#[]⟩)).set 2 (.int .i64 0));have y0:=hy.c0;have y1:=hy.c1;have y2:=hy.c2;exact ZD (v:=.tuple #[.agg #[(0:Int),.string ⟨#[]⟩,(0:Int)],false,.nilIface]) (by simp[results,go_sem,y0,y1,y2]) rfl ⟨_,_,_,_,_,rfl,QK.nil _ _,λ_=>((R4.1.from C.6).Zbh R4.2 (Zt _)),λh=>absurd rfl h⟩
 .have hv:ZaW V i g=((WK V i g).1,C7 V i g):=by unfold ZaW;rw[hc];rfl
  unfold WA;rw[hv];have h0:=h.ZaE;have ct:V.k=k:=h0.vk;have cu:V.m=m:=h0.vm;have cr:=h0.kn;have bj:=he.nle;have hw:(V.Ds i).wait.length<=1000:=by
   rcases h.o i hi hM with O|⟨-,O, -⟩
   .rw[hd] at O;cases O
   .rw[O];simp
  have hj:=λ(w1:Qs) (ag:Qj) (e1:EAt B w1 G V ag) (t1:Ty w1)=>Z19 B w1 G V ag K i g e1 t1 cn ay hM h0.hK Qw Qw h0.vg hg hw hd;have bu:=(h.Zca (by rw[<-hn];exact he.alive) hp hg hE hi hM hd).2;have HC:=ZI hc;have⟨c,bq⟩:=ZK (WK V i g).1;rw[bq] at hj bu⊢;have HJ:=ZI hj;rcases bu with ⟨rfl, -,hX⟩|⟨rfl, -, -⟩
  .have HX:=ZI hX;go_enter func70,ntmps70;go_wp2_with (first|(go_at_call 43;go_fit C.4;rintro e w1 ⟨a1,c1,rfl, -, -, -,Z⟩;have F:=QG.row Z C.1 C.2 Qz;have d10:=F.c0;have d11:=F.c1;have R1:=ZX Z F (QG.row Z C.1 C.3 Qz))|(go_at_call 60;have⟨ag,e1,g1,f1⟩:=R1.1;refine(Fw B _ G V ag i e1 ay).mono ?_;rw[HC.o];rintro e w2 ⟨rfl,ae⟩;have M:=QG.trans ⟨e1,g1,f1⟩ ae;have F:=QG.row M C.1 C.2 Qz;have d20:=F.c0;have U:=ZX M F (QG.row M C.1 C.3 Qz))|(go_at_call 116;have⟨aj,e2,g2,f2⟩:=U.1;go_fit (HJ.o _ _ e2 (QG.ty U.1 C.1 C.5));rintro e w3 ⟨bm,rfl,aw,az, -, -⟩;obtain rfl:=aw.zero;have M:=QG.trans ⟨e2,g2,f2⟩ (az (by first|rfl|trivial));have F:=QG.row M C.1 C.2 Qz;have R3:=ZN M F (QG.row M C.1 C.3 Qz))|(go_at_call 117;have⟨aj,e2,g2,f2⟩:=R3.1;go_fit (Fx B _ G aj hb i af [] sh HX.o e2 hn ⟨rd,R3.2.1⟩ hi);rintro e w4 ⟨rfl,h4,aq,e4,g4,f4⟩;have hA:HAt B G hb bl (C7 V i g) (WU n (Yx (C7 V i g) n) i []) (w.alloc (.cells #[(0:Int),.string ⟨#[]⟩,(0:Int)] 120)) w4:=HAt.of ⟨e2,g2,f2⟩ ⟨h4,aq,e4,g4,f4⟩;have J:=R3.2.2.fr f4 (λhm=>(by rcases Zk.1 hm with O|O;exact Row.ne R3.2.2 R3.2.1 Qz O;exact e2.Zap R3.2.2 Qz O));have s0:=J.c0;have s1:=J.c1;have s2:=J.c2;have t0:=J.free (j:=0) Qx;have t1:=J.free (j:=1) Qx;have t2:=J.free (j:=2) Qx;have R4:=ZM hA J));have hy:=(((R4.2.set 0 (.int .i64 (i:Int))).set 1 (.string ⟨#[]⟩)).set 2 (.int .i64 2));have y0:=hy.c0;have y1:=hy.c1;have y2:=hy.c2;exact ZD (v:=.tuple #[.agg #[(i:Int),.string ⟨#[]⟩,(2:Int)],true,.nilIface]) (by simp[results,go_sem,y0,y1,y2]) rfl ⟨_,_,_,_,_,rfl,QK.nil _ _,λ_=>((R4.1.from C.6).Zbh R4.2 (Zt _)),λh=>absurd rfl h⟩
  .go_enter func70,ntmps70;go_wp2_with (first|(go_at_call 43;go_fit C.4;rintro e w1 ⟨a1,c1,rfl, -, -, -,Z⟩;have F:=QG.row Z C.1 C.2 Qz;have d10:=F.c0;have d11:=F.c1;have R1:=ZX Z F (QG.row Z C.1 C.3 Qz))|(go_at_call 60;have⟨ag,e1,g1,f1⟩:=R1.1;refine(Fw B _ G V ag i e1 ay).mono ?_;rw[HC.o];rintro e w2 ⟨rfl,ae⟩;have M:=QG.trans ⟨e1,g1,f1⟩ ae;have F:=QG.row M C.1 C.2 Qz;have d20:=F.c0;have U:=ZX M F (QG.row M C.1 C.3 Qz))|(go_at_call 116;have⟨aj,e2,g2,f2⟩:=U.1;go_fit (HJ.o _ _ e2 (QG.ty U.1 C.1 C.5));rintro e w3 ⟨bm,rfl,aw, -,ai,bg⟩;have M:=Ye.trans ⟨e2,g2,f2⟩ ai;have F:=M.row C.1 C.2 Qz;have R3:=ZQ M F (M.row C.1 C.3 Qz) (bg hp (by first|decide|trivial|simp)) aw f2.size)|(go_at_call 117;have⟨l9,cj,bz⟩:=R3.2.2.2.1;go_fit (Pm _ hb G.s i af [] sh l9 ⟨rd,R3.2.1⟩ cj bz);rintro e w4 ⟨rfl,bh⟩;have J:=R3.2.2.1.after bh;have s0:=J.c0;have s1:=J.c1;have s2:=J.c2;have t0:=J.free (j:=0) Qx;have t1:=J.free (j:=1) Qx;have t2:=J.free (j:=2) Qx;have R4:=ZO (R3.1.after bh) J (R3.2.2.2.2.1.after bh) R3.2.2.2.2.2));have hy:=(((R4.2.1.set 0 (.int .i64 (i:Int))).set 1 (.string ⟨#[]⟩)).set 2 (.int .i64 2));have y0:=hy.c0;have y1:=hy.c1;have y2:=hy.c2;exact ZD (v:=.tuple #[.agg #[(i:Int),.string ⟨#[]⟩,(2:Int)],true,bm]) (by simp[results,go_sem,y0,y1,y2]) rfl ⟨_,_,_,_,_,rfl,(R4.2.2.1.fr (CU (q:=w.heap.size)) (λk hk=>(by have O:=R4.2.2.2;rw[Z6] at hk;simp at O;omega))).base (by have O:=R4.2.2.2;simp at O;omega),λh=>absurd h (by show¬ (10:Int)=0;decide),λ_=>((R4.1.from C.6).Zbh R4.2.1 (Zt _)).Zbo hb Qw⟩
variable{r:Int×Ev×(Nat×Bs×Bool)}
def Ws(H:Bs->Option Bs)(V:Ev)(i:Nat)(key:Bs):Int×Ev:=if AJ (YI V i key)=0 then(0,V) else(Yi V (i,λ_=>[YH V.k V.m i key ((H key).getD [])]),Y3 V (i,λ_=>[YH V.k V.m i key ((H key).getD [])]))
def CK(L:List Bs)(key:Bs):Option Bs:=L.find? λx=>gtB x key
def Bb(H:Bs->Option Bs)(V:Ev)(n g i:Nat)(key:Bs):Int×Ev×(Nat×Bs×Bool):=match CK (Yx V n) key with
 |some x=>((Ws H V i x).1,(Ws H V i x).2,WU n (Yx (Ws H V i x).2 n) i x)
 |none=>WA V n g (if i+1=n then 0 else i+1)
def WS(H:Bs->Option Bs)(V:Ev)(n g:Nat)(p:Nat×Bs×Bool):Int×Ev×(Nat×Bs×Bool):=if p.2.2 then Bb H V n g p.1 p.2.1 else WA V n g p.1
def Jk.from(h:Jk B G hb bl P Ds w w'){w0:Qs}(C:Below w0 w0 w):Jk B G hb bl P Ds w0 w':=by obtain⟨J,⟨F,M,O⟩,f⟩:=h;exact⟨J,⟨F,M,λq U=>(O q U).imp id (Zq C.size)⟩,(Z1 (L:=hb::G.p::bl) C).trans f (λi hi _=>hi)⟩
def DAt.frT{p:Nat}{ds:Nat->Nat}(h:DAt B w p n ds P Ds bl){Y:Qj}{ts:List Qu}(M:Fr Y w w')(O:QL w Y ts)(J:∀e∈ts,e∉Az):DAt B w' p n ds P Ds bl:=by obtain⟨Ls,rfl,C,F⟩:=h;exact⟨Ls,rfl,λi hi=>(C i hi).fr M (O.Zb5 (C i hi).typed J),F⟩
def Jk.Zbh(h:Jk B G hb bl P Ds w w')(hn:1<=G.n)(Z:Row w' q 120 l)(hq:w<=q):Jk B G hb bl P Ds w (G8 w' q a b c):=by obtain⟨h1,⟨F,J,M⟩,f⟩:=h;have C:=J.frT (CU (a:=a) (b:=b) (c:=c)) (QL.row Z (ts:=[120]) Qz) Qz;refine⟨?_,⟨F,C,M⟩,f.trans CU (λk U ae=>by rw[Z6] at U;omega)⟩;obtain⟨Ls, -,O, -⟩:=C;exact(O 0 Qw).pw
def Z7m(C:r.1=0->HAt B G hb bl r.2.1 r.2.2 w w')(F:r.1≠0->Jk B G hb bl r.2.1.P r.2.1.Ds w w'):Fr (hb::G.p::bl) w w':=by
 by_cases h:r.1=0
 .obtain⟨-,bl', -, -,f⟩:=C h;exact f
 .exact(F h).2.2
def Mx(C:r.1=0->HAt B G hb bl r.2.1 r.2.2 w w')(F:r.1≠0->Jk B G hb bl r.2.1.P r.2.1.Ds w w')(e:EAt B w G V bl){l':Qk}(hh:Row w hb 138 l')(h:Row w q 120 l):Row w' q 120 l:=
 h.fr (Z7m C F) (λhm=>by
  rcases Zk.1 hm with h9|h9
  .exact Row.ne h hh Qz h9
  .exact e.Zap h Qz h9)
def Aa.Zbh{x z:Int}{y:Qq}{b2 ev:Qt}(Z:1<=G.n)(C:Below w0 w0 w)(he:QK w' w r.1 ev)(M:r.1=0->HAt B G hb bl r.2.1 r.2.2 w w')(O:r.1≠0->Jk B G hb bl r.2.1.P r.2.1.Ds w w')(F:Row w' w0 120 l)(J:w0<w.heap.size):Aa B G hb bl w0 r (.returned (.tuple #[.agg #[x,.string y,z],b2,ev])) (G8 w' w0 a b c):=⟨x,y,z,b2,ev,rfl,(he.fr (CU (q:=w0.heap.size)) (λk U=>by rw[Z6] at U;omega)).base (ZeK J),λh=>((M h).from C).Zbh F (Zt _),λh=>((O h).from C).Zbh Z F (Zt _)⟩
def Z2N(f:Bool)(B:Nat)(w:Qs)(G:Eg)(bl:Qj)(hb i:Nat)(key:Bs)(r:Int×Ev×(Nat×Bs×Bool))(he:EAt B w G V bl)(hh:Xb w hb G.s i key f)(hn:1<=G.n)(hc:∀w1 ag,EAt B w1 G V ag->Ty w1->Xb w1 hb G.s i key f->Calls prog (if f then 231 else 70) #[.pointer hb] w1 (Aa B G hb ag w1 r))(ht:Ty w):Calls prog 58 #[hb] w (Aa B G hb bl w r):=by
 have⟨rd,ae⟩:=hh;have J:Below w w (w.alloc (.cells #[(0:Int),.string ⟨#[]⟩,(0:Int)] 120)):=(Zu _ _).alloc (Zt _) _;have hs0:Row (w.alloc (.cells #[(0:Int),.string ⟨#[]⟩,(0:Int)] 120)) w 120 [.int .i64 0,.string ⟨#[]⟩,.int .i64 0]:=Z2 w _ [.int .i64 0,.string ⟨#[]⟩,.int .i64 0];have ah:=hc _ _ (he.after J) (ht.below J) ⟨rd,ae.after J⟩;have d3:=(ae.after J).c3;have F:=ZZ ah J hs0 (he.after J) (ae.after J);cases f
 .replace d3:(w.alloc (.cells #[(0:Int),.string ⟨#[]⟩,(0:Int)] 120)).cell? ⟨hb,3,none⟩=some (.func (.func 70) #[.pointer hb] #[]):=d3;go_enter func58,ntmps58;go_wp2_with (go_at_call 70;go_fit F.1;rintro e w1 ⟨x1,x2,x3,b1,af,rfl,Z,O,M⟩;have h:Row w1 w 120 [(0:Int),.string ⟨#[]⟩,(0:Int)]:=Mx O M F.4 F.5 F.3;have s0:=h.c0;have s1:=h.c1;have s2:=h.c2;have t0:=h.free (j:=0) Qx;have t1:=h.free (j:=1) Qx;have t2:=h.free (j:=2) Qx;have C:=ZY h Z O M);have U:=(((C.1.set 0 (.int .i64 x1)).set 1 (.string x2)).set 2 (.int .i64 x3));have y0:=U.c0;have y1:=U.c1;have y2:=U.c2;refine ZD (v:=.tuple #[.agg #[(x1:Int),.string x2,(x3:Int)],b1,af]) ?_ rfl ?_
  .simp[results,go_sem,y0,y1,y2]
  exact Aa.Zbh hn F.2 C.2 C.3 C.4 C.1 Qx
 .replace d3:(w.alloc (.cells #[(0:Int),.string ⟨#[]⟩,(0:Int)] 120)).cell? ⟨hb,3,none⟩=some (.func (.func 231) #[.pointer hb] #[]):=d3;go_enter func58,ntmps58;go_wp2_with (go_at_call 231;go_fit F.1;rintro e w1 ⟨x1,x2,x3,b1,af,rfl,Z,O,M⟩;have h:Row w1 w 120 [(0:Int),.string ⟨#[]⟩,(0:Int)]:=Mx O M F.4 F.5 F.3;have s0:=h.c0;have s1:=h.c1;have s2:=h.c2;have t0:=h.free (j:=0) Qx;have t1:=h.free (j:=1) Qx;have t2:=h.free (j:=2) Qx;have C:=ZY h Z O M);have U:=(((C.1.set 0 (.int .i64 x1)).set 1 (.string x2)).set 2 (.int .i64 x3));have y0:=U.c0;have y1:=U.c1;have y2:=U.c2;refine ZD (v:=.tuple #[.agg #[(x1:Int),.string x2,(x3:Int)],b1,af]) ?_ rfl ?_
  .simp[results,go_sem,y0,y1,y2]
  exact Aa.Zbh hn F.2 C.2 C.3 C.4 C.1 Qx
def QR.Zbz(h:QR K E k m n g H sd V){key v:Bs}(C:H key=some v):Cs K E V n key v/\V.k<=WY V key v n:=⟨⟨(h.ZaE.Zbz C).b,(h.ZaE.Zbz C).t⟩,h.ZaE.ZcT C⟩
theorem QR.Zcl(h:QR K E k m n g H sd V){B:Nat}{w:Qs}{G:Eg}{bl:Qj}{i:Nat}{key v:Bs}(he:EAt B w G V bl)(M:G.n=n)(O:Ty w)(J:0<B)(hi:i<n)(U:H key=some v)(Z:key∈K)(hv:v.length<=200)(hp:V.P.gone=false):Calls prog 61 #[G.s,(i:Int),key] w λe w'=>e=.returned (.tuple #[(AJ (YI V i key):Int),.nilIface])/\QG B G bl V w w':=by
 have C:=h.ZaE;have⟨q1,q2⟩:=h.Zbz U;have hl:=C.hK.len key Z;have:V.k=k:=C.vk;have:V.m=m:=C.vm;have:=C.k1;have:=C.kn;have hc:YI V i key≠10:=by
  unfold YI;rw[hp];cases V.Ms i with
  |none=>simp;grind
  |some S=>simp;grind
 refine(Z2K B w G V bl i key (YI V i key) he O J (Z3E V i key) (Kz B w G V bl K E i key v he O J Qw hl.1 Qw hv Qw Qw (by rw[M];exact q1) (by rw[M];omega))).mono ?_;rintro e w' ⟨ev,rfl,F,hr⟩;rw[Zw hc] at F;rw[F.zero];exact⟨rfl,hr⟩
theorem QR.Zdj(h:QR K E k m n g H sd V){B:Nat}{w:Qs}{G:Eg}{bl:Qj}{i:Nat}{key v:Bs}(he:EAt B w G V bl)(M:G.n=n)(ht:Ty w)(U:0<B)(hi:i<n)(F:H key=some v)(J:key∈K)(hv:v.length<=200)(hp:V.P.gone=false)(Z:E<=2000000000)(hs:AJ (YI V i key)≠0):Calls prog 258 #[G.s,(i:Int),key] w λe w'=>∃ev,e=.returned ev/\QK w' w (Ws H V i key).1 ev/\((Ws H V i key).1=0->QG B G bl (Ws H V i key).2 w w')/\Ye B G bl (Ws H V i key).2.P (Ws H V i key).2.Ds w w'/\((Ws H V i key).1≠0->De w' G.s):=by
 have C:=h.ZaE;have⟨O,q2⟩:=h.Zbz F;have hl:=C.hK.len key J;have:V.k=k:=C.vk;have:V.m=m:=C.vm;have:=C.k1;have:=C.kn;have hc:YI V i key=13∨YI V i key=14:=by unfold AJ at hs;grind
 have hM:∃S,V.Ms i=some S:=by
  cases hM:V.Ms i with
  |none=>unfold YI at hc;rw[hM] at hc;simp at hc;grind
  |some S=>exact⟨S,rfl⟩
 have⟨S,hM⟩:=hM;have⟨d,f,ha⟩:=Li (k:=V.k) (m:=V.m) (i:=i) (O.b i hi S hM) C.hK Qw J hv;unfold Ws;rw[Zw hs,F];exact Z1h B w G V bl K E i S key v d f he ht U Qw hM hl.1 Qw hv Qw Qw (by rw[M];exact O) (by rw[M];exact q2) C.hK Z ha hp hc
def QR.vis(h:QR K E k m n g H sd V)(ha:XO n V)(F:V.P.gone=false)(U:g<=1000000000)(M:1<=E){i:Nat}(hi:i<n){key v:Bs}(C:H key=some v)(J:key∈K)(hv:v.length<=200):(V.P.Zas<0->(Ws H V i key).1=0/\(Ws H V i key).2.P.Zas<0)/\ (((Ws H V i key).1=0/\(Ws H V i key).2.P.gone=false/\QR K (E+1) k m n g H sd (Ws H V i key).2)∨ ((Ws H V i key).1=10/\(Ws H V i key).2.P.gone=true/\∀ (keep:Nat->List Bool) (Z:Nat->Int),Rk K (E+1) k m g n H sd (λj=>((Ws H V i key).2.Ds j).lost (keep j) (Z j)))):=by
 unfold Ws;by_cases hs:AJ (YI V i key)=0
 .rw[Zx hs];exact⟨λO=>⟨rfl,O⟩,Zv ⟨rfl,F,h.mono (ZeE E)⟩⟩
 .rw[Zw hs,C,show V.k=k from h.ZaE.vk,show V.m=m from h.ZaE.vm];cases hM:V.Ms i with
  |none=>exfalso;apply hs;unfold YI;rw[hM];cases (V.Ds i).dead<;>rfl
  |some S=>exact h.laid ha F U M hi hM C J hv
def QR.ZaW(h:QR K E k m n g H sd V)(ha:XO n V)(F:V.P.gone=false)(O:g<=1000000000)(J:1<=E){i:Nat}(hi:i<n):(V.P.Zas<0->(ZaW V i g).1=0/\(ZaW V i g).2.P.Zas<0)/\ (((ZaW V i g).1=0/\(ZaW V i g).2.P.gone=false/\QR K (E+1) k m n g H sd (ZaW V i g).2)∨ ((ZaW V i g).1=10/\(ZaW V i g).2.P.gone=true/\∀ (keep:Nat->List Bool) (U:Nat->Int),Rk K (E+1) k m g n H sd (λj=>((ZaW V i g).2.Ds j).lost (keep j) (U j)))):=by
 unfold Go.Proofs.YthppfllkocphbaaGreatDoor.ZaW;rcases Kv V i with hc|hc|⟨hc,M,hM⟩
 .rw[hc,Zw Qz];exact⟨λC=>⟨rfl,C⟩,Zv ⟨rfl,F,h.mono (ZeE E)⟩⟩
 .rw[hc,Zw Qz];exact⟨λC=>⟨rfl,C⟩,Zv ⟨rfl,F,h.mono (ZeE E)⟩⟩
 .rw[Zx hc];exact h.Zca ha F O J hi hM M
def QR.step(h:QR K E k m n g H sd V)(hK:∀x v,H x=some v->x∈K/\v.length<=200)(ha:XO n V)(Z:V.P.gone=false)(U:g<=1000000000)(O:1<=E){p:Nat×Bs×Bool}(hi:p.1<n):(V.P.Zas<0->(WS H V n g p).1=0/\(WS H V n g p).2.1.P.Zas<0)/\ (((WS H V n g p).1=0/\(WS H V n g p).2.1.P.gone=false/\QR K (E+1) k m n g H sd (WS H V n g p).2.1/\(WS H V n g p).2.2.1<n)∨ ((WS H V n g p).1=10/\(WS H V n g p).2.1.P.gone=true/\∀ (keep:Nat->List Bool) (C:Nat->Int),Rk K (E+1) k m g n H sd (λj=>((WS H V n g p).2.1.Ds j).lost (keep j) (C j)))):=by
 have J:∀{L:List Bs} {j:Nat} {x:Bs},j<n->(WU n L j x).1<n:=fun{L j x} hj=>by
  unfold WU;split
  .exact hj
  .dsimp only;split<;>omega
 have M:∀{j:Nat},j<n->(V.P.Zas<0->(WA V n g j).1=0/\(WA V n g j).2.1.P.Zas<0)/\
  (((WA V n g j).1=0/\(WA V n g j).2.1.P.gone=false/\QR K (E+1) k m n g H sd (WA V n g j).2.1/\(WA V n g j).2.2.1<n)∨
    ((WA V n g j).1=10/\(WA V n g j).2.1.P.gone=true/\∀ (keep:Nat->List Bool) (C:Nat->Int),Rk K (E+1) k m g n H sd (λi=>((WA V n g j).2.1.Ds i).lost (keep i) (C i)))):=fun{j} hj=>by
  have⟨x1,F⟩:=h.ZaW ha Z U O hj;refine⟨x1,F.imp (λx=>⟨x.1,x.2.1,x.2.2,J hj⟩) id⟩
 unfold WS;split
 .unfold Bb;cases hx:CK (Yx V n) p.2.1 with
  |none=>exact M (by split<;>omega)
  |some x=>have ae:x∈Yx V n:=Zgv hx;have hH:=(h.ZaE.keys.2 x).1 ae;have⟨v,hv⟩:=ZdT.1 hH;have⟨af,ag⟩:=hK x v hv;have⟨x1,F⟩:=h.vis ha Z U O hi hv af ag;refine⟨x1,F.imp (λx=>⟨x.1,x.2.1,x.2.2,J hi⟩) id⟩
 .exact M hi
variable{bl1:List Nat}
theorem Zak(g1:∀k∈bl1,k∈bl∨w.heap.size<=k)(f1:Fr (hb::G.p::bl) w w1)(F:HAt B G hb bl1 V p w1 w'):HAt B G hb bl V p w w':=by
 have⟨r,bl',e,g,f⟩:=F;refine⟨r,bl',e,λk C=> ?_,f1.trans f (λk C J=> ?_)⟩
 .rcases g k C with h|h
  .exact g1 k h
  .exact Zy (Zq f1.size h)
 .grind
theorem Zah(g1:∀k∈bl1,k∈bl∨w.heap.size<=k)(f1:Fr (hb::G.p::bl) w w1)(J:Jk B G hb bl1 P Ds w1 w'):Jk B G hb bl P Ds w w':=by
 obtain⟨r,⟨F,e,g⟩,f⟩:=J;refine⟨r,⟨F,e,λk C=> ?_⟩,f1.trans f (λk C M=> ?_)⟩
 .rcases g k C with h|h
  .exact g1 k h
  .exact Zy (Zq f1.size h)
 .grind
def Ty.one(h:Ty w)(F:Fr [q] w w')(J:0≠q):Ty w':=by have C:=F.cell (a:=⟨0,0,none⟩) h.lt (by rw[Z6];exact J);unfold Ty at h⊢;rw[C];exact h
def Z4j{L:List Bs}{x:Bs}(h:L=L.take q++x::L.drop (q+1))(C:∀y∈L.take q,gtB y key=false)(hx:gtB x key=true):CK L key=some x:=by unfold CK;rw[h,List.find?_append,List.find?_eq_none.2 (λy F=>by rw[C y F];simp),ZgY,hx];rfl
def Z2M(B:Nat)(w:Qs)(G:Eg)(bl:Qj)(hb i:Nat)(ae:Bs)(h:QR K E k m n g H sd V)(hK:∀x v,H x=some v->x∈K/\v.length<=200)(he:EAt B w G V bl)(hn:G.n=n)(ht:Ty w)(ct:0<B)(hh:Xb w hb G.s i ae true)(hi:i<n)(hp:V.P.gone=false)(hg:g<=1000000000)(hE:1<=E)(eh:E<=2000000000)(ew:B<=hb):Calls prog 231 #[hb] w (Aa B G hb bl w (Bb H V n g i ae)):=by
 have⟨rd,bm⟩:=hh;have ek:i<G.n:=Qw;have bf:Below w w (w.alloc (.cells #[(0:Int),.string ⟨#[]⟩,(0:Int)] 120)):=(Zu _ _).alloc (Zt _) _;have hs0:Row (w.alloc (.cells #[(0:Int),.string ⟨#[]⟩,(0:Int)] 120)) w 120 [.int .i64 0,.string ⟨#[]⟩,.int .i64 0]:=Z2 w _ [.int .i64 0,.string ⟨#[]⟩,.int .i64 0];have cr:=he.after bf;have df:=bm.after bf;have hk:=h.keys cr hn;have aj:∀x,x∈Yx V n->∃v,H x=some v/\x∈K/\v.length<=200:=λx hx=>by have⟨v,hv⟩:=ZdT.1 ((h.ZaE.keys.2 x).1 hx);exact⟨v,hv,hK x v hv⟩
 have:=df.c0;have⟨L,hL⟩:=ZK (Yx V n);have⟨r,J⟩:=ZK (Bb H V n g i ae);rw[J];unfold Bb at J;rw[hL] at hk aj J;have dt:=he.alive;have F:=Q0 cr df hs0 hk (ht.below bf) bf;have HM:=ZY aj dt hL J;clear cr df hs0 hk bf ht bm he aj dt hL J;go_enter func231,ntmps231;go_wp2_with (go_at_call 43;go_fit F.4;rintro e w1 ⟨a1,c1,rfl,h1,h2,h3,J⟩;have Z:=QG.row J F.1 F.2 Qz;have d10:=Z.c0;have d11:=Z.c1;have d12:=Z.c2;have R1:=Q0 J Z (QG.row J F.1 F.3 Qz) h1 h2 h3;clear J Z h1 h2 h3);have:=R1.6;go_loopw [26] (λkv wr=>∃q:Nat,q<=L.length/\kv=(q:Int)/\(∀x∈L.take q,gtB x ae=false)/\wr=w1) (λkv _=>L.length- (intOf kv).toNat)
 .exact⟨0,Qw,rfl,Qx,rfl⟩
 obtain⟨q,hq,rfl,bh,rfl⟩:=hrel;by_cases cz:q<L.length
 .obtain⟨ga,o,rfl,hc⟩:=R1.4 q (by simpa using cz);have⟨x,hx⟩:=ZK L[q];rw[Zf1,hx] at hc;have dz:x∈L:=by rw[<-hx];exact Zl cz
  have dy:L.take (q+1)=L.take q++[x]:=by rw[<-hx];exact Zc cz
  have:(q:Int)<(L.length:Int):=Qw;have af:L=L.take q++x::L.drop (q+1):=by rw[<-hx];simp
  have HN:=ZO bh dz dy af;clear bh dz dy hx af;have er:gtB x ae=true/\Op.bytesLess (str x).toList (str ae).toList=false/\((str x).toList==(str ae).toList)=false∨gtB x ae=false/\Op.bytesLess (str x).toList (str ae).toList=true∨gtB x ae=false/\Op.bytesLess (str x).toList (str ae).toList=false/\((str x).toList==(str ae).toList)=true:=by rw[Iv,Iv];unfold gtB;cases Op.bytesLess x ae<;>cases x==ae<;>simp
  rcases er with ⟨cj,e1,e2⟩|⟨hg,e1⟩|⟨hg,e1,e2⟩
  .have ak:=Z4j HN.2.2.2 HN.1 cj;have⟨v,hv,dm,dj⟩:=HM.1 x HN.2.1;have aq:=λ(w2:Qs) (ag:Qj) (e2:EAt B w2 G V ag) (t2:Ty w2)=>h.Zcl e2 hn t2 ct hi hv dm dj hp;have J:=HM.4;rw[ak] at J;dsimp only at J;have⟨kk,au⟩:=ZK (AJ (YI V i x));rw[au] at aq;have az:=(QG.ty R1.1 F.1 F.5);by_cases cy:kk=0
   .subst cy;have ay:Ws H V i x=(0,V):=by unfold Ws;rw[Zx au]
    rw[ay] at J;have HV:=ZN aq J az;clear aq J ak hv au ay cj az;go_wp2_with (first|(go_at_call 61;have⟨bl1,e1,g1,f1⟩:=R1.1;go_fit (HV.1 _ _ e1 HV.2.2);rintro e w2 ⟨rfl,ai⟩;have O:=QG.trans ⟨e1,g1,f1⟩ ai;have Z:=QG.row O F.1 F.2 Qz;have d20:=Z.c0;have M:=ZN O Z (QG.row O F.1 F.3 Qz);clear e1 g1 f1 ai O Z)|(go_at_call 117;have⟨ag,e2,g2,f2⟩:=M.1;go_fit (Fx B _ G ag hb i ae x true h e2 hn ⟨rd,M.2.1⟩ hi);rintro e w4 ⟨rfl,h4,cn,e4,g4,f4⟩;have hA:HAt B G hb bl V (WU n (Yx V n) i x) (w.alloc (.cells #[(0:Int),.string ⟨#[]⟩,(0:Int)] 120)) w4:=HAt.of ⟨e2,g2,f2⟩ ⟨h4,cn,e4,g4,f4⟩;have C:=M.2.2.fr f4 (λhm=>(by rcases Zk.1 hm with h9|h9;exact Row.ne M.2.2 M.2.1 Qz h9;exact e2.Zap M.2.2 Qz h9));have s0:=C.c0;have s1:=C.c1;have s2:=C.c2;have t0:=C.free (j:=0) Qx;have t1:=C.free (j:=1) Qx;have t2:=C.free (j:=2) Qx;have R4:=ZM hA C;clear e2 g2 f2 h4 e4 g4 f4 hA C));have U:=(((R4.2.set 0 (.int .i64 0)).set 1 (.string ⟨#[]⟩)).set 2 (.int .i64 0));have y0:=U.c0;have y1:=U.c1;have y2:=U.c2;refine ZD (v:=.tuple #[.agg #[(0:Int),.string ⟨#[]⟩,(0:Int)],false,.nilIface]) ?_ rfl ?_
    .simp[results,go_sem,y0,y1,y2]
    rw[<-HV.2.1];exact Aa.Zbh Qw F.6 (QK.nil _ _) (λh9=>R4.1) (λh9=>absurd rfl h9) R4.2 Qx
   .have⟨r1,dh⟩:=ZK (Ws H V i x);have aw:=λ(w2:Qs) (ag:Qj) (e2:EAt B w2 G V ag) (t2:Ty w2)=>h.Zdj e2 hn t2 ct hi hv dm dj hp eh (by rw[au];exact cy);have ay:=(h.vis (by rw[<-hn];exact HM.2) hp hg hE hi hv dm dj).2;rw[dh] at aw ay J;have⟨c,V1⟩:=r1;dsimp only at aw ay J;have:(kk==0)=false:=(by simp[cy]);rcases ay with ⟨rfl, -,hX⟩|⟨rfl, -, -⟩
    .have HX:=ZI hX;have HV:=ZO aq J az aw;clear aq J ak hv au cj az aw dh hX;go_wp2_with (first|(go_at_call 61;have⟨bl1,e1,g1,f1⟩:=R1.1;go_fit (HV.1 _ _ e1 HV.2.2.1);rintro e w2 ⟨rfl,ai⟩;have O:=QG.trans ⟨e1,g1,f1⟩ ai;have Z:=QG.row O F.1 F.2 Qz;have d20:=Z.c0;have M:=ZN O Z (QG.row O F.1 F.3 Qz);clear e1 g1 f1 ai O Z)|(go_at_call 258;have⟨ag,e2,g2,f2⟩:=M.1;go_fit (HV.2.2.2 _ _ e2 (QG.ty M.1 F.1 F.5));rintro e w3 ⟨dq,rfl,bg,bj, -, -⟩;obtain rfl:=bg.zero;have O:=QG.trans ⟨e2,g2,f2⟩ (bj (by first|rfl|trivial));have Z:=QG.row O F.1 F.2 Qz;have R3:=ZN O Z (QG.row O F.1 F.3 Qz);clear e2 g2 f2 bj O Z bg)|(go_at_call 117;have⟨ag,e2,g2,f2⟩:=R3.1;go_fit (Fx B _ G ag hb i ae x true HX.o e2 hn ⟨rd,R3.2.1⟩ hi);rintro e w4 ⟨rfl,h4,cn,e4,g4,f4⟩;have hA:HAt B G hb bl V1 (WU n (Yx V1 n) i x) (w.alloc (.cells #[(0:Int),.string ⟨#[]⟩,(0:Int)] 120)) w4:=HAt.of ⟨e2,g2,f2⟩ ⟨h4,cn,e4,g4,f4⟩;have C:=R3.2.2.fr f4 (λhm=>(by rcases Zk.1 hm with h9|h9;exact Row.ne R3.2.2 R3.2.1 Qz h9;exact e2.Zap R3.2.2 Qz h9));have s0:=C.c0;have s1:=C.c1;have s2:=C.c2;have t0:=C.free (j:=0) Qx;have t1:=C.free (j:=1) Qx;have t2:=C.free (j:=2) Qx;have R4:=ZM hA C;clear e2 g2 f2 h4 e4 g4 f4 hA C));have U:=(((R4.2.set 0 (.int .i64 (i:Int))).set 1 (.string (str x))).set 2 (.int .i64 kk));have y0:=U.c0;have y1:=U.c1;have y2:=U.c2;refine ZD (v:=.tuple #[.agg #[(i:Int),.string (str x),(kk:Int)],true,.nilIface]) ?_ rfl ?_
     .simp[results,go_sem,y0,y1,y2]
     rw[<-HV.2.1];exact Aa.Zbh Qw F.6 (QK.nil _ _) (λh9=>R4.1) (λh9=>absurd rfl h9) R4.2 Qx
    .have HV:=ZO aq J az aw;clear aq J ak hv au cj az aw dh;go_wp2_with (first|(go_at_call 61;have⟨bl1,e1,g1,f1⟩:=R1.1;go_fit (HV.1 _ _ e1 HV.2.2.1);rintro e w2 ⟨rfl,ai⟩;have O:=QG.trans ⟨e1,g1,f1⟩ ai;have Z:=QG.row O F.1 F.2 Qz;have d20:=Z.c0;have M:=ZN O Z (QG.row O F.1 F.3 Qz);clear e1 g1 f1 ai O Z)|(go_at_call 258;have⟨ag,e2,g2,f2⟩:=M.1;go_fit (HV.2.2.2 _ _ e2 (QG.ty M.1 F.1 F.5));rintro e w3 ⟨dq,rfl,bg, -,ah,bq⟩;have O:=Ye.trans ⟨e2,g2,f2⟩ ah;have Z:=O.row F.1 F.2 Qz;have R3:=ZP O Z (O.row F.1 F.3 Qz) (bq (by first|decide|trivial|simp)) (bg.base f2.size);clear e2 g2 f2 ah O Z bg bq)|(go_at_call 117;have⟨l9,dx,dw⟩:=R3.2.2.2.1;go_fit (Pm _ hb G.s i ae x true l9 ⟨rd,R3.2.1⟩ dx dw);rintro e w4 ⟨rfl,bz⟩;have C:=R3.2.2.1.after bz;have s0:=C.c0;have s1:=C.c1;have s2:=C.c2;have t0:=C.free (j:=0) Qx;have t1:=C.free (j:=1) Qx;have t2:=C.free (j:=2) Qx;have R4:=ZN (R3.1.after bz) C (R3.2.2.2.2.after bz);clear dx dw bz C));have U:=(((R4.2.1.set 0 (.int .i64 (i:Int))).set 1 (.string (str x))).set 2 (.int .i64 kk));have y0:=U.c0;have y1:=U.c1;have y2:=U.c2;refine ZD (v:=.tuple #[.agg #[(i:Int),.string (str x),(kk:Int)],true,dq]) ?_ rfl ?_
     .simp[results,go_sem,y0,y1,y2]
     rw[<-HV.2.1];exact Aa.Zbh Qw F.6 R4.2.2 (λh9=>absurd h9 (by show¬ (10:Int)=0;decide)) (λh9=>R4.1.Zbo hb Qw) R4.2.1 Qx
  all_goals
   have HG:=ZI hg;clear hg;go_wp2;go_roundw
   .refine⟨q+1,Qw,QC,λy U=> ?_,trivial⟩;rw[HN.2.2.1] at U;rcases Zj.1 U with U|U
    .exact HN.1 y U
    .rw[Z6] at U;rw[U];exact HG.o
   simp[intOf];omega
 .obtain rfl:q=L.length:=by omega
  rw[Zs] at bh;have ak:CK L ae=none:=List.find?_eq_none.2 (λx hx=>by rw[bh x hx];simp);have⟨i',cu⟩:=ZK (if i+1=n then 0 else i+1);have cw:i'<n:=by rw[<-cu];split<;>omega
  have HN:=ZM ak cu;clear bh ak cu;go_wp2_with (first|(go_at_call 166;have⟨bl1,e1,g1,f1⟩:=R1.1;go_fit (Pd B _ G V bl1 hb i ae ae true none 0 [] e1 ⟨rd,R1.2⟩ ek (λj hj=>absurd hj Qx) (λ_ _ e=>(by cases e)) Qx);rintro e w2 ⟨rfl,⟨ee,h2⟩,f2⟩;have bu:Row w2 hb 138 (AC hb G.s (if i+1=G.n then 0 else i+1) [] false ee):=h2;rw[hn,HN.2] at bu;have:w2.cell? ⟨hb,3,none⟩=some (.func (.func 70) #[.pointer hb] #[]):=bu.c3;have e2:=e1.fr f2 (QL.row R1.2 (ts:=[138]) Qz) Qz Qz Qz (λk hk hm=>(by rw[Z6] at hm;subst hm;exact e1.Zap R1.2 Qz hk));have C:=R1.3.fr f2 (by rw[Z6];exact Row.ne R1.3 R1.2 Qz);have ff:=(f1.mono (L':=hb::G.p::bl) (λk hk _=>Zh _ hk)).trans f2 (λk hk _=>(by rw[Z6] at hk;subst hk;exact Zfs));have ty:=(QG.ty R1.1 F.1 F.5);have M:=ZR bu e2 C g1 ff ty f2;clear h2 bu e2 C g1 ff e1 f1 ty f2 d10 d11 d12)|(go_at_call 70;go_fit (Pn B _ G bl1 hb i' [] false h M.2.1 hn (M.2.2.2.2.2.1.one M.2.2.2.2.2.2 Qw) ct ⟨ee,M.1⟩ cw hp hg hE);rintro e w3 ⟨x1,x2,x3,b1,ef,rfl,du,dp,de⟩;have C:=Mx dp de M.2.1 M.1 M.2.2.1;have s0:=C.c0;have s1:=C.c1;have s2:=C.c2;have t0:=C.free (j:=0) Qx;have t1:=C.free (j:=1) Qx;have t2:=C.free (j:=2) Qx;have R3:=ZO C du dp de;clear C du dp de));have U:=(((R3.1.set 0 (.int .i64 x1)).set 1 (.string x2)).set 2 (.int .i64 x3));have y0:=U.c0;have y1:=U.c1;have y2:=U.c2;refine ZD (v:=.tuple #[.agg #[(x1:Int),.string x2,(x3:Int)],b1,ef]) ?_ rfl ?_
  .simp[results,go_sem,y0,y1,y2]
  have J:=HM.4;rw[HN.1] at J;dsimp only at J;rw[HN.2] at J;rw[<-J];exact Aa.Zbh Qw F.6 (R3.2.1.base M.2.2.2.2.1.size) (λh9=>Zak M.2.2.2.1 M.2.2.2.2.1 (R3.2.2.1 h9)) (λh9=>Zah M.2.2.2.1 M.2.2.2.2.1 (R3.2.2.2 h9)) R3.1 Qx
def Po(B:Nat)(w:Qs)(G:Eg)(bl:Qj)(hb:Nat)(p:Nat×Bs×Bool)(h:QR K E k m n g H sd V)(hK:∀x v,H x=some v->x∈K/\v.length<=200)(he:EAt B w G V bl)(O:G.n=n)(ht:Ty w)(C:0<B)(hh:Xb w hb G.s p.1 p.2.1 p.2.2)(hi:p.1<n)(U:V.P.gone=false)(M:g<=1000000000)(J:1<=E)(Z:E<=2000000000)(ae:B<=hb):Calls prog 58 #[hb] w (Aa B G hb bl w (WS H V n g p)):=by
 have⟨i,key,f⟩:=p;refine Z2N f B w G bl hb i key _ he hh Qw (λw1 bl1 e1 t1 F=> ?_) ht;cases f
 .exact Pn B w1 G bl1 hb i key false h e1 O t1 C F hi U M J
 .exact Z2M B w1 G bl1 hb i key h hK e1 O t1 C F hi U M J Z ae
variable{R:Rg}{V':Ev}{ha:Option Addr}{hc:Nat}{hs:QY}{p':Nat×Bs×Bool}
structure RmH(B:Nat)(w:Qs)(R:Rg)(G:Eg)(V:Ev)(bl:Qj)(hb:Nat)(p:Nat×Bs×Bool)(ha:Qm)(hc:Nat)(hs:QY)(sd:Qr):Prop where
 rm:Yr B w R G V bl (.pointer G.s) (.pointer hb) ha hc hs sd
 hl:Xb w hb G.s p.1 p.2.1 p.2.2
 hB:B<=hb
 gB:B<=R.gs
def Xb.after{h s:Nat}{f:Bool}(hh:Xb w h s i key f)(hb:Below w w w'):Xb w' h s i key f:=by have⟨rd,C⟩:=hh;exact⟨rd,C.after hb⟩
def RmH.after(h:RmH B w R G V bl hb p ha hc hs sd)(C:Below w w w'):RmH B w' R G V bl hb p ha hc hs sd:=⟨h.rm.after C,h.hl.after C,h.hB,h.gB⟩
def HAt.Zdi(h:HAt B G hb bl V' p' w w')(he:EAt B w G V bl){l0:Qk}(hh:Row w hb 138 l0){g:Nat}{e:Qu}{l:Qk}(C:Row w g e l)(F:e∉J9)(J:e≠138):Row w' g e l:=by
 obtain⟨-,bl', -, -,f⟩:=h;refine C.fr f (λhm=> ?_);rcases Zk.1 hm with h9|h9
 .exact Row.ne C hh J h9
 .exact he.Zap C F h9
def RmH.step(h:RmH B w R G V bl hb p ha hc hs sd)(C:HAt B G hb bl V' p' w w'):(∃bl',RmH B w' R G V' bl' hb p' ha hc hs sd)/\Below B w w':=by
 have⟨s1,U⟩:=h.rm.ZaY;have⟨s2,Z,z2⟩:=h.rm.Zb8;have⟨rd,h3⟩:=h.hl;have he:=h.rm.set;have row:=fun{g:Nat} {e:Qu} {l:Qk} (hr:Row w g e l) (J:e∉J9) (M:e≠138)=>C.Zdi he h3 hr J M;have⟨bl',O,g',f'⟩:=C.set;refine⟨⟨bl',⟨⟨row h.rm.room Qz Qz,⟨s1,row U Qz Qz⟩,⟨s2,row Z Qz Qz,z2⟩,?_,O,h.rm.rB,h.rm.gn,h.rm.kn,h.rm.k1⟩,C.row,h.hB,h.gB⟩⟩,f'.below he.bw (λk F=> ?_)⟩
 .rcases h.rm.held with h9|⟨g9,sp,J,M⟩
  .exact Zv h9
  .exact Zy ⟨g9,sp,J,row M Qz Qz⟩
 .rcases Zk.1 F with rfl|F
  .exact h.hB
  .exact he.ge k F
def Wr(H:Bs->Option Bs)(n g:Nat):Nat->Ev×(Nat×Bs×Bool)->Ev×(Nat×Bs×Bool)
 |0,s=>s
 |t+1,s=>(WS H (Wr H n g t s).1 n g (Wr H n g t s).2).2
structure Gr(K:List Bs)(E k m n g:Nat)(H:Bs->Option Bs)(sx:Qr)(s:Ev×(Nat×Bs×Bool)):Prop where
 set:QR K E k m n g H sx s.1
 al:XO n s.1
 pl:s.2.1<n
 gone:s.1.P.gone=false
 Zas:s.1.P.Zas<0
def Pi{sx:Qr}(B:Nat)(w:Qs)(R:Rg)(G:Eg)(bl:Qj)(hb:Nat)(p:Nat×Bs×Bool)(ha:Qm)(hc:Nat)(hs:QY)(sd:Qr)(N:Nat)(M:RmH B w R G V bl hb p ha hc hs sd)(h:QR K E k m n g H sx V)(hK:∀x v,H x=some v->x∈K/\v.length<=200)(hn:G.n=n)(ht:Ty w)(au:0<B)(hi:p.1<n)(hp:V.P.gone=false)(hf:V.P.Zas<0)(hg:g<=1000000000)(hE:1<=E)(hN:N<=1000)(bh:E<=1900000000):Calls prog 24 #[R.r,(N:Int)] w λe w'=>e=.returned true/\(∃bl',RmH B w' R G (Wr H n g N (V,p)).1 bl' hb (Wr H n g N (V,p)).2 ha hc hs sd)/\(∀u,u<=N->Gr K (E+u) k m n g H sx (Wr H n g u (V,p)))/\Below B w w':=by
 have aj:XO n V:=by rw[<-hn];exact M.rm.set.alive
 have H0:=ZX M (show∀u,u<=0->Gr K (E+u) k m n g H sx (Wr H n g u (V,p)) from λu hu=>by
  obtain rfl:u=0:=Qw
  exact⟨h,aj,hi,hp,hf⟩) ht
 go_enter func24,ntmps24;go_wp2;go_loopw [5] (λkv wr=>∃t:Nat,t<=N/\kv=(t:Int)/\(∃bl',RmH B wr R G (Wr H n g t (V,p)).1 bl' hb (Wr H n g t (V,p)).2 ha hc hs sd)/\(∀u,u<=t->Gr K (E+u) k m n g H sx (Wr H n g u (V,p)))/\Below B w wr) (λkv _=>N- (intOf kv).toNat)
 .exact⟨0,Qw,rfl,⟨bl,H0.1⟩,H0.2,Zu _ _⟩
 obtain⟨t,bq,rfl,⟨bl1,F⟩,O,U⟩:=hrel;by_cases bj:t<N
 .have:(t:Int)<(N:Int):=by omega
  obtain⟨hX, -,ae,af,ag⟩:=O t (Zt _);have⟨s1,ah⟩:=ZK (Wr H n g t (V,p));rw[ah] at F hX ae af ag;have J:Wr H n g (t+1) (V,p)=(WS H s1.1 n g s1.2).2:=by rw[<-ah];rfl
  have aw:Ty wr:=by have Z:=H0.3;unfold Ty at Z⊢;rw[U.cell (p:=⟨0,0,none⟩) au];exact Z
  have ai:=Po B wr G bl1 hb s1.2 hX hK F.rm.set hn aw au F.hl ae af hg Qw Qw F.hB;have⟨q1,q2⟩:=hX.step hK (by rw[<-hn];exact F.rm.set.alive) af hg Qw ae;have⟨q3,q4⟩:=q1 ag;have⟨r,M⟩:=ZK (WS H s1.1 n g s1.2);rw[M] at ai q2 q3 q4 J;have⟨c,V2,p2⟩:=r;dsimp only at q2 q3 q4 J;subst q3;rcases q2 with ⟨-,q5,q6,q7⟩|⟨Z, -⟩
  .have:=F.rm.room.c5;have C:=ZT ai F q6 q7 q5 q4 U J O;go_wp2_with (go_at_call 58;go_fit C.1;rintro e w2 ⟨x1,x2,x3,b1,bg,rfl,aq,ay, -⟩;obtain rfl:=aq.zero;have az:=C.2.1.step (ay rfl);have R2:=ZI az);go_roundw
   .obtain⟨⟨bf,h2⟩,hB2⟩:=R2.o;have J:=C.2.2.2.2.2.2.2.1;refine⟨t+1,Qw,QC,?_⟩;rw[J];have ak:=(Zu w2 w2).alloc (Zt _) (.cells #[(x1:Int),.string x2,(x3:Int)] 120);refine⟨⟨bf,h2.after ak⟩,λu hu=> ?_,(C.2.2.2.2.2.2.1.trans hB2).trans (ak.mono h2.rm.bw)⟩;rcases Zfg.1 (Nat.lt_succ_of_le hu) with Z|rfl
    .exact C.2.2.2.2.2.2.2.2 u Qw
    .rw[J];exact⟨by rw[<-ZeS];exact C.2.2.1,by rw[<-hn];exact h2.rm.set.alive,C.2.2.2.1,C.2.2.2.2.1,C.2.2.2.2.2.1⟩
   simp[intOf];omega
  .cases Z
 .obtain rfl:t=N:=by omega
  have C:=ZN F O U;go_wp2;go_ret;exact⟨rfl,⟨bl1,C.1⟩,C.2.1,C.2.2⟩
def CI(sd:Qr)(n m i:Nat):Bool:= !sd i||decide (YG (λj=> !sd j) n<m)
def Fb(sd:Qr)(t:Nat):YG sd (t+1)=YG sd t+if sd t then 1 else 0:=by unfold YG;rw[ZdX,Zeo,Zb];cases h:sd t<;>simp[h]
def O9(sd:Qr)(t:Nat):YG sd t<=t:=by unfold YG;have:=ZdM sd (List.range t);simpa using this
def Rb{sv hv:Qt}(i:Nat)(h:Yr B w R G V bl sv hv ha hc hs sd)(hi:i<R.n):Calls prog 54 #[R.r,(i:Int)] w λe w'=>e=.returned (.bool (CI sd R.n R.m i))/\w=w':=by
 have:R.n<=16:=by rw[<-h.gn];exact h.set.nle.2
 have:=h.room.c7;have:=h.room.c3;have dc:=fun{j:Nat} (U:j<R.n)=>h.Zaz U;have ah:=dc hi;have HD:=ZM h (λ(j:Nat) (U:j<R.n)=>h.Zaz U);have:(i:Int)<(R.n:Int):=Qw;have⟨bb,C⟩:=ZK (CI sd R.n R.m i);rw[C];have HM:=ZI C;go_enter func54,ntmps54;go_wp2;go_loopw [5,6] (λnv Z wr=>∃t:Nat,t<=R.n/\Z=(t:Int)/\nv=.int .i64 (YG (λj=> !sd j) t:Nat)/\wr=w) (λ_ Z _=>R.n- (intOf Z).toNat)
 .exact⟨0,Qw,rfl,rfl,rfl⟩
 obtain⟨t,aq,rfl,rfl,rfl⟩:=hrel;by_cases af:t<R.n
 .have:(t:Int)<(R.n:Int):=by omega
  have ai:=HD.2 t af;have hle:=O9 (λj=> !sd j) t;have M:=Fb (λj=> !sd j) t;have⟨q,J⟩:=ZK (YG (λj=> !sd j) t);rw[J] at hle M⊢;have HQ:=ZI M;cases hb:sd t
  all_goals
   rw[hb] at ai;have O:=ZI hb;go_wp2;go_roundw
   .have F:=HQ.o;rw[O.o] at F;refine⟨t+1,Qw,QC,?_,by trivial⟩;rw[F]
    first|rfl|go_num|simp
   simp[intOf];omega
 .obtain rfl:t=R.n:=by omega
  have hle:=O9 (λj=> !sd j) R.n;have C:=HM.o;unfold CI at C;have⟨q,J⟩:=ZK (YG (λj=> !sd j) R.n);rw[J] at hle C⊢;have ae:((q:Int)<(R.m:Int))=(q<R.m):=Qx;have O:=ZM C ae;cases hb:sd i
  all_goals
   rw[hb] at ah;have HC:=ZI hb;go_wp2;go_ret;have F:=O.1;rw[HC.o] at F;simp at F;simp[<-F]
def WI.frU{s j d:Nat}{S:Sto}(h:WI w s j d S){X:Qj}{ts:List Qu}(C:Fr X w w')(F:QL w X ts)(O:197∉ts)(U:∀g,Row w g 4 (S.used.map .bool)->g∉X)(hs:s∉X)(Z:j∉X):WI w' s j d S:=by
 have⟨b,uv,r1,r2,J,g,hv,r4⟩:=h;have M:b∉X:=by have⟨fv,m1,_⟩:=J;have⟨es,cl,hb⟩:=m1.block;exact F.Zb9 hb
 exact⟨b,uv,r1.fr C hs,Row.fr r2 C Z,J.fr C M (λk hk l hl=>F.Zap hl O hk),g,hv,r4.fr C (U g r4)⟩
def EAt.frU(h:EAt B w G V bl){X:Qj}{ts:List Qu}(F:Fr X w w')(ht:QL w X ts)(h1:197∉ts)(hU:∀i,i<G.n->∀S,V.Ms i=some S->∀g,Row w g 4 (S.used.map .bool)->g∉X)(h3:92∉ts)(Z:∀k∈G.p::bl,k∉X):EAt B w' G V bl:=by
 obtain⟨Ls,Os,rfl,h⟩:=h;have hb:∀k∈Wx G Ls Os,k∉X:=λk J=>Z k (Zh _ J);have⟨sp,hm⟩:=h.mem;refine⟨Ls,Os,rfl,h.set.fr F (hb _ (by simp[Wx])),⟨sp,hm.fr F (ht.Zap hm h3)⟩,h.n1,h.n16,λi hi=>(h.pd i hi).fr F (λk J hm=> ?_),h.dap,λi hi=> ?_,h.oap,h.bO,h.bs⟩
 .rcases Zk.1 hm with rfl|hm
  .exact Z _ Qx J
  .exact hb k (WL.2 (Zy (Zv ⟨i,hi,hm⟩))) J
 .have O:∀k∈Os i,k∉X:=λk J=>hb k (WL.2 (Zy (Zy ⟨i,hi,J⟩)));have M:=h.at_ i hi;cases hM:V.Ms i with
  |none=>rw[hM] at M;have⟨sv,lf,inn,C,U,ae⟩:=M;exact⟨sv,lf,inn,C,U.fr F (O _ (by rw[C];simp)),ae⟩
  |some S=>rw[hM] at M;have⟨s,j,C,U,hs,hd⟩:=M;exact⟨s,j,C,U.fr F (O _ (by rw[C];simp)),hs.frU F ht h1 (hU i hi S hM) (O _ (by rw[C];simp)) (O _ (by rw[C];simp)),hd⟩
def Z87{sp:Qk}{d:Dir}(h:Row w g 4 (sdC sd n++sp))(U:n<=16)(O:∀v,sp[0]? =some v->v=.bool false){F:Nat}(hu:Row w F 4 ((YA 800 100 d).map .bool)):F≠g:=λe=>by
 subst e;have hl:sdC sd n++sp=(YA 800 100 d).map .bool:=by
  obtain⟨f1,J, -⟩:=h;obtain⟨f2,C, -⟩:=hu;rw[J] at C;simp at C
  first|exact C.1|exact C
 have hu:((YA 800 100 d).map Value.bool)[n]? =some (.bool true):=by unfold YA;rw[Ze8,Ze8,ZfG Qw];simp;omega
 rw[<-hl,ZdD (by simp[sdC])] at hu;have hlen:n- (sdC sd n).length=0:=by simp[sdC]
 rw[hlen] at hu;have M:=O _ hu;cases M
def EAt.mark(h:EAt B w G V bl){g i:Nat}{sd:Qr}{n:Nat}{sp:Qk}(C:Row w g 4 (sdC sd n++sp))(U:n<=16)(Z:∀v,sp[0]? =some v->v=.bool false)(M:∀i,i<G.n->∀S,V.Ms i=some S->QU K E (V.Ds i) S)(v:Qt):EAt B (w.setCell ⟨g,i,none⟩ v) G V bl:=
 h.frU (X:=[g]) (ts:=[4]) ((Fr.refl _ _).setCell (Zv Qx) v) (QL.row C Qx) Qz (λi hi S hM g' F hm=>by
  rw[Z6] at hm;have⟨Zau,J⟩:=(M i hi S hM).img;have e:S.used=YA 800 100 S.dir:=J.used;rw[e] at F
  exact Z87 C U Z F hm) Qz (λk O hm=>by rw[Z6] at hm;subst hm;exact h.Zap C Qz O)
def Z6A(sd:Qr)(n i:Nat)(sp:Qk)(b:Bool)(hi:i<n):(sdC sd n++sp).set i (.bool b)=sdC (upd sd i b) n++sp:=by
 rw[Zg9 _ _ (by simpa[sdC] using hi)];congr 1;apply Zeu
 .simp[sdC]
 .intro j F C;simp[sdC,Zf,Zfv] at C;rw[ZgH];by_cases e:i=j
  .subst e;simp[sdC,QX]
  .rw[Zw e];simp[sdC,QP _ _ (λh=>e h.symm)]
def Yr.mark{sv hv:Qt}(h:Yr B w R G V bl sv hv ha hc hs sd)(M:∀i,i<G.n->∀S,V.Ms i=some S->QU K E (V.Ds i) S){i:Nat}(hi:i<R.n)(b:Bool):Yr B (w.setCell ⟨R.gs,i,none⟩ (.bool b)) R G V bl sv hv ha hc hs (upd sd i b):=by
 have⟨s1,d1⟩:=h.ZaY;have⟨s2,d2,z2⟩:=h.Zb8;have J:R.n<=16:=by rw[<-h.gn];exact h.set.nle.2
 have F:Fr [R.gs] w (w.setCell ⟨R.gs,i,none⟩ (.bool b)):=(Fr.refl _ _).setCell (Zv Qx) _;refine⟨h.room.fr F (by rw[Z6];exact Row.ne h.room d2 Qz),⟨s1,d1.fr F (by rw[Z6];exact Row.ne d1 d2 Qz)⟩,⟨s2,?_,z2⟩,h.held.set (ad:=⟨R.gs,i,none⟩) d2 Qz _,h.set.mark d2 J z2 M _,h.rB,h.gn,h.kn,h.k1⟩;have C:=d2.set i (.bool b);rw[Z6A sd R.n i s2 b hi] at C;exact C
def AD(V:Ev)(hs:QY)(i:Nat):Bool:=(V.Ms i).isSome&&hs.all λp=>YI V i p.1==0
def QR.marks(h:QR K E k m n g H sd V){F:Qr}(hs:∀i,i<n->F i=true->∃S,V.Ms i=some S/\Xt k m i H (stR (V.Ds i).reads S.dir))(hm:k<=YG F n):QR K E k m n g H F V:=by refine⟨λP J M=> ?_,h.o⟩;have C:=h.set P J M;exact⟨C.hK,C.k1,C.kn,C.vk,C.vm,C.vg,J,M,C.Zaq,C.in_,hs,hm⟩
def QR.Zd4(h:QR K E k m n g H sd V){hs:QY}(M:∀x v,H x=some v->(x,v)∈hs)(O:V.P.gone=false){i:Nat}(hi:i<n)(hl:AD V hs i=true):∃S,V.Ms i=some S/\Xt k m i H (stR (V.Ds i).reads S.dir):=by
 unfold AD at hl;rw[ZeZ] at hl;have⟨S,hM⟩:=ZdQ.1 hl.1;refine⟨S,hM,λx v hx=> ?_⟩;have J:=Zg5.1 hl.2 _ (M x v hx);have C:YI V i x=0:=by simpa using J
 unfold YI at C;rw[hM,O] at C;obtain⟨-,U⟩:=h.ZaE.in_ i hi S hM;rcases U.some_ x v hx with h3|h3|h3
 .have F:stR (V.Ds i).reads S.dir (nmD x)=none:=h3;simp[F] at C
 .have F:stR (V.Ds i).reads S.dir (nmD x)=some none:=h3;simp[F] at C
 .exact h3
def QR.Zd5(h:QR K E k m n g H sd V){hs:QY}(M:∀p∈hs,H p.1=some p.2)(Z:V.P.gone=false){i:Nat}(hi:i<n)(U:sd i=true):AD V hs i=true:=by have⟨S,hM,O⟩:=h.ZaE.snd i hi U;have C:V.Ms i=some S:=hM;unfold AD;rw[C,ZeZ];refine⟨rfl,Zg5.2 λp F=> ?_⟩;have J:stR (V.Ds i).reads S.dir (nmD p.1)=_:=O p.1 p.2 (M p F);unfold YI;rw[C,Z];simp[J]
def QR.looked(h:QR K E k m n g H sd V){hs:QY}(F:∀x v,H x=some v->(x,v)∈hs)(J:∀p∈hs,H p.1=some p.2)(C:V.P.gone=false):QR K E k m n g H (AD V hs) V:=h.marks (λi hi hl=>h.Zd4 F C hi hl) (Zq h.ZaE.many (GK λi hi M=>h.Zd5 J C hi M))
def QR.of(h:Y1 K E k m n g H sd V)(C:∀i,i<n->V.Ms i≠none):QR K E k m n g H sd V:=⟨λP F J=>⟨h.hK,h.k1,h.kn,h.vk,h.vm,h.vg,F,J,h.Zaq,h.in_,h.snd,h.many⟩,λi hi hM=>absurd hM (C i hi)⟩
def Oa(sd:Qr)(i:Nat):∀n,YG sd n<=YG (upd sd i false) n+1:=by
 intro n
 induction n with
 |zero=>unfold YG;simp
 |succ t ih=>
  rw[Fb,Fb];by_cases e:t=i
  .subst e;have h:YG (upd sd t false) t=YG sd t:=by unfold YG;congr 1;apply ZfS;intro j C;rw[ZdS] at C;rw[QP _ _ Qw]
   rw[QX,h];split<;>simp
  .rw[QP _ _ e];split<;>omega
def Z0x(sd:Qr):∀n,YG sd n+YG (λj=> !sd j) n=n:=by
 intro n
 induction n with
 |zero=>rfl
 |succ t ih=>rw[Fb,Fb];cases h:sd t<;>simp<;>omega
def Rq(h:CI sd n m i=true)(M:k+m=n)(hm:k<=YG sd n)(hi:i<n):k<=YG (upd sd i false) n:=by
 unfold CI at h;rcases Bool.or_eq_true _ _▸h with h1|h1
 .have e:upd sd i false=sd:=by
   funext j
   by_cases e:j=i
   .subst e;rw[QX];simp at h1;exact h1.symm
   .rw[QP _ _ e]
  rw[e];exact hm
 .have:=Z0x sd n;have:=Oa sd i n;have:=of_decide_eq_true h1;omega
variable{sx:Nat->Bool}
def RmH.ran(h:RmH B w R G V bl hb p ha hc hs sd)(C:QG B G bl V' w w'):(∃bl',RmH B w' R G V' bl' hb p ha hc hs sd)/\Below B w w':=by have⟨bl',F⟩:=h.rm.ran C;have⟨rd,J⟩:=h.hl;exact⟨⟨bl',F,⟨rd,C.row h.rm.set J Qz⟩,h.hB,h.gB⟩,C.below h.rm.set⟩
def RmH.mark(h:RmH B w R G V bl hb p ha hc hs sd)(F:∀i,i<G.n->∀S,V.Ms i=some S->QU K E (V.Ds i) S){i:Nat}(hi:i<R.n)(b:Bool):RmH B (w.setCell ⟨R.gs,i,none⟩ (.bool b)) R G V bl hb p ha hc hs (upd sd i b):=by have⟨s2,d2,z2⟩:=h.rm.Zb8;have⟨rd,C⟩:=h.hl;have J:Fr [R.gs] w (w.setCell ⟨R.gs,i,none⟩ (.bool b)):=(Fr.refl _ _).setCell (Zv Qx) _;exact⟨h.rm.mark F hi b,⟨rd,C.fr J (by rw[Z6];exact Row.ne C d2 Qz)⟩,h.hB,h.gB⟩
def RmH.same(h:RmH B w R G V bl hb p ha hc hs sd){F:Qr}(e:∀i,i<R.n->sd i=F i):RmH B w R G V bl hb p ha hc hs F:=by
 have e2:sdC sd R.n=sdC F R.n:=Zea λi hi=>by rw[e i (ZdS.1 hi)]
 have⟨C,J,M,O⟩:=h;exact⟨⟨C.room,C.ZaY,by rw[<-e2];exact C.Zb8,C.held,C.set,C.rB,C.gn,C.kn,C.k1⟩,J,M,O⟩
def Er(V:Ev)(hs:QY)(sd:Qr)(t:Nat):Qr:=λj=>if j<t then AD V hs j else sd j
def Z3F(V:Ev)(hs:QY)(sd:Qr)(t:Nat):upd (Er V hs sd t) t (AD V hs t)=Er V hs sd (t+1):=by
 funext j
 unfold Er;by_cases e:j=t
 .subst e;rw[QX,Zx Qw]
 .rw[QP _ _ e];by_cases h:j<t
  .rw[Zx h,Zx Qw]
  .rw[Zw h,Zw Qw]
def Z3G(B:Nat)(w:Qs)(R:Rg)(G:Eg)(bl:Qj)(hb:Nat)(p:Nat×Bs×Bool)(ha:Qm)(hc:Nat)(hs:QY)(sd:Qr)(hr:RmH B w R G V bl hb p ha hc hs sd)(h:QR K E k m n g H sx V)(hH:∀q∈hs,H q.1=some q.2/\q.1∈K/\q.2.length<=200)(hn:G.n=n)(ht:Ty w)(bh:0<B)(hp:V.P.gone=false)(aq:hs.length<=1000):Calls prog 57 #[R.r] w λe w'=>e=.returned (.tuple #[])/\(∃bl',RmH B w' R G V bl' hb p ha hc hs (AD V hs))/\Below B w w':=by
 have:R.n=n:=by rw[<-hr.rm.gn];exact hn
 have:R.n<=16:=by rw[<-hr.rm.gn];exact hr.rm.set.nle.2
 have U:=ZX hr h ht;clear hr h ht;go_enter func57,ntmps57;go_wp2;go_loopw [2] (λM wr=>∃t:Nat,t<=R.n/\M=(t:Int)/\(∃bl',RmH B wr R G V bl' hb p ha hc hs (Er V hs sd t))/\Below B w wr) (λM _=>R.n- (intOf M).toNat)
 .exact⟨0,Qw,rfl,⟨bl,U.1.same (λi _=>rfl)⟩,Zu _ _⟩
 obtain⟨t,dt,rfl,⟨bl1,hR⟩,ai⟩:=hrel;by_cases bu:t<R.n
 .have:(t:Int)<(R.n:Int):=by omega
  have c1:=hR.rm.room.c1;have c4:=hR.rm.room.c4;have bj:=Ky B wr G V bl1 t hR.rm.set Qw;have⟨N,hN⟩:=ZK hs.length;have Z:=ZO bj hR ai hN;clear bj hR ai;rw[hN] at aq;clear hN;go_wp2_with (go_at_call 44;go_fit Z.1;rintro e w2 ⟨rfl,cn⟩;have C:=Z.2.1.ran cn;have R2:=ZI C;clear cn C);go_loopw [3,4] (λbv nv wr=>∃q:Nat,q<=N/\nv=(q:Int)/\bv=.bool ((V.Ms t).isSome&&(hs.take q).all λx=>YI V t x.1==0)/\(∃bl',RmH B wr R G V bl' hb p ha hc hs (Er V hs sd t))/\Below B w wr) (λ_ nv _=>N- (intOf nv).toNat)
  .exact⟨0,Qw,rfl,Qx,R2.1,Z.2.2.1.trans R2.2⟩
  obtain⟨q,hq,rfl,rfl,⟨az,J⟩,ae⟩:=hrel;have⟨bb,O⟩:=ZK ((V.Ms t).isSome&&(hs.take q).all λx=>YI V t x.1==0);rw[O];have d6:=J.rm.room.c6;rw[Z.2.2.2] at d6;by_cases aj:q<N/\bb=true
  .obtain⟨cj,rfl⟩:=aj;have cz:(q:Int)<(N:Int):=Qw;have aw:q<hs.length:=by rw[Z.2.2.2];exact cj
   obtain⟨ga,rfl,dj,e0, -⟩:=J.rm.held.at_ aw;have⟨q1,q2,q3⟩:=hH _ (Zl aw);have ay:hs.take (q+1)=hs.take q++[hs[q]]:=Zc aw;have⟨M,bm⟩:=ZK hs[q];rw[bm] at e0 q1 q2 q3 ay;have hl:=U.2.ZaE.hK.len M.1 q2;have⟨o1,o2⟩:=U.2.Zbz q1;have de:V.k=k:=U.2.ZaE.vk;have df:V.m=m:=U.2.ZaE.vm;have cu:=U.2.ZaE.k1;have cw:=U.2.ZaE.kn;have cr:Ty wr:=by have C:=U.3;unfold Ty at C⊢;rw[ae.cell (p:=⟨0,0,none⟩) bh];exact C
   have bq:=λ(W:Qs) (bg:Below wr wr W)=>Kz B W G V az K E t M.1 M.2 (J.rm.set.after bg) (cr.below bg) bh Qw hl.1 Qw q3 Qw Qw (by rw[hn];exact o1) (by rw[hn];omega);have:=J.rm.room.c4;have F:=ZP bq J ae O ay;clear bq J ae O ay q1 q2 q3 bm hl o1 o2 de df cu cw cr;by_cases hz:YI V t M.1=0
   .have HZ:=ZI hz;clear hz;go_wp2;go_region_law ((try go_simp);go_at_call 45;go_fit (F.1 _ ((Zu _ _).drew));rintro e w4 ⟨ev,rfl,ag,ah⟩;have C:=(F.2.1.after ((Zu _ _).drew)).ran ah;have R4:=ZM C.1 (((Zu B wr).drew).trans C.2);clear ah C;have au:=ag.1;rw[HZ.o] at au;obtain rfl:=au.zero;clear au ag)
    all_goals (try go_wp2)
    all_goals
     refine⟨⟨q+1,Qw,QC,?_,R4.1,F.2.2.1.trans R4.2⟩,by simp[intOf];omega⟩;have h8:=F.2.2.2.1;rw[ZeZ] at h8;rw[F.2.2.2.2,List.all_append,h8.1,h8.2];have hz:=HZ.o;simp[hz]
   .have HZ:=ZI hz;clear hz;go_wp2;go_region_law ((try go_simp);go_at_call 45;go_fit (F.1 _ ((Zu _ _).drew));rintro e w4 ⟨ev,rfl,ag,ah⟩;have C:=(F.2.1.after ((Zu _ _).drew)).ran ah;have R4:=ZM C.1 (((Zu B wr).drew).trans C.2);clear ah C;obtain⟨b9,rfl⟩:=(ag.1.split.resolve_left (λh=>HZ.o h.1)).2;clear ag)
    all_goals (try go_wp2)
    all_goals
     refine⟨⟨q+1,Qw,QC,?_,R4.1,F.2.2.1.trans R4.2⟩,by simp[intOf];omega⟩;have h8:=F.2.2.2.1;rw[ZeZ] at h8;rw[F.2.2.2.2,List.all_append,h8.1,h8.2];have hz:=HZ.o;simp[hz]
  .have af:bb=AD V hs t:=by
    cases bb with
    |true=>
     have e:q=N:=by
      by_cases C:q<N
      .exact absurd ⟨C,rfl⟩ aj
      .omega
     rw[e,<-Z.2.2.2,Zs] at O;exact O.symm
    |false=>
     symm;cases ak:AD V hs t with
     |false=>rfl
     |true=>unfold AD at ak;rw[ZeZ] at ak;rw[ak.1,Bool.true_and] at O;have C:((hs.take q).all λx=>YI V t x.1==0)=true:=Zg5.2 λx hx=>Zg5.1 ak.2 x (ZdK hx);rw[C] at O;cases O
   have:=J.rm.room.c7;have:=J.rm.Zaz bu;obtain⟨s2,r2, -⟩:=J.rm.Zb8;have:=r2.free (j:=t) (by simp[sdC];omega);have bf:∀i,i<G.n->∀S,V.Ms i=some S->QU K E (V.Ds i) S:=λi hi S hM=>(U.2.ZaE.in_ i Qw S hM).1;have bz:=λb=>J.mark bf bu b;have F:=ZO af bz ae J.gB;have ct:(q<N/\bb=false)∨q=N:=by
    by_cases C:q<N
    .left;refine⟨C,?_⟩;cases bb with
     |false=>rfl
     |true=>exact absurd ⟨C,rfl⟩ aj
    .right;omega
   clear af J ae bz bf r2 aj O;rcases ct with ⟨cj,rfl⟩|rfl
   all_goals
    try have cz:(q:Int)<(N:Int):=Qw
    go_wp2;go_roundw
    .have C:=F.2.1 (AD V hs t);rw[Z3F] at C;have h8:=F.1;refine⟨t+1,Qw,QC,⟨az,?_⟩,?_⟩
     .rw[<-h8] at C;exact C
     .exact F.2.2.1.setCell (p:=⟨R.gs,t,none⟩) F.2.2.2 _
    simp[intOf];omega
 .obtain rfl:t=R.n:=by omega
  have c1:=hR.rm.room.c1;have Z:=ZM hR ai;clear hR ai;go_wp2;go_end0;exact⟨rfl,⟨bl1,Z.1.same (λi hi=>by unfold Er;rw[Zx hi])⟩,Z.2⟩
def Z17(B:Nat)(w:Qs)(G:Eg)(V:Ev)(bl:Qj)(key:Bs)(h:EAt B w G V bl)(ae:1<=key.length)(Z:key.length<=200)(M:EW V G.n)(O:(List.range G.n).any (Jv V key)=false):Calls prog 28 #[G.s,key] w λe w'=>∃ev,e=.returned (.tuple #[.string ⟨#[]⟩,ev])/\QK w' w 13 ev/\QG B G bl V w w':=by
 have c4:=h.Zaz.c4;have hm:(decide (1<=(str key).size)&&decide ((str key).size<=200))=true:=by rw[QW];simp;omega
 have F:=IC B w G V bl key h Z M;rw[O] at F;have H:=ZI F;go_enter func28,ntmps28;go_wp2_with (first|(go_at_call 66;refine(BZ _ _).mono ?_;rw[hm];rintro e w1 ⟨rfl,rfl⟩)|(go_at_call 67;go_fit H.o;rintro e w2 ⟨rfl,C⟩;have C:=ZI C)|(go_at_call 31;go_fit (Fm 13 0 Qz _);rintro e w3 ⟨b,rfl,he, -,hb⟩;have U:w<=w2.heap.size:=(by have⟨_,_,_,f9⟩:=C.o;exact f9.size);have J:=ZX he (C.o.after hb) U));go_ret2;exact⟨_,rfl,J.1.base J.3,J.2⟩
def Strs.sl{base:Nat}{v:Qt}{l:List Bs}(h:Strs w base v l):∃a c,v=.slice a l.length c:=by
 rcases h.2 with ⟨C,F⟩|⟨g,cap,cur,C,_⟩
 .exact⟨none,0,by rw[C,F]⟩
 .exact⟨_,cap,C⟩
def Y1.Zcz(h:Y1 K E k m n g H sd V){key:Bs}(C:H key=none):(List.range n).any (Jv V key)=false:=by
 rw[List.any_eq_false];intro i hi;unfold Jv;cases hM:V.Ms i with
 |none=>simp
 |some S=>simp only[XA.2 ((h.in_ i (ZdS.1 hi) S hM).2.none_ key C)];simp
def Y1.runs(h:Y1 K E k m n g H sd V):EW V n:=λi hi S hM _ _ hm=>by have⟨_,C,F⟩:=(h.in_ i hi S hM).1.runs hm;exact⟨C,F⟩
def Y1.Zdr(h:Y1 K E k m n g H sd V){B:Nat}{w:Qs}{G:Eg}{bl:Qj}(he:EAt B w G V bl)(F:G.n=n)(Z:Ty w)(O:0<B){key:Bs}(M:key∈K)(hv:∀v,H key=some v->v.length<=200):Calls prog 28 #[G.s,key] w λe w'=>∃v ev,e=.returned (.tuple #[.string (str v),ev])/\((H key=some v/\ev=.nilIface)∨(H key=none/\∃b,ev=.iface 139 (b:Nat)))/\QG B G bl V w w':=by
 have U:=h.hK.len key M;cases C:H key with
 |none=>refine(Z17 B w G V bl key he U.1 Qw (by rw[F];exact h.runs) (by rw[F];exact h.Zcz C)).mono ?_;rintro e w' ⟨ev,rfl,he,J⟩;exact⟨[],ev,rfl,Zy ⟨rfl,(he.split.resolve_left (λh=>absurd h.1 Qz)).2⟩,J⟩
 |some v=>go_fit (h.get he F Z O C M (hv v C));rintro e w' ⟨rfl,J⟩;exact⟨v,_,rfl,Zv ⟨rfl,rfl⟩,J⟩
def Z2D{L:List Bs}(ae:L.Nodup)(J:∀x,x∈L↔H x≠none)(hn:(hs.map (·.1)).Nodup)(hl:L.length=hs.length)(h:∀q (O:q<hs.length),H hs[q].1=some hs[q].2):∀x,H x=Hof hs x:=by
 have M:∀p∈hs,H p.1=some p.2:=λp C=>by obtain⟨q,O,rfl⟩:=Zez C;exact h q O
 intro x;cases hx:Hof hs x with
 |some v=>exact M _ (Bj hx)
 |none=>
  cases hH:H x with
  |none=>rfl
  |some v=>
   exfalso;have U:x∉hs.map (·.1):=λhm=>by have⟨p,C,e⟩:=Zz.1 hm;exact Nc.1 hx p C e
   have Z:=(ZdR.2 ⟨U,hn⟩).length_le_of_subset (l₂:=L) (λy F=>by
    rcases Zk.1 F with rfl|F
    .exact(J _).2 (by rw[hH];exact Option.some_ne_none _)
    .obtain⟨p,C,rfl⟩:=Zz.1 F
     exact(J _).2 (by rw[M p C];exact Option.some_ne_none _))
   rw[Ze,Zf] at Z;omega
def KX(B:Nat)(w:Qs)(G:Eg)(V:Ev)(bl:Qj)(K:List Bs)(E k m n g:Nat)(H:Bs->Option Bs)(sd:Qr)(hs:QY)(a:Qm)(cp:Nat)(aq:Y1 K E k m n g H sd V)(O:∀x v,H x=some v->v.length<=200)(hh:HOk K hs)(he:EAt B w G V bl)(hn:G.n=n)(ht:Ty w)(bq:0<B)(hr:YZ w a hs):Calls prog 14 #[G.s,.slice a hs.length cp] w λe w'=>∃b,e=.returned (.bool b)/\((∀x,H x=Hof hs x)->b=true)/\(b=true->∀x,H x=Hof hs x)/\QG B G bl V w w':=by
 have hk:=aq.ZcL he hn;have au:=hh.few aq.hK;have⟨N,hN⟩:=ZK hs.length;have C:=Q4 hk aq hh he ht hr hN hn O;rw[hN] at au⊢;go_enter func14,ntmps14;go_wp2_with (go_at_call 43;go_fit (show Calls prog 43 #[G.s,.string ⟨#[]⟩] _ _ from C.1);rintro e w1 ⟨v,L,rfl,bz,az,ah,aj⟩;obtain⟨a1,c1,rfl⟩:=bz.sl;have hlen:(∀x,H x=Hof hs x)->L.length=N:=(λhx=>by have J:=PN C.3.nd az (λx=>by rw[ah,hx]);rw[C.7] at J;exact J);have af:L.length=N->(∀q (U:q<hs.length),H hs[q].1=some hs[q].2)->∀x,H x=Hof hs x:=(λhl h=>Z2D az ah C.3.nd (by rw[hl];exact C.7.symm) h);have⟨M,bj⟩:=ZK L.length;rw[bj] at hlen af⊢;have R1:=ZX aj hlen af;by_cases bm:M=N;case' neg=>have:((M:Int) !=(N:Int))=true:=(by simp;omega))
 .go_ret;exact⟨_,rfl,λh=>absurd (R1.2 h) bm,λh=>(by cases h),R1.1⟩
 .subst bm;go_loopw [7] (λkv wr=>∃t:Nat,t<=M/\kv=(t:Int)/\(∀q (U:q<hs.length),q<t->H hs[q].1=some hs[q].2)/\QG B G bl V w wr) (λkv _=>M- (intOf kv).toNat)
  .exact⟨0,Qw,rfl,λq _ h=>absurd h Qw,R1.1⟩
  obtain⟨t,dm,rfl,hold,Z⟩:=hrel;by_cases cy:t<M
  .have:(t:Int)<(M:Int):=(by omega);have ae:t<hs.length:=by rw[C.7];exact cy
   have aw:=C.6.ran Z C.4;obtain⟨ga,rfl,hg,c0,cn⟩:=aw.at_ ae;have cj:=QG.ty Z C.4 C.5 bq;have⟨bl1,e1,g1,f1⟩:=Z;have ag:=C.2.Zdr e1 C.8 cj bq (C.3.key _ (Zl ae)) (C.9 _);have ak:=C.3.at_ ae;have⟨kk,ay⟩:=ZK hs[t].1;have⟨vv,bg⟩:=ZK hs[t].2;rw[ay] at c0 ag ak;rw[bg] at cn ak;have F:=Q4 ag e1 g1 f1 aw bg ak ay hold;go_wp2_with (go_at_call 28;go_fit F.1;rintro e w2 ⟨v,ev,rfl,cw,bf⟩;have bu:=F.5.ran bf F.2;have⟨cu,bh,df,cr,ct⟩:=bu.at_ ae;obtain rfl:cu=ga:=(by simpa using bh.symm);rw[F.6] at ct;have R2:=ZI (QG.trans ⟨F.2,F.3,F.4⟩ bf);rcases cw with ⟨O,rfl⟩|⟨O,b2,rfl⟩;case' inl=>have HV:=ZI O;case' inl=>clear O;case' inl=>by_cases ai:v=vv;case' neg=>have:((str v).toList==(str vv).toList)=false:=(by rw[TP];simpa using ai))
   .go_ret;exact⟨false,rfl,λh=>absurd (by have J:=h kk;rw[HV.o,F.7] at J;exact ZdZ J) ai,λh=>(by cases h),R2.o⟩
   .go_roundw
    .refine⟨t+1,Qw,QC,λq U cz=> ?_,R2.o⟩;rcases Zfg.1 cz with J|rfl
     .exact F.9 q U J
     .rw[F.8,F.6,HV.o,ai]
    simp[intOf];omega
   .go_ret;exact⟨false,rfl,λh=>(by have J:=h kk;rw[O,F.7] at J;cases J),λh=>(by cases h),R2.o⟩
  .obtain rfl:t=M:=(by omega);have HR:=ZM Z hold;go_wp2;go_ret;refine Zy ⟨rfl,R1.3 trivial λq U=>HR.2 q U ?_,HR.1⟩;rw[<-C.7];exact U
