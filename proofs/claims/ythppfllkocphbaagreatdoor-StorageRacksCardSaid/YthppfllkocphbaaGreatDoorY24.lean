/- Part 25: lemmas about what the program computes. -/
import Derived.Deep.OwnRows
import Derived.Test.YthppfllkocphbaaGreatDoorY23
namespace Go.Proofs.YthppfllkocphbaaGreatDoor
set_option linter.unusedVariables false
set_option linter.unusedSimpArgs false
set_option maxHeartbeats 25600000
set_option maxRecDepth 100000
open Tryz
section
open Go.RowKit Go.Shelf
theorem Z2k:(prog.info? 89).map (λi=>(i.zero,i.size,i.bytes))=some (some (.pointer none),1,8):=by kernel_rfl
def RC(D:Dk):Prop:=D.dead=true∨(D.dead=false/\(D.text 0 100).getD 0 0≠1/\(D.text 100 100).getD 0 0≠1)
theorem Z2h(B p d:Nat)(P:Pw)(D:Dk)(L:List Nat)(w:World)(h:PD B w p d 800 P D L)(J:Ty w)(F:P.gone=false)(U:RC D):Calls prog 62 #[.pointer (some ⟨d,0,none⟩)] w λe w'=>∃c ev,c≠0/\c≠10/\e=.returned (.tuple #[.pointer none,ev])/\Zk w' w.heap.size c ev/\Below w.heap.size w w':=by
 rcases U with C|⟨C,M,O⟩
 .have e:WX P D=11:=by unfold WX;rw[F,C];rfl
  refine(Z07 B p d P D L w h J (by omega)).mono ?_;grind
 .refine(Ri B p d P D L w h J (CR F C) M O).mono ?_;grind
def Uv(k m i:Nat)(T:Tab)(γ:Int):Prop:=(∃g:Nat,γ=g/\g<=1000000000/\T nmC=some (some (Qq k m i g)))∨(γ= -1/\T nmC=none)
structure WY(K:List Bs)(E k m g i:Nat)(D:Dk)(S:Option Sto)(γ:Int)(I:Option Sto)(A:List Ac):Prop where
 no:S=none->RC D/\γ= -1
 st:∀T,S=some T->ZO K E D T/\D.dead=false/\Uv k m i (stR D.reads T.dir) γ
 le:γ<=g
 way:(I=none/\A=[]/\γ≠g/\(γ≠g-1∨γ<0))∨(∃T,S=some T/\I=some T/\γ=g/\A=acts0 T.dir/\(A=[]∨∃d f,Qu K T A d f))∨
  (∃T gone,S=some T/\I=some T/\1<=g/\γ=g-1/\stR D.reads T.dir nmN=some (some (Qq k m i g))/\stR D.reads T.dir nmT=some (some (BH g gone))/\(Zz (Z4 g::gone)).length<=9000/\gone.length<=1000/\(∀x∈gone,x.length<=1000)/\A=Q0 T.dir gone/\∃d,Qu K T A d [])
def ZW(a:List Ac)(t:Nat)(V:Ev):Int×Ev:=if a=[] then(0,V) else(ZH V (t,λ_=>a),ZB V (t,λ_=>a))
def QC(A:Nat->List Ac):Nat->Ev->Int×Ev
 |0,V=>(0,V)
 |t+1,V=>if(QC A t V).1=0 then ZW (A t) t (QC A t V).2 else QC A t V
theorem VZ{A:Nat->List Ac}{t:Nat}{V:Ev}(h:(QC A t V).1≠0):∀n,t<=n->QC A n V=QC A t V:=by
 intro n C
 induction n with
 |zero=>obtain rfl:t=0:=by omega
        rfl
 |succ n ih=>
  by_cases e:t=n+1
  .rw[e]
  .have:=ih (by omega);rw[show QC A (n+1) V=if(QC A n V).1=0 then ZW (A n) n (QC A n V).2 else QC A n V from rfl,this,if_neg h]
def BE(gv:Nat->Int):Nat->Int
 |0=> -1
 |t+1=>max (BE gv t) (gv t)
theorem Z3p{gv:Nat->Int}{g:Int}{n:Nat}(C:∀a,a<n->gv a<=g)(F:∃a,a<n/\gv a=g)(h:0<=g):BE gv n=g:=by
 have key:∀t,t<=n->BE gv t<=g/\∀a,a<t->gv a<=BE gv t:=by
  intro t
  induction t with
  |zero=>intro _;exact⟨by unfold BE;omega,λa ha=>by omega⟩
  |succ t ih=>intro J;unfold BE;grind
 grind
theorem RN(gv:Nat->Int)(t:Nat): -1<=BE gv t:=by
 cases t with
 |zero=>exact Int.le_refl _
 |succ t=>have: -1<=BE gv t:=RN gv t;unfold BE;omega
def Dh(I:Nat->Option Sto)(t:Nat):Nat:=((List.range t).filter λi=>(I i).isSome).length
theorem UU(I:Nat->Option Sto)(t:Nat):Dh I (t+1)=Dh I t+if(I t).isSome then 1 else 0:=by unfold Dh;rw[List.range_succ,List.filter_append,Z5d];grind
theorem Z33(I:Nat->Option Sto)(t:Nat):Dh I t<=t:=by have:=List.length_filter_le (λi=>(I i).isSome) (List.range t);rwa[List.length_range] at this
section
variable{B:Nat}{w0 w1 wr:World}{G:Eg}{V0:Ev}{Ls:Nat->List Nat}{Ss:Nat->Option Sto}{gv:Nat->Int}{gb sb t:Nat}{q:Int}{Q:Nat->List Nat}{gl sl:List Value}{K:List Bs}{E g:Nat}
theorem Z1J(h:Op1 B w0 w1 G V0 Ls Ss gv gb sb t q Q gl sl wr)(O:t<G.n){S:Sto}(C:ZO K E (V0.Ds t) S)(M:V0.P.gone=false)(J:(V0.Ds t).dead=false)(hE:E<=2000000000):Calls prog 62 #[.pointer (some ⟨G.ds t,0,none⟩)] wr λe w'=>∃s j,e=.returned (.tuple #[.pointer (some ⟨s,0,none⟩),.nilIface])/\wr.heap.size<=s/\wr.heap.size<=j/\WG w' s j (G.ds t) S/\Below wr.heap.size wr w':=by obtain⟨recs,hi,F⟩:=C.img;refine(Z2i B G.p (G.ds t) V0.P (V0.Ds t) (Ls t) S recs wr (h.ep.pd t O) (CR M J) hi (by have:=C.ep;omega) F).mono ?_;rintro e w' ⟨s,rfl,hs,hb⟩;obtain⟨Z,j,hj,U⟩:=hs.j;grind
theorem Z3v(h:Op1 B w0 w1 G V0 Ls Ss gv gb sb t q Q gl sl wr)(O:t<G.n){S:Sto}{s j:Nat}(C:WG wr s j (G.ds t) S)(F:ZO K E (V0.Ds t) S)(M:V0.P.gone=false)(J:(V0.Ds t).dead=false){γ:Int}(Z:Uv V0.k V0.m t (stR (V0.Ds t).reads S.dir) γ)(hk:V0.k<=16)(hm:V0.m<=16):Calls prog 63 #[.pointer (some ⟨G.s,0,none⟩),.pointer (some ⟨s,0,none⟩),.string ⟨#[33]⟩,.int .i64 (t:Int)] wr λe w'=>e=.returned (.int .i64 γ)/\Below wr.heap.size wr w':=by
 have hn:=h.ep.n16;rcases Z with ⟨g,rfl,U,hc⟩|⟨rfl,hc⟩
 .exact IZ G.s s nmC wr (h.ep.pd t O) C.at_ F M J (by decide) hc hk hm (by omega) U (h.ep.set.cell (j:=0) rfl) (h.ep.set.cell (j:=1) rfl)
 .exact Tp G.s s t nmC _ wr (M6 (h.ep.pd t O) C.at_ F M J (by decide) (Or.inl hc))
variable{bl0:List Nat}{V:Ev}{Os:Nat->List Nat}
theorem Z3w(h:Op2 B w0 w1 G bl0 Q gb sb t gl sl V Ls Os wr)(hF:OpF w0 w1 G Q)(ht:t<G.n)(hB:B<=w0.heap.size)(cj:Ty wr)(bm:0<B)(hK:KOk K)(hE:E<=2000000000){S:Option Sto}{γ:Int}{A:List Ac}(al:WY K E V.k V.m g t (V.Ds t) S γ (V.Ms t) A)(ag:V.P.gone=false)(hk:V.k<=16)(hm:V.m<=16)(cn:V.gen=(g:Int))(au:g<=1000000000):Calls prog 64 #[.pointer (some ⟨G.s,0,none⟩),.int .i64 (t:Int),FP (Q t),.int .i64 γ] wr λe w'=>∃ev,e=.returned (.tuple #[.bool (V.Ms t).isSome,ev])/\Zk w' wr.heap.size (ZW A t V).1 ev/\Qv B G bl0 (ZW A t V).2.P (ZW A t V).2.Ds w0 w'/\((ZW A t V).1=0->∃J,Op2 B w0 w1 G bl0 Q gb sb t gl sl (ZW A t V).2 J Os w'):=by
 have c3:=h.ep.set.cell (j:=3) rfl;rw[show(Xp t V).gen=(g:Int) from cn] at c3;have hn:=h.ep.n16;have same:∀w',Below wr.heap.size wr w'->A=[]->Zk w' wr.heap.size (ZW A t V).1 .nilIface/\Qv B G bl0 (ZW A t V).2.P (ZW A t V).2.Ds w0 w'/\((ZW A t V).1=0->∃J,Op2 B w0 w1 G bl0 Q gb sb t gl sl (ZW A t V).2 J Os w'):=λw' F U=>by unfold ZW;rw[if_pos U];exact⟨Zk.nil _ _,(h.after F).d,λ_=>⟨_,h.after F⟩⟩
 have af:∀T,V.Ms t=some T->ZO K E (V.Ds t) T->A≠[]->(∃d f,Qu K T A d f)->∀s j,Q t=[s,j]->∀ga na ca b7,Below wr.heap.size wr b7->WD b7 ga 0 A->na=A.length->na<=ca->Calls prog 38 #[.pointer (some ⟨s,0,none⟩),.slice (some ⟨ga,0,none⟩) na ca] b7 λe w'=>∃ev,e=.returned ev/\Zk w' wr.heap.size (ZW A t V).1 ev/\Qv B G bl0 (ZW A t V).2.P (ZW A t V).2.Ds w0 w'/\((ZW A t V).1=0->∃J,Op2 B w0 w1 G bl0 Q gb sb t gl sl (ZW A t V).2 J Os w'):=by rintro T hM C U ⟨d,f,ha⟩ s j hq ga na ca w2 F ah aj ak;have O:=h.after F;obtain⟨M,ae⟩:=O.st t Z5D ht T hM;obtain⟨s',j',bf,M⟩:=M;rw[hq] at bf;cases bf;have aq:=hF.ge t ht;rw[hq] at aq;have g1:=aq s (by simp);have g2:=aq j (by simp);have hle:=hF.le;obtain⟨recs,az,_⟩:=C.img;have hc:=DZ B G.p (G.ds t) V.P (V.Ds t) (Ls t) s j ga 0 na ca T recs (V.Ds t).reads A d f w2 (O.ep.pd t ht) (by have:=O.le;omega) M (by omega) (by omega) ah aj ak az ha.plan ha.room ha.wrong ha.ne ha.few (by rw[C.wait];simp) (cj.below F) bm (by have:=C.ep;omega) (by have:=C.few hK;omega);rw[<-ha.go,<-ha.nx] at hc;refine hc.mono ?_;rintro e w3 ⟨ev,rfl,bh,hC⟩;obtain⟨e1,e2⟩:=Yr (V:=V) (x:=(t,λ_=>A)) hM;obtain⟨r1,r2⟩:=O.did (a:=λ_=>A) hF ht hM hq hC;unfold ZW;rw[if_neg U];refine⟨ev,rfl,?_,r1,r2⟩;show Zk w3 wr.heap.size (ZH V (t,λ_=>A)) ev;rw[e1];exact bh.base F.size
 rcases al.way with ⟨Z,U,h1,O⟩|⟨T,hS,Z,rfl,U,ah⟩|⟨T,gone,hS,Z,ct,rfl,hN,hT,bz,b8,bq,U,ah⟩
 .rw[Z];refine(PU G.s t g γ (FP (Q t)) wr c3 au h1 O).mono ?_;simp_all
 .obtain⟨C,ae, -⟩:=al.st T hS;obtain⟨s,j,hq,M⟩:=(h.st t Z5D ht T Z).1;have hp:FP (Q t)=.pointer (some ⟨s,0,none⟩):=by rw[hq];rfl
  rw[Z,hp];refine FS G.s s t g wr c3 (R:=λev w'=>Zk w' wr.heap.size (ZW A t V).1 ev/\Qv B G bl0 (ZW A t V).2.P (ZW A t V).2.Ds w0 w'/\((ZW A t V).1=0->∃J,Op2 B w0 w1 G bl0 Q gb sb t gl sl (ZW A t V).2 J Os w')) ?_
  refine Z0O s (G.ds t) T wr M.at_ C.sorted (by have:=C.few hK;omega) (λn e hn=>by
   obtain⟨_,h1,O⟩:=C.runs hn
   exact⟨h1,by omega⟩) (λh0 w' F=>same w' F (U.trans h0)) (λh0 ga na ca w' F _ ai _ aj ak=> ?_)
  grind
 .obtain⟨C,ae, -⟩:=al.st T hS;obtain⟨s,j,hq,M⟩:=(h.st t Z5D ht T Z).1;have hp:FP (Q t)=.pointer (some ⟨s,0,none⟩):=by rw[hq];rfl
  rw[Z,hp];have b9:=h.ep.pd t ht;obtain⟨g',rfl⟩:∃g',g=g'+1:=⟨g-1,by omega⟩;rw[show((g'+1:Nat):Int)-1=(g':Int) from by omega];have bu:∀n∈T.dir.names,n.length<=1000:=λn hn=>by obtain⟨x,hx,rfl⟩:=List.mem_map.1 hn;have:=(Jz hK _ (C.sm x hx).1).2;omega
  obtain⟨d,ah⟩:=ah;refine Ob G.s s t g' gone wr au b8 c3 (λx hx=> ?_) (λx F=> ?_) (λx cr F aw=> ?_)
  .exact IZ G.s s nmN x (b9.after hx.2) (M.at_.after hx.2) C ag ae (by decide) hN hk hm (by omega) au ((hx.2.cell h.ep.set.lt).trans (h.ep.set.cell (j:=0) rfl)) ((hx.2.cell h.ep.set.lt).trans (h.ep.set.cell (j:=1) rfl))
  .exact BT (b9.after F) (M.at_.after F) C ag ae (by simp) (by simp) bz hT
  .obtain⟨a,cap,rfl,aw,bj⟩:=aw;have h0:A≠[]:=ah.ne
   refine Kn s (G.ds t) T _ gone x (M.at_.after F) C.sorted (by have:=C.few hK;omega) bu ⟨a,cap,rfl,aw,bj⟩ b8 bq (λn e hn=>by
    obtain⟨_,h1,O⟩:=C.runs hn
    exact⟨h1,by omega⟩) (R:=λev w'=>Zk w' wr.heap.size (ZW A t V).1 ev/\Qv B G bl0 (ZW A t V).2.P (ZW A t V).2.Ds w0 w'/\((ZW A t V).1=0->∃J,Op2 B w0 w1 G bl0 Q gb sb t gl sl (ZW A t V).2 J Os w')) (λga na ca w' bg _ ai _ aj ak=> ?_)
   rw[<-U] at ai aj;exact af T Z C h0 ⟨d,[],ah⟩ s j hq ga na ca w' (F.trans (bg.mono F.size)) ai aj ak
theorem VN(h:Op2 B w0 w1 G bl0 Q gb sb t gl sl V Ls Os wr)(hF:OpF w0 w1 G Q)(C:t<G.n)(hB:B<=w0.heap.size){S:Sto}(hM:V.Ms t=some S):Calls prog 65 #[.pointer (some ⟨G.s,0,none⟩),.int .i64 (t:Int),FP (Q t)] wr λe w'=>e=.returned (.tuple #[])/\∃O,Op2 B w0 w1 G bl0 Q gb sb (t+1) gl sl V Ls O w':=by have J:=h.ep.at_ t C;rw[show(Xp t V).Ms t=none from if_neg (Nat.lt_irrefl t)] at J;obtain⟨sv,lf,inn,hO,F, -⟩:=J;obtain⟨gh,v, -,U⟩:=(h.ep.pd t C).dk;obtain⟨s,j,M,ae⟩:=(h.st t Z5D C S hM).1;rw[show FP (Q t)=.pointer (some ⟨s,0,none⟩) from by rw[M];rfl];refine(Fv G.s G.ms (G.xs t) t G.n G.cap G.p (G.ds t) gh s v sv (.int .i64 lf) (.bool inn) (V.Ds t) wr C (h.ep.set.cell (j:=2) rfl) (h.ep.mcell C) F U).mono ?_;rintro e w' ⟨rfl,hr,Z⟩;exact⟨rfl,_,h.enter hF hB C hM M F hr Z⟩
theorem Op2.ty(h:Op2 B w0 w1 G bl0 Q gb sb t gl sl V Ls Os wr)(O:∀k∈bl0,B<=k)(hB:B<=w0.heap.size)(J:Ty w0)(F:0<B):Ty wr:=by
 have M:Below B w0 wr:=h.fr.below hB (λk C=>by
  rcases Z5q.1 C with rfl|C
  .exact(h.ep.pd 0 h.ep.n1).bp
  .exact O k C)
 unfold Ty at J⊢;rw[M.cell (p:=⟨0,0,none⟩) F];omega
theorem Qv.ty{P:Pw}{Ds:Nat->Dk}{w w':World}(h:Qv B G bl0 P Ds w w')(J:∀k∈G.p::bl0,B<=k)(hB:B<=w.heap.size)(F:Ty w)(C:0<B):Ty w':=by obtain⟨_,_,_,_,M⟩:=h;unfold Ty at F⊢;rw[(M.below hB J).cell (p:=⟨0,0,none⟩) C];omega
theorem Op2.grewB(h:Op2 B w0 w1 G bl0 Q gb sb t gl sl V Ls Os wr)(hF:OpF w0 w1 G Q)(hs:w0.heap.size<=G.s)(F:G.n<=t):∀k∈Wb G Ls Os,k∈bl0∨w0.heap.size<=k:=λk C=>by
 rcases Qh.1 C with rfl|⟨i,hi,C⟩|⟨i,hi,C⟩
 .omega
 .exact h.grew i hi k C
 .have:=hF.le;rcases h.in_ i (by omega) k C with rfl|h1
  .exact Or.inr (hF.xs i hi).1
  .have:=hF.ge i hi k h1;omega
end
theorem Kq(a:List Ac)(t:Nat)(V:Ev):(ZW a t V).2.k=V.k/\(ZW a t V).2.m=V.m/\(ZW a t V).2.gen=V.gen/\(∀i,((ZW a t V).2.Ms i).isSome=(V.Ms i).isSome)/\∀i,i≠t->(ZW a t V).2.Ms i=V.Ms i/\(ZW a t V).2.Ds i=V.Ds i:=by
 unfold ZW;split
 .simp
 .obtain⟨h,C,F,J⟩:=XU V (t,λ_=>a);refine⟨h,C,F,J,λi hi=> ?_⟩;unfold ZB;split
  .exact⟨Z6 _ _ hi,Z6 _ _ hi⟩
  .simp
structure KE(V0:Ev)(n t:Nat)(V:Ev):Prop where
 k:V.k=V0.k
 m:V.m=V0.m
 gen:V.gen=V0.gen
 gone:V.P.gone=false
 same:∀i,t<=i->V.Ms i=V0.Ms i/\V.Ds i=V0.Ds i
 some_:∀i,(V.Ms i).isSome=(V0.Ms i).isSome
theorem KE.step{V0 V:Ev}{n t:Nat}{K:List Bs}{E k m g:Nat}{S:Option Sto}{γ:Int}{A:List Ac}(h:KE V0 n t V)(J:WY K E k m g t (V.Ds t) S γ (V.Ms t) A)(Z:(V.Ds t).ok 800)(U:(ZW A t V).1=0):KE V0 n (t+1) (ZW A t V).2:=by
 obtain⟨h1,h2,h3,h4,h5⟩:=Kq A t V;refine⟨h1.trans h.k,h2.trans h.m,h3.trans h.gen,?_,λi hi=> ?_,λi=>(h4 i).trans (h.some_ i)⟩
 .unfold ZW at U⊢;split
  .exact h.gone
  .rename_i hA;have C:∃T d f,V.Ms t=some T/\Qu K T A d f/\(V.Ds t).dead=false:=by
    rcases J.way with ⟨_,O,_⟩|⟨T,M,F,_,O,C⟩|⟨T,gone,M,F,_,_,_,_,_,_,_,O,d,C⟩
    .simp_all
    .obtain⟨d,f,C⟩:=C.resolve_left hA;exact⟨T,d,f,F,C,(J.st T M).2.1⟩
    .exact⟨T,d,[],F,C,(J.st T M).2.1⟩
   obtain⟨T,d,f,F,C,hd⟩:=C;obtain⟨e1,e2⟩:=Yr (V:=V) (x:=(t,λ_=>A)) F;rw[e1,C.go] at U;rw[e2,C.go];have hg:=Bj (T.ops A d f) (P:=V.P) C.in_ Z.fit hd h.gone;simp_all
 .obtain⟨e1,e2⟩:=h5 i (by omega);obtain⟨e3,e4⟩:=h.same i (by omega);simp_all
theorem V8(B:Nat)(w:World)(K:List Bs)(E gd n cap k m p g:Nat)(ds:Nat->Nat)(P:Pw)(Ds:Nat->Dk)(Ls:Nat->List Nat)(Ss I:Nat->Option Sto)(gv:Nat->Int)(A:Nat->List Ac)(hc:∀i,i<n->w.cell? ⟨gd,i,none⟩=some (.pointer (some ⟨ds i,0,none⟩)))(eu:gd<w.heap.size)(ek:gd∉p::(List.range n).flatMap Ls)(ib:1<=k)(hn:n=k+m)(bj:n<=16)(aw:B<=w.heap.size)(fc:∀i,i<n->PD B w p (ds i) 800 P (Ds i) (Ls i))(b8:∀i j,i<n->j<n->i≠j->∀q∈Ls i,q∉Ls j)(hK:KOk K)(ag:P.gone=false)(fh:Ty w)(de:0<B)(aj:∀i,i<n->WY K E k m g i (Ds i) (Ss i) (gv i) (I i) (A i))(bh:∃i,i<n/\gv i=(g:Int))(ah:k<=Dh I n)(hE:E<=2000000000)(gj:g<=1000000000):Calls prog 27 #[.slice (some ⟨gd,0,none⟩) n cap,.int .i64 (k:Int),.int .i64 (m:Int)] w λe w'=>∃sv ev,e=.returned (.tuple #[sv,ev])/\Zk w' w.heap.size (QC A n ⟨k,m,(g:Int),P,Ds,I⟩).1 ev/\Qv B ⟨n,p,0,0,0,λ_=>0,ds⟩ ((List.range n).flatMap Ls) (QC A n ⟨k,m,(g:Int),P,Ds,I⟩).2.P (QC A n ⟨k,m,(g:Int),P,Ds,I⟩).2.Ds w w'/\ ((QC A n ⟨k,m,(g:Int),P,Ds,I⟩).1≠0->sv=.pointer none)/\((QC A n ⟨k,m,(g:Int),P,Ds,I⟩).1=0->∃s ms c xs bl',sv=.pointer (some ⟨s,0,none⟩)/\EAt B w' ⟨n,p,s,ms,c,xs,ds⟩ (Xp n (QC A n ⟨k,m,(g:Int),P,Ds,I⟩).2) bl'/\∀q∈bl',q∈(List.range n).flatMap Ls∨w.heap.size<=q):=by
 have au:=Lx w gd n cap k m ds hc eu ib hn bj;have ic:1<=n:=by omega
 have bf:k<=16:=by omega
 have bg:m<=16:=by omega
 have ig:=run_make_row' (P:=prog) 46 3 (.int .i64 0) 8 underlying46 LM rfl .i64 .i64 n (by omega) (by omega);have ij:=run_make_row' (P:=prog) 126 89 (.pointer none) 8 underlying126 Z2k rfl .i64 .i64 n (by omega) (by omega);have iq:decide ((g:Int)<0)=false:=by simp
 have ew:=Z3p (λa ha=>(aj a ha).le) bh (by omega);have U:=Z5S au fc b8 aj ag hc hn ek fh ew ah;clear au fc b8 aj ag hn hc ek fh ew bh ah;go_enter func27,ntmps27;go_wp2_with (go_at_call 47;refine U.out.1.mono ?_;rintro e w1 ⟨s,v,xs,rfl,C⟩;obtain⟨ms,c_,hp⟩:=C.eat aw ic bj U.out.2.1 U.out.2.2.1;have fi:∀i,i<n->xs i<w1.heap.size:=λi hi=>(C.mem i hi).lt;have c3:w1.cell? ⟨s,3,none⟩=some (.int .i64 0):=hp.set.cell (j:=3) rfl;have f3:w1.frozen? ⟨s,3,none⟩=false:=hp.set.free (j:=3) (by simp);have dm:s<w1.heap.size:=hp.set.lt;have bq:s<w1.heap.size+1:=(by omega);have fA:∀o o',((w1.alloc o).alloc o').frozen? ⟨s,3,none⟩=false:=(λo o'=>((hp.set.alloc o).alloc o').free (j:=3) (by simp));have cA:∀o o',((w1.alloc o).alloc o').cell? ⟨s,3,none⟩=some (.int .i64 0):=(λo o'=>((hp.set.alloc o).alloc o').cell (j:=3) rfl);have H1:=Z5M hp C.bel C.sge C.ge fi;clear C hp fi);have du:Op1 B w (w1.setCell ⟨s,3,none⟩ (.int .i64 (-1))) ⟨n,p,s,ms,c_,xs,ds⟩ ⟨k,m,0,P,Ds,λ_=>none⟩ Ls Ss gv w1.heap.size (w1.heap.size+1) 0 (-1) (λ_=>[]) (madeCells #[.int .i64 0] n).toList (madeCells #[.pointer none] n).toList (((w1.setCell ⟨s,3,none⟩ (.int .i64 (-1))).alloc (.cells (madeCells #[.int .i64 0] n) 3)).alloc (.cells (madeCells #[.pointer none] n) 89)):=by
  have e:(w1.setCell ⟨s,3,none⟩ (.int .i64 (-1))).heap.size=w1.heap.size:=by simp
  have h9:=Op1.start (w1:=w1.setCell ⟨s,3,none⟩ (.int .i64 (-1))) (G:=⟨n,p,s,ms,c_,xs,ds⟩) (V0:=⟨k,m,0,P,Ds,λ_=>none⟩) (q:= -1) (Ss:=Ss) (gv:=gv) (H1.out.1.setGen (-1)) (H1.out.2.1.setCell (p:=⟨s,3,none⟩) H1.out.2.2.1 _) H1.out.2.2.1;rw[e] at h9;exact h9
 have H2:=Z5F du;clear du c3 f3 dm bq fA cA
 have fj:∀a,a<n->w.heap.size<=xs a/\xs a<(w1.setCell ⟨s,3,none⟩ (.int .i64 (-1))).heap.size:=λa ha=>⟨H1.out.2.2.2.1 a ha,by
  have e:(w1.setCell ⟨s,3,none⟩ (.int .i64 (-1))).heap.size=w1.heap.size:=by simp
  rw[e];exact H1.out.2.2.2.2 a ha⟩
 have fp:=Z5F fj;clear fj;generalize ft:((w1.setCell ⟨s,3,none⟩ (.int .i64 (-1))).alloc (.cells (madeCells #[.int .i64 0] n) 3)).alloc (.cells (madeCells #[.pointer none] n) 89)=w2 at*
 clear ft ig ij;generalize w1.setCell ⟨s,3,none⟩ (.int .i64 (-1))=wb at*
 generalize w1.heap.size+1=sb at*
 generalize w1.heap.size=gb at*
 generalize (madeCells #[.int .i64 0] n).toList=im at*
 generalize (madeCells #[.pointer none] n).toList=j9 at*
 go_loopw [42] (λkv wr=>∃ (t:Nat) (Q:Nat->List Nat) (gl sl:List Value),t<=n/\kv=.int .i64 t/\Op1 B w wb ⟨n,p,s,ms,c_,xs,ds⟩ ⟨k,m,0,P,Ds,λ_=>none⟩ Ls Ss gv gb sb t (BE gv t) Q gl sl wr) (λkv _=>n- (intOf kv).toNat)
 case atStart=>exact⟨0,_,_,_,by omega,rfl,H2.out⟩
 case round=>
  obtain⟨t,Q,gl,sl,iy,rfl,C⟩:=hrel;by_cases M:t<n
  .have ix:(t:Int)<(n:Int):=(by omega);have fu:=(C.bel.cell (p:=⟨gd,t,none⟩) eu).trans (U.out.2.2.2.2.2.1 t M);have hM:=C.mark (.int .i64 (-1));have f1:=C.gr.free (j:=t) (by rw[C.gn];exact M);obtain⟨u1,y1⟩:∃u,wr.cell? ⟨gb,t,none⟩=some u:=⟨_,C.gr.cell (Z5a (by rw[C.gn];exact M))⟩;have hD:=U.out.2.2.2.1 t M;have dp:=C.sz t Z5D M;obtain⟨q,hq⟩:=Z5H (BE gv t);obtain⟨γ,hγ⟩:∃γ,gv t=γ:=⟨_,rfl⟩;obtain⟨q1,dh⟩:=Z5H (max q γ);have cr:BE gv (t+1)=q1:=by rw[<-dh,<-hq,<-hγ];rfl
   have cn:=RN gv t;rw[hq] at hM cn;rw[hγ] at hD;have dc:=hM.ep.pd t M;clear C;cases bz:Ss t with
   |none=>
    obtain⟨ey,eh⟩:=hD.no bz;have fa:=Z2h B p (ds t) P (Ds t) (Ls t) _ dc (U.out.2.2.2.2.2.2.2.2.1.below hM.bel) U.out.2.2.2.2.1 ey;have J:=Z5P hM fa cr hγ eh dh cn dp;clear hM hD dc fa cr hγ eh ey dh cn dp;go_wp2_with (first|(go_at_call 62;refine J.out.2.1.mono ?_;rintro e w3 ⟨c,ev,ak,az,rfl,he,aq⟩;obtain⟨b,rfl⟩:=(he.split.resolve_left (λh=>ak h.1)).2;have dx:(c==10)=false:=(by rw[beq_eq_false_iff_ne];exact az);have O:=Z5K he dx aq;clear he aq ak az dx)|(go_at_call 19;refine(QJ _ c 10 _ _ O.out.1 (by decide)).mono ?_;rw[O.out.2.1];rintro e w4 ⟨rfl,rfl⟩));go_roundw
    case measure=>simp[intOf];omega
    case rel=>
     have h3:=J.out.1.after O.out.2.2;have e1:max q (-1)=q:=by have:=J.out.2.2.2.2.2.2.1;omega
     refine⟨t+1,upd Q t [],gl.set t (.int .i64 (-1)),sl,by omega,by go_num,?_⟩;rw[J.out.2.2.1,<-J.out.2.2.2.2.2.1,J.out.2.2.2.2.1,e1];refine J.out.1.next O.out.2.2 M (N:=[]) (by rw[bz];rfl) (λx hx=>by cases hx) (Fr.refl _ _) h3.gr h3.sr ?_ ?_
     .rw[J.out.2.2.2.1,J.out.2.2.2.2.1,List.set_set]
     .exact Z2c J.out.2.2.2.2.2.2.2
   |some S=>
    obtain⟨dq,dz,hC⟩:=hD.st S bz;have J:=Z5O hM dq dz hC cr hγ U.out.2.2.2.2.1;clear hM hD dc cr hγ dq dz hC cn dp;go_wp2_with (first|(go_at_call 62;refine(Z1J J.out.1 M J.out.2.1 J.out.2.2.2.2.2.2 J.out.2.2.1 hE).mono ?_;rintro e w3 ⟨s3,j3,rfl,fe,er,bu,aq⟩;have O:=Z5M (J.out.1.after aq) bu fe er aq;clear fe er bu aq)|(go_at_call 19;refine(Fw 10 _).mono ?_;rintro e w4 ⟨rfl,rfl⟩)|(go_at_call 63;refine(Z3v O.out.1 M O.out.2.1 J.out.2.1 J.out.2.2.2.2.2.2 J.out.2.2.1 J.out.2.2.2.1 bf bg).mono ?_;rintro e w5 ⟨rfl,cj⟩;have Z:=O.out.1.after cj;have z1:=Z.gr.free (j:=t) (by rw[Z.gn];exact M);have z2:=Z.sr.free (j:=t) (by rw[Z.sn];exact M);obtain⟨v1,z3⟩:∃u,w5.cell? ⟨gb,t,none⟩=some u:=⟨_,Z.gr.cell (Z5a (by rw[Z.gn];exact M))⟩;obtain⟨v2,z4⟩:∃u,w5.cell? ⟨sb,t,none⟩=some u:=⟨_,Z.sr.cell (Z5a (by rw[Z.sn];exact M))⟩;have ia:gb≠sb:=Row.ne Z.gr Z.sr (by decide);have iw:sb≠gb:=ia.symm;obtain⟨b1,b2,b3⟩:=Z.both (.int .i64 γ) (.pointer (some ⟨s3,0,none⟩));have R5:=Z5F (J.out.1.next (O.out.2.2.2.2.trans (cj.mono O.out.2.2.2.2.size)) M (N:=[s3,j3]) (by rw[bz];exact⟨s3,j3,rfl,O.out.2.1.after cj⟩) (λx hx=>(by simp only[Z5q,Z5y,or_false] at hx;rcases hx with rfl|rfl;exact O.out.2.2.1;exact O.out.2.2.2.1)) b3 b1 b2 (by rw[J.out.2.2.2.2.2.1]) rfl);clear Z cj b1 b2 b3));have h6:=R5.out;clear R5 z1 z2 z3 z4 f1 y1 fu;generalize ((w5.setCell ⟨gb,t,none⟩ (.int .i64 γ)).setCell ⟨sb,t,none⟩ (.pointer (some ⟨s3,0,none⟩)))=W at*
    have c3:W.cell? ⟨s,3,none⟩=some (.int .i64 q):=h6.ep.set.cell (j:=3) rfl;have f3:W.frozen? ⟨s,3,none⟩=false:=h6.ep.set.free (j:=3) (by simp);have cg:W.cell? ⟨gb,t,none⟩=some (.int .i64 γ):=by have h9:=h6.gr.cell (h6.gv t (by omega));rw[J.out.2.2.2.2.2.1] at h9;exact h9
    have H7:=Z5F ((h6.tell q1).after (Z5E.drew));clear h6;go_region;go_wp2_with fail;go_roundw
    case measure=>simp[intOf];omega
    case rel=>exact⟨t+1,_,_,_,by omega,by go_num,by rw[J.out.2.2.2.2.1];exact H7.out⟩
  .obtain rfl:t=n:=by omega
   have h2:=C.op2 (V:=⟨k,m,(g:Int),P,Ds,I⟩) (bl0:=(List.range t).flatMap Ls) rfl (by rw[U.out.2.2.2.2.2.2.2.2.2.1]) (λa ha S hM=>by
    rcases(U.out.2.2.2.1 a ha).way with ⟨h9,_⟩|⟨T,h8,h9,_⟩|⟨T,_,h8,h9,_⟩
    .have h7:I a=some S:=hM;rw[h9] at h7;cases h7
    .have h7:I a=some S:=hM;rw[h9] at h7;cases h7;exact⟨h8,((U.out.2.2.2.1 a ha).st _ h8).2.1⟩
    .have h7:I a=some S:=hM;rw[h9] at h7;cases h7
     exact⟨h8,((U.out.2.2.2.1 a ha).st _ h8).2.1⟩) (λa ha q hq=>List.mem_flatMap.2 ⟨a,List.mem_range.2 ha,hq⟩)
   have hF:=C.opF fp.out;have eo:=C.gv;have fg:=C.sv;have c3:wr.cell? ⟨s,3,none⟩=some (.int .i64 (g:Int)):=h2.ep.set.cell (j:=3) rfl;have b9:∀q∈(List.range t).flatMap Ls,B<=q:=λq hq=>by obtain⟨i,hi,hq⟩:=List.mem_flatMap.1 hq;exact(U.out.2.1 i (List.mem_range.1 hi)).bL q hq
   have hI:KE ⟨k,m,(g:Int),P,Ds,I⟩ t 0 ⟨k,m,(g:Int),P,Ds,I⟩:=⟨rfl,rfl,rfl,U.out.2.2.2.2.1,λ_ _=>⟨rfl,rfl⟩,λ_=>rfl⟩;have ae:=Z5N h2 hF eo fg b9 hI;have ik:¬ ((Dh I t:Nat):Int)<(k:Int):=by have:=U.out.2.2.2.2.2.2.2.2.2.2;omega
   clear C h2 hF eo fg b9 hI H2;go_wp2_with fail;go_loopw [16,94] (λmv kv wk=>∃ (i:Nat) (V:Ev) (ct Os:Nat->List Nat),i<=t/\mv=.int .i64 (Dh I i)/\kv=.int .i64 i/\(QC A i ⟨k,m,(g:Int),P,Ds,I⟩)=(0,V)/\KE ⟨k,m,(g:Int),P,Ds,I⟩ t i V/\Op2 B w wb ⟨t,p,s,ms,c_,xs,ds⟩ ((List.range t).flatMap Ls) Q gb sb i gl sl V ct Os wk) (λ_ kv _=>t- (intOf kv).toNat)
   case atStart=>exact⟨0,_,_,_,by omega,rfl,rfl,rfl,ae.out.2.2.2.2.2,ae.out.1⟩
   case round=>
    obtain⟨i,V,ct,Os,iu,rfl,rfl,af,hR,C⟩:=hrel;by_cases M:i<t
    .have ir:(i:Int)<(t:Int):=(by omega);obtain⟨dj,ff⟩:=hR.same i Z5D;have cw:WY K E V.k V.m g i (V.Ds i) (Ss i) (gv i) (V.Ms i) (A i):=by rw[hR.k,hR.m,dj,ff];exact U.out.2.2.2.1 i M
     have cg:=C.gr.cell (ae.out.2.2.1 i M);have cs:=C.sr.cell (ae.out.2.2.2.1 i M);have al:=Z3w C ae.out.2.1 M aw (C.ty ae.out.2.2.2.2.1 aw U.out.2.2.2.2.2.2.2.2.1 de) de hK hE cw hR.gone (by rw[hR.k];exact bf) (by rw[hR.m];exact bg) hR.gen gj;have ai:QC A (i+1) ⟨k,m,(g:Int),P,Ds,I⟩=ZW (A i) i V:=by rw[show QC A (i+1) ⟨k,m,(g:Int),P,Ds,I⟩=if(QC A i ⟨k,m,(g:Int),P,Ds,I⟩).1=0 then ZW (A i) i (QC A i ⟨k,m,(g:Int),P,Ds,I⟩).2 else QC A i ⟨k,m,(g:Int),P,Ds,I⟩ from rfl,af];rfl
     have ez:(ZW (A i) i V).1=0->KE ⟨k,m,(g:Int),P,Ds,I⟩ t (i+1) (ZW (A i) i V).2:=hR.step cw (C.ep.pd i M).ok;have b7:=UU I i;have fw:=Z33 I i;have cz:=(Kq (A i) i V).2.2.2.1 i;rw[<-show V.Ms i=I i from dj] at b7;obtain⟨q,hq⟩:=Z5H (Dh I i);obtain⟨b,hb⟩:=Z5H (V.Ms i).isSome;obtain⟨c,dy⟩:=Z5H (ZW (A i) i V).1;rw[hq] at b7 fw⊢;rw[hb] at al b7 cz;have F:=Z5N al ai ez b7 cz dy;have fo:=Z5F C.le
     have fm:=Z5F (show∀k'∈p::(List.range t).flatMap Ls,B<=k' from λk' df=>by
      rcases Z5q.1 df with rfl|df
      .exact(C.ep.pd i M).bp
      .exact ae.out.2.2.2.2.1 k' df)
     clear C al ai ez b7 cz dy hq hb cw dj ff af hR;by_cases ak:c=0
     .subst ak;cases b with
      |false=>
       go_wp2_with (go_at_call 64;refine F.out.1.mono ?_;rintro e w3 ⟨ev,rfl,he, -,bm⟩;rw[F.out.2.2.2.2.2] at he;obtain rfl:=he.zero;have O:=Z5F (bm F.out.2.2.2.2.2);clear he bm);go_roundw
       case measure=>simp[intOf];omega
       case rel=>
        obtain⟨cu,h3⟩:=O.out;refine⟨i+1,(ZW (A i) i V).2,cu,Os,by omega,by rw[F.out.2.2.2.1];rfl,by go_num,?_,F.out.2.2.1 F.out.2.2.2.2.2,h3.skip ?_⟩
        .rw[F.out.2.1];exact Prod.ext F.out.2.2.2.2.2 rfl
        .exact Option.not_isSome_iff_eq_none.1 (by rw[F.out.2.2.2.2.1];simp)
      |true=>
       go_wp2_with (first|(go_at_call 64;refine F.out.1.mono ?_;rintro e w3 ⟨ev,rfl,he, -,bm⟩;rw[F.out.2.2.2.2.2] at he;obtain rfl:=he.zero;obtain⟨cu,h3⟩:=bm F.out.2.2.2.2.2;obtain⟨S',dt⟩:=Option.isSome_iff_exists.1 F.out.2.2.2.2.1;have ef:=VN h3 ae.out.2.1 M aw dt;have O:=Z5F ef;clear he bm h3 dt ef)|(go_at_call 65;refine O.out.mono ?_;rintro e w4 ⟨rfl,fq,h4⟩;have R4:=Z5F h4;clear h4));go_roundw
       case measure=>simp[intOf];omega
       case rel=>exact⟨i+1,(ZW (A i) i V).2,cu,fq,by omega,by rw[F.out.2.2.2.1];rfl,by go_num,by rw[F.out.2.1];exact Prod.ext F.out.2.2.2.2.2 rfl,F.out.2.2.1 F.out.2.2.2.2.2,R4.out⟩
     .go_wp2_with (first|(go_at_call 64;refine F.out.1.mono ?_;rintro e w3 ⟨ev,rfl,he,hd, -⟩;rw[F.out.2.2.2.2.2] at he;obtain⟨b3,rfl⟩:=(he.split.resolve_left (λh=>ak h.1)).2;have O:=Z5J he hd;clear he hd)|(go_at_call 49;refine(CZ _ _ _ _ O.out.1 (O.out.2.ty (G:=⟨t,p,s,ms,c_,xs,ds⟩) fm.out aw U.out.2.2.2.2.2.2.2.2.1 de)).mono ?_;rintro e w4 ⟨v4,rfl,ee,dw⟩;have R4:=Z5J ee dw;clear ee dw));go_ret2;have ie:=VZ (A:=A) (V:=⟨k,m,(g:Int),P,Ds,I⟩) (t:=i+1) (by rw[F.out.2.1,F.out.2.2.2.2.2];exact ak) t (by omega);rw[ie,F.out.2.1,F.out.2.2.2.2.2];have iz:=fo.out;have j7:=ae.out.2.1.le;have j8:=SS O.out.2;exact⟨_,_,rfl,R4.out.1.base (by omega),O.out.2.after R4.out.2,λ_=>rfl,λh=>absurd h ak⟩
    .obtain rfl:i=t:=(by omega);have F:=Z5J C af;clear C hR af;go_wp2_with fail;go_ret2;rw[F.out.2];refine⟨_,_,rfl,Zk.nil _ _,F.out.1.d,λh=>absurd rfl h,λ_=>⟨s,ms,c_,xs,_,rfl,⟨ct,Os,rfl,F.out.1.ep⟩,F.out.1.grewB ae.out.2.1 H1.out.2.2.1 Z5D⟩⟩
end
section
open Go.RowKit
variable{D:Dk}
theorem Ej(h:D.wait=[])(keep:List Bool)(t:Int):D.lost keep t=D:=by cases D;subst h;rfl
theorem ZO.crash{K:List Bs}{E:Nat}{S:Sto}{acts:List Ac}{d:Dir}{f:Z1}(h:ZO K E D S)(hK:KOk K)(ok:D.ok 800)(U:D.dead=false)(ha:Qu K S acts d f){P:Pw}(F:P.gone=false)(hc:(Z2 (S.ops acts d f) P D).1≠0)(keep:List Bool)(t:Int):(ZO K E ((Z2 (S.ops acts d f) P D).2.2.lost keep t) S/\stR ((Z2 (S.ops acts d f) P D).2.2.lost keep t).reads S.dir=stR D.reads S.dir)∨ (ZO K (E+1) ((Z2 (S.ops acts d f) P D).2.2.lost keep t) (S.done d f)/\stR ((Z2 (S.ops acts d f) P D).2.2.lost keep t).reads (S.done d f).dir=acts.foldl Ac.on (stR D.reads S.dir)):=by
 have M:¬P.lets (S.ops acts d f).length:=λhl=>by obtain⟨Q,O,_⟩:=By ok.fit U ha.in_ hl;simp_all
 have af:0<=P.fuse:=by
  by_cases h9:0<=P.fuse
  .omega
  .exact absurd ⟨F,Or.inl (by omega)⟩ M
 have ag:P.fuse<((S.ops acts d f).length:Int):=by
  by_cases h9:P.fuse<((S.ops acts d f).length:Int)
  .omega
  .exact absurd ⟨F,Or.inr (by omega)⟩ M
 obtain⟨k,hk⟩:∃k:Nat,P.fuse=k:=⟨P.fuse.toNat,by omega⟩;obtain⟨Q,O,_⟩:=U2 ok.fit U ha.in_ F k hk (by omega);rw[O];obtain⟨recs,hi,hr⟩:=h.img;have ae:=YD D.reads hi.ok hi.used ha.wrong ha.plan;have Z:∀o∈Y4 (S.segs acts d f),o.In 800:=by rw[<-NY];exact ha.in_
 have hcut:=Z2b ok.fit h.wait Z k keep t;rw[<-NY] at hcut;have e0:D.reads=D.lasts:=funext λa=>BV h.wait a;obtain⟨D1,J⟩:=Z5I ((ZU ((S.ops acts d f).take k) D).lost keep t);rw[<-J] at hcut⊢;have C:D1.wait=[]:=by rw[J];rfl
 have e1:D1.reads=D1.lasts:=funext λa=>BV C a;rw[<-e0,<-e1] at hcut;rcases hi.cut (by omega) ae ha.room hcut with ⟨c1,c2⟩|c1
 .exact Or.inl ⟨⟨⟨recs,c1,hr⟩,h.sm,C,h.ep⟩,c2⟩
 .obtain⟨g1,g2⟩:=h.did hK ok ha;have e2:D1.reads=(ZU (S.ops acts d f) D).reads:=by rw[c1,Xo ok.fit ha.in_]
  refine Or.inr ⟨⟨?_,g1.sm,C,g1.ep⟩,?_⟩
  .obtain⟨rs,q1,q2⟩:=g1.img;grind
  .simp_all
theorem GU:∀ (l:List YG) (V:Ev),(Zg l V).1≠0->∃a x b,l=a++x::b/\(Zg a V).1=0/\ZH (Zg a V).2 x≠0/\Zg l V=(ZH (Zg a V).2 x,ZB (Zg a V).2 x):=by
 intro l
 induction l with
 |nil=>intro V h;exact absurd rfl h
 |cons x r ih=>
  intro V h;by_cases C:ZH V x=0
  .have e:Zg (x::r) V=Zg r (ZB V x):=(by rw[Zg,if_pos C]);rw[e] at h⊢;obtain⟨a,y,b,rfl,F,J,M⟩:=ih _ h;refine⟨x::a,y,b,rfl,?_⟩;have e2:Zg (x::a) V=Zg a (ZB V x):=(by rw[Zg,if_pos C]);simp_all
  .refine⟨[],x,r,rfl,rfl,C,?_⟩;show Zg (x::r) V=(ZH V x,ZB V x);rw[Zg,if_neg C]
section
variable{X:Z9}{n:Nat}{V:Ev}
theorem IM{ph ph':Nat->Dk->Sto->Prop}(h:X.At ph n V){i:Nat}{a:Sto->List Ac}(hi:i<n)(hK:KOk X.K){E:Nat}(F:∀S,V.Ms i=some S->ZO X.K E (V.Ds i) S/\∃d f,Qu X.K S (a S) d f)(hc:ZH V (i,a)≠0)(keep:Nat->List Bool)(t:Nat->Int)(hw:∀j D S,ph j D S->D.wait=[])(M:∀D D' S,ph i D S->ZO X.K E D' S->stR D'.reads S.dir=stR D.reads S.dir->ph i D' S)(O:∀S d f,V.Ms i=some S->Qu X.K S (a S) d f->∀D',ZO X.K (E+1) D' (S.done d f)->stR D'.reads (S.done d f).dir=(a S).foldl Ac.on (stR (V.Ds i).reads S.dir)->ph' i D' (S.done d f)):∀j,j<n->(V.Ms j).isSome=true->∃S,ph j (((ZB V (i,a)).Ds j).lost (keep j) (t j)) S∨ph' j (((ZB V (i,a)).Ds j).lost (keep j) (t j)) S:=by
 intro j J hM;obtain⟨S,C⟩:=Option.isSome_iff_exists.1 hM;obtain⟨g1,g2,g3⟩:=h.at_ j J S C;by_cases e:j=i
 .subst e;obtain⟨hB,d,f,ha⟩:=F S C;obtain⟨e1,e2⟩:=Yr (V:=V) (x:=(j,a)) C;rw[ha.go] at e1 e2;rw[e2];simp[Zo];rw[e1] at hc;rcases hB.crash hK g2 g3 ha h.gone hc (keep j) (t j) with ⟨c1,c2⟩|⟨c1,c2⟩
  .grind
  .grind
 .have e2:(ZB V (i,a)).Ds j=V.Ds j:=by
   unfold ZB;split
   .exact Z6 _ _ e
   .rfl
  rw[e2,Ej (hw j _ _ g1)];grind
theorem IL{ph:Nat->Dk->Sto->Prop}(h:X.At ph n V){i:Nat}{a:Sto->List Ac}(hi:i<n){E:Nat}(C:∀S,V.Ms i=some S->ZO X.K E (V.Ds i) S/\∃d f,Qu X.K S (a S) d f)(hc:ZH V (i,a)≠0):ZH V (i,a)=10/\(ZB V (i,a)).P.gone=true:=by
 cases hM:V.Ms i with
 |none=>unfold ZH at hc;rw[hM] at hc;exact absurd rfl hc
 |some S=>
  obtain⟨g1,g2,g3⟩:=h.at_ i hi S hM;obtain⟨_,d,f,ha⟩:=C S hM;obtain⟨e1,e2⟩:=Yr (V:=V) (x:=(i,a)) hM;rw[e1] at hc⊢;rw[e2];simp only[ha.go] at hc⊢;rcases Bj (S.ops (a S) d f) (P:=V.P) ha.in_ g2.fit g3 h.gone with h9|h9
  .exact absurd h9.1 hc
  .exact h9
theorem LW{α β:Type}{f:α->β}:∀{l:List α} {a:List β} {x:β} {b:List β},l.map f=a++x::b->∃C y F,l=C++y::F/\a=C.map f/\x=f y/\b=F.map f:=by
 intro l
 induction l with
 |nil=>intro a x b h;simp at h
 |cons z r ih=>
  intro a x b h;cases a with
  |nil=>simp at h;exact⟨[],z,r,rfl,rfl,h.1.symm,h.2.symm⟩
  |cons y a=>grind
theorem Z9.crash(M:X.Ok n)(h:X.At (ph1 X []) n V)(hc:(Zg (QQ X (ZI V n)) V).1≠0)(keep:Nat->List Bool)(t:Nat->Int):((∀j,j<n->(V.Ms j).isSome=true->∃S,X.p0 j (((Zg (QQ X (ZI V n)) V).2.Ds j).lost (keep j) (t j)) S∨X.p1 j (((Zg (QQ X (ZI V n)) V).2.Ds j).lost (keep j) (t j)) S)∨ (∀j,j<n->(V.Ms j).isSome=true->∃S,X.p1 j (((Zg (QQ X (ZI V n)) V).2.Ds j).lost (keep j) (t j)) S∨X.p2 j (((Zg (QQ X (ZI V n)) V).2.Ds j).lost (keep j) (t j)) S))/\(Zg (QQ X (ZI V n)) V).1=10/\(Zg (QQ X (ZI V n)) V).2.P.gone=true:=by
 have ai:(ZI V n).Nodup:=Bx;have aq:∀done j D S,ph1 X done j D S->D.wait=[]:=λdone j D S F=>by
  unfold ph1 at F;split at F
  .exact F.1.wait
  .exact F.1.wait
 have au:∀done j D S,ph2 X done j D S->D.wait=[]:=λdone j D S F=>by
  unfold ph2 at F;split at F
  .exact F.1.wait
  .exact F.1.wait
 unfold QQ at hc⊢;rw[Jg] at hc⊢;by_cases h0:(Zg ((ZI V n).map (op1 X)) V).1=0
 .rw[if_pos h0] at hc⊢;have hs:=Bt ((ZI V n).map (op1 X)) V;obtain⟨a1, -⟩:=Z9.seq1 M (ZI V n) [] V h (λi hi=>mem_ins.1 hi) (λi _=>by simp) ai;have af:=Z9.all1 (ins:=ZI V n) (λi hi hM=>mem_ins.2 ⟨hi,by rw[<-hs];exact hM⟩) (a1 h0);obtain⟨V1,al⟩:=Z5I (Zg ((ZI V n).map (op1 X)) V).2;rw[<-al] at af hs hc⊢;obtain⟨a,x,b,hl,q0,q1,q2⟩:=GU _ _ hc;obtain⟨J,i,b',ah,rfl,rfl,rfl⟩:=LW hl;rw[ah] at ai;have ag:∀q∈J++i::b',q<n/\(V1.Ms q).isSome=true:=λq U=>by rw[<-ah] at U;exact⟨(mem_ins.1 U).1,by rw[hs];exact(mem_ins.1 U).2⟩
  have ae:i∉J:=by grind
  obtain⟨b1, -⟩:=Z9.seq2 M J [] V1 af (λq U=>ag q (List.mem_append_left _ U)) (λq _=>by simp) (List.nodup_append.1 ai).1;rw[List.nil_append] at b1;have O:=b1 q0;have ak:=Bt (J.map (op2 X)) V1;rw[q2];obtain⟨Z,aj⟩:=Z5I (Zg (J.map (op2 X)) V1).2;rw[<-aj] at O ak q1⊢;have hi:=(ag i (by simp)).1;have hr:∀S,Z.Ms i=some S->ZO X.K (X.E+1) (Z.Ds i) S/\∃d f,Qu X.K S (Q0 S.dir (Zu X.l)) d f:=λS C=>by obtain⟨r1,d,r2⟩:=Z9.ready2 M O hi C ae;grind
  refine⟨Or.inr λj hj hM=> ?_,IL O hi hr q1⟩
  obtain⟨S,C⟩:=IM (ph':=X.p2) O hi M.hK hr q1 keep t (au J) (λD D' S F c1 c2=>by
    unfold ph2 at F⊢;rw[if_neg ae] at F⊢
    exact⟨c1,by rw[c2];exact F.2⟩) (λS d f C ha D' c1 c2=>by
    obtain⟨g1,g2,g3⟩:=O.at_ i hi S C;unfold ph2 at g1;rw[if_neg ae] at g1;have hz:=Gy M.hl.nd (M.rest i hi) g1.2 g1.1.sorted (λ_=>QV)
    exact⟨c1,by rw[c2];exact hz.2.1,by rw[c2];exact hz.2.2⟩) j hj (by simp_all)
  refine⟨S,?_⟩;rcases C with C|C
  .unfold ph2 at C;split at C
   .exact Or.inr C
   .exact Or.inl C
  .exact Or.inr C
 .rw[if_neg h0] at hc⊢;obtain⟨a,x,b,hl,q0,q1,q2⟩:=GU _ _ h0;obtain⟨J,i,b',ah,rfl,rfl,rfl⟩:=LW hl;rw[ah] at ai;have ag:∀q∈J++i::b',q<n/\(V.Ms q).isSome=true:=λq U=>by rw[<-ah] at U;exact mem_ins.1 U
  have ae:i∉J:=by grind
  obtain⟨b1, -⟩:=Z9.seq1 M J [] V h (λq U=>ag q (List.mem_append_left _ U)) (λq _=>by simp) (List.nodup_append.1 ai).1;rw[List.nil_append] at b1;have O:=b1 q0;have ak:=Bt (J.map (op1 X)) V;rw[q2];obtain⟨Z,aj⟩:=Z5I (Zg (J.map (op1 X)) V).2;rw[<-aj] at O ak q1⊢;have hi:=(ag i (by simp)).1;have hr:∀S,Z.Ms i=some S->ZO X.K X.E (Z.Ds i) S/\∃d f,Qu X.K S (QL X.k X.m i X.g X.l) d f:=λS C=>Z9.ready1 M O hi C ae;refine⟨Or.inl λj hj hM=> ?_,IL O hi hr q1⟩
  obtain⟨S,C⟩:=IM (ph':=X.p1) O hi M.hK hr q1 keep t (aq J) (λD D' S F c1 c2=>by
    unfold ph1 at F⊢;rw[if_neg ae] at F⊢
    exact⟨c1,by rw[c2];exact F.2⟩) (λS d f C ha D' c1 c2=>by
    obtain⟨g1,g2,g3⟩:=O.at_ i hi S C;unfold ph1 at g1;rw[if_neg ae] at g1;refine⟨c1,?_⟩;rw[c2,g1.2]
    exact VL M.hl.nd (M.rest i hi)) j hj (by simp_all)
  refine⟨S,?_⟩;rcases C with C|C
  .unfold ph1 at C;split at C
   .exact Or.inr C
   .exact Or.inl C
  .exact Or.inr C
end
end
section
open Go.RowKit
structure MK(A:Nat->List Ac)(V:Ev)(n:Nat)(r:Int×Ev):Prop where
 code:r.1=0
 gone:r.2.P.gone=false
 fuse:r.2.P.fuse<0
 num:r.2.k=V.k/\r.2.m=V.m/\r.2.gen=V.gen
 did:∀i,i<n->A i≠[]->∀S,V.Ms i=some S->r.2.Ms i=some (S.nx (A i))/\r.2.Ds i=ZU (S.go (A i)) (V.Ds i)
 not:∀i,n<=i∨A i=[]->r.2.Ms i=V.Ms i/\r.2.Ds i=V.Ds i
 life:∀i,(r.2.Ds i).life=(V.Ds i).life
 dead:∀i,(r.2.Ds i).dead=(V.Ds i).dead
theorem Kj{K:List Bs}{A:Nat->List Ac}{V:Ev}(hg:V.P.gone=false)(hf:V.P.fuse<0):∀n,(∀i,i<n->A i≠[]->∃S d f,V.Ms i=some S/\Qu K S (A i) d f/\(V.Ds i).ok 800/\(V.Ds i).dead=false)->MK A V n (QC A n V):=by
 intro n
 induction n with
 |zero=>intro _;exact⟨rfl,hg,hf,⟨rfl,rfl,rfl⟩,λi hi=>by omega,λi _=>⟨rfl,rfl⟩,λ_=>rfl,λ_=>rfl⟩
 |succ t ih=>
  intro h;have C:=ih (λi hi=>h i (by omega));unfold QC;rw[if_pos C.code];by_cases J:A t=[]
  .unfold ZW;rw[if_pos J]
   refine⟨rfl,C.gone,C.fuse,C.num,λi hi M=>C.did i (by
    rcases Nat.lt_succ_iff_lt_or_eq.1 hi with F|rfl
    .exact F
    .exact absurd J M) M,λi hi=>C.not i (by
    by_cases e:i=t
    .subst e;exact Or.inr J
    .exact hi.imp (λ_=>by omega) id),C.life,C.dead⟩
  .obtain⟨S,d,f,hM,ha,ag,hd⟩:=h t (by omega) J;have Z:(QC A t V).2.Ms t=some S:=(by rw[(C.not t (Or.inl Z5D)).1,hM]);obtain⟨e1,e2⟩:=Yr (V:=(QC A t V).2) (x:=(t,λ_=>A t)) Z;simp only[(C.not t (Or.inl Z5D)).2] at e1 e2;obtain⟨Q,U,ae,af⟩:=By (l:=S.go (A t)) (P:=(QC A t V).2.P) ag.fit hd (by rw[ha.go];exact ha.in_) ⟨C.gone,Or.inl C.fuse⟩;rw[U] at e1 e2;unfold ZW;rw[if_neg J,e1,e2];refine⟨rfl,ae,?_,C.num,λi hi M S' O=> ?_,λi hi=> ?_,λi=> ?_,λi=> ?_⟩
   .show Q.fuse<0;rw[af,if_pos C.fuse];exact C.fuse
   .by_cases e:i=t
    .subst e;rw[hM] at O;cases O;exact⟨Zo _ _ _,Zo _ _ _⟩
    .simp only[Z6 _ _ e];exact C.did i (by omega) M S' O
   .have e:i≠t:=by
     rintro rfl;rcases hi with F|F
     .omega
     .exact J F
    simp only[Z6 _ _ e];exact C.not i (hi.imp (λ_=>by omega) id)
   .by_cases e:i=t
    .subst e;simp only[Zo];have F:=(Y5 (S.go (A i)) (QC A i V).2.P (V.Ds i)).1;rw[U] at F;exact F
    .simp only[Z6 _ _ e];exact C.life i
   .by_cases e:i=t
    .subst e;simp only[Zo];have F:=(Y5 (S.go (A i)) (QC A i V).2.P (V.Ds i)).2;rw[U] at F;exact F
    .simp only[Z6 _ _ e];exact C.dead i
def Z9.q0(X:Z9)(i:Nat)(D:Dk)(S:Sto):Prop:=ZO X.K (X.E+2) D S/\stR D.reads S.dir=X.T i
def Z9.o0(X:Z9)(n:Nat)(D:Nat->Dk):Prop:=∀i,i<n->∃S,X.q0 i (D i) S∨X.p1 i (D i) S
def Z9.o2(X:Z9)(n:Nat)(D:Nat->Dk):Prop:=(∀i,i<n->∃S,X.p1 i (D i) S∨X.p2 i (D i) S)/\∃i S,i<n/\X.p2 i (D i) S
section
variable{X:Z9}{n:Nat}{D:Nat->Dk}
theorem Z9.pre0(M:X.Ok n){i:Nat}(hi:i<n){D:Dk}{S:Sto}(U:X.g<=1000000000)(O:D.dead=false)(h:X.q0 i D S):WY X.K (X.E+2) X.k X.m X.g i D (some S) X.g (some S) (acts0 S.dir)/\acts0 S.dir=[]:=by have C:=M.rest i hi;obtain⟨F,J⟩:=h;rw[<-J] at C;exact⟨⟨λe=>(by cases e),λT e=>(by cases e;exact⟨F,O,Or.inl ⟨_,rfl,U,C.card⟩⟩),Int.le_refl _,Or.inr (Or.inl ⟨S,rfl,rfl,rfl,rfl,Or.inl C.acts0⟩)⟩,C.acts0⟩
theorem NM{k m i g:Nat}{H:Bs->Option Bs}{l:List Chg}{T C:Tab}(h:Mid k m i g H l T C)(F:Xn k m i g H T):C nmC=some (some (Qq k m i g)):=by rw[h.rest nmC (by simp[nmC,nmN]) (by simp[nmC,nmT]) (λx e=>by simp[nmC,nmS] at e)];exact F.card
theorem Z9.pre1(C:X.Ok n){i:Nat}(hi:i<n){D:Dk}{S:Sto}(O:X.g<=1000000000)(M:D.dead=false)(h:X.p1 i D S):WY X.K (X.E+2) X.k X.m X.g i D (some S) X.g (some S) (acts0 S.dir)/\∃d,Qu X.K S (acts0 S.dir) d []:=by obtain⟨F,J⟩:=h;obtain⟨d,ha⟩:=F.dropped C.hK C.hl (C.rest i hi) J;exact⟨⟨λe=>(by cases e),λT e=>(by cases e;exact⟨F.mono (by omega),M,Or.inl ⟨_,rfl,O,NM J (C.rest i hi)⟩⟩),Int.le_refl _,Or.inr (Or.inl ⟨S,rfl,rfl,rfl,rfl,Or.inr ⟨d,[],ha⟩⟩)⟩,d,ha⟩
theorem Z9.pre1n(C:X.Ok n){i:Nat}(hi:i<n){D:Dk}{S:Sto}(U:X.g<=999999999)(M:D.dead=false)(h:X.p1 i D S):WY X.K (X.E+2) X.k X.m (X.g+1) i D (some S) X.g (some S) (Q0 S.dir (Zu X.l))/\∃d,Qu X.K S (Q0 S.dir (Zu X.l)) d []:=by
 obtain⟨J,F⟩:=h;obtain⟨d,ha⟩:=J.second C.hK C.hl (C.rest i hi) F;have hlen:(Zu X.l).length<=X.l.length:=by unfold Zu;exact List.length_filterMap_le _ _
 have O:=C.hl.few;refine⟨⟨λe=>(by cases e),λT e=>(by cases e;exact⟨J.mono (by omega),M,Or.inl ⟨_,rfl,by omega,NM F (C.rest i hi)⟩⟩),by omega,Or.inr (Or.inr ⟨S,Zu X.l,rfl,rfl,by omega,by omega,F.next,F.under,(Gf C.hK C.hl).2,by omega,λx hx=> ?_,rfl,d,ha⟩)⟩,d,ha⟩;obtain⟨c,hc,hx,_⟩:=Jh.1 hx;have:=(C.hK.len _ (C.hl.key c hc)).2;rw[<-hx];omega
theorem Z9.pre2(O:X.Ok n){i:Nat}{D:Dk}{S:Sto}(U:X.g<=999999999)(J:D.dead=false)(h:X.p2 i D S):WY X.K (X.E+2) X.k X.m (X.g+1) i D (some S) ((X.g+1:Nat):Int) (some S) (acts0 S.dir)/\acts0 S.dir=[]:=by obtain⟨F,C,M⟩:=h;exact⟨⟨λe=>(by cases e),λT e=>(by cases e;exact⟨F,J,Or.inl ⟨_,rfl,by omega,C.card⟩⟩),Int.le_refl _,Or.inr (Or.inl ⟨S,rfl,rfl,rfl,rfl,Or.inl C.acts0⟩)⟩,C.acts0⟩
theorem Z9.open0(F:X.Ok n)(J:X.g<=1000000000)(C:∀i,i<n->(D i).dead=false/\(D i).ok 800)(h:X.o0 n D):∃ (Ss:Nat->Sto) (A:Nat->List Ac),(∀i,i<n->WY X.K (X.E+2) X.k X.m X.g i (D i) (some (Ss i)) X.g (some (Ss i)) (A i))/\ ∀V:Ev,V.P.gone=false->V.P.fuse<0->V.Ds=D->(∀i,i<n->V.Ms i=some (Ss i))->MK A V n (QC A n V)/\∀i,i<n->∃S,(QC A n V).2.Ms i=some S/\X.q0 i ((QC A n V).2.Ds i) S:=by
 have Z:∀i,∃S:Sto,i<n->X.q0 i (D i) S∨X.p1 i (D i) S:=λi=>by
  by_cases hi:i<n
  .obtain⟨S,hS⟩:=h i hi;exact⟨S,λ_=>hS⟩
  .exact⟨Sto.first,λh=>absurd h hi⟩
 obtain⟨Ss,M⟩:=Classical.axiomOfChoice Z;refine⟨Ss,λi=>acts0 (Ss i).dir,λi hi=> ?_,λV h1 h2 h3 O=> ?_⟩
 .rcases M i hi with h9|h9
  .exact(Z9.pre0 F hi J (C i hi).1 h9).1
  .exact(Z9.pre1 F hi J (C i hi).1 h9).1
 .subst h3
  have U:=Kj (K:=X.K) (A:=λi=>acts0 (Ss i).dir) h1 h2 n (λi hi hn=>by
   rcases M i hi with h9|h9
   .exact absurd (Z9.pre0 F hi J (C i hi).1 h9).2 hn
   .obtain⟨d,ha⟩:=(Z9.pre1 F hi J (C i hi).1 h9).2
    exact⟨_,d,[],O i hi,ha,(C i hi).2,(C i hi).1⟩)
  refine⟨U,λi hi=> ?_⟩;rcases M i hi with h9|h9
  .obtain⟨g1,g2⟩:=U.not i (Or.inr (Z9.pre0 F hi J (C i hi).1 h9).2);rw[g1,g2];exact⟨_,O i hi,h9⟩
  .obtain⟨d,ha⟩:=(Z9.pre1 F hi J (C i hi).1 h9).2;obtain⟨g1,g2⟩:=U.did i hi ha.ne _ (O i hi);rw[g1,g2,ha.go,ha.nx];obtain⟨b1,b2⟩:=h9.1.did F.hK (C i hi).2 ha;obtain⟨r1,r2⟩:=NO (F.rest i hi) h9.2 h9.1.sorted (λn=>QV);exact⟨_,rfl,b1,by rw[b2];exact funext r2⟩
theorem Z9.open2(F:X.Ok n)(O:X.g<=999999999)(C:∀i,i<n->(D i).dead=false/\(D i).ok 800)(h:X.o2 n D):∃ (Ss:Nat->Sto) (A:Nat->List Ac) (gv:Nat->Int),(∀i,i<n->WY X.K (X.E+2) X.k X.m (X.g+1) i (D i) (some (Ss i)) (gv i) (some (Ss i)) (A i))/\(∃i,i<n/\gv i=((X.g+1:Nat):Int))/\ ∀V:Ev,V.P.gone=false->V.P.fuse<0->V.Ds=D->(∀i,i<n->V.Ms i=some (Ss i))->MK A V n (QC A n V)/\∀i,i<n->∃S,(QC A n V).2.Ms i=some S/\X.p2 i ((QC A n V).2.Ds i) S:=by
 classical
 have ae:∀i,∃S:Sto,i<n->(X.p1 i (D i) S∨X.p2 i (D i) S)/\((∃S,X.p2 i (D i) S)->X.p2 i (D i) S):=λi=>by
  by_cases hi:i<n
  .by_cases J:∃S,X.p2 i (D i) S
   .obtain⟨S,M⟩:=J;exact⟨S,λ_=>⟨Or.inr M,λ_=>M⟩⟩
   .obtain⟨S,M⟩:=h.1 i hi;exact⟨S,λ_=>⟨M,λh8=>absurd h8 J⟩⟩
  .exact⟨Sto.first,λh=>absurd h hi⟩
 obtain⟨Ss,U⟩:=Classical.axiomOfChoice ae;refine⟨Ss,λi=>if X.p2 i (D i) (Ss i) then acts0 (Ss i).dir else Q0 (Ss i).dir (Zu X.l),λi=>if X.p2 i (D i) (Ss i) then((X.g+1:Nat):Int) else X.g,λi hi=> ?_,?_,λV h1 h2 h3 Z=> ?_⟩
 .by_cases e:X.p2 i (D i) (Ss i)
  .simp only[if_pos e];exact(Z9.pre2 F O (C i hi).1 e).1
  .simp only[if_neg e];exact(Z9.pre1n F hi O (C i hi).1 ((U i hi).1.resolve_right e)).1
 .obtain⟨i,S,hi,M⟩:=h.2;exact⟨i,hi,if_pos ((U i hi).2 ⟨S,M⟩)⟩
 .subst h3
  have hO:=Kj (K:=X.K) (A:=λi=>if X.p2 i (V.Ds i) (Ss i) then acts0 (Ss i).dir else Q0 (Ss i).dir (Zu X.l)) h1 h2 n (λi hi hn=>by
   by_cases e:X.p2 i (V.Ds i) (Ss i)
   .simp only[if_pos e] at hn;exact absurd (Z9.pre2 F O (C i hi).1 e).2 hn
   .simp only[if_neg e];obtain⟨d,ha⟩:=(Z9.pre1n F hi O (C i hi).1 ((U i hi).1.resolve_right e)).2
    exact⟨_,d,[],Z i hi,ha,(C i hi).2,(C i hi).1⟩)
  refine⟨hO,λi hi=> ?_⟩;by_cases e:X.p2 i (V.Ds i) (Ss i)
  .obtain⟨g1,g2⟩:=hO.not i (Or.inr (by simp only[if_pos e];exact(Z9.pre2 F O (C i hi).1 e).2));rw[g1,g2];exact⟨_,Z i hi,e⟩
  .have J:=(U i hi).1.resolve_right e;obtain⟨d,ha⟩:=(Z9.pre1n F hi O (C i hi).1 J).2;obtain⟨g1,g2⟩:=hO.did i hi (by simp only[if_neg e];exact ha.ne) _ (Z i hi);simp only[if_neg e] at g1 g2;rw[g1,g2,ha.go,ha.nx];obtain⟨b1,b2⟩:=J.1.did F.hK (C i hi).2 ha;obtain⟨r1,r2,r3⟩:=Gy F.hl.nd (F.rest i hi) J.2 J.1.sorted (λn=>QV);exact⟨_,rfl,b1,by rw[b2];exact r2,λhs=>by rw[b2];exact r3 hs⟩
end
end
section
open Go.RowKit Go.Shelf
theorem ZY.kill{B:Nat}{w w':World}{G:Eg}{V:Ev}{Ls Os:Nat->List Nat}(h:ZY B w G V Ls Os){i:Nat}(hi:i<G.n){gh:Nat}(U:∃v,Ls i=G.ds i::gh::ZG v)(hd:Zr w' G.p (G.ds i) gh (.slice none 0 0) (V.Ds i).killed)(hf:Fr [G.ds i] w w')(hl:(V.Ds i).life<=1000):Zi B G (Wb G Ls Os) {V with Ds:=upd V.Ds i (V.Ds i).killed,Ms:=upd V.Ms i none} w w':=by
 obtain⟨v,U⟩:=U;have F:=h.pd i hi;have M:=h.at_ i hi;have O:G.ds i∈Ls i:=by rw[U];simp
 have ae:gh∈Ls i:=by rw[U];simp
 have hx:G.xs i∈Os i/\∃sv lf inn,Row w (G.xs i) 91 [.pointer (some ⟨G.ds i,0,none⟩),sv,.int .i64 lf,.bool inn]:=by
  cases hM:V.Ms i with
  |none=>rw[hM] at M;obtain⟨sv,lf,inn,Z,J,_⟩:=M;exact⟨by rw[Z];simp,sv,lf,inn,J⟩
  |some S=>rw[hM] at M;obtain⟨s,j,Z,J,_⟩:=M;exact⟨by rw[Z];simp,_,_,_,J⟩
 obtain⟨ah,sv,lf,inn,J⟩:=hx;have af:Z8 w [G.ds i] ND:=F.typedL.mono (λk C=>by rw[Z58] at C;subst C;exact O) (λ_ h=>h);have ag:=J.fr hf (af.row_ne J (by decide));refine h.step hi (X:=[]) (P':=V.P) (D':=(V.Ds i).killed) (M':=none) (L':=[G.ds i,gh]) (O':=[G.xs i]) (hf.mono (λk C _=> ?_)) (by simp) ⟨F.pw.fr hf (af.row_ne F.pw (by decide)),F.pok,⟨gh,.slice none 0 0,by simp[ZG,Value.ownBlock],hd⟩,Dk.killed_ok F.ok (by omega),F.bp,λk C=> ?_⟩ ⟨sv,lf,inn,rfl,ag,λ_=>Or.inl rfl⟩ (λk C=> ?_) (λk C=> ?_)
 .rw[Z58] at C;subst C;simp only[List.nil_append,Z5q];exact Or.inr O
 .simp only[Z5q,Z5y,or_false] at C;rcases C with rfl|rfl
  .exact F.bL _ O
  .exact F.bL _ ae
 .simp only[Z5q,Z5y,or_false] at C;rcases C with rfl|rfl
  .exact Or.inl O
  .exact Or.inl ae
 .rw[Z58] at C;subst C;exact Or.inl ah
theorem V6(B:Nat)(w:World)(G:Eg)(V:Ev)(bl:List Nat)(i:Nat)(h:EAt B w G V bl)(hi:i<G.n)(hl:(V.Ds i).life<=1000):Calls prog 26 #[.pointer (some ⟨G.ds i,0,none⟩)] w λe w'=>e=.returned (.tuple #[])/\Zi B G bl {V with Ds:=upd V.Ds i (V.Ds i).killed,Ms:=upd V.Ms i none} w w':=by obtain⟨Ls,Os,rfl,F⟩:=h;have C:=F.pd i hi;obtain⟨gh,v,M,O⟩:=C.dk;refine(Z1p G.p (G.ds i) gh v (V.Ds i) 800 w O C.ok).mono ?_;rintro e w' ⟨rfl,J,U⟩;exact⟨rfl,F.kill hi ⟨v,M⟩ J U hl⟩
end
section
variable{K:List Bs}{l:ZP}
def Dg(c:Int)(n:Nat):Nat:=((if c<0 then -(c+1) else c)%(n:Int)).toNat
theorem Gm(c:Int){n:Nat}(h:0<n):Dg c n<n:=by unfold Dg;have C:=Int.emod_lt_of_pos (if c<0 then -(c+1) else c) (b:=(n:Int)) (by omega);omega
def Ie(i:Nat):Bs:=[107,101,121,UInt8.ofNat (48+i)]
def K11:List Bs:=[97]::(List.range 10).map Ie
theorem K7:KOk K11:=⟨by decide,by decide⟩
theorem Z1n{i:Nat}(h:i<10):Ie i∈K11:=Z5n _ (List.mem_map.2 ⟨i,List.mem_range.2 h,rfl⟩)
def JL(x:En):Chg:=⟨Ie (Dg x.key 10),if x.gone then none else some (x.val.data.toList.take 200)⟩
def X5(l:List En):List Chg:=(l.take 4).map JL
theorem IH(l:List En):(X5 l).length<=4:=by unfold X5;rw[Z5i,Z5j];omega
theorem II(l:List En):∀c∈X5 l,c.key∈K11:=λc hc=>by obtain⟨x,_,rfl⟩:=List.mem_map.1 hc;exact Z1n (Gm _ (by omega))
theorem IJ(l:List En):∀c∈X5 l,∀v,c.val=some v->v.length<=200:=λc hc v hv=>by obtain⟨x,_,rfl⟩:=List.mem_map.1 hc;unfold JL at hv;grind
structure HOk(K:List Bs)(l:ZP):Prop where
 nd:(l.map (·.1)).Nodup
 key:∀p∈l,p.1∈K
 val:∀p∈l,p.2.length<=200
theorem HOk.nil(K:List Bs):HOk K []:=⟨by simp,λp h=>(by grind),λp h=>(by grind)⟩
theorem HOk.hold(h:HOk K l){c:Chg}(F:c.key∈K)(hv:∀v,c.val=some v->v.length<=200):HOk K (J7 l c):=by
 refine⟨GX h.nd c,λp C=> ?_,λp C=> ?_⟩<;>
 .unfold J7 at C;rcases Z5p.1 C with C|C
  .first|exact h.key p (List.mem_filter.1 C).1|exact h.val p (List.mem_filter.1 C).1
  .grind
theorem HOk.beh{cs:List Chg}:∀{l:ZP},HOk K l->(∀c∈cs,c.key∈K)->(∀c∈cs,∀v,c.val=some v->v.length<=200)->HOk K (YO l cs):=by
 induction cs with
 |nil=>intro l h _ _;exact h
 |cons c r ih=>intro l h C F;exact ih (h.hold (C c (by simp)) (F c (by simp))) (λc hc=>C c (Z5n _ hc)) (λc hc=>F c (Z5n _ hc))
theorem HOk.few(h:HOk K l)(hK:KOk K):l.length<=18:=by
 have C:=h.nd.length_le_of_subset (l₂:=K) (λx hx=>by
  obtain⟨p,F,rfl⟩:=List.mem_map.1 hx
  exact h.key p F)
 rw[Z5i] at C;exact Z5w C hK.few
theorem HOk.at_(h:HOk K l){i:Nat}(hi:i<l.length):Hof l l[i].1=some l[i].2:=Z2M h.nd (Z5r hi)
end
section
open Go.RowKit Go.Shelf
variable{a:Option Addr}{l:ZP}{v:Value}{w w':World}
def Y6(l:ZP):List Value:=l.flatMap λp=>[.string (str p.1),.string (str p.2)]
theorem KT(a b:ZP):Y6 (a++b)=Y6 a++Y6 b:=by simp[Y6]
theorem Pz(l:ZP):(Y6 l).length=l.length*2:=by
 induction l with
 |nil=>rfl
 |cons a l ih=>rw[show Y6 (a::l)=[.string (str a.1),.string (str a.2)]++Y6 l from by simp[Y6],Z5d,ih];simp;omega
theorem Py(l:ZP):∀ (k:Nat) (h:k<l.length),(Y6 l)[k*2]? =some (.string (str l[k].1))/\(Y6 l)[k*2+1]? =some (.string (str l[k].2)):=by
 induction l with
 |nil=>intro k h;simp at h
 |cons a l ih=>
  intro k h;have e:Y6 (a::l)=.string (str a.1):: .string (str a.2)::Y6 l:=by simp[Y6]
  rw[e]
  match k,h with
  |0,_=>exact⟨rfl,rfl⟩
  |k+1,h=>have C:=ih k (by simpa using h);rw[show(k+1)*2=k*2+2 from by omega,show k*2+2+1=(k*2+1)+2 from by omega];simpa using C
def Qk(w:World)(a:Option Addr)(l:ZP):Prop:=l=[]∨∃g sp,a=some ⟨g,0,none⟩/\Row w g 105 (Y6 l++sp)
theorem Qk.nil(w:World)(a:Option Addr):Qk w a []:=Or.inl rfl
theorem Qk.after(h:Qk w a l)(J:Below w.heap.size w w'):Qk w' a l:=by
 rcases h with h|⟨g,sp,C,F⟩
 .exact Or.inl h
 .exact Or.inr ⟨g,sp,C,F.after J⟩
theorem Qk.ran{B:Nat}{G:Eg}{V C:Ev}{bl:List Nat}(h:Qk w a l)(M:Zi B G bl C w w')(he:EAt B w G V bl):Qk w' a l:=by
 rcases h with h|⟨g,sp,F,J⟩
 .exact Or.inl h
 .exact Or.inr ⟨g,sp,F,M.row he J (by decide)⟩
theorem Qk.set{C:Addr}{e:TypeId}{r:List Value}(h:Qk w a l)(O:Row w C.block e r)(he:e≠105)(v:Value):Qk (w.setCell C v) a l:=by
 rcases h with h|⟨g,sp,M,F⟩
 .exact Or.inl h
 .exact Or.inr ⟨g,sp,M,F.fr (L:=[C.block]) ((Fr.refl _ _).setCell (Or.inl (by simp)) _) (by rw[Z58];exact Row.ne F O (λJ=>he J.symm))⟩
theorem Qk.at_(h:Qk w a l){k:Nat}(F:k<l.length):∃g,a=some ⟨g,0,none⟩/\g<w.heap.size/\w.cell? ⟨g,k*2,none⟩=some (.string (str l[k].1))/\w.cell? ⟨g,k*2+1,none⟩=some (.string (str l[k].2)):=by
 rcases h with rfl|⟨g,sp,J,C⟩
 .simp at F
 .obtain⟨e1,e2⟩:=Py l k F;have hl:=Pz l;refine⟨g,J,C.lt,C.cell ?_,C.cell ?_⟩
  .rw[Z5c (by omega)];exact e1
  .rw[Z5c (by omega)];exact e2
theorem Qk.own{base:Nat}(h:w.ownsRow base 105 2 v l.length (Y6 l)):∃a c,v=.slice a l.length c/\Qk w a l:=by
 cases l with
 |nil=>
  rcases h.2 with ⟨C,_⟩|⟨g,cap,cur,C,_⟩
  .exact⟨none,0,C,Or.inl rfl⟩
  .exact⟨_,cap,C,Or.inl rfl⟩
 |cons p r=>obtain⟨g,cap,sp,hv,J,M,O,F⟩:=YR h (by simp);exact⟨_,cap,hv,Or.inr ⟨g,sp,rfl,F⟩⟩
theorem IK(c:Int)(n:Nat)(w:World)(J: -9223372036854775808<=c)(M:c<=9223372036854775807)(h:0<n)(F:n<=1000):Calls prog 9 #[.int .i64 c,.int .i64 n] w λe w'=>e=.returned (.int .i64 (Dg c n:Nat))/\w=w':=by
 have C:=Gm c h;by_cases hc:c<0
 .go_enter func9,ntmps9;go_wp2;go_ret;refine⟨Wm ?_,rfl⟩;unfold Dg;rw[if_pos (by omega),<-Int.neg_tmod,Int.tmod_eq_emod_of_nonneg (by omega)];have:=Int.emod_nonneg (-(c+1)) (b:=(n:Int)) (by omega);omega
 .go_enter func9,ntmps9;go_wp2;go_ret;refine⟨Wm ?_,rfl⟩;unfold Dg;rw[if_neg (by omega)];have:=Int.emod_nonneg c (b:=(n:Int)) (by omega);rw[Int.toNat_of_nonneg this]
theorem Z0d(a b:Bs):((str a).toList==(str b).toList)=decide (a=b):=by
 rw[ByteArray.toList_eq,ByteArray.toList_eq,Zn,Zn];by_cases h:a=b
 .simp[h]
 .simp[h]
structure HoS(w:World)(key:Bs)(P:ZP)(v:Value)(wr:World):Prop where
 own:wr.ownsRow w.heap.size 105 2 v P.length (Y6 P)
 bel:Below w.heap.size w wr
theorem HoS.put{key:Bs}{P:ZP}{wr w8:World}(h:HoS w key P v wr){p:Bs×Bs}(F:Below wr.heap.size wr w'){g2 C:Nat}(O:w8.ownsRow w.heap.size 105 2 (.slice (some ⟨g2,0,none⟩) (P.length+1) C) (P.length+1) (Y6 P++[.string (str p.1),.string (str p.2)]))(M:Fr (ZG v) w' w8):HoS w key (P++[p]) (.slice (some ⟨g2,0,none⟩) (P.length+1) C) w8:=by have J:=h.bel.size;refine⟨?_,(h.bel.trans (F.mono J)).trans (M.below (Z5w J F.size) (WE h.own))⟩;rw[Z5d,KT];exact O
theorem Ps{α:Type}(f:α->Bool)(l:List α)(t:Nat)(h:t<l.length):(l.take (t+1)).filter f=(l.take t).filter f++(if f l[t]=true then[l[t]] else[]):=by rw[List.take_add_one,Z5a h,List.filter_append];simp only[Option.toList_some,List.filter_cons,List.filter_nil]
theorem Z19(w:World)(a:Option Addr)(cp:Nat)(l:ZP)(key val:Bs)(gn:Bool)(h:Qk w a l)(hl:l.length<=1000):Calls prog 42 #[.slice a l.length cp,.string (str key),.string (str val),.bool gn] w λe w'=>∃a' az,e=.returned (.slice a' ((l.filter λp=>p.1 !=key)++(if gn then[] else[(key,val)])).length az)/\Qk w' a' ((l.filter λp=>p.1 !=key)++(if gn then[] else[(key,val)]))/\Below w.heap.size w w':=by
 obtain⟨N,hN⟩:=Z5H l.length;have H:=Z5J h hN;rw[hN];rw[hN] at hl;clear h hN;have I0:=Z5F (show HoS w key [] (.slice none 0 0) w from⟨World.ownsRow_nil _ _ _ _,Z5E⟩);cases gn<;>
 .go_enter func42,ntmps42;go_wp2_with fail;go_loopw [9,10] (λv kv wr=>∃t:Nat,t<=N/\kv=.int .i64 t/\HoS w key ((l.take t).filter λp=>p.1 !=key) v wr) (λ_ kv _=>N- (intOf kv).toNat)
  case atStart=>exact⟨0,by omega,rfl,I0.out⟩
  case round=>
   obtain⟨t,ht,rfl,C⟩:=hrel;by_cases bf:t<N
   .have ae:t<l.length:=by rw[H.out.2];exact bf
    obtain⟨g,rfl,hg,c0,c1⟩:=H.out.1.at_ ae;have J:=Ps (λp:Bs×Bs=>p.1 !=key) l t ae;obtain⟨P,Z⟩:=Z5H ((l.take t).filter (λp=>p.1 !=key));rw[Z] at C J;obtain⟨F,ag⟩:=Z5H l[t].1;obtain⟨O,ah⟩:=Z5H l[t].2;have aj:l[t]=(F,O):=(by rw[<-ag,<-ah]);rw[ag] at c0;rw[ah] at c1;rw[aj] at J;have b7:P.length<=1000:=by rw[<-Z];exact Z5w (List.length_filter_le _ _) (by rw[Z5j];omega)
    have d0:=(C.bel.cell (p:=⟨g,t*2,none⟩) hg).trans c0;have d1:=(C.bel.cell (p:=⟨g,t*2+1,none⟩) hg).trans c1;have hz:=C.bel.size;have bh:(t:Int)<(N:Int):=(by omega);have af:=(Below.refl wr.heap.size wr).alloc Z5D (.cells #[.string (str F),.string (str O)] 105);have al:Row (wr.alloc (.cells #[.string (str F),.string (str O)] 105)) wr.heap.size 105 [.string (str F),.string (str O)]:=Row.new wr _ _;have ak:=Qz C.own af;have aw:=Z0d F key;by_cases e:F=key
    .rw[show decide (F=key)=true from by simp[e]] at aw;rw[if_neg (by simp[e]),Z5C] at J;have M:=Z5J C J;clear C J af al ak Z ag ah aj e;go_wp2_with fail;go_roundw
     case measure=>simp[intOf];omega
     case rel=>exact⟨t+1,by omega,by go_num,by rw[M.out.2];exact M.out.1⟩
    .rw[show decide (F=key)=false from by simp[e]] at aw;rw[if_pos (by simp[e])] at J;have M:=Z5M C J af al ak;clear C J af al ak Z ag ah aj e;go_wp2_with (at_builtin;refine QS _ rfl (.tmp 24) (.tmp 29) 36 105 rfl underlying36 Nu rfl (by omega) (by omega) w.heap.size _ P.length (Y6 P) rfl M.out.2.2.2.2 wr.heap.size 1 [.string (str F),.string (str O)] rfl (by omega) (by omega) rfl M.out.2.2.2.1 (by simp[Value.oneCell']) (by simp;omega) (by omega) ?_;intro g2 ai w8 ho hf _ _ _;have R8:=Z5F (M.out.1.put (p:=(F,O)) M.out.2.2.1 ho hf);clear ho hf);go_roundw
     case measure=>simp[intOf];omega
     case rel=>exact⟨t+1,by omega,by go_num,by rw[M.out.2.1];exact R8.out⟩
   .obtain rfl:t=N:=(by omega);have b9:l.take t=l:=Z5o (by rw[H.out.2];exact Z5D);rw[b9] at C;obtain⟨a9,c9,aq,au⟩:=Qk.own C.own;have U:=Z5K C.bel au C.own;clear C au;obtain⟨P,Z⟩:=Z5H (l.filter (λp=>p.1 !=key));rw[Z] at U aq;have b7:P.length<=1000:=by rw[<-Z];exact Z5w (List.length_filter_le _ _) (by rw[H.out.2];omega)
    have HV:=Z5F aq;clear aq;go_wp2_with (at_builtin;refine QS _ rfl (.tmp 33) (.tmp 37) 36 105 rfl underlying36 Nu rfl (by omega) (by omega) w.heap.size _ P.length (Y6 P) rfl (Qz U.out.2.2 ((Below.refl wr.heap.size wr).alloc Z5D _)) wr.heap.size 1 [.string (str key),.string (str val)] rfl (by omega) (by omega) rfl (Row.new wr _ _) (by simp[Value.oneCell']) (by have:=U.out.1.size;simp;omega) (by omega) ?_;intro g2 ai w8 ho hf _ _ _;have R8:=Z5F (HoS.put (key:=key) (p:=(key,val)) ⟨U.out.2.2,U.out.1⟩ ((Below.refl wr.heap.size wr).alloc Z5D _) ho hf);clear ho hf);go_ret
    first
     |exact⟨a9,⟨c9,by rw[HV.out];simp⟩,by simpa using U.out.2.1,U.out.1⟩
     |(obtain⟨a7,c7,bg,b8⟩:=Qk.own R8.out.own;exact⟨a7,⟨c7,by simpa using bg⟩,by simpa using b8,R8.out.bel⟩)
end
section
open Go.RowKit Go.Shelf
structure Rg where
 r:Nat
 gd:Nat
 cd:Nat
 gs:Nat
 cs:Nat
 k:Nat
 m:Nat
 n:Nat
def CT(R:Rg)(p:Nat)(sv hv:Value)(ha:Option Addr)(hn hc:Nat):List Value:=[.pointer (some ⟨p,0,none⟩),.slice (some ⟨R.gd,0,none⟩) R.n R.cd,.int .i64 (R.k:Int),.int .i64 (R.m:Int),sv,hv,.slice ha hn hc,.slice (some ⟨R.gs,0,none⟩) R.n R.cs]
def sdC(sd:Nat->Bool)(n:Nat):List Value:=(List.range n).map λi=>.bool (sd i)
structure ZX(B:Nat)(w:World)(R:Rg)(G:Eg)(V:Ev)(bl:List Nat)(sv hv:Value)(ha:Option Addr)(hc:Nat)(hs:ZP)(sd:Nat->Bool):Prop where
 room:Row w R.r 39 (CT R G.p sv hv ha hs.length hc)
 drow:∃sp,Row w R.gd 47 (Y7 R.n G.ds++sp)
 srow:∃sp,Row w R.gs 4 (sdC sd R.n++sp)
 held:Qk w ha hs
 set:EAt B w G V bl
 rB:B<=R.r
 gn:G.n=R.n
 kn:R.k+R.m=R.n
 k1:1<=R.k
section
variable{B:Nat}{w w':World}{R:Rg}{G:Eg}{V V':Ev}{bl:List Nat}{sv hv:Value}{ha:Option Addr}{hc:Nat}{hs:ZP}{sd:Nat->Bool}
theorem ZX.after(h:ZX B w R G V bl sv hv ha hc hs sd)(C:Below w.heap.size w w'):ZX B w' R G V bl sv hv ha hc hs sd:=by obtain⟨s1,F⟩:=h.drow;obtain⟨s2,J⟩:=h.srow;exact⟨h.room.after C,⟨s1,F.after C⟩,⟨s2,J.after C⟩,h.held.after C,h.set.after C,h.rB,h.gn,h.kn,h.k1⟩
theorem ZX.ran(h:ZX B w R G V bl sv hv ha hc hs sd)(C:Zi B G bl V' w w'):∃bl',ZX B w' R G V' bl' sv hv ha hc hs sd:=by obtain⟨s1,F⟩:=h.drow;obtain⟨s2,J⟩:=h.srow;obtain⟨bl',he,_⟩:=id C;exact⟨bl',C.row h.set h.room (by decide),⟨s1,C.row h.set F (by decide)⟩,⟨s2,C.row h.set J (by decide)⟩,h.held.ran C h.set,he,h.rB,h.gn,h.kn,h.k1⟩
theorem ZX.below(h:ZX B w R G V bl sv hv ha hc hs sd)(v:Value)(j:Nat):Below B w (w.setCell ⟨R.r,j,none⟩ v):=(Below.refl B w).setCell (p:=⟨R.r,j,none⟩) h.rB _
theorem ZX.bw(h:ZX B w R G V bl sv hv ha hc hs sd):B<=w.heap.size:=h.set.bw
theorem ZX.dcell(h:ZX B w R G V bl sv hv ha hc hs sd){i:Nat}(hi:i<R.n):w.cell? ⟨R.gd,i,none⟩=some (.pointer (some ⟨G.ds i,0,none⟩)):=by obtain⟨s1,C⟩:=h.drow;exact C.cell (by rw[Z5c (by rw[YY];exact hi)];exact XF _ _ _ hi)
theorem ZX.scell(h:ZX B w R G V bl sv hv ha hc hs sd){i:Nat}(hi:i<R.n):w.cell? ⟨R.gs,i,none⟩=some (.bool (sd i)):=by obtain⟨s1,C⟩:=h.srow;exact C.cell (by rw[Z5c (by simpa[sdC] using hi)];simp[sdC,hi])
theorem ZX.tells(h:ZX B w R G V bl sv hv ha hc hs sd)(j:Nat)(v:Value):(∃sp,Row (w.setCell ⟨R.r,j,none⟩ v) R.gd 47 (Y7 R.n G.ds++sp))/\(∃sp,Row (w.setCell ⟨R.r,j,none⟩ v) R.gs 4 (sdC sd R.n++sp))/\Qk (w.setCell ⟨R.r,j,none⟩ v) ha hs/\EAt B (w.setCell ⟨R.r,j,none⟩ v) G V bl/\Row (w.setCell ⟨R.r,j,none⟩ v) R.r 39 ((CT R G.p sv hv ha hs.length hc).set j v):=by obtain⟨s1,d1⟩:=h.drow;obtain⟨s2,d2⟩:=h.srow;have C:Fr [R.r] w (w.setCell ⟨R.r,j,none⟩ v):=(Fr.refl _ _).setCell (Or.inl (by simp)) _;exact⟨⟨s1,d1.fr C (by rw[Z58];exact Row.ne d1 h.room (by decide))⟩,⟨s2,d2.fr C (by rw[Z58];exact Row.ne d2 h.room (by decide))⟩,h.held.set h.room (by decide) _,h.set.setCell (a:=⟨R.r,j,none⟩) h.room (by decide) (by decide) (by decide) (by decide) _,h.room.set j v⟩
theorem ZX.setS(h:ZX B w R G V bl sv hv ha hc hs sd)(v:Value):ZX B (w.setCell ⟨R.r,4,none⟩ v) R G V bl v hv ha hc hs sd:=by obtain⟨C,F,J,M,O⟩:=h.tells 4 v;exact⟨O,C,F,J,M,h.rB,h.gn,h.kn,h.k1⟩
theorem ZX.heal(h:ZX B w R G V bl sv hv ha hc hs sd)(v:Value):ZX B (w.setCell ⟨R.r,5,none⟩ v) R G V bl sv v ha hc hs sd:=by obtain⟨C,F,J,M,O⟩:=h.tells 5 v;exact⟨O,C,F,J,M,h.rB,h.gn,h.kn,h.k1⟩
end
theorem UZ(B:Nat)(w:World)(G:Eg)(V:Ev)(bl:List Nat)(key:Bs)(h:EAt B w G V bl)(af:1<=key.length)(ae:key.length<=200)(M:Fk V G.n)(O:(List.range G.n).any (YE V key)=false):Calls prog 28 #[.pointer (some ⟨G.s,0,none⟩),.string (str key)] w λe w'=>∃ev,e=.returned (.tuple #[.string ⟨#[]⟩,ev])/\Zk w' w.heap.size 13 ev/\Zi B G bl V w w':=by
 have c4:=h.scell.cell (j:=4) rfl;have hm:(decide (1<=(str key).size)&&decide ((str key).size<=200))=true:=by rw[Z5];simp;omega
 have F:=Gc B w G V bl key h ae M;rw[O] at F;have H:=Z5F F;clear h F M O;go_enter func28,ntmps28;go_wp2_with (first|(go_at_call 66;refine(Ch _ _).mono ?_;rw[hm];rintro e w1 ⟨rfl,rfl⟩)|(go_at_call 67;refine H.out.mono ?_;rintro e w2 ⟨rfl,C⟩;have C:=Z5F C)|(go_at_call 31;refine(Pp 13 0 (by decide) _).mono ?_;rintro e w3 ⟨b,rfl,he, -,U⟩;have Z:w.heap.size<=w2.heap.size:=(by obtain⟨_,_,_,f9⟩:=C.out;exact f9.size);have J:=Z5K he (C.out.after U) Z;clear he U Z));go_ret2;exact⟨_,rfl,J.out.1.base J.out.2.2,J.out.2.1⟩
end
section
open Go.RowKit Go.Shelf
variable{E g k m n:Nat}{H:Bs->Option Bs}{K:List Bs}{V:Ev}{sd:Nat->Bool}
theorem Strs.sl{w:World}{base:Nat}{v:Value}{l:List Bs}(h:Strs w base v l):∃a c,v=.slice a l.length c:=by
 rcases h.2 with ⟨C,F⟩|⟨g,cap,cur,C,_⟩
 .exact⟨none,0,by rw[C,F]⟩
 .exact⟨_,cap,C⟩
theorem Za.not_there(h:Za K E k m n g H sd V){key:Bs}(C:H key=none):(List.range n).any (YE V key)=false:=by
 rw[List.any_eq_false];intro i hi;unfold YE;cases hM:V.Ms i with
 |none=>simp
 |some S=>simp only[QV.2 ((h.in_ i (List.mem_range.1 hi) S hM).2.none_ key C)];simp
theorem Za.runs(h:Za K E k m n g H sd V):Fk V n:=λi hi S hM _ _ hm=>by obtain⟨_,C,F⟩:=(h.in_ i hi S hM).1.runs hm;exact⟨C,F⟩
theorem Za.getA(h:Za K E k m n g H sd V){B:Nat}{w:World}{G:Eg}{bl:List Nat}(he:EAt B w G V bl)(F:G.n=n)(Z:Ty w)(O:0<B){key:Bs}(M:key∈K)(hv:∀v,H key=some v->v.length<=200):Calls prog 28 #[.pointer (some ⟨G.s,0,none⟩),.string (str key)] w λe w'=>∃v ev,e=.returned (.tuple #[.string (str v),ev])/\((H key=some v/\ev=.nilIface)∨(H key=none/\∃b,ev=.iface 139 (.pointer (some ⟨b,0,none⟩))))/\Zi B G bl V w w':=by
 have U:=h.hK.len key M;cases C:H key with
 |none=>refine(UZ B w G V bl key he U.1 (by omega) (by rw[F];exact h.runs) (by rw[F];exact h.not_there C)).mono ?_;rintro e w' ⟨ev,rfl,he,J⟩;exact⟨[],ev,rfl,Or.inr ⟨rfl,(he.split.resolve_left (λh=>absurd h.1 (by decide))).2⟩,J⟩
 |some v=>refine(h.get he F Z O C M (hv v C)).mono ?_;rintro e w' ⟨rfl,J⟩;exact⟨v,_,rfl,Or.inl ⟨rfl,rfl⟩,J⟩
theorem Vn(B:Nat)(w:World)(G:Eg)(V:Ev)(bl:List Nat)(K:List Bs)(E k m n g:Nat)(H:Bs->Option Bs)(sd:Nat->Bool)(hs:ZP)(a:Option Addr)(cp:Nat)(aj:Za K E k m n g H sd V)(O:∀x v,H x=some v->v.length<=200)(hh:HOk K hs)(he:EAt B w G V bl)(hn:G.n=n)(ht:Ty w)(b8:0<B)(hr:Qk w a hs):Calls prog 14 #[.pointer (some ⟨G.s,0,none⟩),.slice a hs.length cp] w λe w'=>∃b,e=.returned (.bool b)/\((∀x,H x=Hof hs x)->b=true)/\Zi B G bl V w w':=by
 have hk:=aj.keysW he hn;have ak:=hh.few aj.hK;obtain⟨N,hN⟩:=Z5H hs.length;have C:=Z5Q hk aj hh he ht hr hN hn O;rw[hN] at ak⊢;clear hk aj hh he ht hr hN hn O;go_enter func14,ntmps14;go_wp2_with (go_at_call 43;refine(show Calls prog 43 #[.pointer (some ⟨G.s,0,none⟩),.string ⟨#[]⟩] _ _ from C.out.1).mono ?_;rintro e w1 ⟨v,L,rfl,bh,bg,af,ag⟩;obtain⟨a1,c1,rfl⟩:=bh.sl;have hlen:(∀x,H x=Hof hs x)->L.length=N:=(λhx=>by have M:=Z1o C.out.2.2.1.nd bg (λx=>by rw[af,hx]);rw[C.out.2.2.2.2.2.2.1] at M;exact M);obtain⟨J,az⟩:=Z5H L.length;rw[az] at hlen⊢;have R1:=Z5J ag hlen;clear bh bg af ag az hlen;by_cases b7:J=N;case' neg=>have ct:((J:Int) !=(N:Int))=true:=(by simp;omega))
 .go_ret;exact⟨_,rfl,λh=>absurd (R1.out.2 h) b7,R1.out.1⟩
 .subst b7;go_loopw [7] (λkv wr=>∃t:Nat,t<=J/\kv=.int .i64 t/\Zi B G bl V w wr) (λkv _=>J- (intOf kv).toNat)
  case atStart=>exact⟨0,by omega,rfl,R1.out.1⟩
  case round=>
   obtain⟨t,dc,rfl,U⟩:=hrel;by_cases cn:t<J
   .have cz:(t:Int)<(J:Int):=(by omega);have Z:t<hs.length:=by rw[C.out.2.2.2.2.2.2.1];exact cn
    have al:=C.out.2.2.2.2.2.1.ran U C.out.2.2.2.1;obtain⟨ga,rfl,hg,c0,bm⟩:=al.at_ Z;have bj:=Zi.ty U C.out.2.2.2.1 C.out.2.2.2.2.1 b8;obtain⟨cr,e1,g1,f1⟩:=U;have ae:=C.out.2.1.getA e1 C.out.2.2.2.2.2.2.2.1 bj b8 (C.out.2.2.1.key _ (Z5r Z)) (C.out.2.2.2.2.2.2.2.2 _);have ai:=C.out.2.2.1.at_ Z;obtain⟨kk,bf⟩:=Z5H hs[t].1;obtain⟨vv,au⟩:=Z5H hs[t].2;rw[bf] at c0 ae ai;rw[au] at bm ai;have F:=Z5O ae e1 g1 f1 al au ai;clear ae e1 g1 f1 al au bf bj ai;go_wp2_with (go_at_call 28;refine F.out.1.mono ?_;rintro e w2 ⟨v,ev,rfl,cj,aq⟩;have b9:=F.out.2.2.2.2.1.ran aq F.out.2.1;obtain⟨bz,aw,cu,bq,bu⟩:=b9.at_ Z;obtain rfl:bz=ga:=(by simpa using aw.symm);rw[F.out.2.2.2.2.2.1] at bu;have R2:=Z5F (Zi.trans ⟨F.out.2.1,F.out.2.2.1,F.out.2.2.2.1⟩ aq);clear aq b9 aw bq;rcases cj with ⟨O,rfl⟩|⟨O,b2,rfl⟩;case' inl=>by_cases ah:v=vv;case' neg=>have cw:((str v).toList==(str vv).toList)=false:=(by rw[Z0d];simpa using ah))
    .go_ret;exact⟨false,rfl,λh=>absurd (by have M:=h kk;rw[O,F.out.2.2.2.2.2.2] at M;exact Option.some.inj M) ah,R2.out⟩
    .go_roundw
     case measure=>simp[intOf];omega
     case rel=>exact⟨t+1,by omega,by go_num,R2.out⟩
    .go_ret;exact⟨false,rfl,λh=>(by have M:=h kk;rw[O,F.out.2.2.2.2.2.2] at M;cases M),R2.out⟩
   .obtain rfl:t=J:=(by omega);have HR:=Z5F U;clear U;go_wp2_with fail;go_ret;exact Or.inr ⟨rfl,HR.out⟩
end
section
open Go.RowKit Go.Shelf
theorem IY(n:Nat):(Dk.fresh n).wait.length<=1000:=Nat.zero_le _
theorem IX(n:Nat):(Dk.fresh n).life<=2:=by show(0:Int)<=2;omega
theorem GW(w:World)(s:Nat):Calls prog 30 #[.pointer (some ⟨s,0,none⟩)] w λe w'=>∃h,e=.returned (.pointer (some ⟨h,0,none⟩))/\Below w.heap.size w w':=by have C:=λ(W:World) (a:Addr) (x:Array Value)=>run_store prog W a (.func (.func 70) x #[]) .plain rfl;go_enter func30,ntmps30;go_wp2;go_ret;exact⟨_,rfl,Z5E.alloc Z5D _⟩
structure RmB(B:Nat)(P:Pw)(w0:World)(r p k m td:Nat)(dv sv:Value)(ds gh:Nat->Nat)(wr:World):Prop where
 room:Row wr r 39 [.pointer (some ⟨p,0,none⟩),dv,.int .i64 (k:Int),.int .i64 (m:Int),.pointer none,.pointer none,.slice none 0 0,sv]
 pw:Ze wr p P
 dk:∀i,i<td->Zr wr p (ds i) (gh i) (.slice none 0 0) (Dk.fresh 800)
 ge:∀i,i<td->w0.heap.size<=ds i/\w0.heap.size<=gh i
 ap:∀i j,i<td->j<td->i≠j->ds i≠ds j/\gh i≠gh j
 rge:w0.heap.size<=r
 pge:B<=p
 pok:P.ok
 bw:B<=w0.heap.size
 bel:Below w0.heap.size w0 wr
section
variable{B:Nat}{P:Pw}{w0 wr w':World}{r p k m td:Nat}{dv sv:Value}{ds gh:Nat->Nat}
theorem RmB.fr(h:RmB B P w0 r p k m td dv sv ds gh wr){X:List Nat}(C:Fr X wr w')(F:Z8 wr X [47,4])(O:∀x∈X,w0.heap.size<=x):RmB B P w0 r p k m td dv sv ds gh w':=by refine⟨h.room.fr C (F.row_ne h.room (by simp)),h.pw.fr C (F.row_ne h.pw (by simp)),λi hi=> ?_,h.ge,h.ap,h.rge,h.pge,h.pok,h.bw,h.bel.trans (C.below h.bel.size O)⟩;have J:=h.dk i hi;obtain⟨l,M⟩:∃l,Row wr (gh i) 5 l:=⟨_,J.bytes.row⟩;exact J.fr C (F.row_ne J.top (by simp)) (F.row_ne M (by simp)) (λg U=>by cases U)
theorem RmB.after(h:RmB B P w0 r p k m td dv sv ds gh wr)(F:Below wr.heap.size wr w'):RmB B P w0 r p k m td dv sv ds gh w':=h.fr (X:=[]) (Fr.of_below (L:=[]) F) (λk C=>by cases C) (λk C=>by cases C)
theorem RmB.put(h:RmB B P w0 r p k m td dv sv ds gh wr){M O:Value}{l:List Value}(hr:Row w' r 39 [.pointer (some ⟨p,0,none⟩),M,.int .i64 (k:Int),.int .i64 (m:Int),.pointer none,.pointer none,.slice none 0 0,O])(F:Fr [r] wr w'):RmB B P w0 r p k m td M O ds gh w':=by have J:Z8 wr [r] [39]:=Z8.row h.room (by simp);refine⟨hr,h.pw.fr F (J.row_ne h.pw (by simp)),λi hi=> ?_,h.ge,h.ap,h.rge,h.pge,h.pok,h.bw,h.bel.trans (F.below h.bel.size (λk U=>by rw[Z58] at U;subst U;exact h.rge))⟩;have C:=h.dk i hi;obtain⟨l,Z⟩:∃l,Row wr (gh i) 5 l:=⟨_,C.bytes.row⟩;exact C.fr F (J.row_ne C.top (by simp)) (J.row_ne Z (by simp)) (λg hg=>by cases hg)
theorem RmB.more(h:RmB B P w0 r p k m td dv sv ds gh wr)(Z:Below wr.heap.size wr w'){d g:Nat}(hd:Zr w' p d g (.slice none 0 0) (Dk.fresh 800))(h1:wr.heap.size<=d)(O:wr.heap.size<=g):RmB B P w0 r p k m (td+1) dv sv (upd ds td d) (upd gh td g) w':=by
 have C:=h.after Z;have hz:=h.bel.size
 have M:∀i,i<td->ds i<wr.heap.size/\gh i<wr.heap.size:=λi hi=>⟨(h.dk i hi).top.lt,by
  obtain⟨l,O⟩:∃l,Row wr (gh i) 5 l:=⟨_,(h.dk i hi).bytes.row⟩
  exact O.lt⟩
 refine⟨C.room,C.pw,λi hi=> ?_,λi hi=> ?_,λi j hi hj U=> ?_,h.rge,h.pge,h.pok,h.bw,C.bel⟩
 .by_cases e:i=td
  .subst e;rw[Zo,Zo];exact hd
  .rw[Z6 _ _ e,Z6 _ _ e];exact C.dk i (by omega)
 .by_cases e:i=td
  .subst e;rw[Zo,Zo];omega
  .rw[Z6 _ _ e,Z6 _ _ e];exact h.ge i (by omega)
 .by_cases F:i=td
  .subst F;have hl:=M j (by omega);rw[Zo,Zo,Z6 _ _ (by omega),Z6 _ _ (by omega)];omega
  .have hl:=M i (by omega);rw[Z6 ds _ F,Z6 gh _ F];by_cases J:j=td
   .subst J;rw[Zo,Zo];omega
   .rw[Z6 _ _ J,Z6 _ _ J];exact h.ap i j (by omega) (by omega) U
theorem RmB.pd(h:RmB B P w0 r p k m td dv sv ds gh wr){i:Nat}(hi:i<td):PD B wr p (ds i) 800 P (Dk.fresh 800) [ds i,gh i]:=by have C:=h.ge i hi;have hB:=h.bw;refine⟨h.pw,h.pok,⟨gh i,.slice none 0 0,by simp[ZG,Value.ownBlock],h.dk i hi⟩,Dk.fresh_ok (by omega) (by omega),h.pge,λq F=> ?_⟩;grind
theorem RmB.dap(h:RmB B P w0 r p k m td dv sv ds gh wr){i j:Nat}(hi:i<td)(C:j<td)(M:i≠j):∀q∈[ds i,gh i],q∉[ds j,gh j]:=λq O hm=>by have ha:=h.ap i j hi C M;obtain⟨l,F⟩:∃l,Row wr (gh i) 5 l:=⟨_,(h.dk i hi).bytes.row⟩;obtain⟨l,J⟩:∃l,Row wr (gh j) 5 l:=⟨_,(h.dk j C).bytes.row⟩;have n1:=Row.ne (h.dk i hi).top J (by simp);have n2:=Row.ne (h.dk j C).top F (by simp);grind
end
structure RmS(B:Nat)(P:Pw)(w0:World)(r p k m td tl ts:Nat)(dv sv:Value)(ds gh:Nat->Nat)(wr:World):Prop where
 b:RmB B P w0 r p k m td dv sv ds gh wr
 down:wr.ownsRow w0.heap.size 47 1 dv tl (Y7 tl ds)
 sown:wr.ownsRow w0.heap.size 4 1 sv ts (List.replicate ts (.bool true))
theorem CM{w:World}{base k:Nat}{e:TypeId}{v:Value}{n:Nat}{xs:List Value}(h:w.ownsRow base e k v n xs){ts:List TypeId}(he:e∈ts):Z8 w (ZG v) ts:=λq C=>by obtain⟨l,f,F,_⟩:=QA h q C;grind
section
variable{B:Nat}{P:Pw}{w0 wr w' w2 w3 w8:World}{r p k m td tl ts t:Nat}{dv sv:Value}{ds gh:Nat->Nat}
theorem RmS.after(h:RmS B P w0 r p k m td tl ts dv sv ds gh wr)(C:Below wr.heap.size wr w'):RmS B P w0 r p k m td tl ts dv sv ds gh w':=⟨h.b.after C,Qz h.down C,Qz h.sown C⟩
theorem RmS.more(h:RmS B P w0 r p k m t t ts dv sv ds gh wr)(C:Below wr.heap.size wr w'){d g:Nat}(M:Zr w' p d g (.slice none 0 0) (Dk.fresh 800))(F:wr.heap.size<=d)(J:wr.heap.size<=g):RmS B P w0 r p k m (t+1) t ts dv sv (upd ds t d) (upd gh t g) w':=by
 refine⟨h.b.more C M F J,?_,Qz h.sown C⟩;have e:Y7 t (upd ds t d)=Y7 t ds:=List.map_congr_left λi hi=>by rw[List.mem_range] at hi;rw[Z6 _ _ (by omega)]
 rw[e];exact Qz h.down C
theorem RmS.putD(h:RmS B P w0 r p k m (t+1) t ts dv sv ds gh w2)(hb:Below w2.heap.size w2 w3){g2 c2:Nat}(ho:w8.ownsRow w0.heap.size 47 1 (.slice (some ⟨g2,0,none⟩) (t+1) c2) (t+1) (Y7 t ds++[.pointer (some ⟨ds t,0,none⟩)]))(hf:Fr (ZG dv) w3 w8):RmS B P w0 r p k m (t+1) (t+1) ts (.slice (some ⟨g2,0,none⟩) (t+1) c2) sv ds gh (w8.setCell ⟨r,1,none⟩ (.slice (some ⟨g2,0,none⟩) (t+1) c2)):=by
 have C:=h.after hb;have ht:=CM C.down (ts:=[47,4]) (by simp);have ae:=WE C.down;have J:=C.b.fr hf ht ae
 have Z:=Wl C.sown hf (λq M hm=>by
  obtain⟨l1,O⟩:=QA C.sown q M;obtain⟨l2,r2⟩:=QA C.down q hm
  exact Row.ne O r2 (by simp) rfl)
 have F:Fr [r] w8 (w8.setCell ⟨r,1,none⟩ (.slice (some ⟨g2,0,none⟩) (t+1) c2)):=(Fr.refl _ _).setCell (Or.inl (by simp)) _;have U:∀{e:TypeId} {v:Value} {n:Nat} {xs:List Value},w8.ownsRow w0.heap.size e 1 v n xs->e≠39->∀q∈ZG v,q∉[r]:=fun{e v n xs} hh he q M hm=>by rw[Z58] at hm;subst hm;obtain⟨l1,O⟩:=QA hh q M;exact Row.ne O J.room he rfl
 have af:Y7 (t+1) ds=Y7 t ds++[.pointer (some ⟨ds t,0,none⟩)]:=by unfold Y7;rw[List.range_succ,Z5u];rfl
 refine⟨J.put (l:=[]) (J.room.set 1 _) F,?_,Wl Z F (U Z (by simp))⟩;rw[af];exact Wl ho F (U ho (by simp))
theorem RmS.putS(h:RmS B P w0 r p k m td tl t dv sv ds gh w2)(hb:Below w2.heap.size w2 w3){g2 c2:Nat}(ho:w8.ownsRow w0.heap.size 4 1 (.slice (some ⟨g2,0,none⟩) (t+1) c2) (t+1) (List.replicate t (.bool true)++[.bool true]))(hf:Fr (ZG sv) w3 w8):RmS B P w0 r p k m td tl (t+1) dv (.slice (some ⟨g2,0,none⟩) (t+1) c2) ds gh (w8.setCell ⟨r,7,none⟩ (.slice (some ⟨g2,0,none⟩) (t+1) c2)):=by
 have C:=h.after hb;have ht:=CM C.sown (ts:=[47,4]) (by simp);have ae:=WE C.sown;have J:=C.b.fr hf ht ae
 have Z:=Wl C.down hf (λq M hm=>by
  obtain⟨l1,O⟩:=QA C.down q M;obtain⟨l2,r2⟩:=QA C.sown q hm
  exact Row.ne O r2 (by simp) rfl)
 have F:Fr [r] w8 (w8.setCell ⟨r,7,none⟩ (.slice (some ⟨g2,0,none⟩) (t+1) c2)):=(Fr.refl _ _).setCell (Or.inl (by simp)) _;have U:∀{e:TypeId} {v:Value} {n:Nat} {xs:List Value},w8.ownsRow w0.heap.size e 1 v n xs->e≠39->∀q∈ZG v,q∉[r]:=fun{e v n xs} hh he q M hm=>by rw[Z58] at hm;subst hm;obtain⟨l1,O⟩:=QA hh q M;exact Row.ne O J.room he rfl
 have af:List.replicate (t+1) (Value.bool true)=List.replicate t (.bool true)++[.bool true]:=List.replicate_succ';refine⟨J.put (l:=[]) (J.room.set 7 _) F,Wl Z F (U Z (by simp)),?_⟩;rw[af];exact Wl ho F (U ho (by simp))
theorem Z11{n ps s:Nat}{xs:Nat->Nat}{G:Eg}{Ls:Nat->List Nat}{w1:World}(F:Below wr.heap.size wr w1)(J:Fr (G.p::Wb G Ls (λi=>[G.xs i])) w1 w'){y:Nat}{e:TypeId}{l:List Value}(C:Row wr y e l)(U:y≠G.p)(O:∀i,i<G.n->y∉Ls i)(hs:wr.heap.size<=G.s)(hx:∀i,i<G.n->wr.heap.size<=G.xs i):Row w' y e l:=by
 have M:=C.lt;refine(C.after F).fr J (λhm=> ?_);rcases Z5q.1 hm with h|hm
 .omega
 .rcases Qh.1 hm with h|⟨i,hi,h⟩|⟨i,hi,h⟩
  .omega
  .simp_all
  .grind
end
theorem RmS.d8{B:Nat}{P:Pw}{w0 w2 w3 w8:World}{r p k m td tl ts:Nat}{dv sv:Value}{ds gh:Nat->Nat}(h:RmS B P w0 r p k m td tl ts dv sv ds gh w2)(F:Below w2.heap.size w2 w3)(J:Fr (ZG dv) w3 w8):RmB B P w0 r p k m td dv sv ds gh w8:=by have C:=h.after F;exact C.b.fr J (CM C.down (ts:=[47,4]) (by simp)) (WE C.down)
theorem RmS.s8{B:Nat}{P:Pw}{w0 w2 w3 w8:World}{r p k m td tl ts:Nat}{dv sv:Value}{ds gh:Nat->Nat}(h:RmS B P w0 r p k m td tl ts dv sv ds gh w2)(F:Below w2.heap.size w2 w3)(J:Fr (ZG sv) w3 w8):RmB B P w0 r p k m td dv sv ds gh w8:=by have C:=h.after F;exact C.b.fr J (CM C.sown (ts:=[47,4]) (by simp)) (WE C.sown)
theorem Mf{B:Nat}{P:Pw}{w0 wr w3 w4:World}{r p k m N gd cd gs cs s ms c:Nat}{ds gh xs:Nat->Nat}{V:Ev}(h:RmS B P w0 r p k m N N N (.slice (some ⟨gd,0,none⟩) N cd) (.slice (some ⟨gs,0,none⟩) N cs) ds gh wr)(M:∃sp,Row wr gd 47 (Y7 N ds++sp))(O:∃sp,Row wr gs 4 (List.replicate N (.bool true)++sp))(J:Below wr.heap.size wr w3)(hE:Zi B ⟨N,p,s,ms,c,xs,ds⟩ (Wb ⟨N,p,s,ms,c,xs,ds⟩ (λi=>[ds i,gh i]) (λi=>[xs i])) V w3 w4)(hs:wr.heap.size<=s)(hx:∀i,i<N->wr.heap.size<=xs i)(af:N=k+m)(ae:1<=k):∃bl,ZX B w4 ⟨r,gd,cd,gs,cs,k,m,N⟩ ⟨N,p,s,ms,c,xs,ds⟩ V bl (.pointer none) (.pointer none) none 0 [] (λ_=>true)/\(∀q∈bl,w0.heap.size<=q)/\Fr [p] w0 w4:=by
 obtain⟨ah,M⟩:=M;obtain⟨ai,O⟩:=O;obtain⟨bl,he,hg,hf⟩:=hE;have F:∀{y:Nat} {e:TypeId} {l:List Value},Row wr y e l->e≠112->e≠109->e≠5->Row w4 y e l:=fun{y e l} hr h1 h2 h3=>by
  refine Z11 (n:=N) (ps:=p) (s:=s) (xs:=xs) (G:=⟨N,p,s,ms,c,xs,ds⟩) (Ls:=λi=>[ds i,gh i]) J hf hr (Row.ne hr h.b.pw h1) (λi hi hm=> ?_) hs hx;have Z:=h.b.dk i hi;simp at hm;rcases hm with C|C
  .exact Row.ne hr Z.top h2 C
  .exact Row.ne hr Z.bytes.row h3 C
 have ag:=h.b.bel.size;have al:=J.size;have aj:∀q∈Wb ⟨N,p,s,ms,c,xs,ds⟩ (λi=>[ds i,gh i]) (λi=>[xs i]),w0.heap.size<=q:=λq U=>by
  rcases Qh.1 U with C|⟨i,hi,C⟩|⟨i,hi,C⟩
  .grind
  .have:=h.b.ge i hi;grind
  .grind
 refine⟨bl,⟨F h.b.room (by simp) (by simp) (by simp),⟨ah,F M (by simp) (by simp) (by simp)⟩,⟨ai,?_⟩,Qk.nil _ _,he,Z5w h.b.bw h.b.rge,rfl,af.symm,ae⟩,λq U=> ?_,(Fr.of_below (L:=[p]) (h.b.bel.trans (J.mono ag))).trans hf (λq U ak=> ?_)⟩
 .have C:=F O (by simp) (by simp) (by simp);have e:sdC (λ_=>true) N=List.replicate N (.bool true):=by simp[sdC,List.map_const']
  simp_all
 .grind
 .grind
theorem Og(w:World)(k m:Nat)(aj:1<=k)(dc:k<=4)(df:m<=3)(ht:Ty w):Calls prog 8 #[.int .i64 (k:Int),.int .i64 (m:Int),.int .i64 800] w λe w'=>∃R G V bl h,e=.returned (.pointer (some ⟨R.r,0,none⟩))/\ZX w.heap.size w' R G V bl (.pointer (some ⟨G.s,0,none⟩)) (.pointer (some ⟨h,0,none⟩)) none 0 [] (λ_=>true)/\Za K11 2 R.k R.m R.n 0 (λ_=>none) (λ_=>true) V/\R.k=k/\R.m=m/\Below w.heap.size w w':=by
 obtain⟨N,hN⟩:=Z5I (k+m);have d6:IntKind.i64.wrap ((k:Int)+(m:Int))=(N:Int):=by rw[Z5x _ (by omega)];omega
 have al:1<=N:=by omega
 have cz:N<=7:=by omega
 have cn:=ht.lt;have H:=Z5J ht hN;clear ht hN;go_enter func8,ntmps8;go_wp2_with (go_at_call 29;refine(NU _).mono ?_;rintro e w1 ⟨p,rfl,bh,bj,aq⟩;have M:=Z5K bh bj aq;clear bh bj aq);have I0:RmS w.heap.size ⟨false, -1,0⟩ w w1.heap.size p k m 0 0 0 (.slice none 0 0) (.slice none 0 0) (λ_=>0) (λ_=>0) (w1.alloc (.cells #[.pointer (some ⟨p,0,none⟩),.slice none 0 0,.int .i64 (k:Int),.int .i64 (m:Int),.pointer none,.pointer none,.slice none 0 0,.slice none 0 0] 39)):=by have au:=(Below.refl w1.heap.size w1).alloc Z5D (.cells #[.pointer (some ⟨p,0,none⟩),.slice none 0 0,.int .i64 (k:Int),.int .i64 (m:Int),.pointer none,.pointer none,.slice none 0 0,.slice none 0 0] 39);exact⟨⟨Row.new w1 _ _,M.out.2.1.after au,λi hi=>by omega,λi hi=>by omega,λi j hi=>by omega,M.out.2.2.size,M.out.1,⟨by decide,by decide⟩,Z5D,M.out.2.2.trans (au.mono M.out.2.2.size)⟩,World.ownsRow_nil _ _ _ _,World.ownsRow_nil _ _ _ _⟩
 have HI:=Z5F I0;clear I0;generalize w1.alloc (.cells #[.pointer (some ⟨p,0,none⟩),.slice none 0 0,.int .i64 (k:Int),.int .i64 (m:Int),.pointer none,.pointer none,.slice none 0 0,.slice none 0 0] 39)=w2 at*
 generalize w1.heap.size=r at*
 clear M;go_loopw [8] (λkv wr=>∃ (t:Nat) (dv sv:Value) (ds gh:Nat->Nat),t<=N/\kv=.int .i64 t/\RmS w.heap.size ⟨false, -1,0⟩ w r p k m t t t dv sv ds gh wr) (λkv _=>N- (intOf kv).toNat)
 case atStart=>exact⟨0,_,_,_,_,by omega,rfl,HI.out⟩
 case round=>
  obtain⟨t,dv,sv,ds,gh,dj,rfl,C⟩:=hrel;by_cases de:t<N
  .have dh:(t:Int)<(N:Int):=(by omega);have c0:=C.b.room.cell (j:=0) rfl;have HS:=Z5F C;clear C;go_wp2_with (first|(go_at_call 16;refine(VM p 800 _ (by omega) (by omega)).mono ?_;rintro e w3 ⟨d,g,rfl,b7,b8,b9,hb⟩;have hM:=HS.out.more hb b9 b7 b8;have c1:=hM.b.room.cell (j:=1) rfl;have ha:=(Below.refl w3.heap.size w3).alloc Z5D (.cells #[.pointer (some ⟨d,0,none⟩)] 47);have bm:Row (w3.alloc (.cells #[.pointer (some ⟨d,0,none⟩)] 47)) w3.heap.size 47 [.pointer (some ⟨d,0,none⟩)]:=Row.new w3 _ _;have HM:=Z5K hM ha bm;clear b7 b8 b9 hb hM ha bm c0)|(at_builtin;have F:=HM;clear HM;refine QS _ rfl (.tmp 40) (.tmp 42) 33 47 rfl underlying33 Na rfl (by omega) (by omega) w.heap.size dv t (Y7 t ds) rfl (by have O:=(F.out.1.after F.out.2.1).down;have e9:Y7 t (upd ds t d)=Y7 t ds:=List.map_congr_left (λi hi=>by rw[List.mem_range] at hi;rw[Z6 _ _ (by omega)]);rw[e9] at O;exact O) w3.heap.size 1 [.pointer (some ⟨d,0,none⟩)] rfl (by omega) (by omega) rfl F.out.2.2 (by simp[Value.oneCell']) (by have:=F.out.1.b.bel.size;simp;omega) (by omega) ?_;intro g2 ae w8 ho J _ _ _;have h8:=(F.out.1.d8 F.out.2.1 J).room;have k8:=h8.cell (j:=1) rfl;have f8:=h8.free (j:=1) (by simp);have ak:=F.out.1.putD F.out.2.1 (by rw[Zo];have e9:Y7 t (upd ds t d)=Y7 t ds:=List.map_congr_left (λi hi=>by rw[List.mem_range] at hi;rw[Z6 _ _ (by omega)]);rw[e9];exact ho) J;have c7:=ak.b.room.cell (j:=7) rfl;have HP:=Z5F ak;clear ho J h8 ak c1)|(at_builtin;have ag:=HP;clear HP;have U:=(Below.refl _ (w8.setCell ⟨r,1,none⟩ (.slice (some ⟨g2,0,none⟩) (t+1) ae))).alloc Z5D (.cells #[.bool true] 4);have af:=Row.new (w8.setCell ⟨r,1,none⟩ (.slice (some ⟨g2,0,none⟩) (t+1) ae)) 4 [.bool true];have bu:=ag.out.b.bel.size;have ct:(w8.setCell ⟨r,1,none⟩ (.slice (some ⟨g2,0,none⟩) (t+1) ae)).heap.size=w8.heap.size:=(by simp);rw[ct] at af;refine QS _ rfl (.tmp 50) (.tmp 51) 37 4 rfl underlying37 Lq rfl (by omega) (by omega) w.heap.size sv t (List.replicate t (.bool true)) rfl (Qz ag.out.sown U) w8.heap.size 1 [.bool true] rfl (by omega) (by omega) rfl af (by simp[Value.oneCell']) (Z5w bu U.size) (by omega) ?_;intro g3 bz w9 ho J _ _ _;have O:=(ag.out.s8 U J).room;have k9:=O.cell (j:=7) rfl;have f9:=O.free (j:=7) (by simp);have R9:=Z5F (ag.out.putS U ho J);clear ho J O U af bu));go_roundw
   case measure=>simp[intOf];omega
   case rel=>exact⟨t+1,_,_,_,_,by omega,by go_num,R9.out⟩
  .obtain rfl:t=N:=(by omega);obtain⟨gd,cd,cu,rfl, -, -, -,ah⟩:=YR C.down al;obtain⟨gs,cs,cw,rfl, -, -, -,bq⟩:=YR C.sown al;have c1:=C.b.room.cell (j:=1) rfl;have bf:=IP w.heap.size wr K11 gd t cd k m p ds ⟨false, -1,0⟩ (λ_=>Dk.fresh 800) (λi=>[ds i,gh i]) (λi hi=>ah.cell (by rw[Z5c (by rw[YY];exact hi)];exact XF _ _ _ hi)) ah.lt aj H.out.2 (by omega) C.b.bel.size (λi hi=>C.b.pd hi) (λi j hi hj cr=>C.b.dap hi hj cr) (H.out.1.below C.b.bel) cn K7 rfl (by simp) (λi hi=>⟨rfl,IY 800⟩);have Z:=Z5L bf C ah bq;clear bf C ah bq HI;go_wp2_with (first|(go_at_call 17;refine Z.out.1.mono ?_;rintro e w4 ⟨s,ms,c,xs,V,w3,rfl,aw,hE,hF,hs,hx⟩;obtain⟨bl,hR,cj,bg⟩:=Mf Z.out.2.1 ⟨cu,Z.out.2.2.1⟩ ⟨cw,Z.out.2.2.2⟩ aw hE hs hx H.out.2 aj;have f4:=hR.room.free (j:=4) (by simp[CT]);have c4:=hR.room.cell (j:=4) rfl;have az:Below w.heap.size w w4:=bg.below Z5D (λq hq=>(by rw[Z58] at hq;subst hq;exact Z.out.2.1.b.pge));have HD:=Z5K (hR.setS (.pointer (some ⟨s,0,none⟩))) hF (az.trans (hR.below (.pointer (some ⟨s,0,none⟩)) 4));clear hR cj bg aw hE hF hs hx az)|(go_at_call 30;refine(GW _ s).mono ?_;rintro e w5 ⟨hh,rfl,ai⟩;have h5:=HD.out.1.after ai;have f5:=h5.room.free (j:=5) (by simp[CT]);have c5:=h5.room.cell (j:=5) rfl;have HR:=Z5J (h5.heal (.pointer (some ⟨hh,0,none⟩))) ((HD.out.2.2.trans (ai.mono HD.out.1.bw)).trans (h5.below (.pointer (some ⟨hh,0,none⟩)) 5));clear h5 ai));go_ret;exact⟨⟨r,gd,cd,gs,cs,k,m,t⟩,⟨t,p,s,ms,c,xs,ds⟩,V,bl,hh,rfl,HR.out.1,HD.out.2.1.set K7 aj H.out.2.symm (λi hi=>IX 800),rfl,rfl,HR.out.2⟩
def DAt(B:Nat)(w:World)(p n:Nat)(ds:Nat->Nat)(P:Pw)(Ds:Nat->Dk)(bl:List Nat):Prop:=
 ∃Ls:Nat->List Nat,bl=(List.range n).flatMap Ls/\(∀i,i<n->PD B w p (ds i) 800 P (Ds i) (Ls i))/\∀i j,i<n->j<n->i≠j->∀k∈Ls i,k∉Ls j
theorem A6{n:Nat}{Ls:Nat->List Nat}{k:Nat}:k∈(List.range n).flatMap Ls↔∃i,i<n/\k∈Ls i:=by simp
section
variable{B:Nat}{w w':World}{p n:Nat}{ds:Nat->Nat}{P P':Pw}{Ds:Nat->Dk}{bl:List Nat}
theorem DAt.typed(h:DAt B w p n ds P Ds bl):Z8 w bl ND:=by obtain⟨Ls,rfl,F,J⟩:=h;intro k C;obtain⟨i,hi,C⟩:=A6.1 C;exact(F i hi).typedL k C
theorem DAt.ge(h:DAt B w p n ds P Ds bl):∀k∈bl,B<=k:=by obtain⟨Ls,rfl,F,J⟩:=h;intro k C;obtain⟨i,hi,C⟩:=A6.1 C;exact(F i hi).bL k C
theorem DAt.power(h:DAt B w p n ds P Ds bl){X:List Nat}(M:Fr X w w')(J:∀k∈bl,k∉X)(U:Ze w' p P')(pok:P'.ok):DAt B w' p n ds P' Ds bl:=by obtain⟨Ls,rfl,C,F⟩:=h;exact⟨Ls,rfl,λi hi=>(C i hi).power M (λk O=>J k (A6.2 ⟨i,hi,O⟩)) U pok,F⟩
theorem DAt.fr(h:DAt B w p n ds P Ds bl){X:List Nat}(J:Fr X w w')(M:∀k∈p::bl,k∉X):DAt B w' p n ds P Ds bl:=by obtain⟨Ls,rfl,C,F⟩:=h;refine⟨Ls,rfl,λi hi=>(C i hi).fr J (λk O hm=> ?_),F⟩;grind
theorem DAt.after(h:DAt B w p n ds P Ds bl)(C:Below w.heap.size w w'):DAt B w' p n ds P Ds bl:=h.fr (Fr.of_below (L:=[]) C) (by simp)
theorem Qv.at_{G:Eg}{bl0:List Nat}(h:Qv B G bl0 P Ds w w'):∃bl,DAt B w' G.p G.n G.ds P Ds bl/\∀k∈bl,k∈bl0∨w.heap.size<=k:=by obtain⟨Ls,C,F,J,M⟩:=h;refine⟨_,⟨Ls,rfl,C,F⟩,λk O=> ?_⟩;grind
theorem DAt.lose(h:DAt B w p n ds P Ds bl){i:Nat}(hi:i<n){gh:Nat}{keep:List Bool}{t:Int}(hd:Zr w' p (ds i) gh (.slice none 0 0) ((Ds i).lost keep t))(U:Fr [ds i,gh] w w'){v:Value}{D:Dk}(h0:Zr w p (ds i) gh v D):∃bl',DAt B w' p n ds P (upd Ds i ((Ds i).lost keep t)) bl'/\(∀k∈bl',k∈bl)/\Fr bl w w':=by
 obtain⟨Ls,rfl,F,h2⟩:=h;obtain⟨J,v',hL,ae⟩:=(F i hi).dk;have e:J=gh:=by have e1:=ae.top.cell (j:=1) rfl;have e2:=h0.top.cell (j:=1) rfl;simp_all
 subst e;have O:∀k∈[ds i,J],k∈Ls i:=by simp_all
 have ok:=(F i hi).ok;have af:∀k∈p::([]:List Nat),k∉[ds i,J]:=λk C hm=>by rw[Z58] at C;subst C;exact(F i hi).typedL.row_ne (F i hi).pw (by decide) (O _ hm)
 have hp:=(F i hi).pw.fr U (af p (by simp));refine⟨(List.range n).flatMap (upd Ls i [ds i,J]),⟨_,rfl,λj M=> ?_,CC h2 (λa ha=>(F a ha).typedL.lt) hi (λk C=>Or.inl (O k C))⟩,λk C=> ?_,U.mono (λk C _=>A6.2 ⟨i,hi,O k C⟩)⟩
 .by_cases e:j=i
  .subst e;simp[Zo];have Z:=Z1v ok.fit keep t;exact⟨hp,(F j M).pok,⟨J,_,by simp[ZG,Value.ownBlock],hd⟩,⟨Z.len,ok.n1,ok.n2,λx hx=>(by cases hx),λx hx=>(by cases hx),(by simp[Dk.lost]),ok.life0,ok.life1⟩,(F j M).bp,λk C=>(F j M).bL k (O k C)⟩
  .simp[Z6 _ _ e];refine(F j M).fr U (λk C hm=> ?_);grind
 .obtain⟨j,M,C⟩:=A6.1 C;by_cases e:j=i
  .subst e;rw[Zo] at C;grind
  .rw[Z6 _ _ e] at C;grind
end
def Al(B:Nat)(w:World)(ka:Option Addr)(kl:List (List Bool)):Prop:=∀i (h:i<kl.length),∃b o a cap,ka=some ⟨b,o,none⟩/\b<B/\w.cell? ⟨b,o+i,none⟩=some (.slice a kl[i].length cap)/\∀j (h2:j<kl[i].length),∃kb ko,a=some ⟨kb,ko,none⟩/\kb<B/\w.cell? ⟨kb,ko+j,none⟩=some (.bool kl[i][j])
def Am(B:Nat)(w:World)(ta:Option Addr)(tl:List Int):Prop:=∀i (h:i<tl.length),∃b o,ta=some ⟨b,o,none⟩/\b<B/\w.cell? ⟨b,o+i,none⟩=some (.int .i64 tl[i])
theorem Al.below{B:Nat}{w w':World}{ka:Option Addr}{kl:List (List Bool)}(h:Al B w ka kl)(J:Below B w w'):Al B w' ka kl:=λi hi=>by obtain⟨b,o,a,cap,U,C,Z,h4⟩:=h i hi;refine⟨b,o,a,cap,U,C,(J.cell (p:=⟨b,o+i,none⟩) C).trans Z,λj hj=> ?_⟩;obtain⟨M,O,h5,F,h7⟩:=h4 j hj;exact⟨M,O,h5,F,(J.cell (p:=⟨M,O+j,none⟩) F).trans h7⟩
theorem Am.below{B:Nat}{w w':World}{ta:Option Addr}{tl:List Int}(h:Am B w ta tl)(M:Below B w w'):Am B w' ta tl:=λi hi=>by obtain⟨b,o,F,C,J⟩:=h i hi;exact⟨b,o,F,C,(M.cell (p:=⟨b,o+i,none⟩) C).trans J⟩
def Qx(kl:List (List Bool))(tl:List Int)(Ds:Nat->Dk)(t:Nat):Nat->Dk:=λi=>if i<t then(Ds i).lost (kl.getD i []) (tl.getD i 0) else Ds i
theorem PJ(kl:List (List Bool))(tl:List Int)(Ds:Nat->Dk)(t:Nat):Qx kl tl Ds (t+1)=upd (Qx kl tl Ds t) t ((Qx kl tl Ds t t).lost (kl.getD t []) (tl.getD t 0)):=by
 funext i
 unfold Qx upd;grind
theorem Al.get{B:Nat}{w:World}{ka:Option Addr}{kl:List (List Bool)}(h:Al B w ka kl)(t:Nat):∃a cap,(t<kl.length->∃b o,ka=some ⟨b,o,none⟩/\w.cell? ⟨b,o+t,none⟩=some (.slice a (kl.getD t []).length cap))/\(kl.length<=t->a=none/\cap=0/\(kl.getD t []).length=0)/\∀gh,B<=gh->Rz w gh a (kl.getD t []):=by
 by_cases C:t<kl.length
 .obtain⟨b,o,a,cap,J,U,M,Z⟩:=h t C;have e:kl.getD t []=kl[t]:=by grind
  rw[e];refine⟨a,cap,λ_=>⟨b,o,J,M⟩,λh=>by omega,λgh O j F=> ?_⟩;grind
 .have e:kl.getD t []=[]:=by simp[Nat.not_lt.1 C]
  rw[e];exact⟨none,0,λh=>absurd h C,λ_=>⟨rfl,rfl,rfl⟩,λgh O j F=>by cases F⟩
theorem Am.get{B:Nat}{w:World}{ta:Option Addr}{tl:List Int}(h:Am B w ta tl)(t:Nat):(t<tl.length->∃b o,ta=some ⟨b,o,none⟩/\w.cell? ⟨b,o+t,none⟩=some (.int .i64 (tl.getD t 0)))/\(tl.length<=t->tl.getD t 0=0):=by refine⟨λC=> ?_,λC=>by simp[C]⟩;obtain⟨b,o,F,J,M⟩:=h t C;grind
structure Ho(B:Nat)(w:World)(r p gd n cd:Nat)(o sp:List Value)(ds:Nat->Nat)(P:Pw)(Ds:Nat->Dk)(bl:List Nat)(tb:Nat)(tc:List Value)(ka:Option Addr)(kl:List (List Bool))(ta:Option Addr)(tl:List Int)(t:Nat)(wr:World):Prop where
 room:Row wr r 39 (.pointer (some ⟨p,0,none⟩):: .slice (some ⟨gd,0,none⟩) n cd::o)
 drow:Row wr gd 47 (Y7 n ds++sp)
 turn:Row wr tb 56 tc
 at_:∃bl',DAt B wr p n ds P (Qx kl tl Ds t) bl'/\∀k∈bl',k∈bl
 pw:Ze wr p P
 keep:Al B wr ka kl
 torn:Am B wr ta tl
 fr:Fr (p::bl) w wr
section
variable{B:Nat}{w:World}{r p gd n cd:Nat}{o sp:List Value}{ds:Nat->Nat}{P:Pw}{Ds:Nat->Dk}{bl:List Nat}{tb:Nat}{tc:List Value}{ka:Option Addr}{kl:List (List Bool)}{ta:Option Addr}{tl:List Int}{t:Nat}{wr:World}
theorem Ho.disk(h:Ho B w r p gd n cd o sp ds P Ds bl tb tc ka kl ta tl t wr)(F:t<n):∃gh v,Zr wr p (ds t) gh v (Qx kl tl Ds t t)/\(Qx kl tl Ds t t).ok 800/\B<=gh:=by obtain⟨bl',⟨Ls,rfl,C,M⟩,h3⟩:=h.at_;obtain⟨gh,v,O,J⟩:=(C t F).dk;exact⟨gh,v,J,(C t F).ok,(C t F).bL gh (by simp_all)⟩
theorem Ho.next(h:Ho B w r p gd n cd o sp ds P Ds bl tb tc ka kl ta tl t wr)(ht:t<n){gh:Nat}{v:Value}(O:Zr wr p (ds t) gh v (Qx kl tl Ds t t)){w':World}(hd:Zr w' p (ds t) gh (.slice none 0 0) ((Qx kl tl Ds t t).lost (kl.getD t []) (tl.getD t 0)))(C:Fr [ds t,gh] wr w')(af:B<=gh)(ae:B<=ds t)(hB:B<=wr.heap.size):Ho B w r p gd n cd o sp ds P Ds bl tb tc ka kl ta tl (t+1) w':=by
 obtain⟨bl',Z,U⟩:=h.at_;obtain⟨bl2,g1,g2,g3⟩:=Z.lose ht hd C O;have J:Z8 wr [ds t,gh] ND:=by obtain⟨l,M⟩:∃l,Row wr gh 5 l:=⟨_,O.bytes.row⟩;exact Z8.cons O.top (by decide) (Z8.row M (by decide))
 have M:Below B wr w':=C.below hB (λk F=>by
  simp at F
  rcases F with rfl|rfl<;>assumption)
 exact⟨h.room.fr C (J.row_ne h.room (by decide)),h.drow.fr C (J.row_ne h.drow (by decide)),h.turn.fr C (J.row_ne h.turn (by decide)),⟨bl2,by rw[PJ];exact g1,λk F=>U k (g2 k F)⟩,h.pw.fr C (J.row_ne h.pw (by decide)),h.keep.below M,h.torn.below M,h.fr.trans g3 (λk F _=>Z5n _ (U k F))⟩
end
theorem LU(B:Nat)(w:World)(r p gd n cd:Nat)(o:List Value)(sp:List Value)(ds:Nat->Nat)(P:Pw)(Ds:Nat->Dk)(bl:List Nat)(ev:Value)(o0 o1 o2 o3:Int)(ka:Option Addr)(kc:Nat)(kl:List (List Bool))(ta:Option Addr)(tc:Nat)(tl:List Int)(hr:Row w r 39 (.pointer (some ⟨p,0,none⟩):: .slice (some ⟨gd,0,none⟩) n cd::o))(J:Row w gd 47 (Y7 n ds++sp))(h:DAt B w p n ds P Ds bl)(hB:B<=w.heap.size)(F:Al B w ka kl)(ht:Am B w ta tl)(bh:B<=p)(hn:n<=16)(ah:Ze w p P)(ae:P.ok):Calls prog 20 #[.pointer (some ⟨r,0,none⟩),.agg #[.int .i64 o0,.int .i64 o1,.int .i64 o2,.int .i64 o3,ev,.slice ka kl.length kc,.slice ta tl.length tc]] w λe w'=>e=.returned (.tuple #[])/\(∃bl',DAt B w' p n ds {P with gone:=false,fuse:= -1} (Qx kl tl Ds n) bl'/\∀k∈bl',k∈bl)/\Ze w' p {P with gone:=false,fuse:= -1}/\Fr (p::bl) w w':=by
 have c0:=λob=>(hr.alloc ob).cell (j:=0) rfl;have au:∀i,i<n->B<=ds i:=λi hi=>by obtain⟨Ls,rfl,h1,h2⟩:=h;obtain⟨gh,v,hL,J⟩:=(h1 i hi).dk;exact(h1 i hi).bL _ (by rw[hL];simp)
 have cj:r≠p:=Row.ne hr ah (by decide);have bj:gd≠p:=Row.ne J ah (by decide);have H:=Z5P hr J h F ht ah ae au;clear hr J h F ht ah ae au;go_enter func20,ntmps20;go_wp2_with (go_at_call 52;refine(Z4C p P _ (Row.alloc H.out.2.2.2.2.2.1 _)).mono ?_;rintro e w1 ⟨rfl,b9,aw⟩;have H1:=Z5J b9 aw;clear b9 aw);have ai:Below B w w1:=((Below.refl B w).alloc hB _).trans (H1.out.2.below (by simp;omega) (λk F=>by rw[Z58] at F;subst F;exact bh));have bu:p<w.heap.size:=Row.lt H.out.2.2.2.2.2.1;have S0:Ho B w r p gd n cd o sp ds {P with gone:=false,fuse:= -1} Ds bl w.heap.size [.int .i64 o0,.int .i64 o1,.int .i64 o2,.int .i64 o3,ev,.slice ka kl.length kc,.slice ta tl.length tc] ka kl ta tl 0 w1:=by
  refine⟨(H.out.1.alloc _).fr H1.out.2 (by simpa using cj),(H.out.2.1.alloc _).fr H1.out.2 (by simpa using bj),(Row.new w _ _).fr H1.out.2 (by simp;omega),⟨bl,?_,λ_ h=>h⟩,H1.out.1,H.out.2.2.2.1.below ai,H.out.2.2.2.2.1.below ai,(Fr.of_below (L:=p::bl) ((Below.refl w.heap.size w).alloc Z5D _)).trans H1.out.2 (λk F _=>by rw[Z58] at F;subst F;simp)⟩;have e:Qx kl tl Ds 0=Ds:=by funext i;simp[Qx]
  rw[e]
  exact(H.out.2.2.1.after ((Below.refl w.heap.size w).alloc Z5D _)).power H1.out.2 (λk F hm=>by
   rw[Z58] at hm;subst hm
   exact H.out.2.2.1.typed.row_ne H.out.2.2.2.2.2.1 (by decide) F) H1.out.1 ⟨by show(-1:Int)<= -1;omega,by show(-1:Int)<=9223372036854775807;omega⟩
 have bg:=Z5F S0;clear S0 c0 ai;go_loopw [4] (λiv wr=>∃t:Nat,t<=n/\iv=.int .i64 t/\Ho B w r p gd n cd o sp ds {P with gone:=false,fuse:= -1} Ds bl w.heap.size [.int .i64 o0,.int .i64 o1,.int .i64 o2,.int .i64 o3,ev,.slice ka kl.length kc,.slice ta tl.length tc] ka kl ta tl t wr) (λiv _=>n- (intOf iv).toNat)
 case atStart=>exact⟨0,by omega,rfl,bg.out⟩
 case round=>
  obtain⟨t,cr,rfl,C⟩:=hrel;have c1:=C.room.cell (j:=1) rfl;by_cases O:t<n
  .have cn:(t:Int)<(n:Int):=(by omega);obtain⟨gh,v,J,b8,aj⟩:=C.disk O;have cd:wr.cell? ⟨gd,t,none⟩=some (.pointer (some ⟨ds t,0,none⟩)):=C.drow.cell (by rw[Z5c (by rw[YY];exact O)];exact XF _ _ _ O);have t5:=C.turn.cell (j:=5) rfl;have t6:=C.turn.cell (j:=6) rfl;obtain⟨a,cap,k1,k2,k3⟩:=C.keep.get t;obtain⟨q1,q2⟩:=C.torn.get t;have af:=Z1u p (ds t) gh v _ _ 800 a cap (kl.getD t []) (tl.getD t 0) wr C.pw J b8 (k3 gh aj);have ag:=λ(w':World)=>C.next (w':=w') O J
   obtain⟨kk,b7⟩:=Z5H (kl.getD t []);obtain⟨tt,bf⟩:=Z5H (tl.getD t 0);obtain⟨U,ak⟩:=Z5H kl.length;obtain⟨Z,al⟩:=Z5H tl.length;rw[b7] at k1 k2 af ag;rw[bf] at q1 q2 af ag;rw[ak] at t5 k1 k2;rw[al] at t6 q1 q2;have hz:B<=wr.heap.size:=Z5w hB C.fr.size;have M:=Z5M af ag aj (H.out.2.2.2.2.2.2.2 t O) hz;clear C J b8 aj k3 af ag b7 bf ak al hz;rcases Nat.lt_or_ge t U with hk9|hk9
   case' inl=>(obtain⟨kb,ko,rfl,ct⟩:=k1 hk9;have bq:(t:Int)<(U:Int):=(by omega))
   case' inr=>(obtain⟨rfl,rfl,bm⟩:=k2 hk9;rw[bm] at M;have bq:¬ (t:Int)<(U:Int):=(by omega))
   all_goals clear k1 k2
   all_goals rcases Nat.lt_or_ge t Z with ht9|ht9
   all_goals first|(obtain⟨tb,cw,rfl,cu⟩:=q1 ht9;have bz:(t:Int)<(Z:Int):=(by omega))|(obtain rfl:=q2 ht9;have bz:¬ (t:Int)<(Z:Int):=(by omega))
   all_goals clear q1 q2
   all_goals
    go_wp2_with (go_at_call 53;refine M.out.1.mono ?_;rintro e w2 ⟨rfl,aq,az⟩;have R2:=Z5F (M.out.2.1 _ aq az M.out.2.2.1 M.out.2.2.2.1 M.out.2.2.2.2);clear aq az);go_roundw
    case measure=>simp[intOf];omega
    case rel=>exact⟨t+1,by omega,by go_num,R2.out⟩
  .obtain rfl:t=n:=(by omega);have HS:=Z5F C;clear C;go_wp2_with fail;go_end0;exact⟨rfl,HS.out.at_,HS.out.pw,HS.out.fr⟩
structure RmD(B:Nat)(w:World)(R:Rg)(p:Nat)(ds:Nat->Nat)(P:Pw)(Ds:Nat->Dk)(bl:List Nat)(sv hv:Value)(ha:Option Addr)(hc:Nat)(hs:ZP)(sd:Nat->Bool):Prop where
 room:Row w R.r 39 (CT R p sv hv ha hs.length hc)
 drow:∃sp,Row w R.gd 47 (Y7 R.n ds++sp)
 srow:∃sp,Row w R.gs 4 (sdC sd R.n++sp)
 held:Qk w ha hs
 at_:DAt B w p R.n ds P Ds bl
 pw:Ze w p P
 pB:B<=p
 rB:B<=R.r
 bw:B<=w.heap.size
 kn:R.k+R.m=R.n
 k1:1<=R.k
 n16:R.n<=16
section
variable{B:Nat}{w w':World}{R:Rg}{p:Nat}{ds:Nat->Nat}{P P':Pw}{Ds Ds':Nat->Dk}{bl bl':List Nat}{sv hv:Value}{ha:Option Addr}{hc:Nat}{hs:ZP}{sd:Nat->Bool}{G:Eg}{V:Ev}
theorem ZX.d(h:ZX B w R G V bl sv hv ha hc hs sd):∃bl',RmD B w R G.p G.ds V.P V.Ds bl' sv hv ha hc hs sd/\∀q∈bl',q∈bl:=by have J:=h.set.nle;have F:=h.bw;have M:=h.gn;obtain⟨Ls,Os,rfl,he⟩:=h.set;refine⟨(List.range R.n).flatMap Ls,⟨h.room,h.drow,h.srow,h.held,⟨Ls,rfl,λi hi=>he.pd i (by omega),λi j hi O=>he.dap i j (by omega) (by omega)⟩,he.pw,(he.pd 0 he.n1).bp,h.rB,F,h.kn,h.k1,by omega⟩,λq C=> ?_⟩;obtain⟨i,hi,C⟩:=A6.1 C;exact Qh.2 (Or.inr (Or.inl ⟨i,by omega,C⟩))
theorem RmD.tyd(h:RmD B w R p ds P Ds bl sv hv ha hc hs sd):Z8 w (p::bl) Di:=Z8.cons h.pw (by decide) (h.at_.typed.mono (λ_ hi=>hi) (by decide))
theorem RmD.ge(h:RmD B w R p ds P Ds bl sv hv ha hc hs sd):∀q∈p::bl,B<=q:=λq C=>by
 rcases Z5q.1 C with rfl|C
 .exact h.pB
 .exact h.at_.ge q C
theorem RmD.fr(h:RmD B w R p ds P Ds bl sv hv ha hc hs sd){X:List Nat}{ts:List TypeId}(C:Fr X w w')(F:Z8 w X ts)(M:R.r∉X)(O:47∉ts)(U:4∉ts)(Z:105∉ts)(hd:DAt B w' p R.n ds P' Ds' bl')(hp:Ze w' p P'):RmD B w' R p ds P' Ds' bl' sv hv ha hc hs sd:=by
 obtain⟨s1,d1⟩:=h.drow;obtain⟨s2,d2⟩:=h.srow;refine⟨h.room.fr C M,⟨s1,d1.fr C (F.row_ne d1 O)⟩,⟨s2,d2.fr C (F.row_ne d2 U)⟩,?_,hd,hp,h.pB,h.rB,Z5w h.bw C.size,h.kn,h.k1,h.n16⟩;rcases h.held with h9|⟨g,sp,e,J⟩
 .exact Or.inl h9
 .exact Or.inr ⟨g,sp,e,J.fr C (F.row_ne J Z)⟩
theorem RmD.after(h:RmD B w R p ds P Ds bl sv hv ha hc hs sd)(C:Below w.heap.size w w'):RmD B w' R p ds P Ds bl sv hv ha hc hs sd:=h.fr (X:=[]) (ts:=[]) (Fr.of_below C) (λk F=>by cases F) (by simp) (by simp) (by simp) (by simp) (h.at_.after C) (Row.after h.pw C)
theorem RmD.made(h:RmD B w R p ds P Ds bl sv hv ha hc hs sd)(C:Fr (p::bl) w w')(he:EAt B w' G V bl')(U:G.p=p)(M:G.ds=ds)(O:G.n=R.n):ZX B w' R G V bl' sv hv ha hc hs sd:=by
 obtain⟨s1,d1⟩:=h.drow;obtain⟨s2,d2⟩:=h.srow;have F:=h.tyd;refine⟨by rw[U];exact h.room.fr C (F.row_ne h.room (by decide)),⟨s1,by rw[M];exact d1.fr C (F.row_ne d1 (by decide))⟩,⟨s2,d2.fr C (F.row_ne d2 (by decide))⟩,?_,he,h.rB,O,h.kn,h.k1⟩;rcases h.held with h9|⟨g,sp,e,J⟩
 .exact Or.inl h9
 .exact Or.inr ⟨g,sp,e,J.fr C (F.row_ne J (by decide))⟩
end
theorem Ty.fr{B:Nat}{w w':World}{X:List Nat}(h:Ty w)(F:Fr X w w')(C:∀q∈X,B<=q)(hB:B<=w.heap.size)(J:0<B):Ty w':=by unfold Ty at h⊢;rw[(F.below hB C).cell (p:=⟨0,0,none⟩) J];omega
structure OpL(B:Nat)(w0:World)(bl0:List Nat)(R:Rg)(G:Eg)(V:Ev)(hv:Value)(ha:Option Addr)(hc:Nat)(hs:ZP)(sd:Nat->Bool)(ka:Option Addr)(L:List Bs)(wr:World):Prop where
 at_:∃bl,ZX B wr R G V bl (.pointer (some ⟨G.s,0,none⟩)) hv ha hc hs sd/\∀q∈bl,q∈bl0∨w0.heap.size<=q
 ks:Zx wr ka (L.map str)/\∀g o,ka=some ⟨g,o,none⟩->∃r,Row wr g 9 r
 fr:Fr (R.r::G.p::bl0) w0 wr
 ty:Ty wr
theorem M7{B:Nat}{w0:World}{bl0:List Nat}{R:Rg}{G:Eg}{V:Ev}{bl:List Nat}{hv:Value}{ha:Option Addr}{hc:Nat}{hs:ZP}{sd:Nat->Bool}{ka:Option Addr}{L:List Bs}{wr w':World}(h:ZX B wr R G V bl (.pointer (some ⟨G.s,0,none⟩)) hv ha hc hs sd)(hg:∀q∈bl,q∈bl0∨w0.heap.size<=q)(F:Fr (R.r::G.p::bl0) w0 wr)(O:Ty wr)(C:Zi B G bl V wr w')(M:Zx w' ka (L.map str)/\∀g o,ka=some ⟨g,o,none⟩->∃r,Row w' g 9 r)(J:0<B):OpL B w0 bl0 R G V hv ha hc hs sd ka L w':=by
 obtain⟨bl2,he,ae,U⟩:=id C;have hz:=F.size;obtain⟨s1,d1⟩:=h.drow;obtain⟨s2,d2⟩:=h.srow;refine⟨⟨bl2,⟨C.row h.set h.room (by decide),⟨s1,C.row h.set d1 (by decide)⟩,⟨s2,C.row h.set d2 (by decide)⟩,h.held.ran C h.set,he,h.rB,h.gn,h.kn,h.k1⟩,λq Z=> ?_⟩,M,F.trans U (λq Z af=> ?_),Zi.ty C h.set O J⟩
 .grind
 .grind
theorem OpL.ran{B:Nat}{w0:World}{bl0:List Nat}{R:Rg}{G:Eg}{V:Ev}{bl:List Nat}{hv:Value}{ha:Option Addr}{hc:Nat}{hs:ZP}{sd:Nat->Bool}{ka:Option Addr}{L:List Bs}{wr w':World}(h:OpL B w0 bl0 R G V hv ha hc hs sd ka L wr)(F:ZX B wr R G V bl (.pointer (some ⟨G.s,0,none⟩)) hv ha hc hs sd)(M:∀q∈bl,q∈bl0∨w0.heap.size<=q)(C:Zi B G bl V wr w')(J:0<B):OpL B w0 bl0 R G V hv ha hc hs sd ka L w':=M7 F M h.fr h.ty C (OL h.ks.1 h.ks.2 F.set C) J
theorem VC(B:Nat)(w:World)(R:Rg)(p:Nat)(ds:Nat->Nat)(P:Pw)(Ds:Nat->Dk)(bl:List Nat)(sv hv:Value)(ha:Option Addr)(hc:Nat)(hs:ZP)(sd:Nat->Bool)(E g:Nat)(H:Bs->Option Bs)(h:RmD B w R p ds P Ds bl sv hv ha hc hs sd)(cw:∀x v,H x=some v->v.length<=200/\x∈K11)(ht:Ty w)(ah:0<B){OpW:World->Prop}(cz:OpW w)(dc:∀x y,OpW x->Below x.heap.size x y->OpW y)(dx:∀wx,OpW wx->Calls prog 27 #[.slice (some ⟨R.gd,0,none⟩) R.n R.cd,.int .i64 (R.k:Int),.int .i64 (R.m:Int)] wx λe w'=>∃F V' bl',e=.returned (.tuple #[.pointer (some ⟨F.s,0,none⟩),.nilIface])/\EAt B w' F V' bl'/\Za K11 E R.k R.m R.n g H sd V'/\F.n=R.n/\F.p=p/\F.ds=ds/\(∀q∈bl',q∈bl∨w.heap.size<=q)/\Fr (p::bl) w w'/\OpW w'):Calls prog 13 #[.pointer (some ⟨R.r,0,none⟩)] w λe w'=>∃F V' bl' ek,e=.returned (.bool true)/\ZX B w' R F V' bl' (.pointer (some ⟨F.s,0,none⟩)) ek ha hc hs sd/\Za K11 E R.k R.m R.n g H sd V'/\F.p=p/\F.ds=ds/\(∀q∈bl',q∈bl∨w.heap.size<=q)/\Fr (R.r::p::bl) w w':=by
 have c1:=h.room.cell (j:=1) rfl;have c2:=h.room.cell (j:=2) rfl;have c3:=h.room.cell (j:=3) rfl;have ef:=h.n16;have bq:∀A C:World,(A.cell? ⟨R.r,1,none⟩=some (.slice (some ⟨R.gd,0,none⟩) R.n R.cd)/\A.cell? ⟨R.r,2,none⟩=some (.int .i64 (R.k:Int))/\A.cell? ⟨R.r,3,none⟩=some (.int .i64 (R.m:Int))/\OpW A)->Below A.heap.size A C->(C.cell? ⟨R.r,1,none⟩=some (.slice (some ⟨R.gd,0,none⟩) R.n R.cd)/\C.cell? ⟨R.r,2,none⟩=some (.int .i64 (R.k:Int))/\C.cell? ⟨R.r,3,none⟩=some (.int .i64 (R.m:Int))/\OpW C):=by rintro A C ⟨h0,h1,h2,h7⟩ hb;have key:∀{p:Addr} {v:Value},A.cell? p=some v->C.cell? p=some v:=λh=>(hb.cell (Z5b A _ h)).trans h;exact⟨key h0,key h1,key h2,dc _ _ h7 hb⟩
 have hs0:=bq w w.drew ⟨c1,c2,c3,cz⟩ (Z5E.drew);have eh:R.r∉p::bl:=h.tyd.row_ne h.room (by decide);have dp:∀x:World,Fr (p::bl) w x->OpW x->(x.cell? ⟨R.r,1,none⟩=some (.slice (some ⟨R.gd,0,none⟩) R.n R.cd)/\x.cell? ⟨R.r,2,none⟩=some (.int .i64 (R.k:Int))/\x.cell? ⟨R.r,3,none⟩=some (.int .i64 (R.m:Int))/\OpW x):=λx hf ho=>by have h9:=h.room.fr hf eh;exact⟨h9.cell (j:=1) rfl,h9.cell (j:=2) rfl,h9.cell (j:=3) rfl,ho⟩
 have HK:=Z5J bq dp;have H:=Z5L h cw ht dx;clear h cw ht dx bq dp cz dc;go_enter func13,ntmps13;go_wp2_with fail;go_region_held3 (λx=>x.cell? ⟨R.r,1,none⟩=some (.slice (some ⟨R.gd,0,none⟩) R.n R.cd)/\x.cell? ⟨R.r,2,none⟩=some (.int .i64 (R.k:Int))/\x.cell? ⟨R.r,3,none⟩=some (.int .i64 (R.m:Int))/\OpW x) (first|exact hs0|(exact HK.out.1 _ _ (by assumption) (by assumption))|(exact HK.out.2 _ az dw))
  (first|(go_at_call 27;refine(H.out.2.2.2 _ (And.right (And.right (And.right (by assumption))))).mono ?_;rintro e w8 ⟨F,V',bl',rfl,de,ai,cn,aj,bm,dh,az,dw⟩))
 have aw:=H.out.1.made az de aj bm cn;have f4:=aw.room.free (j:=4) (by simp[CT]);have c4:=aw.room.cell (j:=4) rfl;have af:Fr (R.r::F.p::bl) w (w8.setCell ⟨R.r,4,none⟩ (.pointer (some ⟨F.s,0,none⟩))):=by rw[aj];exact(az.mono (λk hk _=>Z5n _ hk)).setCell (Or.inl (by simp)) _
 have hX:∀q∈R.r::F.p::bl,B<=q:=λq hq=>by
  rw[aj] at hq;rcases Z5q.1 hq with rfl|hq
  .exact H.out.1.rB
  .exact H.out.1.ge q hq
 have M:=Z5P (aw.setS (.pointer (some ⟨F.s,0,none⟩))) ai cn dh af hX aj bm;clear de ai cn aj bm dh az dw aw af hX hs0 c1 c2 c3;go_wp2_with (first|(go_at_call 30;refine(GW _ F.s).mono ?_;rintro e w9 ⟨hh,rfl,bj⟩;have h9:=M.out.1.after bj;have f5:=h9.room.free (j:=5) (by simp[CT]);have c5:=h9.room.cell (j:=5) rfl;have af:=(M.out.2.2.2.2.1.trans (Fr.of_below (L:=[]) bj) (by simp)).setCell (p:=⟨R.r,5,none⟩) (Or.inl (by simp)) (.pointer (some ⟨hh,0,none⟩));have H9:=Z5K (h9.heal (.pointer (some ⟨hh,0,none⟩))) af (H.out.2.2.1.fr af M.out.2.2.2.2.2.1 H.out.1.bw ah);clear bj h9 af)|(go_at_call 43;refine(show Calls prog 43 #[.pointer (some ⟨F.s,0,none⟩),.string ⟨#[]⟩] _ _ from M.out.2.1.keysW H9.out.1.set M.out.2.2.1).mono ?_;rintro e ct ⟨v,L,rfl,b9,du,ae,aq⟩;obtain⟨a1,eo,rfl⟩:=b9.sl;have dt:Zx ct a1 (L.map str)/\∀g o,a1=some ⟨g,o,none⟩->∃r,Row ct g 9 r:=⟨b9.rd,λg o e=>(by subst e;exact QA b9 g (ZK.2 rfl))⟩;have hL:OpL B w bl R F V' (.pointer (some ⟨hh,0,none⟩)) ha hc hs sd a1 L ct:=M7 H9.out.1 M.out.2.2.2.1 H9.out.2.1 H9.out.2.2 aq dt ah;have hlen:=du.length_le_of_subset (l₂:=K11) (λx hx=>(by obtain⟨v,hv⟩:=Option.ne_none_iff_exists'.1 ((ae x).1 hx);exact(H.out.2.1 x v hv).2));have ee:K11.length<=18:=(by decide);obtain⟨Z,bg⟩:=Z5H L.length;have er:Z<=18:=(by omega);have bf:=Z5K hL ae bg;rw[bg];clear b9 du ae aq hL bg hlen ee dt));go_loopw [7] (λkv wr=>∃t:Nat,t<=R.n/\kv=.int .i64 t/\OpL B w bl R F V' (.pointer (some ⟨hh,0,none⟩)) ha hc hs sd a1 L wr) (λkv _=>R.n- (intOf kv).toNat)
 case atStart=>exact⟨0,by omega,rfl,bf.out.1⟩
 case round=>
  obtain⟨t,ey,rfl,J⟩:=hrel;obtain⟨cu,U,ag⟩:=J.at_;have c1:=U.room.cell (j:=1) rfl;by_cases b8:t<R.n
  .have ew:(t:Int)<(R.n:Int):=(by omega);have c7:=U.room.cell (j:=7) rfl;have cs:=U.scell b8;cases au:sd t with
   |false=>
    rw[au] at cs;have O:=Z5F J;clear J U ag;go_wp2_with fail;go_roundw
    case measure=>simp[intOf];omega
    case rel=>exact⟨t+1,by omega,by go_num,O.out⟩
   |true=>
    rw[au] at cs;have dm:(V'.Ms t).isSome=true:=by obtain⟨S,h1,_⟩:=M.out.2.1.snd t b8 au;rw[h1];rfl
    have b7:=Z36 B wr F V' cu t U.set (by rw[M.out.2.2.1];exact b8);rw[dm] at b7;have O:=Z5M J U ag b7 au;clear J U ag b7 dm au;go_wp2_with (go_at_call 44;refine O.out.2.2.2.1.mono ?_;rintro e ez ⟨rfl,ak⟩;have dy:=Z5F (O.out.1.ran O.out.2.1 O.out.2.2.1 ak ah);clear ak);go_loopw [8] (λkv wi=>∃i:Nat,i<=Z/\kv=.int .i64 i/\OpL B w bl R F V' (.pointer (some ⟨hh,0,none⟩)) ha hc hs sd a1 L wi) (λkv _=>Z- (intOf kv).toNat)
    case atStart=>exact⟨0,by omega,rfl,dy.out⟩
    case round=>
     obtain⟨i,b7,rfl,J⟩:=hrel;by_cases bz:i<Z
     .have eu:(i:Int)<(Z:Int):=(by omega);have dj:i<L.length:=by rw[bf.out.2.2];exact bz
      obtain⟨bl2,bh,df⟩:=J.at_;obtain⟨gk,ok,rfl,ck⟩:=J.ks.1 i (by rw[Z5i];exact dj);rw[List.getElem_map] at ck;obtain⟨v9,cr⟩:=Option.ne_none_iff_exists'.1 ((bf.out.2.1 L[i]).1 (Z5r dj));have cj:=H.out.2.1 _ _ cr;have bu:=M.out.2.1.look bh.set M.out.2.2.1 J.ty ah cr cj.2 cj.1 b8 O.out.2.2.2.2;obtain⟨kk,dq⟩:=Z5H L[i];rw[dq] at ck bu;have HI:=Z5L J bh df bu;clear J bh df bu dq cr cj;go_wp2_with (go_at_call 45;refine HI.out.2.2.2.mono ?_;rintro e fa ⟨rfl,al⟩;have dz:=Z5F (HI.out.1.ran HI.out.2.1 HI.out.2.2.1 al ah);clear al);go_roundw
      case measure=>simp[intOf];omega
      case rel=>exact⟨i+1,by omega,by go_num,dz.out⟩
     .obtain rfl:i=Z:=(by omega);have HI:=Z5F J;clear J;go_wp2_with fail;go_roundw
      case measure=>simp[intOf];omega
      case rel=>exact⟨t+1,by omega,by go_num,HI.out⟩
  .obtain rfl:t=R.n:=(by omega);have O:=Z5K J U ag;clear J U ag;go_wp2_with fail;go_ret;exact⟨F,V',cu,_,rfl,O.out.2.1,M.out.2.1,M.out.2.2.2.2.2.2.1,M.out.2.2.2.2.2.2.2,O.out.2.2,by rw[<-M.out.2.2.2.2.2.2.1];exact O.out.1.fr⟩
theorem Z0K{I:Nat->Option Sto}{n:Nat}(h:∀i,i<n->(I i).isSome=true):Dh I n=n:=by unfold Dh;rw[List.filter_eq_self.2 (λi hi=>h i (List.mem_range.1 hi)),List.length_range]
theorem Td(B:Nat)(w:World)(K:List Bs)(E gd n cap k m p g:Nat)(ds:Nat->Nat)(P:Pw)(Ds:Nat->Dk)(bl:List Nat)(Ss:Nat->Sto)(gv:Nat->Int)(A:Nat->List Ac)(hc:∀i,i<n->w.cell? ⟨gd,i,none⟩=some (.pointer (some ⟨ds i,0,none⟩)))(ai:gd<w.heap.size)(ae:gd∉p::bl)(ah:1<=k)(hn:n=k+m)(O:n<=16)(Z:B<=w.heap.size)(hD:DAt B w p n ds P Ds bl)(hK:KOk K)(F:P.gone=false)(ak:Ty w)(ag:0<B)(J:∀i,i<n->WY K E k m g i (Ds i) (some (Ss i)) (gv i) (some (Ss i)) (A i))(M:∃i,i<n/\gv i=(g:Int))(h:MK A ⟨k,m,(g:Int),P,Ds,λi=>some (Ss i)⟩ n (QC A n ⟨k,m,(g:Int),P,Ds,λi=>some (Ss i)⟩))(hE:E<=2000000000)(af:g<=1000000000):Calls prog 27 #[.slice (some ⟨gd,0,none⟩) n cap,.int .i64 (k:Int),.int .i64 (m:Int)] w λe w'=>∃C V' bl',e=.returned (.tuple #[.pointer (some ⟨C.s,0,none⟩),.nilIface])/\EAt B w' C V' bl'/\(V'.k=k/\V'.m=m/\V'.gen=(g:Int)/\V'.P.gone=false/\V'.P.fuse<0)/\V'.Ds=(QC A n ⟨k,m,(g:Int),P,Ds,λi=>some (Ss i)⟩).2.Ds/\(∀i,i<n->V'.Ms i=(QC A n ⟨k,m,(g:Int),P,Ds,λi=>some (Ss i)⟩).2.Ms i)/\C.n=n/\C.p=p/\C.ds=ds/\(∀q∈bl',q∈bl∨w.heap.size<=q)/\Fr (p::bl) w w':=by obtain⟨Ls,rfl,h1,h2⟩:=hD;refine(V8 B w K E gd n cap k m p g ds P Ds Ls (λi=>some (Ss i)) (λi=>some (Ss i)) gv A hc ai ae ah hn O Z h1 h2 hK F ak ag J M (by rw[Z0K (λ_ _=>rfl)];omega) hE af).mono ?_;rintro e w' ⟨sv,ev,rfl,he,hd, -,aj⟩;obtain⟨s,ms,c,xs,bl',rfl,U,hg⟩:=aj h.code;rw[h.code] at he;rw[he.zero];obtain⟨-, -, -, -,hf⟩:=hd;exact⟨_,_,bl',rfl,U,⟨h.num.1,h.num.2.1,h.num.2.2,h.gone,h.fuse⟩,rfl,λi hi=>if_pos hi,rfl,rfl,rfl,hg,hf⟩
section
variable{K:List Bs}{E k m n g:Nat}{H:Bs->Option Bs}{V0 V:Ev}{l:List Chg}
theorem Za.back(h:Za K E k m n g H (λ_=>true) V0)(hk:V.k=k)(hm:V.m=m)(hg:V.gen=(g:Int))(Z:V.P.gone=false)(h2:V.P.fuse<0)(hl:∀i,i<n->(V.Ds i).life=(V0.Ds i).life)(U:∀i,i<n->∃S,V.Ms i=some S/\((Za.ph K E k m g H V0).chg l).q0 i (V.Ds i) S):Za K (E+2) k m n g H (λ_=>true) V:=by
 have key:∀i,i<n->∃S,V.Ms i=some S/\ZO K (E+2) (V.Ds i) S/\Xn k m i g H (stR (V.Ds i).reads S.dir)/\BL k m i H (stR (V.Ds i).reads S.dir):=λi hi=>by
  obtain⟨S,h3,h4,h5⟩:=U i hi;obtain⟨F,O,h7⟩:=h.snd i hi rfl;have e:stR (V.Ds i).reads S.dir=stR (V0.Ds i).reads F.dir:=by rw[h5];show B7 k m g V0 i=_;unfold B7;rw[O]
  exact⟨S,h3,h4,by rw[e];exact(h.in_ i hi F O).2,by rw[e];exact h7⟩
 refine⟨h.hK,h.k1,h.kn,hk,hm,hg,Z,h2,λi hi=>by rw[hl i hi];have:=h.life i hi;omega,λi hi S hM=> ?_,λi hi _=> ?_,h.many⟩
 .obtain⟨C,e1,e2,J,M⟩:=key i hi;rw[hM] at e1;cases e1;exact⟨e2,J⟩
 .obtain⟨C,e1,e2,J,M⟩:=key i hi;exact⟨C,e1,M⟩
theorem Za.forth(h:Za K E k m n g H (λ_=>true) V0)(hk:V.k=k)(hm:V.m=m)(hg:V.gen=((g+1:Nat):Int))(O:V.P.gone=false)(U:V.P.fuse<0)(hl:∀i,i<n->(V.Ds i).life=(V0.Ds i).life)(C:∀i,i<n->∃S,V.Ms i=some S/\((Za.ph K E k m g H V0).chg l).p2 i (V.Ds i) S):Za K (E+2) k m n (g+1) (upH H l) (λ_=>true) V:=by
 refine⟨h.hK,h.k1,h.kn,hk,hm,hg,O,U,λi hi=>by rw[hl i hi];have:=h.life i hi;omega,λi hi S hM=> ?_,λi hi _=> ?_,h.many⟩
 .obtain⟨F,e1,e2,J,M⟩:=C i hi;rw[hM] at e1;cases e1;exact⟨e2,J⟩
 .obtain⟨F,e1,e2,J,M⟩:=C i hi;obtain⟨S0,Z,h7⟩:=h.snd i hi rfl;refine⟨F,e1,M ?_⟩;show BL k m i H (B7 k m g V0 i);unfold B7;rw[Z];exact h7
theorem Hc(kl:List (List Bool))(tl:List Int)(Ds:Nat->Dk)(t i:Nat):(Qx kl tl Ds t i).life=(Ds i).life/\(Qx kl tl Ds t i).dead=(Ds i).dead:=by unfold Qx;split<;>exact⟨rfl,rfl⟩
theorem YZ.power{X:Z9}{cs:List Chg}(h:YZ X n V cs){P:Pw}(C:P.gone=false):YZ X n {V with P:=P} cs:=⟨h.hK,h.k1,h.rest,h.vk,h.vm,h.vg,h.kn,C,h.at_,h.many,h.ep,h.gb,h.ne,h.few,h.key,h.val⟩
theorem Te(l:List YG):∀ (V:Ev) (i:Nat),((Zg l V).2.Ds i).dead=(V.Ds i).dead:=by
 induction l with
 |nil=>intro V i;rfl
 |cons x r ih=>
  intro V i;have h:((ZB V x).Ds i).dead=(V.Ds i).dead:=by
   unfold ZB;split
   .simp only;by_cases e:i=x.1
    .subst e;rw[Zo,(Y5 _ _ _).2]
    .rw[Z6 _ _ e]
   .rfl
  unfold Zg;split
  .rw[ih,h]
  .exact h
theorem Za.after(h:Za K E k m n g H (λ_=>true) V0){cs:List Chg}{B:Nat}{w:World}{G:Eg}{bl:List Nat}(ag:V.Ms=V0.Ms)(O:G.n=n)(he:EAt B w G V bl)(hp:YZ (Za.ph K E k m g H V0) G.n V cs)(hl:l.Perm (Q5 cs)){c:Int}{P2:Pw}{D2:Nat->Dk}(hc:(Zg (QQ ((Za.ph K E k m g H V0).chg l) (ZI V G.n)) V).1=c)(hP:(Zg (QQ ((Za.ph K E k m g H V0).chg l) (ZI V G.n)) V).2.P=P2)(hD:(Zg (QQ ((Za.ph K E k m g H V0).chg l) (ZI V G.n)) V).2.Ds=D2):((c=0/\P2.gone=false)∨(c=10/\P2.gone=true))/\∀kl tl,(c≠0/\((Za.ph K E k m g H V0).chg l).o0 n (Qx kl tl D2 n))∨((Za.ph K E k m g H V0).chg l).o2 n (Qx kl tl D2 n):=by
 subst hc hP hD;have Z:=hp.ok hl;have U:=hp.start (l:=l) he;have hM:∀j,j<n->(V.Ms j).isSome=true:=λj C=>by obtain⟨S,h1,_⟩:=h.snd j C rfl;rw[ag,h1];rfl
 have af:0<n:=by have:=h.k1;have:=h.kn;omega
 by_cases J:(Zg (QQ ((Za.ph K E k m g H V0).chg l) (ZI V G.n)) V).1=0
 .have ae:=(Z9.commit Z U).1 J;obtain⟨s1,s2,s3,s4⟩:=E4 (QQ ((Za.ph K E k m g H V0).chg l) (ZI V G.n)) V;refine⟨Or.inl ⟨J,ae.gone⟩,λkl tl=>Or.inr ?_⟩;have key:∀i,i<n->∃S,((Za.ph K E k m g H V0).chg l).p2 i (Qx kl tl (Zg (QQ ((Za.ph K E k m g H V0).chg l) (ZI V G.n)) V).2.Ds n i) S:=λi hi=>by obtain⟨S,F⟩:=Option.isSome_iff_exists.1 ((s4 i).trans (hM i hi));have h2:=(ae.at_ i (by rw[O];exact hi) S F).1;refine⟨S,?_⟩;unfold Qx;rw[if_pos hi,Ej h2.1.wait];exact h2
  obtain⟨S,F⟩:=key 0 af;exact⟨λi hi=>(key i hi).imp λS F=>Or.inr F,0,S,af,F⟩
 .refine⟨Or.inr (Z9.crash Z U J (λ_=>[]) (λ_=>0)).2,λkl tl=> ?_⟩;have hc:=(Z9.crash Z U J (λi=>kl.getD i []) (λi=>tl.getD i 0)).1;have e:∀j,j<n->Qx kl tl (Zg (QQ ((Za.ph K E k m g H V0).chg l) (ZI V G.n)) V).2.Ds n j=((Zg (QQ ((Za.ph K E k m g H V0).chg l) (ZI V G.n)) V).2.Ds j).lost (kl.getD j []) (tl.getD j 0):=λj C=>if_pos C;rcases hc with hc|hc
  .left;refine⟨J,λj C=> ?_⟩;obtain⟨S,F⟩:=hc j (by rw[O];exact C) (hM j C);rw[e j C];exact⟨S,F.imp (λM=>⟨M.1.mono (by omega),M.2⟩) id⟩
  .by_cases M:∃i S,i<n/\((Za.ph K E k m g H V0).chg l).p2 i (Qx kl tl (Zg (QQ ((Za.ph K E k m g H V0).chg l) (ZI V G.n)) V).2.Ds n i) S
   .right;refine⟨λj C=> ?_,M⟩;obtain⟨S,F⟩:=hc j (by rw[O];exact C) (hM j C);rw[e j C];exact⟨S,F⟩
   .left;refine⟨J,λj C=> ?_⟩;obtain⟨S,F⟩:=hc j (by rw[O];exact C) (hM j C);rw[<-e j C] at F;exact⟨S,Or.inr (F.resolve_right λh8=>M ⟨j,S,C,h8⟩)⟩
end
