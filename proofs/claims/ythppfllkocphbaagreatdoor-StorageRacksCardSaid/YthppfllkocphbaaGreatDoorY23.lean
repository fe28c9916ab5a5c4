/- Part 24: lemmas about what the program computes. -/
import Derived.Lib.SlicesCompact
import Derived.Test.YthppfllkocphbaaGreatDoorY21
import Derived.Test.YthppfllkocphbaaGreatDoorY22
namespace Go.Proofs.YthppfllkocphbaaGreatDoor
set_option linter.unusedVariables false
set_option linter.unusedSimpArgs false
set_option maxHeartbeats 25600000
set_option maxRecDepth 100000
open Tryz Go.RowKit
section
open Go.Shelf
variable{B E gc gi i n:Nat}{Ds:Nat->Dk}{G:Eg}{K:List Bs}{P:Pw}{S:Sto}{V V1 Vt:Ev}{bl bl1 blt done ins:List Nat}{cs l:List Chg}{d:Dir}{iv:Value}{ops:List YG}{ph:Nat->Dk->Sto->Prop}{w w' w3 wr:World}
abbrev Z2A:={c:Chg // 1<=c.key.length/\c.key.length<=200/\(c.val.getD []).length<=8000}
instance:Inhabited Z2A:=⟨⟨⟨[0],none⟩,by decide⟩⟩
def Jc(w:World)(gc:Nat)(cs:List Chg):Prop:=∃sp,Row w gc 68 (cs.flatMap apC++sp)
theorem So(P:List Chg):(P.flatMap apC).length=P.length*3:=by
 induction P with
 |nil=>rfl
 |cons x r ih=>rw[Z5s,Z5d,ih];simp[apC];omega
theorem Sn(P:List Chg):∀ (q:Nat) (h:q<P.length) (r:Nat),r<3->(P.flatMap apC)[q*3+r]? =(apC P[q])[r]?:=by
 induction P with
 |nil=>intro q h;simp at h
 |cons x l ih=>
  intro q h r C;rw[Z5s]
  match q,h with
  |0,_=>rw[Z5c (by simp[apC];omega)];simp
  |q+1,h=>
   rw[Z5k (by simp[apC];omega)];have:(q+1)*3+r- (apC x).length=q*3+r:=by simp[apC];omega
   grind
theorem Jc.rd(h:Jc w gc cs):BK w gc cs:=by
 obtain⟨sp,C⟩:=h;refine⟨C.lt,λq J=> ?_⟩
 have key:∀r u,r<3->(apC cs[q])[r]? =some u->w.cell? ⟨gc,q*3+r,none⟩=some u:=λr u F hu=>C.cell (by
  rw[Z5c (by rw[So];omega),Sn cs q J r F];exact hu)
 exact⟨key 0 _ (by omega) rfl,key 1 _ (by omega) rfl,key 2 _ (by omega) rfl⟩
theorem KD(gc n cap:Nat)(cs:List Chg)(W:World)(U:BK W gc cs)(hn:n=cs.length)(hl:cs.length<=1000)(hg:∀c∈cs,1<=c.key.length/\c.key.length<=200/\(c.val.getD []).length<=8000):Calls prog 32 #[.slice (some ⟨gc,0,none⟩) n cap,.func (.func 33) #[] #[]] W λe w'=>e=.returned (.bool false)/\Below W.heap.size W w':=by
 have hE:=Tryz.slices_ContainsFunc (α:=Z2A) 3 (λw=>by kernel_rfl) (λw=>by kernel_rfl) (λx=>apC x.1) (λx=>rfl) (λo=>false) 33 #[] (λargs w=>by kernel_rfl) gc 0 n cap (cs.pmap Subtype.mk hg) W (λW' x O=> ?_) (by simp_all) (by omega) U.1 (λj hj i v hv=> ?_)
 .grind
 .obtain⟨⟨xk,C⟩,F,J,M⟩:=x;have h9:=V9 (str xk) (str (C.getD [])) C.isNone (by rw[Z5];exact F) (by rw[Z5];exact J) (by rw[Z5];exact M) (λhh=>by cases C with|none=>rfl|some v=>cases hh) W';exact h9.mono λe w' h=>⟨h.1,O.trans (h.2.mono O.size)⟩
 .have Z:j<cs.length:=by simpa using hj
  obtain⟨F,J,M⟩:=U.2 j Z;unfold apC at hv;grind
def Z9.chg(X:Z9)(l:List Chg):Z9:={X with l:=l}
structure YZ(X:Z9)(n:Nat)(V:Ev)(cs:List Chg):Prop where
 hK:KOk X.K
 k1:1<=X.k
 rest:∀i,i<n->Xn X.k X.m i X.g X.H (X.T i)
 vk:V.k=X.k
 vm:V.m=X.m
 vg:V.gen=(X.g:Int)
 kn:X.k+X.m=n
 gone:V.P.gone=false
 at_:∀i,i<n->∀S,V.Ms i=some S->X.p0 i (V.Ds i) S
 many:X.k<=(ZI V n).length
 ep:X.E<=1900000000
 gb:X.g<=1000000000
 ne:cs≠[]
 few:cs.length<=4
 key:∀c∈cs,c.key∈X.K
 val:∀c∈cs,∀v,c.val=some v->v.length<=200
theorem YZ.ok{X:Z9}(h:YZ X n V cs)(C:l.Perm (Q5 cs)):(X.chg l).Ok n:=⟨h.hK,LOk.of C h.few h.key h.val,h.k1,h.rest⟩
theorem EAt.oks(h:EAt B w G V bl){i:Nat}(hi:i<G.n){S:Sto}(hM:V.Ms i=some S):(V.Ds i).ok 800/\(V.Ds i).dead=false:=by obtain⟨s,_,_,C,L,F⟩:=h.mem hi hM;exact⟨F.ok,C⟩
theorem YZ.start{X:Z9}(h:YZ X G.n V cs)(he:EAt B w G V bl):(X.chg l).At (ph1 (X.chg l) []) G.n V:=by refine⟨h.gone,λi hi S hM=>⟨?_,he.oks hi hM⟩⟩;exact h.at_ i hi S hM
theorem LL(V:Ev)(k:Nat):ZI V (k+1)=ZI V k++(if(V.Ms k).isSome=true then[k] else[]):=by unfold ZI;rw[List.range_succ,List.filter_append];grind
structure CoS(B:Nat)(w:World)(G:Eg)(V:Ev)(bl:List Nat)(gc:Nat)(cs:List Chg)(iv:Value)(ins:List Nat)(V1:Ev)(wr:World):Prop where
 ran:Zi B G bl V1 w wr
 ints:Fe wr w.heap.size iv ins
 api:Jc wr gc cs
theorem CoS.next{F:Ev}(h:CoS B w G V bl gc cs iv ins V1 wr){bl1:List Nat}(he:EAt B wr G V1 bl1/\(∀k∈bl1,k∈bl∨w.heap.size<=k)/\Fr (G.p::bl) w wr)(M:Zi B G bl1 F wr w'):CoS B w G V bl gc cs iv ins F w':=by obtain⟨sp,C⟩:=h.api;obtain⟨bl2,e2,g2,f2⟩:=M;refine⟨Zi.trans he ⟨bl2,e2,g2,f2⟩,Wl h.ints f2 (λq J=> ?_),sp,C.fr f2 (he.1.row_ne C (by decide))⟩;obtain⟨l,hl⟩:=QA h.ints q J;exact he.1.row_ne hl (by decide)
theorem CoS.after(h:CoS B w G V bl gc cs iv ins V1 wr)(C:Below wr.heap.size wr w'):CoS B w G V bl gc cs iv ins V1 w':=by obtain⟨sp,F⟩:=h.api;exact⟨h.ran.after C,Qz h.ints C,sp,F.after C⟩
theorem CoS.put{O:Value}{M:List Nat}(h:CoS B w G V bl gc cs iv ins V1 wr)(Z:Fe w' w.heap.size O M)(F:Fr (ZG iv) wr w'):CoS B w G V bl gc cs O M V1 w':=by
 obtain⟨sp,J⟩:=h.api;obtain⟨bl1,e1,g1,f1⟩:=h.ran;have C:Z8 wr (ZG iv) [3]:=λq hq=>by obtain⟨l,f,hl,_⟩:=QA h.ints q hq;simp_all
 refine⟨⟨bl1,e1.fr F C (by simp) (by simp) (by simp) (λk U hm=> ?_),g1,f1.trans F (λi hi ae=> ?_)⟩,Z,sp,J.fr F (C.row_ne J (by simp))⟩
 .exact e1.typed.disj C (by decide) k U hm
 .have:=WE h.ints i hi;omega
theorem IO(c:Int)(v:Value)(s:Nat)(l:List Value)(w:World)(hs:Row w s 78 l)(hl:l.length=5)(ht:Ty w)(hg:0≠s)(B:Nat)(hB:B<=w.heap.size)(he:Zk w B c v)(U:s<B):Calls prog 40 #[.pointer (some ⟨s,0,none⟩),v] w (Ans B c λw'=>Fr [s] w w'):=by
 have f4:=hs.free (j:=4) (by omega);obtain⟨u,hu⟩:∃u,l[4]? =some u:=⟨_,Z5a (by omega)⟩;have c4:=hs.cell (j:=4) hu;obtain⟨w1,h⟩:=Z5I (w.setCell ⟨s,4,none⟩ (.bool true));have J:Fr [s] w w1:=by rw[h];exact(Fr.refl _ _).setCell (Or.inl (by simp)) _
 have Z:Ty w1:=by unfold Ty at ht⊢;rw[h,World.cell?_setCell_other _ _ _ _ (by simp)];omega
 have O:Zk w1 B c v:=he.fr J (λk M=>by rw[Z58] at M;subst M;exact U);have hz:w1.heap.size=w.heap.size:=by simp_all
 have H:=Z5K J Z O;go_enter func40,ntmps40;go_wp2_with fail;rw[<-h];go_wp2_with (go_at_call 49;refine(CZ B c v _ H.out.2.2 H.out.2.1).mono ?_;rintro e w2 ⟨v',rfl,hv,F⟩;have C:=Z5J hv F;clear hv F);go_ret;exact⟨_,rfl,C.out.1.base (by omega),H.out.1.trans (Fr.of_below (L:=[]) C.out.2) (by simp)⟩
structure C2S(B:Nat)(w3:World)(G:Eg)(bl1:List Nat)(gi:Nat)(ins:List Nat)(V:Ev)(ops:List YG)(Y:Z9)(ph:Nat->Dk->Sto->Prop)(Vt:Ev)(wr:World):Prop where
 ran:Zi B G bl1 Vt w3 wr
 ints:∃sp,Row wr gi 3 (Gr ins++sp)
 at_:Y.At ph G.n Vt
 run:Zg ops V=(0,Vt)
theorem C2S.cell{Y:Z9}(h:C2S B w3 G bl1 gi ins V ops Y ph Vt wr){t:Nat}(F:t<ins.length):wr.cell? ⟨gi,t,none⟩=some (.int .i64 (ins[t]:Int)):=by obtain⟨sp,C⟩:=h.ints;exact C.cell (by rw[Z5c (by simp[Gr];omega)];simp[Gr,F])
theorem E4(l:List YG):∀V:Ev,(Zg l V).2.k=V.k/\(Zg l V).2.m=V.m/\(Zg l V).2.gen=V.gen/\∀i,((Zg l V).2.Ms i).isSome=(V.Ms i).isSome:=by
 induction l with
 |nil=>intro V;exact⟨rfl,rfl,rfl,λ_=>rfl⟩
 |cons x r ih=>intro V;obtain⟨s1,s2,h,C⟩:=XU V x;unfold Zg;grind
theorem C2S.same{Y:Z9}(h:C2S B w3 G bl1 gi ins V ops Y ph Vt wr):Vt.k=V.k/\Vt.m=V.m/\Vt.gen=V.gen/\∀i,(Vt.Ms i).isSome=(V.Ms i).isSome:=by have:=E4 ops V;rw[h.run] at this;omega
theorem C2S.after{Y:Z9}(h:C2S B w3 G bl1 gi ins V ops Y ph Vt wr)(C:Below wr.heap.size wr w'):C2S B w3 G bl1 gi ins V ops Y ph Vt w':=by obtain⟨sp,F⟩:=h.ints;exact⟨h.ran.after C,⟨sp,F.after C⟩,h.at_,h.run⟩
theorem C2S.did{Y:Z9}{ph':Nat->Dk->Sto->Prop}(h:C2S B w3 G bl1 gi ins V ops Y ph Vt wr){x:YG}(J:ZH Vt x=0)(M:Y.At ph' G.n (ZB Vt x))(he:EAt B wr G Vt blt/\(∀k∈blt,k∈bl1∨w3.heap.size<=k)/\Fr (G.p::bl1) w3 wr)(C:Zi B G blt (ZB Vt x) wr w'):C2S B w3 G bl1 gi ins V (ops++[x]) Y ph' (ZB Vt x) w':=by obtain⟨sp,F⟩:=h.ints;exact⟨Zi.trans he C,⟨sp,C.row he.1 F (by decide)⟩,M,by rw[Tf h.run,J]⟩
theorem Qv.below(h:Qv B G bl P Ds w w')(C:EAt B w G V bl):Below B w w':=by obtain⟨Ls,J,M,O,F⟩:=h;exact F.below C.bw C.ge
theorem SS(h:Qv B G bl P Ds w w'):w.heap.size<=w'.heap.size:=by obtain⟨Ls,F,J,M,C⟩:=h;exact C.size
theorem EAt.smem(h:EAt B w G V bl):G.s∈bl:=by obtain⟨Ls,Os,rfl,_⟩:=h;simp[Wb]
theorem IU{a b:List YG}{x:YG}(h:Zg a V=(0,Vt))(C:ZH Vt x≠0):Zg (a++(x::b)) V=(ZH Vt x,ZB Vt x):=by rw[Jg,h];unfold Zg;simp_all
theorem Nf{w4 w5 C:World}{c:Int}{ev ev':Value}{o:List Value}(F:EAt B w G V bl)(O:EAt B w3 G V bl1/\(∀k∈bl1,k∈bl∨w.heap.size<=k)/\Fr (G.p::bl) w w3)(ht:EAt B wr G Vt blt/\(∀k∈blt,k∈bl1∨w3.heap.size<=k)/\Fr (G.p::bl1) w3 wr)(U:Below wr.heap.size wr w4)(Z:Qv B G blt P Ds w4 w5)(hs:Row w5 G.s 78 o)(hf:Fr [G.s] w5 C):Qv B G bl P Ds w C:=by have J:Qv B G bl1 P Ds w3 w5:=Qv.trans ht (Z.from U);have M:Qv B G bl P Ds w w5:=Qv.trans O J;exact M.fr hf (Z8.row hs (by simp)) (ts:=[78]) (by decide) (λk h=>by rw[Z58] at h;subst h;exact Or.inl (Z5n _ F.smem))
theorem TC{ga na ca:Nat}{a:Sto->List Ac}{f:Z1}(h:EAt B w G V bl)(hi:i<G.n)(hM:V.Ms i=some S)(O:ZO K E (V.Ds i) S)(hK:KOk K)(U:E<=2000000000)(ha:Qu K S (a S) d f)(C:WD w ga 0 (a S))(M:na=(a S).length)(F:na<=ca)(ht:Ty w)(Z:0<B){s:Nat}{o:List Value}(hr:Row w (G.xs i) 91 (.pointer (some ⟨G.ds i,0,none⟩):: .pointer (some ⟨s,0,none⟩)::o)):Calls prog 38 #[.pointer (some ⟨s,0,none⟩),.slice (some ⟨ga,0,none⟩) na ca] w λe w'=>∃ev,e=.returned ev/\Zk w' w.heap.size (ZH V (i,a)) ev/\(ZH V (i,a)=0->Zi B G bl (ZB V (i,a)) w w')/\Qv B G bl (ZB V (i,a)).P (ZB V (i,a)).Ds w w'/\Row w' G.s 78 [.int .i64 V.k,.int .i64 V.m,.slice (some ⟨G.ms,0,none⟩) G.n G.cap,.int .i64 V.gen,.bool false]:=by obtain⟨e1,e2⟩:=Yr (V:=V) (x:=(i,a)) hM;refine(Z3q h hi hM O hK U ha C M F ht Z hr).mono ?_;rintro e w' ⟨ev,rfl,J,hm⟩;rw[e1,e2];exact⟨ev,rfl,J,hm.ok,hm.bad,hm.set⟩
theorem Nb{gone:List Bs}(h:EAt B w G V bl)(hi:i<G.n)(hM:V.Ms i=some S)(F:ZO K E (V.Ds i) S)(hK:KOk K)(hE:E<=2000000000)(ha:Qu K S (Q0 S.dir gone) d [])(ht:Ty w)(hg:0<B)(ai:∀x∈gone,x.length<=1000)(aj:gone.length<=1000){J:Option Addr}{ggc:Nat}(ak:Zx w J (gone.map str))(ah:∀g o,J=some ⟨g,o,none⟩->g<w.heap.size){s:Nat}{o:List Value}(Z:Row w (G.xs i) 91 (.pointer (some ⟨G.ds i,0,none⟩):: .pointer (some ⟨s,0,none⟩)::o)):Calls prog 41 #[.pointer (some ⟨s,0,none⟩),.slice J gone.length ggc] w λe w'=>∃ev,e=.returned ev/\Zk w' w.heap.size (ZH V (i,λS=>Q0 S.dir gone)) ev/\(ZH V (i,λS=>Q0 S.dir gone)=0->Zi B G bl (ZB V (i,λS=>Q0 S.dir gone)) w w')/\Qv B G bl (ZB V (i,λS=>Q0 S.dir gone)).P (ZB V (i,λS=>Q0 S.dir gone)).Ds w w'/\Row w' G.s 78 [.int .i64 V.k,.int .i64 V.m,.slice (some ⟨G.ms,0,none⟩) G.n G.cap,.int .i64 V.gen,.bool false]:=by
 obtain⟨s',ae,au,hd,L,aw⟩:=h.mem hi hM;obtain rfl:s'=s:=by have e1:=ae.cell (j:=1) rfl;have e2:=Z.cell (j:=1) rfl;simp_all
 have aq:∀n∈S.dir.names,n.length<=1000:=λn O=>by obtain⟨x,hx,rfl⟩:=List.mem_map.1 O;have:=(Jz hK _ (F.sm x hx).1).2;omega
 refine Kn s' (G.ds i) S _ gone w au F.sorted (by have:=F.few hK;omega) aq ⟨J,ggc,rfl,ak,ah⟩ aj ai (λn e O=>by
  obtain⟨_,M,U⟩:=F.runs O
  exact⟨M,by omega⟩) (R:=λev w'=>Zk w' w.heap.size (ZH V (i,λS=>Q0 S.dir gone)) ev/\(ZH V (i,λS=>Q0 S.dir gone)=0->Zi B G bl (ZB V (i,λS=>Q0 S.dir gone)) w w')/\Qv B G bl (ZB V (i,λS=>Q0 S.dir gone)).P (ZB V (i,λS=>Q0 S.dir gone)).Ds w w'/\Row w' G.s 78 [.int .i64 V.k,.int .i64 V.m,.slice (some ⟨G.ms,0,none⟩) G.n G.cap,.int .i64 V.gen,.bool false]) (λga na ca w1 C _ af _ al ag=> ?_)
 refine(TC (a:=λS=>Q0 S.dir gone) (h.after C) hi hM F hK hE ha af al ag (ht.below C) hg (Z.after C)).mono ?_;rintro e w' ⟨ev,rfl,M,U,h3,h4⟩;exact⟨ev,rfl,M.base C.size,λh0=>(U h0).from C,h3.from C,h4⟩
theorem OL{a:Option Addr}{ss:List ByteArray}(h:Zx w a ss)(J:∀g o,a=some ⟨g,o,none⟩->∃r,Row w g 9 r)(he:EAt B w G V bl)(F:Zi B G bl V1 w w'):Zx w' a ss/\∀g o,a=some ⟨g,o,none⟩->∃r,Row w' g 9 r:=by
 refine⟨λj O=> ?_,λg o e=> ?_⟩
 .obtain⟨g,o,e,hc⟩:=h j O;obtain⟨r,C⟩:=J g o e;obtain⟨bl',_,_,M⟩:=F;have U:=M.block g C.lt (he.row_ne C (by decide));refine⟨g,o,e,?_⟩;unfold World.cell? at hc⊢;simp_all
 .obtain⟨r,C⟩:=J g o e;exact⟨r,F.row he C (by decide)⟩
theorem EAt.setGen(h:EAt B w G V bl)(g:Int):EAt B (w.setCell ⟨G.s,3,none⟩ (.int .i64 g)) G {V with gen:=g} bl:=by obtain⟨Ls,Os,rfl,h⟩:=h;have F:Fr [G.s] w (w.setCell ⟨G.s,3,none⟩ (.int .i64 g)):=(Fr.refl _ _).setCell (Or.inl (by simp)) _;have C:Z8 w [G.s] [78]:=Z8.row h.set (by simp);obtain⟨sp,hm⟩:=h.mem;refine⟨Ls,Os,rfl,h.set.set 3 (.int .i64 g),⟨sp,hm.fr F (C.row_ne hm (by simp))⟩,h.n1,h.n16,λi hi=>(h.pd i hi).fr F (C.disj (h.pd i hi).typed (by decide)),h.dap,λi hi=>(h.at_ i hi).fr F C (by simp) (by simp) (λk J hm=>C.disj (h.at_ i hi).typed (by decide) k hm J),h.oap,h.bO,h.bs⟩
theorem RI{X:Z9}(h:X.At ph n V){i:Nat}{S:Sto}{a:Sto->List Ac}{d:Dir}{f:Z1}(hi:i<n)(hM:V.Ms i=some S)(ha:Qu X.K S (a S) d f):ZH V (i,a)=0∨ZH V (i,a)=10:=by
 obtain⟨e1, -⟩:=Yr (V:=V) (x:=(i,a)) hM;obtain⟨-,C,F⟩:=h.at_ i hi S hM;rw[e1];simp only;rw[ha.go];rcases Bj (S.ops (a S) d f) (P:=V.P) ha.in_ C.fit F h.gone with h9|h9
 .omega
 .omega
theorem Fe.row{base g c:Nat}{l:List Nat}(h:Fe w base (.slice (some ⟨g,0,none⟩) n c) l)(hl:0<l.length):∃sp,Row w g 3 (Gr l++sp):=by obtain⟨F,C,sp,hv,_,_,_,J⟩:=YR h hl;grind
structure Z4R(B:Nat)(w3:World)(bs:Nat)(G:Eg)(bl1:List Nat)(X:Z9)(gl:Nat)(V Vt:Ev)(done:List Nat)(i:Nat)(wr:World)(S:Sto)(blt:List Nat)(s:Nat):Prop where
 e:EAt B wr G Vt blt
 ty:Ty wr
 hM:Vt.Ms i=some S
 hi:i<G.n
 hB:ZO X.K X.E (Vt.Ds i) S
 acts:∃d f,Qu X.K S (QL X.k X.m i X.g X.l) d f
 row:Row wr (G.xs i) 91 [.pointer (some ⟨G.ds i,0,none⟩),.pointer (some ⟨s,0,none⟩),.int .i64 (Vt.Ds i).life,.bool true]
 set:Row wr G.s 78 [.int .i64 X.k,.int .i64 X.m,.slice (some ⟨G.ms,0,none⟩) G.n G.cap,.int .i64 (X.g:Int),.bool false]
 ch:X0 wr bs X.k X.m gl X.l
theorem C2S.pre1{gl bs:Nat}{Y:Z9}(h:C2S B w3 G bl1 gi ins V ops Y (ph1 Y done) Vt wr)(hY:Y.Ok G.n)(Z:EAt B w3 G V bl1)(U:Ty w3)(ae:0<B)(M:X0 w3 bs Y.k Y.m gl Y.l)(O:∀k∈G.p::bl1,k<bs)(C:V.k=Y.k)(hm:V.m=Y.m)(hg:V.gen=(Y.g:Int)){i:Nat}(hi:i<G.n)(af:(V.Ms i).isSome=true)(hd:i∉done):∃S blt s,Z4R B w3 bs G bl1 Y gl V Vt done i wr S blt s/\(∀k∈blt,k∈bl1∨w3.heap.size<=k)/\Fr (G.p::bl1) w3 wr:=by
 obtain⟨blt,e1,g1,f1⟩:=h.ran;obtain⟨s1,s2,s3,s4⟩:=h.same;have hS:(Vt.Ms i).isSome=true:=by simp_all
 obtain⟨S,hM⟩:=Option.isSome_iff_exists.1 hS;obtain⟨hB,ha⟩:=Z9.ready1 hY h.at_ hi hM hd;obtain⟨s,J,_⟩:=e1.mem hi hM;have F:=e1.scell;rw[s1,s2,s3,C,hm,hg] at F;exact⟨S,blt,s,⟨e1,Zi.ty ⟨blt,e1,g1,f1⟩ Z U,hM,hi,hB,ha,J,F,M.fr f1 (λk C=>Or.inl (O k C))⟩,g1,f1⟩
structure Z4S(B:Nat)(w3:World)(G:Eg)(bl1:List Nat)(X:Z9)(V4:Ev)(i:Nat)(wr:World)(S:Sto)(blt:List Nat)(s:Nat)(d:Dir):Prop where
 e:EAt B wr G V4 blt/\(∀k∈blt,k∈bl1∨w3.heap.size<=k)/\Fr (G.p::bl1) w3 wr
 ty:Ty wr
 hM:V4.Ms i=some S
 hB:ZO X.K (X.E+1) (V4.Ds i) S
 acts:Qu X.K S (Q0 S.dir (Zu X.l)) d []
 row:Row wr (G.xs i) 91 [.pointer (some ⟨G.ds i,0,none⟩),.pointer (some ⟨s,0,none⟩),.int .i64 (V4.Ds i).life,.bool true]
theorem C2S.pre2{Y:Z9}{C:Ev}(h:C2S B w3 G bl1 gi ins V ops Y (ph2 Y done) C wr)(U:Y.Ok G.n)(M:EAt B w3 G V bl1)(J:Ty w3)(ae:0<B){i:Nat}(hi:i<G.n)(af:(V.Ms i).isSome=true)(Z:i∉done):∃S blt s d,Z4S B w3 G bl1 Y C i wr S blt s d:=by
 obtain⟨blt,e1,g1,f1⟩:=h.ran;obtain⟨s1,s2,s3,s4⟩:=h.same;have O:(C.Ms i).isSome=true:=by simp_all
 obtain⟨S,hM⟩:=Option.isSome_iff_exists.1 O;obtain⟨hB,d,ha⟩:=Z9.ready2 U h.at_ hi hM Z;obtain⟨s,F,_⟩:=e1.mem hi hM;exact⟨S,blt,s,d,⟨e1,g1,f1⟩,Zi.ty ⟨blt,e1,g1,f1⟩ M J,hM,hB,ha,F⟩
theorem GT(B:Nat)(w:World)(G:Eg)(V:Ev)(bl:List Nat)(X:Z9)(gc n cap:Nat)(cs:List Chg)(h:EAt B w G V bl)(ht:Ty w)(de:0<B)(hp:YZ X G.n V cs)(hr:Jc w gc cs)(hn:n=cs.length)(fw:n<=cap):Calls prog 11 #[.pointer (some ⟨G.s,0,none⟩),.slice (some ⟨gc,0,none⟩) n cap] w λe w'=>∃l ev,l.Perm (Q5 cs)/\e=.returned ev/\Zk w' w.heap.size (Zg (QQ (X.chg l) (ZI V G.n)) V).1 ev/\ ((Zg (QQ (X.chg l) (ZI V G.n)) V).1=0->Zi B G bl {(Zg (QQ (X.chg l) (ZI V G.n)) V).2 with gen:=V.gen+1} w w')/\((Zg (QQ (X.chg l) (ZI V G.n)) V).1≠0->Qv B G bl (Zg (QQ (X.chg l) (ZI V G.n)) V).2.P (Zg (QQ (X.chg l) (ZI V G.n)) V).2.Ds w w'):=by
 have kg:=h.nle;have c4:=h.scell.cell (j:=4) rfl;have c2:=h.scell.cell (j:=2) rfl;have jx:=hp.few;have lj:((n:Int)==0)=false:=by rw[beq_eq_false_iff_ne];have:=List.length_pos_iff.2 hp.ne;omega
 have kf:decide ((n:Int)>32)=false:=by simp;omega
 have cr:∀c∈cs,1<=c.key.length/\c.key.length<=200/\(c.val.getD []).length<=8000:=λc hc=>by
  have h1:=hp.hK.len _ (hp.key c hc);refine⟨h1.1,by omega,?_⟩;cases hv:c.val with
  |none=>simp
  |some v=>have:=hp.val c hc v hv;simp;omega
 have jl:=KD gc n cap cs w hr.rd hn (by omega) cr;have H:=Z5N h hp hr hn ht jl;clear h hp hr hn ht cr jl jx;go_enter func11,ntmps11;go_wp2_with (go_at_call 32;refine H.out.2.2.2.2.2.mono ?_;rintro e w1 ⟨rfl,ft⟩;have kx:=(ft.cell (Z5b _ _ c2)).trans c2;have R1:=Z5F ft;clear ft c4 c2);have iy:=Zi.same H.out.1 R1.out;have I0:CoS B w G V bl gc cs (.slice none 0 0) (ZI V 0) V w1:=⟨iy,World.ownsRow_nil _ _ _ _,by obtain⟨sp,hr⟩:=H.out.2.2.1;exact⟨sp,hr.after R1.out⟩⟩;have jo:=Z5F I0;clear I0 iy;go_loopw [5,43] (λiv kv wr=>∃k:Nat,k<=G.n/\kv=.int .i64 k/\CoS B w G V bl gc cs iv (ZI V k) V wr) (λ_ kv _=>G.n- (intOf kv).toNat)
 case atStart=>exact⟨0,by omega,rfl,jo.out⟩
 case round=>
  obtain⟨k,hk,rfl,Z⟩:=hrel;have HS:=Z5F Z;obtain⟨bl1,hE,fm,hf⟩:=Z.ran;have HE:=Z5K hE fm hf;by_cases jf:k<G.n
  .have dp:=LL V k;cases hM:V.Ms k with
   |none=>
    rw[hM] at dp;have hh:=AU B wr G V bl1 k hE jf hM;have HH:=Z5J hh dp;clear hE fm hf Z hh dp hM;go_wp2_with (go_at_call 34;refine HH.out.1.mono ?_;rintro e w2 ⟨rfl,jg⟩;have R2:=Z5F (HS.out.next HE.out jg);clear jg);go_roundw
    case measure=>simp[intOf];omega
    case rel=>exact⟨k+1,by omega,by go_num,by rw[HH.out.2];simpa using R2.out⟩
   |some S=>
    rw[hM] at dp;have hh:=JW B wr G V bl1 k hE jf S hM;have jc:(ZI V k).length<=1000000:=by have:(ZI V k).length<=(List.range k).length:=List.length_filter_le _ _;rw[List.length_range] at this;omega
    have HH:=Z5K hh dp jc;clear hE fm hf Z hh dp hM jc;go_wp2_with (first|(go_at_call 34;refine HH.out.1.mono ?_;rintro e w2 ⟨rfl,bm⟩;have s2:=(HS.out.after bm).after ((Below.refl w2.heap.size w2).alloc Z5D (.cells #[.int .i64 (k:Int)] 3));have jh:Row (w2.alloc (.cells #[.int .i64 (k:Int)] 3)) w2.heap.size 3 [.int .i64 (k:Int)]:=Row.new w2 _ _;have fg:w.heap.size<=(w2.alloc (.cells #[.int .i64 (k:Int)] 3)).heap.size:=(by obtain⟨jt,e9,g9,f9⟩:=s2.ran;exact f9.size);have R2:=Z5K s2 jh fg;clear bm s2 jh fg)|(at_builtin;refine KB _ rfl (.tmp 49) (.tmp 51) rfl w.heap.size _ (ZI V k) rfl R2.out.1.ints w2.heap.size k rfl R2.out.2.1 R2.out.2.2 HH.out.2.2 ?_;intro g4 jw w4 ho hf _ _ _;have O:=Z5F (R2.out.1.put ho hf);clear ho hf));go_roundw
    case measure=>simp[intOf];omega
    case rel=>exact⟨k+1,by omega,by go_num,by rw[HH.out.2.1];simpa using O.out⟩
  .obtain rfl:k=G.n:=(by omega);obtain⟨ins,bu⟩:=Z5H (ZI V G.n);have fc:=H.out.2.1.many;have jz:ins.length<=16:=by have:(ZI V G.n).length<=(List.range G.n).length:=List.length_filter_le _ _;rw[List.length_range] at this;rw[<-bu];omega
   rw[bu] at HS fc;have jd:=H.out.2.1.k1;have jk:=H.out.2.1.vk;obtain⟨gi,ci,sp,rfl,l9,kz,l5,ie⟩:=YR HS.out.ints (by omega);have c0:=hE.scell.cell (j:=0) rfl;have ld:¬ (ins.length:Int)<(V.k:Int):=(by omega);have ji:Ty wr:=Zi.ty HS.out.ran H.out.1 H.out.2.2.2.2.1;have ic:=IT B wr G V bl1 hE ji;rw[H.out.2.1.gone] at ic;have HR:=Z5J ic bu;have fi:=Z5F jk;clear hE fm hf Z ic bu ji jk ie;go_wp2_with (first|(go_at_call 35;refine HR.out.1.mono ?_;rintro e w2 ⟨ky,rfl,j8,bm⟩;obtain rfl:=j8.zero;have R2:=Z5L (HS.out.after bm) (HE.out.1.after bm) HE.out.2.1 (HE.out.2.2.trans (Fr.of_below (L:=[]) bm) (by simp));clear j8 bm)|(go_at_call 36;refine(V7 G.s V.k V.m gc cap n cs _ (by rw[fi.out];exact jd) (by have h8:=H.out.2.1.vm;have C:=H.out.2.1.kn;have h7:=fi.out;omega) (R2.out.2.1.scell.cell (j:=0) rfl) (R2.out.2.1.scell.cell (j:=1) rfl) R2.out.1.api.rd H.out.2.2.2.1 (by have h8:=H.out.2.1.few;have C:=H.out.2.2.2.1;omega) H.out.2.1.ne fw H.out.2.1.val).mono ?_;rintro e w3 ⟨gl,cl,l,ct,rfl,ee,fa,dw⟩;have J:=Z5Q (R2.out.1.after dw) (R2.out.2.1.after dw) R2.out.2.2.1 (R2.out.2.2.2.trans (Fr.of_below (L:=[]) dw) (by simp)) ct ee fa (R2.out.2.1.typed.lt) dw.size;clear ct ee fa dw));have fu:w2.heap.size<=w3.heap.size:=J.out.2.2.2.2.2.2.2.2;have dt:(X.chg l).Ok G.n:=H.out.2.1.ok J.out.2.2.2.2.1;have fh:Ty w3:=Zi.ty ⟨bl1,J.out.2.1,J.out.2.2.1,J.out.2.2.2.1⟩ H.out.1 H.out.2.2.2.2.1;have ee:X0 w3 w2.heap.size X.k X.m gl l:=by have C:=J.out.2.2.2.2.2.1;rw[fi.out,H.out.2.1.vm] at C;exact C
   have J0:C2S B w3 G bl1 gi ins V [] (X.chg l) (ph1 (X.chg l) []) V w3:=⟨Zi.refl J.out.2.1,Fe.row J.out.1.ints (by omega),H.out.2.1.start J.out.2.1,rfl⟩;have HJ:=Z5L J0 dt fh ee;have cj:=Z5F HR.out.2;clear J0 dt fh ee fu;go_loopw [78] (λkv wr=>∃ (t:Nat) (Vt:Ev),t<=ins.length/\kv=.int .i64 t/\C2S B w3 G bl1 gi ins V ((ins.take t).map (op1 (X.chg l))) (X.chg l) (ph1 (X.chg l) (ins.take t)) Vt wr) (λkv _=>ins.length- (intOf kv).toNat)
   case atStart=>exact⟨0,V,by omega,rfl,HJ.out.1⟩
   case round=>
    obtain⟨t,Vt,ht,rfl,Z⟩:=hrel;have cn:=Z5F Z;by_cases bg:t<ins.length
    .have bf:=Z.cell bg;have au:ins[t]∈ZI V G.n:=by rw[cj.out];exact Z5r bg
     have ai:ins[t]∉ins.take t:=by
      have ib:ins.Nodup:=by rw[<-cj.out];exact Bx
      have C:(ins.take t++ins.drop t).Nodup:=by rw[Z5z];exact ib
      intro hm;exact(List.nodup_append.1 C).2.2 _ hm _ (by rw[List.drop_eq_getElem_cons bg];exact List.mem_cons_self) rfl
     have df:ins.take (t+1)=ins.take t++[ins[t]]:=Z5f bg;have aw:ins=ins.take t++ins[t]::ins.drop (t+1):=(by rw[<-List.drop_eq_getElem_cons bg,Z5z]);obtain⟨i,ey⟩:=Z5H ins[t];rw[ey] at bf au ai df aw;have cw:=Z5F aw;clear aw;obtain⟨hi,ez⟩:=mem_ins.1 au;obtain⟨S,blt,s,M,cz,j9⟩:=Z.pre1 HJ.out.2.1 J.out.2.1 HJ.out.2.2.1 de HJ.out.2.2.2 J.out.2.2.2.2.2.2.2.1 fi.out H.out.2.1.vm H.out.2.1.vg hi ez ai;obtain⟨d,f,b7⟩:=M.acts;have eo:=SU X.K w2.heap.size G.s X.k X.m i X.g gl cl l wr H.out.2.1.hK HJ.out.2.1.hl jd (by have C:=H.out.2.1.kn;omega) (by have C:=H.out.2.1.kn;omega) (by have C:=H.out.2.1.gb;omega) (M.set.cell (j:=0) rfl) (M.set.cell (j:=1) rfl) (M.set.cell (j:=3) rfl) M.ch J.out.2.2.2.2.2.2.1;have km:(t:Int)<(ins.length:Int):=(by omega);have gj:(i:Int)<(G.n:Int):=(by omega);have ag:=RI (a:=λ_=>QL X.k X.m i X.g l) Z.at_ hi M.hM b7;have F:=Z5O M cz j9 b7 eo ai df;clear Z au M cz j9 b7 eo ai df ey ez;by_cases bq:ZH Vt (i,λ_=>QL X.k X.m i X.g l)=0
     .clear ag;have ak:=Z5F bq;clear bq;go_wp2_with (first|(go_at_call 37;refine F.out.2.2.2.2.1.mono ?_;rintro e w4 ⟨ga,ca,rfl,du,dz,dc,b8⟩;have s2:=(F.out.1.set.after b8).cell (j:=2) rfl;have cm:=(F.out.1.e.after b8).mcell hi;have x1:=(F.out.1.row.after b8).cell (j:=1) rfl;have O:=Z5K du dz b8;clear du dz b8 dc)|(go_at_call 38;refine(TC (a:=λ_=>QL X.k X.m i X.g l) (F.out.1.e.after O.out.2.2) hi F.out.1.hM F.out.1.hB H.out.2.1.hK (by have C:=H.out.2.1.ep;exact Z5w C (by omega)) F.out.2.2.2.1 O.out.1 rfl O.out.2.1 (F.out.1.ty.below O.out.2.2) de (F.out.1.row.after O.out.2.2)).mono ?_;rintro e w5 ⟨dq,rfl,al,aj,ae,af⟩;rw[ak.out] at al;obtain rfl:=al.zero;have U:=Z5F (aj ak.out);clear al aj ae af s2 cm x1)|(go_at_call 19;refine(QJ 0 0 12 _ _ (Zk.nil _ _) (by decide)).mono ?_;rintro e w6 ⟨rfl,rfl⟩));go_roundw
      case measure=>simp[intOf];omega
      case rel=>have C:=cn.out.did (x:=op1 (X.chg l) i) ak.out (Z9.step1 HJ.out.2.1 cn.out.at_ hi F.out.1.hM F.out.2.2.2.2.2.1 ak.out) ⟨F.out.1.e,F.out.2.1,F.out.2.2.1⟩ (U.out.from O.out.2.2);exact⟨t+1,_,by omega,by go_num,by rw[F.out.2.2.2.2.2.2,Z5u];exact C⟩
     .have b9:ZH Vt (i,λ_=>QL X.k X.m i X.g l)=10:=ag.resolve_left bq;have ak:=Z5F b9;clear bq ag b9;go_wp2_with (first|(go_at_call 37;refine F.out.2.2.2.2.1.mono ?_;rintro e w4 ⟨ga,ca,rfl,du,dz,dc,b8⟩;have s2:=(F.out.1.set.after b8).cell (j:=2) rfl;have cm:=(F.out.1.e.after b8).mcell hi;have x1:=(F.out.1.row.after b8).cell (j:=1) rfl;have O:=Z5K du dz b8;clear du dz b8 dc)|(go_at_call 38;refine(TC (a:=λ_=>QL X.k X.m i X.g l) (F.out.1.e.after O.out.2.2) hi F.out.1.hM F.out.1.hB H.out.2.1.hK (by have C:=H.out.2.1.ep;exact Z5w C (by omega)) F.out.2.2.2.1 O.out.1 rfl O.out.2.1 (F.out.1.ty.below O.out.2.2) de (F.out.1.row.after O.out.2.2)).mono ?_;rintro e w5 ⟨dq,rfl,al,aj,ae,af⟩;rw[ak.out] at al;obtain⟨b5,rfl⟩:∃b5,dq=.iface 139 (.pointer (some ⟨b5,0,none⟩)):=(by rcases al.split with ⟨C,_⟩|⟨_,C⟩;exact absurd C (by decide);exact C);have bj:Ty w5:=(by have C:=ae.below (F.out.1.e.after O.out.2.2);have h8:=F.out.1.ty.below O.out.2.2;unfold Ty at h8⊢;rw[C.cell (p:=⟨0,0,none⟩) de];exact h8);have U:=Z5L al ae af bj;clear al aj ae af bj s2 cm x1)|(go_at_call 19;refine(QJ _ 10 12 _ _ U.out.1 (by decide)).mono ?_;rintro e w6 ⟨rfl,rfl⟩)|(go_at_call 40;refine(IO 10 _ G.s _ _ U.out.2.2.1 rfl U.out.2.2.2 (by have C:=F.out.1.e.ge G.s (Z5n _ F.out.1.e.smem);omega) _ (by exact SS U.out.2.1) U.out.1 (by have C:=F.out.1.set.lt;have h8:=O.out.2.2.size;omega)).mono ?_;rintro e w7 ⟨fp,rfl,eh,ek⟩;have R7:=Z5J eh ek;clear eh ek));go_ret;have ah:Zg (QQ (X.chg l) (ZI V G.n)) V=(ZH Vt (op1 (X.chg l) i),ZB Vt (op1 (X.chg l) i)):=by
       rw[cj.out];unfold QQ;have e9:ins.map (op1 (X.chg l))++ins.map (op2 (X.chg l))=(ins.take t).map (op1 (X.chg l))++(op1 (X.chg l) i::((ins.drop (t+1)).map (op1 (X.chg l))++ins.map (op2 (X.chg l)))):=by have C:ins.map (op1 (X.chg l))=(ins.take t).map (op1 (X.chg l))++(op1 (X.chg l) i::(ins.drop (t+1)).map (op1 (X.chg l))):=(by rw[<-Z5t,<-Z5u,<-cw.out]);rw[C,Z5g,List.cons_append]
       rw[e9];exact IU cn.out.run (by show ZH Vt (i,λ_=>QL X.k X.m i X.g l)≠0;rw[ak.out];decide)
      have dy:ZH Vt (op1 (X.chg l) i)=10:=ak.out;have ij:w.heap.size<=w4.heap.size:=Z5w J.out.2.2.2.1.size (Z5w F.out.2.2.1.size O.out.2.2.size);refine⟨l,fp,J.out.2.2.2.2.1,rfl,?_,λh=> ?_,λ_=> ?_⟩
      .rw[ah,dy];exact R7.out.1.base ij
      .rw[ah,dy] at h;exact absurd h (by simp)
      .rw[ah];exact Nf (c:=0) (ev:=.nilIface) (ev':=.nilIface) H.out.1 ⟨J.out.2.1,J.out.2.2.1,J.out.2.2.2.1⟩ ⟨F.out.1.e,F.out.2.1,F.out.2.2.1⟩ O.out.2.2 U.out.2.1 U.out.2.2.1 R7.out.2
    .obtain rfl:t=ins.length:=(by omega);rw[Z5A] at cn;have ef:X0 wr w2.heap.size X.k X.m gl l:=by obtain⟨jt,e9,g9,f9⟩:=cn.out.ran;exact HJ.out.2.2.2.fr f9 (λk hk=>Or.inl (J.out.2.2.2.2.2.2.2.1 k hk))
     have iw:(X.chg l).At (ph2 (X.chg l) []) G.n Vt:=Z9.all1 (ins:=ins) (λi hi hM=>by
      rw[<-cj.out]
      exact mem_ins.2 ⟨hi,by rw[<-cn.out.same.2.2.2];exact hM⟩) cn.out.at_
     have ik:=Z5J ef iw;have je:∀c∈l,c.key.length<=11:=λc hc=>(H.out.2.1.hK.len _ (HJ.out.2.1.hl.key c hc)).2;have iu:=Z5F je;have lh:l.length<=4:=HJ.out.2.1.hl.few;clear Z ef iw je;obtain⟨wA,kt⟩:=Z5I wr;subst kt;go_wp2_with fail;go_loopw [14,122] (λgv kv wr=>∃q:Nat,q<=l.length/\kv=.int .i64 q/\Strs wr wA.heap.size gv (Zu (l.take q))/\Below wA.heap.size wA wr) (λ_ kv _=>l.length- (intOf kv).toNat)
     case atStart=>exact⟨0,by omega,rfl,World.ownsRow_nil _ _ _ _,Z5E⟩
     case round=>
      obtain⟨q,hq,rfl,dm,dx⟩:=hrel;by_cases ia:q<l.length
      .obtain⟨a1,a2,a3⟩:=(ik.out.1.after dx).at_ q ia;have hx:=iu.out _ (Z5r ia);have cz:=K0 l q ia;have l7:(q:Int)<(l.length:Int):=(by omega);obtain⟨c,hc⟩:=Z5H l[q];rw[hc] at a1 a2 a3 hx cz;obtain⟨key,val⟩:=c;simp only at a1 a2 a3 hx cz;have er:(Zu (l.take q)).length<=1000000:=by
        have h1:(Zu (l.take q)).length<=(l.take q).length:=by unfold Zu;exact List.length_filterMap_le _ _
        rw[Z5j] at h1;omega
       have HG:=Z5L dm dx cz er;clear dm dx cz er hc;cases val with
       |some v=>
        simp only[Option.getD_some] at a2;obtain⟨sg,so,sc,s1, -, -⟩:=a3;have kh:∀W,(binOp .eql 96 (.slice (some ⟨sg,so,none⟩) (X.k+X.m) sc) (.slice none 0 0)).run prog W=.ok (.bool false) W:=λ_=>(by kernel_rfl);go_wp2_with fail;go_roundw
        case measure=>simp[intOf];omega
        case rel=>have dj:=(Below.refl wr.heap.size wr).alloc Z5D (.cells #[.string (str key),.int .i64 (v.length:Int),.slice (some ⟨sg,so,none⟩) (X.k+X.m) sc] 98);exact⟨q+1,by omega,by go_num,by rw[HG.out.2.2.1];simpa using HG.out.1.after dj,HG.out.2.1.trans (dj.mono HG.out.2.1.size)⟩
       |none=>
        have kh:∀W,(binOp .eql 96 (.slice none 0 0) (.slice none 0 0)).run prog W=.ok (.bool true) W:=λ_=>(by kernel_rfl);simp only[Option.getD_none,List.length_nil] at a2;have fe:((wr.alloc (.cells #[.string (str key),.int .i64 0,.slice none 0 0] 98)).alloc (.cells #[.string (str key)] 9)).heap[wr.heap.size+1]? =some (.cells #[.string (str key)] 9 (0,0)):=by have C:=heap_alloc_new (wr.alloc (.cells #[.string (str key),.int .i64 0,.slice none 0 0] 98)) (.cells #[.string (str key)] 9);simpa using C
        have dj:=((Below.refl wr.heap.size wr).alloc Z5D (.cells #[.string (str key),.int .i64 0,.slice none 0 0] 98)).alloc (by simp) (.cells #[.string (str key)] 9);have ja:=HG.out.1.after dj;have bm:=HG.out.2.1.trans (dj.mono HG.out.2.1.size);have dh:=Z5K fe ja bm;clear fe dj ja bm;go_wp2_with (at_builtin;refine WC _ rfl (.tmp 129) (.tmp 132) rfl wA.heap.size _ (Zu (l.take q)) rfl dh.out.2.1 (wr.heap.size+1) key rfl dh.out.1 dh.out.2.2.size HG.out.2.2.2 ?_;intro g2 ju w8 ho hf _;have j7:=dh.out.2.2.trans (hf.below dh.out.2.2.size dh.out.2.1.ge);have R8:=Z5J ho j7;clear ho hf j7);go_roundw
        case measure=>simp[intOf];omega
        case rel=>exact⟨q+1,by omega,by go_num,by rw[HG.out.2.2.1];exact R8.out.1,R8.out.2⟩
      .obtain rfl:q=l.length:=(by omega);rw[Z5A] at dm;have iq:=Z5F dm;obtain⟨fq,ggc,rfl⟩:=Xd dm;have iz:C2S B w3 G bl1 gi ins V (ins.map (op1 (X.chg l))) (X.chg l) (ph2 (X.chg l) []) Vt wr:=by have C:=cn.out.after dx;exact⟨C.ran,C.ints,ik.out.2,C.run⟩
       have ew:Zx wr fq ((Zu l).map str):=by have C:=iq.out;intro j hj;have ke:j<(Zu l).length:=(by simpa using hj);obtain⟨g9,c9,lr,kq,_,_,_,kj⟩:=Qs C (by omega);injection kq with hv1 hv2 hv3;refine⟨g9,0,hv1,?_⟩;rw[Nat.zero_add];refine kj.cell ?_;rw[Z5c (by simp[Z7];omega)];simp[Z7,ke]
       have ir:=Z5J iz ew;obtain⟨wB,ku⟩:=Z5I wr;subst ku;clear dm dx iz ew;go_wp2_with fail;go_loopw [137] (λkv wr=>∃ (t:Nat) (V4:Ev),t<=ins.length/\kv=.int .i64 t/\C2S B w3 G bl1 gi ins V (ins.map (op1 (X.chg l))++(ins.take t).map (op2 (X.chg l))) (X.chg l) (ph2 (X.chg l) (ins.take t)) V4 wr/\Zx wr fq ((Zu l).map str)/\∀g o,fq=some ⟨g,o,none⟩->∃r,Row wr g 9 r) (λkv _=>ins.length- (intOf kv).toNat)
       case atStart=>exact⟨0,Vt,by omega,rfl,by simpa using ir.out.1,ir.out.2,λg o e=>by
        subst e
        exact QA iq.out g (by rw[ZK];rfl)⟩
       case round=>
        obtain⟨t,V4,ht,rfl,Z,fo,fj⟩:=hrel;have cu:=Z5F Z;have im:=Z5J fo fj;by_cases bh:t<ins.length
        .have bf:=Z.cell bh;have au:ins[t]∈ZI V G.n:=by rw[cj.out];exact Z5r bh
         have ai:ins[t]∉ins.take t:=by
          have ib:ins.Nodup:=by rw[<-cj.out];exact Bx
          have C:(ins.take t++ins.drop t).Nodup:=by rw[Z5z];exact ib
          intro hm;exact(List.nodup_append.1 C).2.2 _ hm _ (by rw[List.drop_eq_getElem_cons bh];exact List.mem_cons_self) rfl
         have df:ins.take (t+1)=ins.take t++[ins[t]]:=Z5f bh;have aw:ins=ins.take t++ins[t]::ins.drop (t+1):=(by rw[<-List.drop_eq_getElem_cons bh,Z5z]);obtain⟨i,ey⟩:=Z5H ins[t];rw[ey] at bf au ai df aw;have cw:=Z5F aw;clear aw;obtain⟨hi,ez⟩:=mem_ins.1 au;obtain⟨S,blt,s,d,M⟩:=Z.pre2 HJ.out.2.1 J.out.2.1 HJ.out.2.2.1 de hi ez ai;have km:(t:Int)<(ins.length:Int):=(by omega);have gj:(i:Int)<(G.n:Int):=(by omega);have aq:Qu X.K S (Q0 S.dir (Zu l)) d []:=M.acts;have ix:ZO X.K (X.E+1) (V4.Ds i) S:=M.hB;have ag:=RI (a:=λS=>Q0 S.dir (Zu l)) Z.at_ hi M.hM aq;have jb:∀x∈Zu l,x.length<=1000:=λx hx=>by obtain⟨c,hc,C,_⟩:=Jh.1 hx;rw[<-C];have:=iu.out c hc;omega
         have eu:(Zu l).length<=1000:=by
          have h1:(Zu l).length<=l.length:=by unfold Zu;exact List.length_filterMap_le _ _
          omega
         have ff:=Nb (gone:=Zu l) (K:=X.K) (E:=X.E+1) (ggc:=ggc) M.e.1 hi M.hM ix H.out.2.1.hK (by have C:=H.out.2.1.ep;exact Z5w (Nat.succ_le_succ C) (by omega)) aq M.ty de jb eu fo (λg o e=>by obtain⟨r,hr⟩:=fj g o e;exact hr.lt) M.row;have s2:=M.e.1.scell.cell (j:=2) rfl;have cm:=M.e.1.mcell hi;have x1:=M.row.cell (j:=1) rfl;have az:=Z5L M ff ai df;clear Z au M ff ai df ey ez fo fj jb eu aq ix;by_cases bq:ZH V4 (i,λS=>Q0 S.dir (Zu l))=0
         .have ak:=Z5F bq;clear bq ag;go_wp2_with (go_at_call 41;refine az.out.2.1.mono ?_;rintro e w5 ⟨dq,rfl,al,aj,ae,af⟩;rw[ak.out] at al;obtain rfl:=al.zero;have U:=Z5F (aj ak.out);clear al aj ae af s2 cm x1);go_roundw
          case measure=>simp[intOf];omega
          case rel=>have C:=cu.out.did (x:=op2 (X.chg l) i) ak.out (Z9.step2 HJ.out.2.1 cu.out.at_ hi az.out.1.hM az.out.2.2.1 ak.out) az.out.1.e U.out;have h8:=OL im.out.1 im.out.2 az.out.1.e.1 U.out;exact⟨t+1,_,by omega,by go_num,by rw[az.out.2.2.2,Z5u,<-Z5g];exact C,h8.1,h8.2⟩
         .have b9:ZH V4 (i,λS=>Q0 S.dir (Zu l))=10:=ag.resolve_left bq;have ak:=Z5F b9;clear bq ag b9;go_wp2_with (first|(go_at_call 41;refine az.out.2.1.mono ?_;rintro e w5 ⟨dq,rfl,al,aj,ae,af⟩;rw[ak.out] at al;obtain⟨b5,rfl⟩:∃b5,dq=.iface 139 (.pointer (some ⟨b5,0,none⟩)):=(by rcases al.split with ⟨C,_⟩|⟨_,C⟩;exact absurd C (by decide);exact C);have bj:Ty w5:=(by have C:=ae.below az.out.1.e.1;have h8:=az.out.1.ty;unfold Ty at h8⊢;rw[C.cell (p:=⟨0,0,none⟩) de];exact h8);have U:=Z5L al ae af bj;clear al aj ae af bj s2 cm x1)|(go_at_call 40;refine(IO 10 _ G.s _ _ U.out.2.2.1 rfl U.out.2.2.2 (by have C:=az.out.1.e.1.ge G.s (Z5n _ az.out.1.e.1.smem);omega) _ (by exact SS U.out.2.1) U.out.1 az.out.1.e.1.scell.lt).mono ?_;rintro e w7 ⟨fp,rfl,eh,ek⟩;have R7:=Z5J eh ek;clear eh ek));go_ret;have ah:Zg (QQ (X.chg l) (ZI V G.n)) V=(ZH V4 (op2 (X.chg l) i),ZB V4 (op2 (X.chg l) i)):=by
           rw[cj.out];unfold QQ;have e9:ins.map (op1 (X.chg l))++ins.map (op2 (X.chg l))=(ins.map (op1 (X.chg l))++(ins.take t).map (op2 (X.chg l)))++(op2 (X.chg l) i::(ins.drop (t+1)).map (op2 (X.chg l))):=by have C:ins.map (op2 (X.chg l))=(ins.take t).map (op2 (X.chg l))++(op2 (X.chg l) i::(ins.drop (t+1)).map (op2 (X.chg l))):=(by rw[<-Z5t,<-Z5u,<-cw.out]);rw[Z5g,<-C]
           rw[e9];exact IU cu.out.run (by show ZH V4 (i,λS=>Q0 S.dir (Zu l))≠0;rw[ak.out];decide)
          have dy:ZH V4 (op2 (X.chg l) i)=10:=ak.out;have ij:w.heap.size<=wr.heap.size:=Z5w J.out.2.2.2.1.size az.out.1.e.2.2.size;refine⟨l,fp,J.out.2.2.2.2.1,rfl,?_,λh=> ?_,λ_=> ?_⟩
          .rw[ah,dy];exact R7.out.1.base ij
          .rw[ah,dy] at h;exact absurd h (by simp)
          .rw[ah];exact Nf (c:=0) (ev:=.nilIface) (ev':=.nilIface) H.out.1 ⟨J.out.2.1,J.out.2.2.1,J.out.2.2.2.1⟩ az.out.1.e Z5E U.out.2.1 U.out.2.2.1 R7.out.2
        .obtain rfl:t=ins.length:=(by omega);rw[Z5A] at cu;obtain⟨jr,e4,g4,f4⟩:=cu.out.ran;have ig:=cu.out.same;have bz:=e4.scell;rw[ig.2.2.1,H.out.2.1.vg] at bz;have c3:=bz.cell (j:=3) rfl;have f3:=bz.free (j:=3) (by simp);have jy:=H.out.2.1.gb;have lq:=Z5x ((X.g:Int)+1) (by omega);have jm:=Z5K e4 g4 f4;have jq:=Z5F ig;clear Z fo fj e4 g4 f4 ig bz;go_wp2_with fail;go_ret;have ah:Zg (QQ (X.chg l) (ZI V G.n)) V=(0,V4):=by rw[cj.out];exact cu.out.run
         have lk:V4.gen=(X.g:Int):=(by rw[jq.out.2.2.1,H.out.2.1.vg]);refine⟨l,.nilIface,J.out.2.2.2.2.1,rfl,?_,λ_=> ?_,λh=> ?_⟩
         .rw[ah];exact Zk.nil _ _
         .rw[ah];obtain⟨js,e5,g5,f5⟩:=Zi.trans ⟨J.out.2.1,J.out.2.2.1,J.out.2.2.2.1⟩ ⟨jr,jm.out⟩;have C:=e5.setGen (V.gen+1);rw[H.out.2.1.vg] at C⊢;exact⟨js,C,g5,f5.setCell (Or.inl (Z5n _ H.out.1.smem)) _⟩
         .rw[ah] at h;exact absurd rfl h
end
section
open Go.Shelf Go.Sort
variable{B base c g n:Nat}{G:Eg}{L L' l:List Bs}{V:Ev}{bl:List Nat}{la:Option Addr}{lv:Value}{w w' wr:World}
theorem G3{e:TypeId}(g:Nat):∀ (F:List Value) (o:Nat) (w:World) (cur:Array Value),w.heap[g]? =some (.cells cur e (0,0))->o+F.length<=cur.size->∃C,(w.setCells g o F).heap[g]? =some (.cells C e (0,0))/\C.size=cur.size/\C.toList.take (o+F.length)=cur.toList.take o++F
 |[],o,w,cur,h,hl=>⟨cur,h,rfl,by simp⟩
 |v::r,o,w,cur,h,hl=>by
  simp only[Z5h] at hl;have M:(w.setCell ⟨g,o,none⟩ v).heap[g]? =some (.cells (cur.setIfInBounds o v) e (0,0)):=by rw[setCell_eq_setRow w g o _ e _ v h];exact setRow_heap w g _ _ e _ h
  obtain⟨C,a,b,c⟩:=G3 g r (o+1) _ _ M (by grind);refine⟨C,a,by rw[b];simp,?_⟩;rw[show o+(v::r).length=o+1+r.length by simp;omega,c];have e1:(cur.setIfInBounds o v).toList.take (o+1)=cur.toList.take o++[v]:=by
   rw[Array.toList_setIfInBounds];have J:o<(cur.toList.set o v).length:=by simp;omega
   rw[Z5f J,List.take_set_of_le Z5D];simp
  rw[e1];simp
theorem Hk(g:Nat):∀ (C:List Value) (o:Nat) (w w0:World),Fr [g] w0 w->Fr [g] w0 (w.setCells g o C)
 |[],o,w,w0,h=>h
 |v::r,o,w,w0,h=>Hk g r (o+1) _ w0 (h.setCell (Or.inl (by simp)) v)
theorem Strs.compacted{cap q:Nat}{l':List Bs}(h:Strs w base (.slice (some ⟨g,0,none⟩) n cap) l)(hl:l'.length<=l.length):Strs ((w.drewN q).setCells g 0 ((l'++List.replicate (l.length-l'.length) []).map encStr)) base (.slice (some ⟨g,0,none⟩) l'.length cap) l'/\Fr [g] w ((w.drewN q).setCells g 0 ((l'++List.replicate (l.length-l'.length) []).map encStr)):=by
 rcases h.2 with ⟨hv,_⟩|⟨U,O,cur,hv,F,hh,Z,J,M,h4⟩
 .grind
 .simp at hv;obtain⟨rfl,rfl,rfl⟩:=hv;have hlen:((l'++List.replicate (l.length-l'.length) ([]:Bs)).map encStr).length=l.length:=by simp_all
  obtain⟨C,a,b,c⟩:=G3 g ((l'++List.replicate (l.length-l'.length) []).map encStr) 0 (w.drewN q) cur hh (by omega);refine⟨⟨by simp[Z7],Or.inr ⟨g,cap,C,rfl,F,a,by omega,J,by rw[b,M],?_⟩⟩,Hk g _ 0 _ w (Fr.of_below ⟨rfl,rfl,rfl,Z5D,λ_ _=>rfl⟩)⟩;have c2:=congrArg (List.take l'.length) c;rw[List.take_take,hlen,Nat.min_eq_left (by omega)] at c2;rw[Nat.mul_one,c2];simp[Z7,str]
theorem Ug(l:List Bs):Lib.strsOf (λi=>str (l.toArray[i]!)) l.length=l:=by
 unfold Lib.strsOf;apply List.ext_getElem
 .simp
 .intro i C h;simp[str,h]
theorem Z0a(w:World)(base g n cap:Nat)(l:List Bs)(h:Strs w base (.slice (some ⟨g,0,none⟩) n cap) l)(hl:l.length<=1000000):Calls prog 98 #[.slice (some ⟨g,0,none⟩) n cap] w λe w'=>e=.returned (.tuple #[])/\Strs w' base (.slice (some ⟨g,0,none⟩) n cap) (l.mergeSort λx y=>decide (x<=y))/\Fr [g] w w':=by obtain⟨F,C,rfl,J⟩:=h.holds;refine(Tryz.slices_Sort_string g 0 cap l w F C (by omega)).mono ?_;rintro e w' ⟨rfl,q,os,rfl⟩;obtain⟨a,b⟩:=h.sorted (q:=q) (os:=os) (l':=l.mergeSort λx y=>decide (x<=y)) (List.length_mergeSort ..);simp_all
theorem OA(w:World)(base g n cap:Nat)(l:List Bs)(h:Strs w base (.slice (some ⟨g,0,none⟩) n cap) l)(hl:l.length<=1000000):Calls prog 99 #[.slice (some ⟨g,0,none⟩) n cap] w λe w'=>∃v,e=.returned v/\Strs w' base v (Lib.compact l)/\Fr [g] w w':=by obtain⟨F,M,rfl,J⟩:=h.holds;have C:=Tryz.slices_Compact_string_cells g 0 l.length cap (λi=>str (l.toArray[i]!)) w (by omega) J (λi hi=>(F i (by omega)).1) (λj O=>(F j (by omega)).2);rw[Ug] at C;refine C.mono ?_;rintro e w' ⟨rfl,q,rfl⟩;obtain⟨a,b⟩:=h.compacted (q:=q) (l':=Lib.compact l) (Lib.compact_length_le l);simp_all
def tl1(x:Bs):Bs:=x.drop 1
theorem Z40(x:Bs):(str x).extract 1 (str x).size=str (tl1 x):=by apply YU;rw[Lib.extract_to_end,Zn,Zn];rfl
def kOf(V:Ev)(pre:Bs)(i:Nat):List Bs:=match V.Ms i with
 |some S=>(S.dir.names.filter λn=>Lib.hasPrefix n (nmD pre)).map tl1
 |none=>[]
def JZ(V:Ev)(pre:Bs)(k:Nat):List Bs:=(List.range k).flatMap (kOf V pre)
theorem LQ(V:Ev)(pre:Bs)(k:Nat):JZ V pre (k+1)=JZ V pre k++kOf V pre k:=by unfold JZ;rw[List.range_succ,List.flatMap_append];simp
def Se(V:Ev)(n:Nat):Prop:=∀i,i<n->∀S,V.Ms i=some S->S.dir.Sorted/\S.dir.length<=10000/\∀x∈S.dir.names,x.length<=1000
theorem RK(h:Se V n)(pre:Bs){i:Nat}(hi:i<n):(kOf V pre i).length<=10000:=by
 unfold kOf;cases hM:V.Ms i with
 |none=>simp
 |some S=>rw[Z5i];have C:=List.length_filter_le (λn=>Lib.hasPrefix n (nmD pre)) S.dir.names;have F:S.dir.names.length=S.dir.length:=Z5i ..;have J:=(h i hi S hM).2.1;omega
theorem Id(h:Se V n)(pre:Bs):∀k,k<=n->(JZ V pre k).length<=k*10000
 |0,_=>by simp[JZ]
 |k+1,hk=>by have C:=Id h pre k (by omega);have F:=RK h pre (i:=k) (by omega);rw[LQ,Z5d];omega
structure KyS(B:Nat)(w:World)(G:Eg)(V:Ev)(bl:List Nat)(lv:Value)(L:List Bs)(wr:World):Prop where
 ran:Zi B G bl V w wr
 own:Strs wr w.heap.size lv L
theorem KyS.after(h:KyS B w G V bl lv L wr)(C:Below wr.heap.size wr w'):KyS B w G V bl lv L w':=⟨h.ran.after C,h.own.after C⟩
theorem KyS.next{C:List Nat}(h:KyS B w G V bl lv L wr)(he:EAt B wr G V C/\(∀k∈C,k∈bl∨w.heap.size<=k)/\Fr (G.p::bl) w wr)(J:Zi B G C V wr w'):KyS B w G V bl lv L w':=by obtain⟨bl2,e2,g2,f2⟩:=J;refine⟨Zi.trans he ⟨bl2,e2,g2,f2⟩,Wl h.own f2 (λq F=> ?_)⟩;obtain⟨l,hl⟩:=QA h.own q F;exact he.1.row_ne hl (by decide)
theorem KyS.put{F:Value}(h:KyS B w G V bl lv L wr)(U:Strs w' w.heap.size F L')(J:Fr (ZG lv) wr w'):KyS B w G V bl F L' w':=by
 obtain⟨M,e1,g1,f1⟩:=h.ran;have C:Z8 wr (ZG lv) [9]:=λq Z=>by obtain⟨l,f,hl,_⟩:=QA h.own q Z;simp_all
 refine⟨⟨M,e1.fr J C (by simp) (by simp) (by simp) (λk O hm=> ?_),g1,f1.trans J (λi hi ae=> ?_)⟩,U⟩
 .exact e1.typed.disj C (by decide) k O hm
 .have:=WE h.own i hi;omega
structure KyN(B:Nat)(w:World)(G:Eg)(V:Ev)(bl:List Nat)(la:Option Addr)(l:List Bs)(lv:Value)(L:List Bs)(wr:World):Prop where
 s:KyS B w G V bl lv L wr
 nm:Zx wr la (l.map str)
 lt:∀g o,la=some ⟨g,o,none⟩->g<wr.heap.size/\g∉ZG lv
theorem KyN.after(h:KyN B w G V bl la l lv L wr)(C:Below wr.heap.size wr w'):KyN B w G V bl la l lv L w':=⟨h.s.after C,h.nm.after C,λg o e=>⟨by have:=(h.lt g o e).1;have:=C.size;omega,(h.lt g o e).2⟩⟩
theorem Strs.rd{a:Option Addr}(h:Strs w base (.slice a n c) l):Zx w a (l.map str):=λj U=>by
 have C:j<l.length:=by simp_all
 obtain⟨g9,O,M,J,_,_,_,F⟩:=Qs h (by omega);injection J with hv1 hv2 hv3;refine⟨g9,0,hv1,?_⟩;refine F.cell ?_;rw[Z5c (by simp[Z7];omega)];simp[Z7,C]
theorem KyN.start{w3:World}{b0:Nat}(J:Strs wr b0 lv L)(U:wr.heap.size<=base)(hs:Strs w3 base (.slice la n c) l)(h:KyS B w G V bl lv L w3):KyN B w G V bl la l lv L w3:=by
 refine⟨h,hs.rd,λg o e=> ?_⟩;subst e;have hm:g∈ZG (.slice (some ⟨g,o,none⟩) n c):=by rw[ZK];rfl
 obtain⟨r,M⟩:=QA hs g hm;have O:=WE hs g hm;refine⟨M.lt,λC=> ?_⟩;obtain⟨Z,F⟩:=QA J g C;have:=F.lt;omega
theorem KyN.put(h:KyN B w G V bl la l lv L wr)(M:Strs w' w.heap.size (.slice (some ⟨g,0,none⟩) n c) L')(C:Fr (ZG lv) wr w')(F:lv.ownBlock=some g∨g=wr.heap.size):KyN B w G V bl la l (.slice (some ⟨g,0,none⟩) n c) L' w':=by
 refine⟨h.s.put M C,λj J=> ?_,λg2 o e=> ?_⟩
 .obtain⟨g2,o,e,hc⟩:=h.nm j J;have Z:=C.block g2 (h.lt g2 o e).1 (h.lt g2 o e).2;refine⟨g2,o,e,?_⟩;unfold World.cell? at hc⊢;simp_all
 .obtain⟨O,U⟩:=h.lt g2 o e;refine⟨by have:=C.size;omega,λhm=> ?_⟩;rcases O4 F g2 hm with h9|h9
  .simp_all
  .omega
theorem V5(B:Nat)(w:World)(G:Eg)(V:Ev)(bl:List Nat)(pre:Bs)(h:EAt B w G V bl)(ee:pre.length<=1000)(hd:Se V G.n):Calls prog 43 #[.pointer (some ⟨G.s,0,none⟩),.string (str pre)] w λe w'=>∃v,e=.returned (.tuple #[v,.nilIface])/\Strs w' w.heap.size v (Lib.compact ((JZ V pre G.n).mergeSort λx y=>decide (x<=y)))/\Zi B G bl V w w':=by
 have c2:=h.scell.cell (j:=2) rfl;have c4:=h.scell.cell (j:=4) rfl;have hn:=h.nle;have af:=DY pre (by omega);have HC:=Z5F af;have HR:=Z5F hd;have H0:KyS B w G V bl (.slice none 0 0) (JZ V pre 0) w:=⟨Zi.refl h,Strs.nil _ _⟩;have H0:=Z5F H0;clear h af hd;go_enter func43,ntmps43;go_wp2;go_loopw [6,23] (λlv Z wr=>∃k:Nat,k<=G.n/\Z=.int .i64 k/\KyS B w G V bl lv (JZ V pre k) wr) (λ_ Z _=>G.n- (intOf Z).toNat)
 case atStart=>exact⟨0,by omega,rfl,H0.out⟩
 case round=>
  obtain⟨k,hk,rfl,hS⟩:=hrel;have F:=Z5F hS;by_cases ak:k<G.n
  .obtain⟨bu,O,hg,hf⟩:=hS.ran;have dz:(k:Int)<(G.n:Int):=(by omega);have cm:=O.mcell ak;have J:=LQ V pre k;have HE:=Z5K O hg hf;cases hM:V.Ms k with
   |none=>
    have aj:kOf V pre k=[]:=by unfold kOf;rw[hM]
    rw[aj,Z5C] at J;have hh:=AU B wr G V bu k O ak hM;have C:=Z5J hh J;clear O hg hf hh hM aj J hS;go_wp2_with (go_at_call 34;refine C.out.1.mono ?_;rintro e w2 ⟨rfl,de⟩;have R2:=Z5F (F.out.next HE.out de);clear de);go_roundw
    case measure=>simp[intOf];omega
    case rel=>exact⟨k+1,by omega,by go_num,by rw[C.out.2];exact R2.out⟩
   |some S=>
    obtain⟨s,aw,dm,hd,L,dx⟩:=O.mem ak hM;have hh:=JW B wr G V bu k O ak S hM;obtain⟨dj,b9,cz⟩:=HR.out k ak S hM;have ae:=λw2 (hs:Yf w2 s (G.ds k) S)=>BY s (G.ds k) S (nmD pre) w2 hs dj (by omega);have aj:kOf V pre k=(S.dir.names.filter λn=>Lib.hasPrefix n (nmD pre)).map tl1:=by unfold kOf;rw[hM]
    have b7:=Id HR.out pre k hk;have ai:=RK HR.out pre ak;obtain⟨l,hl⟩:=Z5H (S.dir.names.filter λn=>Lib.hasPrefix n (nmD pre));have cw:∀x∈l,1<=x.length/\x.length<=1000:=λx hx=>by
     rw[<-hl] at hx;obtain⟨h1,h2⟩:=List.mem_filter.1 hx;refine⟨?_,cz x h1⟩;cases x with
     |nil=>simp[Lib.hasPrefix,nmD] at h2
     |cons a r=>simp
    rw[hl] at aj ae;rw[aj] at J ai;rw[Z5i] at ai;have b8:(JZ V pre k).length+l.length<=200000:=(by omega);obtain⟨M,cj⟩:=Z5H (JZ V pre k);rw[cj] at F J b8;have C:=Z5O hh aw dm ae J cw b8;clear O hg hf hh hM aw dm dx hd hS ae J cw b8 aj b7 ai hl cj dj b9 cz;go_wp2_with (first|(go_at_call 34;refine C.out.1.mono ?_;rintro e w2 ⟨rfl,az⟩;have x1:=(C.out.2.1.after az).cell (j:=1) rfl;have q2:=az.cell (Z5b _ _ cm)|>.trans cm;have af:=HC.out;have R2:=Z5F az;clear az cm)|(go_at_call 96;refine(C.out.2.2.2.1 _ (C.out.2.2.1.after R2.out)).mono ?_;rintro e w3 ⟨v,rfl,bh,cn⟩;obtain⟨la,lc,rfl⟩:=Xd bh;have S3:=Z5K bh (F.out.after (R2.out.trans (cn.mono R2.out.size))) (Z5w R2.out.size Z5D);clear bh cn x1 q2 af));obtain⟨wA,dy⟩:=Z5I wr;subst dy;go_loopw [6,48] (λlv Z wr=>∃t:Nat,t<=l.length/\Z=.int .i64 t/\KyN B w G V bl la l lv (M++(l.take t).map tl1) wr) (λ_ Z _=>l.length- (intOf Z).toNat)
    case atStart=>exact⟨0,by omega,rfl,by rw[List.take_zero,List.map_nil,Z5C];exact KyN.start F.out.own S3.out.2.2 S3.out.1 S3.out.2.1⟩
    case round=>
     obtain⟨t,ht,rfl,U⟩:=hrel;have HT:=Z5F U;by_cases al:t<l.length
     .obtain⟨g,o,dw,ag⟩:=U.nm t (by simp_all);subst dw;rw[List.getElem_map] at ag;have hx:=C.out.2.2.2.2.2.1 _ (Z5r al);obtain⟨x,bq⟩:=Z5H l[t];have bj:M++(l.take (t+1)).map tl1=M++(l.take t).map tl1++[tl1 x]:=by rw[Z5f al,bq];simp
      have bm:(M++(l.take t).map tl1).length<=1000000:=by have h9:=C.out.2.2.2.2.2.2;rw[Z5d,Z5i,Z5j];omega
      rw[bq] at ag hx;have ef:∀W,(Instr.slice 9 (.string (str x)) (some (.int .i64 1)) none none).run prog W=.ok (.string (str (tl1 x))) W:=λW=>by rw[<-Z40];exact YA 9 underlying9 (str x) 1 (by rw[Z5];omega) W
      have aq:=heap_alloc_new wr (.cells #[.string (str (tl1 x))] 9);have S2:=HT.out.after ((Below.refl wr.heap.size wr).alloc Z5D (.cells #[.string (str (tl1 x))] 9));have eh:(t:Int)<(l.length:Int):=(by omega);have bf:l.length<=200000:=by have h9:=C.out.2.2.2.2.2.2;omega
      obtain⟨A0,bz⟩:=Z5H (M++(l.take t).map tl1);rw[bz] at bj bm S2 U;have HX:=Z5M bj bm aq S2 U.s.ran;have cr:w.heap.size<=(wr.alloc (.cells #[.string (str (tl1 x))] 9)).heap.size:=by obtain⟨_,_,_,f9⟩:=U.s.ran;have:=f9.size;simp;omega
      have dq:=Z5F cr;clear bj bm aq S2 U bq hx cr bz;go_wp2_with (at_builtin;refine WC _ rfl (.tmp 52) (.tmp 55) rfl w.heap.size _ _ rfl HX.out.2.2.2.1.s.own wr.heap.size (tl1 x) rfl HX.out.2.2.1 dq.out HX.out.2.1 ?_;intro g2 dt w8 ho hf dc;have R8:=Z5F (HX.out.2.2.2.1.put ho hf dc);clear ho hf dc);go_roundw
      case measure=>simp[intOf];omega
      case rel=>exact⟨t+1,by omega,by go_num,by rw[HX.out.1];exact R8.out⟩
     .obtain rfl:t=l.length:=(by omega);rw[Z5A] at HT;have ah:=HT.out.s;rw[<-C.out.2.2.2.2.1] at ah;have dp:=Z5F ah;clear ah U;go_wp2_with fail;go_roundw
      case measure=>simp[intOf];omega
      case rel=>exact⟨k+1,by omega,by go_num,dp.out⟩
  .obtain rfl:k=G.n:=(by omega);obtain⟨a,cap,rfl⟩:=Xd hS.own;have b7:=Id HR.out pre G.n Z5D;obtain⟨L,hL⟩:=Z5H (JZ V pre G.n);rw[hL] at F b7;clear hS;rw[hL];by_cases bg:L=[]
   .subst bg;go_wp2_with (first|(go_at_call 98;refine(Tryz.slices_Sort_string_none a cap _).mono ?_;rintro e w' ⟨rfl,rfl⟩)|(go_at_call 99;refine(Tryz.slices_Compact_string_empty a cap _).mono ?_;rintro e w' ⟨rfl,rfl⟩));go_ret2;have du:Lib.compact (([]:List Bs).mergeSort λx y=>decide (x<=y))=[]:=(by simp[Lib.compact,Lib.compactUpTo]);exact⟨.slice a 0 cap,rfl,by rw[hL,du];exact F.out.own,F.out.ran⟩
   .have au:0<L.length:=by
     cases L with
     |nil=>exact absurd rfl bg
     |cons=>simp
    obtain⟨g,c',sp,hv, -, -, -, -⟩:=Qs F.out.own au;injection hv with hv1 hv2 hv3;subst hv1 hv3;have bf:L.length<=1000000:=(by omega);have HL:=Z5J hL bf;clear hL bg au hv2 bf b7;go_wp2_with (first|(go_at_call 98;refine(Z0a _ _ g _ cap L F.out.own HL.out.2).mono ?_;rintro e w8 ⟨rfl,df,ct⟩;have S8:=Z5F (F.out.put df ct);clear df ct)|(go_at_call 99;refine(OA _ _ g _ cap (L.mergeSort λx y=>decide (x<=y)) S8.out.own (by rw[List.length_mergeSort];exact HL.out.2)).mono ?_;rintro e w9 ⟨v9,rfl,dh,cu⟩;have S9:=Z5F (S8.out.put dh cu);clear dh cu));go_ret2;exact⟨_,rfl,by rw[HL.out.1];exact S9.out.own,S9.out.ran⟩
end
section
open Go.Shelf
def I4(sd:Nat->Bool)(n:Nat):Nat:=((List.range n).filter sd).length
theorem Lv{a b:Nat->Bool}{n:Nat}(h:∀i,i<n->a i=true->b i=true):I4 a n<=I4 b n:=by unfold I4;rw[<-List.countP_eq_length_filter,<-List.countP_eq_length_filter];exact List.countP_mono_left λi hi=>h i (List.mem_range.1 hi)
theorem Z0J(n:Nat):I4 (λ_=>true) n=n:=by unfold I4;rw[List.filter_eq_self.2 (λ_ _=>rfl),List.length_range]
structure Za(K:List Bs)(E k m n g:Nat)(H:Bs->Option Bs)(sd:Nat->Bool)(V:Ev):Prop where
 hK:KOk K
 k1:1<=k
 kn:k+m=n
 vk:V.k=k
 vm:V.m=m
 vg:V.gen=(g:Int)
 gone:V.P.gone=false
 fuse:V.P.fuse<0
 life:∀i,i<n->(V.Ds i).life<=(E:Int)
 in_:∀i,i<n->∀S,V.Ms i=some S->ZO K E (V.Ds i) S/\Xn k m i g H (stR (V.Ds i).reads S.dir)
 snd:∀i,i<n->sd i=true->∃S,V.Ms i=some S/\BL k m i H (stR (V.Ds i).reads S.dir)
 many:k<=I4 sd n
theorem FmS.set{K:List Bs}{k m n:Nat}{P:Pw}{Ds:Nat->Dk}{V:Ev}(h:FmS K ⟨k,m,0,P,Ds,λ_=>none⟩ n V)(hK:KOk K)(M:1<=k)(O:k+m=n)(hl:∀i,i<n->(Ds i).life<=2):Za K 2 k m n 0 (λ_=>none) (λ_=>true) V where
 hK:=hK
 k1:=M
 kn:=O
 vk:=h.k
 vm:=h.m
 vg:=h.gen
 gone:=h.gone
 fuse:=h.fuse
 life:=λi hi=>by rw[h.life i];exact hl i hi
 in_:=λi hi S hM=>by
  obtain⟨U,C,J,F⟩:=h.done i hi
  rw[hM] at C
  cases C
  rw[F]
  exact⟨J,IC k m i 0 _⟩
 snd:=λi hi _=>by
  obtain⟨S,C,J,F⟩:=h.done i hi
  exact⟨S,C,by rw[F];exact Pb k m i _⟩
 many:=by rw[Z0J];omega
section
variable{K:List Bs}{E k m n g:Nat}{H:Bs->Option Bs}{sd:Nat->Bool}{V:Ev}
def B7(k m g:Nat)(V:Ev)(i:Nat):Tab:=match V.Ms i with
 |some S=>stR (V.Ds i).reads S.dir
 |none=>XN k m i g
def Za.ph(K:List Bs)(E k m g:Nat)(H:Bs->Option Bs)(V:Ev):Z9:=⟨K,E,k,m,g,H,[],B7 k m g V⟩
theorem Za.ins(h:Za K E k m n g H sd V):k<=(ZI V n).length:=
 Z5w h.many (Lv λi hi hs=>by
  obtain⟨S,C,_⟩:=h.snd i hi hs
  rw[C];rfl)
theorem Za.pre{cs:List Chg}(h:Za K E k m n g H sd V)(O:E<=1900000000)(U:g<=1000000000)(M:cs≠[])(C:cs.length<=4)(F:∀c∈cs,c.key∈K)(J:∀c∈cs,∀v,c.val=some v->v.length<=200):YZ (Za.ph K E k m g H V) n V cs where
 hK:=h.hK
 k1:=h.k1
 rest:=λi hi=>by
  show Xn k m i g H (B7 k m g V i)
  unfold B7
  cases hM:V.Ms i with
  |none=>exact IC k m i g H
  |some S=>exact(h.in_ i hi S hM).2
 vk:=h.vk
 vm:=h.vm
 vg:=h.vg
 kn:=h.kn
 gone:=h.gone
 at_:=λi hi S hM=>by
  refine⟨(h.in_ i hi S hM).1,?_⟩
  show _=B7 k m g V i
  unfold B7
  rw[hM]
 many:=h.ins
 ep:=O
 gb:=U
 ne:=M
 few:=C
 key:=F
 val:=J
end
theorem IV(l:List YG):∀ (V:Ev) (i:Nat),((Zg l V).2.Ds i).life=(V.Ds i).life:=by
 induction l with
 |nil=>intro V i;rfl
 |cons x r ih=>
  intro V i;have h:((ZB V x).Ds i).life=(V.Ds i).life:=by
   unfold ZB;split
   .simp only;by_cases e:i=x.1
    .subst e;rw[Zo,(Y5 _ _ _).1]
    .rw[Z6 _ _ e]
   .rfl
  unfold Zg;grind
section
variable{K:List Bs}{E k m n g:Nat}{H:Bs->Option Bs}{sd:Nat->Bool}{V:Ev}{cs l:List Chg}{B:Nat}{w:World}{G:Eg}{bl:List Nat}
theorem Za.did(h:Za K E k m n g H sd V){V':Ev}(hk:V'.k=V.k)(hm:V'.m=V.m)(Z:V'.gen=V.gen+1)(O:V'.P.gone=false)(M:V'.P.fuse<0)(U:∀i,(V'.Ds i).life=(V.Ds i).life)(hs:∀i,(V'.Ms i).isSome=(V.Ms i).isSome)(C:∀i,i<n->∀S,V'.Ms i=some S->((Za.ph K E k m g H V).chg l).p2 i (V'.Ds i) S):Za K (E+2) k m n (g+1) (upH H l) sd V':=by refine⟨h.hK,h.k1,h.kn,hk.trans h.vk,hm.trans h.vm,by rw[Z,h.vg];omega,O,M,λi hi=>by rw[U];have:=h.life i hi;omega,λi hi S hM=>⟨(C i hi S hM).1,(C i hi S hM).2.1⟩,λi hi ae=> ?_,h.many⟩;obtain⟨S0,J,h4⟩:=h.snd i hi ae;have F:=hs i;rw[J] at F;obtain⟨S,hM⟩:=Option.isSome_iff_exists.1 F;refine⟨S,hM,(C i hi S hM).2.2 ?_⟩;show BL k m i H (B7 k m g V i);unfold B7;rw[J];exact h4
theorem Za.commit(h:Za K E k m n g H sd V)(J:G.n=n)(he:EAt B w G V bl)(F:YZ (Za.ph K E k m g H V) G.n V cs)(hl:l.Perm (Q5 cs)):(Zg (QQ ((Za.ph K E k m g H V).chg l) (ZI V G.n)) V).1=0/\Za K (E+2) k m n (g+1) (upH H l) sd {(Zg (QQ ((Za.ph K E k m g H V).chg l) (ZI V G.n)) V).2 with gen:=V.gen+1}:=by obtain⟨c1,c2⟩:=Z9.commit (F.ok hl) (F.start (l:=l) he);obtain⟨d1,d2⟩:=c2 h.fuse;have C:=c1 d1;obtain⟨s1,s2,O,M⟩:=E4 (QQ ((Za.ph K E k m g H V).chg l) (ZI V G.n)) V;exact⟨d1,h.did s1 s2 rfl C.gone d2 (λi=>IV _ V i) M (λi hi S hM=>(C.at_ i (by rw[J];exact hi) S hM).1)⟩
theorem Za.keyOk(h:Za K E k m n g H sd V){key v:Bs}(C:H key=some v):Iz K E V n key v:=⟨λi hi S hM=>(h.in_ i hi S hM).1,λi hi S hM=>by rw[h.vk,h.vm];exact(h.in_ i hi S hM).2.some_ key v C⟩
theorem Za.good(h:Za K E k m n g H sd V){key v:Bs}(J:H key=some v):V.k<=Wj V key v n:=by rw[h.vk];refine Z5w h.many (Lv λi hi hs=> ?_);obtain⟨S,C,F⟩:=h.snd i hi hs;unfold Y9;rw[C];simp only;rw[h.vk,h.vm];exact decide_eq_true (F key v J)
theorem Za.get(h:Za K E k m n g H sd V)(he:EAt B w G V bl)(C:G.n=n)(U:Ty w)(J:0<B){key v:Bs}(F:H key=some v)(O:key∈K)(hv:v.length<=200):Calls prog 28 #[.pointer (some ⟨G.s,0,none⟩),.string (str key)] w λe w'=>e=.returned (.tuple #[.string (str v),.nilIface])/\Zi B G bl V w w':=by have M:=h.hK.len key O;exact Z35 B w G V bl K E key v he U J M.1 (by omega) hv (by rw[h.vk];exact h.k1) (by rw[h.vk,h.vm,C];exact h.kn) h.gone (by rw[C];exact h.keyOk F) (by rw[C];exact h.good F)
theorem Za.keyD(h:Za K E k m n g H sd V):Se V n:=λi hi S hM=>by have C:=(h.in_ i hi S hM).1;refine⟨C.sorted,by have:=C.few h.hK;omega,λx hx=> ?_⟩;obtain⟨y,F,rfl⟩:=List.mem_map.1 hx;have:=(Jz h.hK _ (C.sm y F).1).2;omega
theorem Za.look(h:Za K E k m n g H sd V)(he:EAt B w G V bl)(C:G.n=n)(Z:Ty w)(J:0<B){key v:Bs}(F:H key=some v)(U:key∈K)(hv:v.length<=200){i:Nat}(hi:i<n)(hs:sd i=true):Calls prog 45 #[.pointer (some ⟨G.s,0,none⟩),.int .i64 (i:Int),.string (str key)] w λe w'=>e=.returned .nilIface/\Zi B G bl V w w':=by have M:=h.hK.len key U;obtain⟨S,hM,O⟩:=h.snd i hi hs;exact Z0Q B w G V bl K E i S key v he Z J (by rw[C];exact hi) hM M.1 (by omega) hv (by rw[h.vk];exact h.k1) (by rw[h.vk,h.vm,C];exact h.kn) h.gone (h.in_ i hi S hM).1 (by rw[C];exact(h.keyOk F).runs) (by rw[h.vk,h.vm];exact O key v F)
theorem Za.commitW(h:Za K E k m n g H sd V)(he:EAt B w G V bl)(M:G.n=n)(ht:Ty w)(af:0<B)(hE:E<=1900000000)(hg:g<=1000000000)(ah:cs≠[])(U:cs.length<=4)(Z:∀c∈cs,c.key∈K)(ae:∀c∈cs,∀v,c.val=some v->v.length<=200){gc nc cap:Nat}(hr:Jc w gc cs)(ag:nc=cs.length)(O:nc<=cap):Calls prog 11 #[.pointer (some ⟨G.s,0,none⟩),.slice (some ⟨gc,0,none⟩) nc cap] w λe w'=>∃l V',l.Perm (Q5 cs)/\e=.returned .nilIface/\Zi B G bl V' w w'/\Za K (E+2) k m n (g+1) (upH H l) sd V':=by have C:=h.pre hE hg ah U Z ae;rw[<-M] at C;refine(GT B w G V bl (Za.ph K E k m g H V) gc nc cap cs he ht af C hr ag O).mono ?_;rintro e w' ⟨l,ev,hl,rfl,F,h0, -⟩;obtain⟨J,h2⟩:=h.commit M he C hl;rw[J] at F;obtain rfl:=F.zero;exact⟨l,_,hl,rfl,h0 J,h2⟩
end
end
theorem UV(d:Array Bs)(x:Bs):∀m,x∈Lib.compactUpTo d m↔∃j,j<m/\d[j]! =x:=by
 intro m
 induction m with
 |zero=>simp[Lib.compactUpTo]
 |succ m ih=>
  rw[Lib.compactUpTo_succ,Z5p,ih];constructor
  .grind
  .rintro⟨j,J,e⟩;by_cases C:j<m
   .grind
   .obtain rfl:j=m:=(by omega);by_cases h:Lib.keeps d j=true
    .simp_all
    .have F:j≠0/\d[j]! =d[j-1]!:=by unfold Lib.keeps at h;simp at h;exact h
     grind
theorem Z0L(d:Array Bs)(hs:∀i j,i<=j->j<d.size->d[i]!<=d[j]!):∀m,m<=d.size->(Lib.compactUpTo d m).Nodup:=by
 intro m
 induction m with
 |zero=>intro _;simp[Lib.compactUpTo]
 |succ m ih=>
  intro hm;rw[Lib.compactUpTo_succ];by_cases h:Lib.keeps d m=true
  .rw[if_pos h];refine List.nodup_append.2 ⟨ih (by omega),by simp,λa ha b O e=> ?_⟩;obtain⟨j,U,C⟩:=(UV d a m).1 ha;have F:=hs j (m-1) (by omega) (by omega);have J:=hs (m-1) m (by omega) (by omega);have M:d[m]! =d[m-1]!:=(by grind);unfold Lib.keeps at h;simp_all
  .grind
theorem KM(l:List Bs)(hs:l.Pairwise (λa b=>a<=b)):(Lib.compact l).Nodup/\∀x,x∈Lib.compact l↔x∈l:=by
 have M:∀i j,i<=j->j<l.toArray.size->l.toArray[i]!<=l.toArray[j]!:=λi j O C=>by
  have J:j<l.length:=by omega
  have F:i<l.length:=by omega
  have e1:l.toArray[i]! =l[i]:=by simp_all
  have e2:l.toArray[j]! =l[j]:=by simp_all
  rw[e1,e2];by_cases e:i=j
  .simp_all
  .exact List.pairwise_iff_getElem.1 hs i j F J (by omega)
 refine⟨Z0L l.toArray M l.length (by simp),λx=> ?_⟩;unfold Lib.compact;rw[UV];constructor
 .grind
 .intro h;obtain⟨j,C,e⟩:=List.getElem_of_mem h;exact⟨j,C,by rw[<-e];simp[C]⟩
theorem N3(l:List Bs):(Lib.compact (l.mergeSort λx y=>decide (x<=y))).Nodup/\∀x,x∈Lib.compact (l.mergeSort λx y=>decide (x<=y))↔x∈l:=by
 have hs:(l.mergeSort λx y=>decide (x<=y)).Pairwise (λa b=>a<=b):=by
  have F:=List.pairwise_mergeSort (le:=λx y:Bs=>decide (x<=y)) (λa b c h C=>by
   simp at*
   exact List.le_trans h C) (λa b=>by
   simp
   exact List.le_total a b) l
  simp_all
 obtain⟨a,b⟩:=KM _ hs;simp_all
section
open Go.Shelf
theorem RO{V:Ev}{i:Nat}{S:Sto}(hM:V.Ms i=some S)(x:Bs):x∈kOf V [] i↔nmD x∈S.dir.names:=by
 unfold kOf;rw[hM];simp only;rw[List.mem_map];constructor
 .rintro⟨n,J,rfl⟩;obtain⟨F,C⟩:=List.mem_filter.1 J;cases n with
  |nil=>simp[Lib.hasPrefix,nmD] at C
  |cons a r=>
   have ha:a=100:=by
    simp[Lib.hasPrefix,nmD,List.isPrefixOf] at C
    first|exact C|exact C.symm
   subst ha;exact F
 .intro h;refine⟨nmD x,List.mem_filter.2 ⟨h,?_⟩,rfl⟩;simp[Lib.hasPrefix,nmD,List.isPrefixOf]
section
variable{K:List Bs}{E k m n g:Nat}{H:Bs->Option Bs}{sd:Nat->Bool}{V:Ev}
theorem Za.keys(h:Za K E k m n g H sd V):(Lib.compact ((JZ V [] n).mergeSort λx y=>decide (x<=y))).Nodup/\∀x,x∈Lib.compact ((JZ V [] n).mergeSort λx y=>decide (x<=y))↔H x≠none:=by
 obtain⟨a,b⟩:=N3 (JZ V [] n);refine⟨a,λx=>(b x).trans ?_⟩;have e1:∀{i:Nat} {S:Sto},nmD x∈S.dir.names↔stR (V.Ds i).reads S.dir (nmD x)≠none:=fun{i S}=>by rw[Qy,ne_eq,ne_eq,QV]
 unfold JZ;rw[List.mem_flatMap];constructor
 .rintro⟨i,hi,hx⟩ h8;cases hM:V.Ms i with
  |none=>unfold kOf at hx;rw[hM] at hx;cases hx
  |some S=>exact e1.1 ((RO hM x).1 hx) ((h.in_ i (List.mem_range.1 hi) S hM).2.none_ x h8)
 .intro J;obtain⟨v,hv⟩:=Option.ne_none_iff_exists'.1 J;obtain⟨i,hi⟩:=List.exists_mem_of_length_pos (Z5v h.k1 h.many);obtain⟨C,F⟩:=List.mem_filter.1 hi;obtain⟨S,hM,M⟩:=h.snd i (List.mem_range.1 C) F;exact⟨i,C,(RO hM x).2 (e1.2 (by rw[M x v hv];simp))⟩
theorem Za.keysW(h:Za K E k m n g H sd V){B:Nat}{w:World}{G:Eg}{bl:List Nat}(he:EAt B w G V bl)(C:G.n=n):Calls prog 43 #[.pointer (some ⟨G.s,0,none⟩),.string (str [])] w λe w'=>∃v L,e=.returned (.tuple #[v,.nilIface])/\Strs w' w.heap.size v L/\L.Nodup/\(∀x,x∈L↔H x≠none)/\Zi B G bl V w w':=by refine(V5 B w G V bl [] he (by simp) (by rw[C];exact h.keyD)).mono ?_;rintro e w' ⟨v,rfl,hs,F⟩;rw[C] at hs;exact⟨v,_,rfl,hs,h.keys.1,h.keys.2,F⟩
end
end
section
open Go.Shelf
variable{H:Bs->Option Bs}{R:Nat->ByteArray}{d:Dir}{g i k m:Nat}
theorem FS(b s i g:Nat)(w:World)(c3:w.cell? ⟨b,3,none⟩=some (.int .i64 (g:Int))){R:Value->World->Prop}(C:Calls prog 95 #[.pointer (some ⟨s,0,none⟩)] w λe w'=>∃ev,e=.returned ev/\R ev w'):Calls prog 64 #[.pointer (some ⟨b,0,none⟩),.int .i64 (i:Int),.pointer (some ⟨s,0,none⟩),.int .i64 (g:Int)] w λe w'=>∃ev,e=.returned (.tuple #[.bool true,ev])/\R ev w':=by
 have d1:decide ((g:Int)≥0)=true:=by simp
 have H:=Z5F C;clear C;go_enter func64,ntmps64;go_wp2_with (go_at_call 95;refine H.out.mono ?_;rintro e w' ⟨ev,rfl,h⟩;have F:=Z5F h;clear h);go_ret2;exact⟨ev,rfl,F.out⟩
theorem Xn.none_under(h:Xn k m i g H (stR R d)):d.get nmN=none/\d.get nmT=none/\∀x,d.get (nmS x)=none:=⟨QV.2 h.next,QV.2 h.under,λx=>QV.2 (h.staged x)⟩
theorem Xn.acts0(h:Xn k m i g H (stR R d)):acts0 d=[]:=by
 obtain⟨C,F,J⟩:=h.none_under;have e:d.names.filter isS=[]:=by rw[List.filter_eq_nil_iff];intro n M hs;obtain⟨x,rfl⟩:=(Ab n).1 hs;exact Qy.1 M (J x)
 unfold Go.Proofs.YthppfllkocphbaaGreatDoor.acts0;rw[e];simp[C,F]
end
section
open Go.Shelf
theorem IZ{B p d:Nat}{P:Pw}{D:Dk}{L:List Nat}{K:List Bs}{E k m i g:Nat}{S:Sto}(b s:Nat)(name:Bs)(w:World)(C:PD B w p d 800 P D L)(F:Yf w s d S)(J:ZO K E D S)(O:P.gone=false)(M:D.dead=false)(U:name.length<=1000000)(hc:stR D.reads S.dir name=some (some (Qq k m i g)))(hk:k<=16)(hm:m<=16)(hi:i<=16)(Z:g<=1000000000)(c0:w.cell? ⟨b,0,none⟩=some (.int .i64 (k:Int)))(c1:w.cell? ⟨b,1,none⟩=some (.int .i64 (m:Int))):Calls prog 63 #[.pointer (some ⟨b,0,none⟩),.pointer (some ⟨s,0,none⟩),.string (str name),.int .i64 (i:Int)] w λe w'=>e=.returned (.int .i64 (g:Int))/\Below w.heap.size w w':=by
 unfold Qq at hc;refine Vh b s k m i g name w (by omega) (by omega) (by omega) (by omega) c0 c1 ?_
 exact BT C F J O M U (by decide) (by
  have h:=Ar k m i g;unfold Qq at h;rw[WO] at h
  omega) hc
theorem ZY.enter{B:Nat}{w w':World}{G:Eg}{V:Ev}{Ls Os:Nat->List Nat}(h:ZY B w G V Ls Os){i:Nat}(hi:i<G.n)(hO:Os i=[G.xs i]){s j:Nat}{S:Sto}{o:List Value}(hx:Row w (G.xs i) 91 o)(af:Row w' (G.xs i) 91 [.pointer (some ⟨G.ds i,0,none⟩),.pointer (some ⟨s,0,none⟩),.int .i64 (V.Ds i).life,.bool true])(M:WG w s j (G.ds i) S)(ae:(V.Ds i).dead=false)(hs:∀a,a<G.n->a≠i->s∉Os a/\j∉Os a)(al:B<=s)(ak:B<=j)(J:Fr [G.xs i] w w'):ZY B w' G {V with Ms:=upd V.Ms i (some S)} Ls (upd Os i [G.xs i,s,j]):=by
 have F:Z8 w [G.xs i] [91]:=Z8.row hx (by simp);have aj:s∉[G.xs i]:=by obtain⟨b,uv,r1,_⟩:=M;exact F.row_ne r1 (by simp)
 have ag:j∉[G.xs i]:=by obtain⟨b,uv,_,r2,_⟩:=M;exact F.row_ne r2 (by simp)
 obtain⟨sp,O⟩:=h.mem;have Z:G.xs i∈Os i:=by simp_all
 have ai:∀a,a<G.n->a≠i->G.xs i∉Os a:=λa ha ah C=>h.oap a i ha hi ah _ C Z;refine⟨h.set.fr J (F.row_ne h.set (by simp)),⟨sp,O.fr J (F.row_ne O (by simp))⟩,h.n1,h.n16,λa ha=>(h.pd a ha).fr J (F.disj (h.pd a ha).typed (by decide)),h.dap,λa ha=> ?_,λa b ha hb U k C=> ?_,λa ha k C=> ?_,h.bs⟩
 .by_cases e:a=i
  .subst e;simp[Zo];exact⟨s,j,rfl,af,M.fr J F (by simp) (by simp) aj ag,ae⟩
  .simp[Z6 _ _ e]
   exact(h.at_ a ha).fr J F (by simp) (by simp) (λk C hm=>by
    rw[Z58] at hm;subst hm
    exact ai a ha e C)
 .by_cases ea:a=i
  .subst ea;rw[Zo] at C;rw[Z6 _ _ (λe=>U e.symm)];grind
  .rw[Z6 _ _ ea] at C;by_cases eb:b=i
   .subst eb;rw[Zo];grind
   .rw[Z6 _ _ eb];exact h.oap a b ha hb U k C
 .by_cases e:a=i
  .subst e;rw[Zo] at C;simp at C;rcases C with rfl|rfl|rfl
   .exact h.bO a ha _ Z
   .omega
   .omega
  .rw[Z6 _ _ e] at C;exact h.bO a ha k C
theorem ZY.setGen{B:Nat}{w:World}{G:Eg}{V:Ev}{Ls Os:Nat->List Nat}(h:ZY B w G V Ls Os)(g:Int):ZY B (w.setCell ⟨G.s,3,none⟩ (.int .i64 g)) G {V with gen:=g} Ls Os:=by have F:Fr [G.s] w (w.setCell ⟨G.s,3,none⟩ (.int .i64 g)):=(Fr.refl _ _).setCell (Or.inl (by simp)) _;have C:Z8 w [G.s] [78]:=Z8.row h.set (by simp);obtain⟨sp,J⟩:=h.mem;refine⟨h.set.set 3 _,⟨sp,J.fr F (C.row_ne J (by simp))⟩,h.n1,h.n16,λa ha=>(h.pd a ha).fr F (C.disj (h.pd a ha).typed (by decide)),h.dap,λa ha=>(h.at_ a ha).fr F C (by simp) (by simp) (λk M hm=> ?_),h.oap,h.bO,h.bs⟩;rw[Z58] at hm;subst hm;exact(h.at_ a ha).typed.row_ne h.set (by decide) M
theorem ZY.after{B:Nat}{w w':World}{G:Eg}{V:Ev}{Ls Os:Nat->List Nat}(h:ZY B w G V Ls Os)(C:Below w.heap.size w w'):ZY B w' G V Ls Os:=h.fr (Fr.of_below (L:=[]) C) (ts:=[]) (λk F=>by cases F) (by simp) (by simp) (by simp) (by simp)
theorem WG.after{w w':World}{s j d:Nat}{S:Sto}(h:WG w s j d S)(C:Below w.heap.size w w'):WG w' s j d S:=h.fr (Fr.of_below (L:=[]) C) (ts:=[]) (λk F=>by cases F) (by simp) (by simp) (by simp) (by simp)
def AR(w:World)(Q:List Nat)(d:Nat):Option Sto->Prop
 |some S=>∃s j,Q=[s,j]/\WG w s j d S
 |none=>Q=[]
theorem WG.typed{w:World}{s j d:Nat}{S:Sto}(h:WG w s j d S):Z8 w [s,j] Cm:=by obtain⟨b,uv,C,F,_⟩:=h;exact Z8.cons C (by decide) (Z8.row F (by decide))
theorem AR.typed{w:World}{Q:List Nat}{d:Nat}{M:Option Sto}(h:AR w Q d M):Z8 w Q Cm:=by
 cases M with
 |none=>obtain rfl:=h;exact λk C=>by cases C
 |some S=>obtain⟨s,j,rfl,h⟩:=h;exact h.typed
theorem AR.fr{w w':World}{Q:List Nat}{d:Nat}{M:Option Sto}(h:AR w Q d M){X:List Nat}{ts:List TypeId}(O:Fr X w w')(U:Z8 w X ts)(F:197∉ts)(J:4∉ts)(C:∀k∈Q,k∉X):AR w' Q d M:=by
 cases M with
 |none=>exact h
 |some S=>obtain⟨s,j,rfl,h⟩:=h;exact⟨s,j,rfl,h.fr O U F J (C _ (by simp)) (C _ (by simp))⟩
theorem AR.after{w w':World}{Q:List Nat}{d:Nat}{M:Option Sto}(h:AR w Q d M)(C:Below w.heap.size w w'):AR w' Q d M:=h.fr (Fr.of_below (L:=[]) C) (ts:=[]) (λk F=>by cases F) (by simp) (by simp) (by simp)
def FP(Q:List Nat):Value:=.pointer (Q.head?.map λs=>⟨s,0,none⟩)
structure Op1(B:Nat)(w0 w1:World)(G:Eg)(V0:Ev)(Ls:Nat->List Nat)(Ss:Nat->Option Sto)(gv:Nat->Int)(gb sb t:Nat)(q:Int)(Q:Nat->List Nat)(gl sl:List Value)(wr:World):Prop where
 ep:ZY B wr G {V0 with gen:=q} Ls (λi=>[G.xs i])
 gr:Row wr gb 3 gl
 sr:Row wr sb 89 sl
 gn:gl.length=G.n
 sn:sl.length=G.n
 gv:∀a,a<t->gl[a]? =some (.int .i64 (gv a))
 sv:∀a,a<t->sl[a]? =some (FP (Q a))
 sz:∀a,t<=a->a<G.n->sl[a]? =some (.pointer none)
 st:∀a,a<t->AR wr (Q a) (G.ds a) (Ss a)
 ge:∀a,a<t->∀x∈Q a,w1.heap.size<=x
 ord:∀a b,a<b->b<t->∀x∈Q a,∀y∈Q b,x<y
 bel:Below w0.heap.size w0 wr
 le:w0.heap.size<=w1.heap.size/\w1.heap.size<=wr.heap.size
 own:w0.heap.size<=G.s/\w0.heap.size<=gb/\w0.heap.size<=sb
section
variable{B:Nat}{w0 w1 wr w' W:World}{G:Eg}{V0:Ev}{Ls:Nat->List Nat}{Ss:Nat->Option Sto}{gv:Nat->Int}{gb sb t:Nat}{q:Int}{Q:Nat->List Nat}{gl sl:List Value}
theorem Op1.fr(h:Op1 B w0 w1 G V0 Ls Ss gv gb sb t q Q gl sl wr){X:List Nat}{ts:List TypeId}(M:Fr X wr w')(O:Z8 wr X ts)(Z:∀e∈ts,e∉197::4::92::Yl)(hX:∀k∈X,w0.heap.size<=k){F J:List Value}(hg:Row w' gb 3 F)(hs:Row w' sb 89 J)(gn:F.length=G.n)(sn:J.length=G.n)(ae:∀a,a<t->F[a]? =gl[a]?)(af:J=sl):Op1 B w0 w1 G V0 Ls Ss gv gb sb t q Q F J w':=by
 subst af;have C:∀e,e∈197::4::92::Yl->e∉ts:=by grind
 exact⟨h.ep.fr M O (C _ (by simp)) (C _ (by simp)) (C _ (by simp)) (λk U hm=>O.disj h.ep.typed (λe he hm=>Z e he (by grind)) k hm U),hg,hs,gn,sn,λa ha=>by rw[ae a ha];exact h.gv a ha,h.sv,h.sz,λa ha=>(h.st a ha).fr M O (C _ (by simp)) (C _ (by simp)) (λk U hm=>O.disj (h.st a ha).typed (λe he hm=>Z e he (by have:∀e∈Cm,e∈197::4::92::Yl:=(by decide);exact this e hm)) k hm U),h.ge,h.ord,h.bel.trans (M.below (by have:=h.le;omega) hX),⟨h.le.1,Z5w h.le.2 M.size⟩,h.own⟩
theorem Op1.after(h:Op1 B w0 w1 G V0 Ls Ss gv gb sb t q Q gl sl wr)(C:Below wr.heap.size wr w'):Op1 B w0 w1 G V0 Ls Ss gv gb sb t q Q gl sl w':=h.fr (X:=[]) (ts:=[]) (Fr.of_below C) (λk F=>by cases F) (by simp) (by simp) (h.gr.after C) (h.sr.after C) h.gn h.sn (λ_ _=>rfl) rfl
theorem Op1.mark(h:Op1 B w0 w1 G V0 Ls Ss gv gb sb t q Q gl sl wr)(v:Value):Op1 B w0 w1 G V0 Ls Ss gv gb sb t q Q (gl.set t v) sl (wr.setCell ⟨gb,t,none⟩ v):=by have C:Fr [gb] wr (wr.setCell ⟨gb,t,none⟩ v):=(Fr.refl _ _).setCell (Or.inl (by simp)) _;exact h.fr C (Z8.row h.gr (Z58.2 rfl)) (by decide) (λk F=>by rw[Z58] at F;subst F;exact h.own.2.1) (h.gr.set t v) (h.sr.fr C (by rw[Z58];exact Row.ne h.sr h.gr (by simp))) (by simp[h.gn]) h.sn (λa ha=>List.getElem?_set_ne (by omega)) rfl
theorem Op1.tell(h:Op1 B w0 w1 G V0 Ls Ss gv gb sb t q Q gl sl wr)(M:Int):Op1 B w0 w1 G V0 Ls Ss gv gb sb t M Q gl sl (wr.setCell ⟨G.s,3,none⟩ (.int .i64 M)):=by have C:Fr [G.s] wr (wr.setCell ⟨G.s,3,none⟩ (.int .i64 M)):=(Fr.refl _ _).setCell (Or.inl (by simp)) _;have F:Z8 wr [G.s] [78]:=Z8.row h.ep.set (by simp);exact⟨h.ep.setGen M,h.gr.fr C (F.row_ne h.gr (by simp)),h.sr.fr C (F.row_ne h.sr (by simp)),h.gn,h.sn,h.gv,h.sv,h.sz,λa ha=>(h.st a ha).fr C F (by simp) (by simp) (λk J hm=>F.disj (h.st a ha).typed (by decide) k hm J),h.ge,h.ord,h.bel.trans (C.below (by have:=h.le;omega) (λk J=>by rw[Z58] at J;subst J;exact h.own.1)),⟨h.le.1,Z5w h.le.2 C.size⟩,h.own⟩
theorem Op1.next(h:Op1 B w0 w1 G V0 Ls Ss gv gb sb t q Q gl sl wr)(hb:Below wr.heap.size wr w')(ht:t<G.n){N:List Nat}(ah:AR w' N (G.ds t) (Ss t))(hN:∀x∈N,wr.heap.size<=x){U Z:List Value}(J:Fr [gb,sb] w' W)(hg:Row W gb 3 U)(hs:Row W sb 89 Z)(eg:U=gl.set t (.int .i64 (gv t)))(es:Z=sl.set t (FP N)):Op1 B w0 w1 G V0 Ls Ss gv gb sb (t+1) q (upd Q t N) U Z W:=by
 subst eg es;have C:=h.after hb;have F:Z8 w' [gb,sb] [3,89]:=Z8.cons C.gr (by simp) (Z8.row C.sr (by simp));have ae:∀{Q:List Nat} {d:Nat} {M:Option Sto},AR w' Q d M->AR W Q d M:=λhq=>hq.fr J F (by simp) (by simp) (λk O hm=>F.disj hq.typed (by decide) k hm O);refine⟨C.ep.fr J F (by simp) (by simp) (by simp) (λk O hm=>F.disj C.ep.typed (by decide) k hm O),hg,hs,by simp[h.gn],by simp[h.sn],λa ha=> ?_,λa ha=> ?_,λa ha ag=> ?_,λa ha=> ?_,λa ha=> ?_,λa b af ai=> ?_,C.bel.trans (J.below (by have:=C.le;omega) (λk O=> ?_)),⟨h.le.1,Z5w C.le.2 J.size⟩,h.own⟩
 .by_cases e:a=t
  .subst e;simp[h.gn,ht]
  .rw[List.getElem?_set_ne (by omega)];exact h.gv a (by omega)
 .by_cases e:a=t
  .subst e;simp[h.sn,ht,Zo]
  .rw[List.getElem?_set_ne (by omega),Z6 _ _ e];exact h.sv a (by omega)
 .rw[List.getElem?_set_ne (by omega)];exact h.sz a (by omega) ag
 .by_cases e:a=t
  .subst e;rw[Zo];exact ae ah
  .rw[Z6 _ _ e];exact ae (C.st a (by omega))
 .by_cases e:a=t
  .subst e;rw[Zo];exact λx hx=>Z5w h.le.2 (hN x hx)
  .rw[Z6 _ _ e];exact h.ge a (by omega)
 .rw[Z6 _ _ (show a≠t by omega)];by_cases e:b=t
  .subst e;rw[Zo];exact λx hx y hy=>Z5v ((h.st a af).typed.lt x hx) (hN y hy)
  .rw[Z6 _ _ e];exact h.ord a b af (by omega)
 .have:=h.own;grind
theorem Op1.both(h:Op1 B w0 w1 G V0 Ls Ss gv gb sb t q Q gl sl wr)(u v:Value):Row ((wr.setCell ⟨gb,t,none⟩ u).setCell ⟨sb,t,none⟩ v) gb 3 (gl.set t u)/\Row ((wr.setCell ⟨gb,t,none⟩ u).setCell ⟨sb,t,none⟩ v) sb 89 (sl.set t v)/\Fr [gb,sb] wr ((wr.setCell ⟨gb,t,none⟩ u).setCell ⟨sb,t,none⟩ v):=by have C:gb≠sb:=Row.ne h.gr h.sr (by simp);refine⟨(h.gr.set t u).fr (L:=[sb]) ((Fr.refl _ _).setCell (Or.inl (by simp)) _) (by simp_all),?_,((Fr.refl _ _).setCell (Or.inl (by simp)) _).setCell (Or.inl (by simp)) _⟩;exact(h.sr.fr (L:=[gb]) ((Fr.refl _ wr).setCell (p:=⟨gb,t,none⟩) (Or.inl (by simp)) u) (by grind)).set t v
theorem Z2c{l:List Value}{t:Nat}{v:Value}(h:l[t]? =some v):l=l.set t v:=by apply List.ext_getElem?;grind
theorem Op1.start(M:ZY B w1 G {V0 with gen:=q} Ls (λi=>[G.xs i]))(F:Below w0.heap.size w0 w1)(hs:w0.heap.size<=G.s):Op1 B w0 w1 G V0 Ls Ss gv w1.heap.size (w1.heap.size+1) 0 q (λ_=>[]) (madeCells #[.int .i64 0] G.n).toList (madeCells #[.pointer none] G.n).toList ((w1.alloc (.cells (madeCells #[.int .i64 0] G.n) 3)).alloc (.cells (madeCells #[.pointer none] G.n) 89)):=by
 have h:=((Below.refl w1.heap.size w1).alloc Z5D (.cells (madeCells #[.int .i64 0] G.n) 3)).alloc (by simp) (.cells (madeCells #[.pointer none] G.n) 89);have O:Row ((w1.alloc (.cells (madeCells #[.int .i64 0] G.n) 3)).alloc (.cells (madeCells #[.pointer none] G.n) 89)) w1.heap.size 3 (madeCells #[.int .i64 0] G.n).toList:=(Row.new w1 3 (madeCells #[.int .i64 0] G.n).toList).alloc _;have J:=Row.new (w1.alloc (.cells (madeCells #[.int .i64 0] G.n) 3)) 89 (madeCells #[.pointer none] G.n).toList;have e:(w1.alloc (.cells (madeCells #[.int .i64 0] G.n) 3)).heap.size=w1.heap.size+1:=by simp
 rw[e] at J;have C:=F.size;have hm:∀a,a<G.n->(madeCells #[.pointer none] G.n).toList[a]? =some (.pointer none):=λa ha=>by simp[madeCells,ha,Nat.mod_one]
 exact⟨M.after h,O,J,by simp[madeCells],by simp[madeCells],λa ha=>by omega,λa ha=>by omega,λa _ ha=>hm a ha,λa ha=>by omega,λa ha=>by omega,λa b ha=>by omega,F.trans (h.mono C),⟨C,h.size⟩,hs,C,by omega⟩
end
def Xp(t:Nat)(V:Ev):Ev:={V with Ms:=λa=>if a<t then V.Ms a else none}
structure Op2(B:Nat)(w0 w1:World)(G:Eg)(bl0:List Nat)(Q:Nat->List Nat)(gb sb t:Nat)(gl sl:List Value)(V:Ev)(Ls Os:Nat->List Nat)(wr:World):Prop where
 ep:ZY B wr G (Xp t V) Ls Os
 gr:Row wr gb 3 gl
 sr:Row wr sb 89 sl
 st:∀a,t<=a->a<G.n->∀S,V.Ms a=some S->AR wr (Q a) (G.ds a) (some S)/\(V.Ds a).dead=false
 in_:∀a,a<t->∀k∈Os a,k=G.xs a∨k∈Q a
 out:∀a,t<=a->Os a=[G.xs a]
 grew:∀a,a<G.n->∀k∈Ls a,k∈bl0∨w0.heap.size<=k
 fr:Fr (G.p::bl0) w0 wr
 le:w1.heap.size<=wr.heap.size
structure OpF(w0 w1:World)(G:Eg)(Q:Nat->List Nat):Prop where
 ge:∀a,a<G.n->∀x∈Q a,w1.heap.size<=x
 ord:∀a b,a<b->b<G.n->∀x∈Q a,∀y∈Q b,x<y
 le:w0.heap.size<=w1.heap.size
 xs:∀a,a<G.n->w0.heap.size<=G.xs a/\G.xs a<w1.heap.size
section
variable{B:Nat}{w0 w1 wr w':World}{G:Eg}{bl0:List Nat}{Q:Nat->List Nat}{gb sb t:Nat}{gl sl:List Value}{V:Ev}{Ls Os:Nat->List Nat}
theorem OpF.no(h:OpF w0 w1 G Q){a b:Nat}(ha:a<G.n)(F:b<G.n)(J:a≠b):∀k∈Q a,k≠G.xs b/\k∉Q b:=λk C=>by
 refine⟨by have:=h.ge a ha k C;have:=h.xs b F;omega,λhm=> ?_⟩;rcases Nat.lt_or_gt_of_ne J with h9|h9
 .exact absurd (h.ord a b h9 F k C k hm) (by omega)
 .exact absurd (h.ord b a h9 ha k hm k C) (by omega)
theorem Op2.no(h:Op2 B w0 w1 G bl0 Q gb sb t gl sl V Ls Os wr)(hF:OpF w0 w1 G Q){a b:Nat}(ha:a<G.n)(J:b<G.n)(F:a≠b):∀k∈Os b,k∉Q a:=λk C hm=>by
 have M:=hF.no ha J F k hm;by_cases e:b<t
 .rcases h.in_ b e k C with h2|h2
  .omega
  .simp_all
 .rw[h.out b (by omega),Z58] at C;omega
theorem Op2.after(h:Op2 B w0 w1 G bl0 Q gb sb t gl sl V Ls Os wr)(C:Below wr.heap.size wr w'):Op2 B w0 w1 G bl0 Q gb sb t gl sl V Ls Os w':=⟨h.ep.after C,h.gr.after C,h.sr.after C,λa F J S M=>⟨(h.st a F J S M).1.after C,(h.st a F J S M).2⟩,h.in_,h.out,h.grew,h.fr.trans (Fr.of_below (L:=[]) C) (by simp),Z5w h.le C.size⟩
theorem Op1.op2{V0:Ev}{Ss:Nat->Option Sto}{gv:Nat->Int}{q:Int}(h:Op1 B w0 w1 G V0 Ls Ss gv gb sb G.n q Q gl sl wr)(J:V0.Ms=λ_=>none)(F:V={V0 with gen:=q,Ms:=V.Ms})(hM:∀a,a<G.n->∀S,V.Ms a=some S->Ss a=some S/\(V0.Ds a).dead=false)(U:∀a,a<G.n->∀k∈Ls a,k∈bl0):Op2 B w0 w1 G bl0 Q gb sb 0 gl sl V Ls (λi=>[G.xs i]) wr:=by
 refine⟨?_,h.gr,h.sr,λa _ ha S Z=> ?_,λa ha=>by omega,λa _=>rfl,λa ha k hk=>Or.inl (U a ha k hk),Fr.of_below h.bel,h.le.2⟩
 .have e:=h.ep;have e2:Xp 0 V={V0 with gen:=q}:=by unfold Xp;rw[F];simp[J]
  rw[e2];omega
 .obtain⟨M,O⟩:=hM a ha S Z;have C:=h.st a ha;rw[M] at C;exact⟨C,by rw[F];exact O⟩
theorem Op1.opF{V0:Ev}{Ss:Nat->Option Sto}{gv:Nat->Int}{q:Int}(h:Op1 B w0 w1 G V0 Ls Ss gv gb sb G.n q Q gl sl wr)(hx:∀a,a<G.n->w0.heap.size<=G.xs a/\G.xs a<w1.heap.size):OpF w0 w1 G Q:=⟨h.ge,h.ord,h.le.1,hx⟩
theorem Op2.enter(h:Op2 B w0 w1 G bl0 Q gb sb t gl sl V Ls Os wr)(hF:OpF w0 w1 G Q)(hB:B<=w0.heap.size)(F:t<G.n){S:Sto}(hM:V.Ms t=some S){s j:Nat}(M:Q t=[s,j]){o:List Value}(hx:Row wr (G.xs t) 91 o)(ae:Row w' (G.xs t) 91 [.pointer (some ⟨G.ds t,0,none⟩),.pointer (some ⟨s,0,none⟩),.int .i64 (V.Ds t).life,.bool true])(C:Fr [G.xs t] wr w'):Op2 B w0 w1 G bl0 Q gb sb (t+1) gl sl V Ls (upd Os t [G.xs t,s,j]) w':=by
 have hO:=h.out t Z5D;have Z:Z8 wr [G.xs t] [91]:=Z8.row hx (by simp);obtain⟨U,hd⟩:=h.st t Z5D F S hM;obtain⟨s',j',hq,U⟩:=U;rw[M] at hq;cases hq;have O:=hF.ge t F;rw[M] at O;have hle:=hF.le;refine⟨?_,h.gr.fr C (Z.row_ne h.gr (by simp)),h.sr.fr C (Z.row_ne h.sr (by simp)),λa ha hn S' af=> ?_,λa ha=> ?_,λa ha=> ?_,h.grew,h.fr.trans C (λk hk ah=> ?_),Z5w h.le C.size⟩
 .have e:Xp (t+1) V={Xp t V with Ms:=upd (Xp t V).Ms t (some S)}:=by
   unfold Xp;congr 1
   funext a
   unfold upd;by_cases e:a=t
   .simp_all
   .grind
  rw[e];refine h.ep.enter F hO hx ae U hd (λa ha ag=> ?_) ?_ ?_ C
  .have J:=h.no hF F ha (Ne.symm ag);rw[M] at J;exact⟨λhm=>J s hm (by simp),λhm=>J j hm (by simp)⟩
  .have:=O s (by simp);omega
  .have:=O j (by simp);omega
 .obtain⟨J,h2⟩:=h.st a (by omega) hn S' af
  exact⟨J.fr C Z (by simp) (by simp) (λk hk hm=>by
   rw[Z58] at hm
   exact absurd (hF.ge a hn _ hk) (by have:=hF.xs t F;omega)),h2⟩
 .by_cases e:a=t
  .subst e;rw[Zo,M];simp
  .rw[Z6 _ _ e];exact h.in_ a (by omega)
 .rw[Z6 _ _ (by omega)];exact h.out a (by omega)
 .rw[Z58] at hk;have:=(hF.xs t F).1;omega
theorem Op2.skip(h:Op2 B w0 w1 G bl0 Q gb sb t gl sl V Ls Os wr)(hM:V.Ms t=none):Op2 B w0 w1 G bl0 Q gb sb (t+1) gl sl V Ls Os wr:=by
 refine⟨?_,h.gr,h.sr,λa ha=>h.st a (by omega),λa ha k C=> ?_,λa ha=>h.out a (by omega),h.grew,h.fr,h.le⟩
 .have e:Xp (t+1) V=Xp t V:=by
   unfold Xp;congr 1
   funext a
   by_cases e:a=t
   .simp_all
   .grind
  rw[e];exact h.ep
 .by_cases e:a=t
  .subst e;rw[h.out a Z5D,Z58] at C;omega
  .exact h.in_ a (by omega) k C
theorem Op2.d(h:Op2 B w0 w1 G bl0 Q gb sb t gl sl V Ls Os wr):Qv B G bl0 V.P V.Ds w0 wr:=⟨Ls,h.ep.pd,h.ep.dap,h.grew,h.fr⟩
theorem Op2.did(h:Op2 B w0 w1 G bl0 Q gb sb t gl sl V Ls Os wr)(hF:OpF w0 w1 G Q)(F:t<G.n){S:Sto}{a:Sto->List Ac}(hM:V.Ms t=some S){s j:Nat}(hQ:Q t=[s,j])(hC:Iy B G.p (G.ds t) s j (Ls t) (S.go (a S)) (S.nx (a S)) V.P (V.Ds t) wr w'):Qv B G bl0 (ZB V (t,a)).P (ZB V (t,a)).Ds w0 w'/\(ZH V (t,a)=0->∃aq,Op2 B w0 w1 G bl0 Q gb sb t gl sl (ZB V (t,a)) aq Os w'):=by
 obtain⟨e1,e2⟩:=Yr (V:=V) (x:=(t,a)) hM;obtain⟨ah,hd⟩:=h.st t Z5D F S hM;obtain⟨s',j',hq,ah⟩:=ah;rw[hQ] at hq;cases hq;obtain⟨L',hp,M,hg⟩:=hC.ran;have hl:=Y5 (S.go (a S)) V.P (V.Ds t);have b9:∀b,b<G.n->b≠t->∀k∈Os b,k∉[s,j]:=λb U b8=>by rw[<-hQ];exact h.no hF F U (Ne.symm b8)
 have ai:=ah.typed;have ag:=(h.ep.pd t F).typed;have ae:Z8 wr ([s,j]++G.p::Ls t) (Di++Cm):=(ai.mono (λ_ h=>h) (λe he=>List.mem_append_right _ he)).append (ag.mono (λ_ h=>h) (λe he=>List.mem_append_left _ he));have aj:=h.ep.at_ t F;have az:(Xp t V).Ms t=none:=by unfold Xp;simp
 rw[az] at aj;obtain⟨sv,lf,inn,au,af,b7⟩:=aj
 have Z:=h.ep.step1 (M':=none) (O':=Os t) F M ai b9 hp ⟨sv,lf,inn,au,af.fr M (λhm=>by
  rcases Z5p.1 hm with hm|hm
  .have h9:=hF.ge t F _ (by rw[hQ];exact hm);have:=(hF.xs t F).2;omega
  .exact ag.row_ne af (by decide) hm),λh9=>by rw[hl.1,hl.2];exact b7 h9⟩ hg (λk C=>Or.inl C)
 have e:({Xp t V with P:=(Z2 (S.go (a S)) V.P (V.Ds t)).2.1,Ds:=upd (Xp t V).Ds t (Z2 (S.go (a S)) V.P (V.Ds t)).2.2,Ms:=upd (Xp t V).Ms t none}:Ev)=Xp t (ZB V (t,a)):=by
  rw[e2];unfold Xp;simp
  funext b
  unfold upd;grind
 rw[e] at Z;have aw:upd Os t (Os t)=Os:=by
  funext b
  unfold upd;simp_all
 rw[aw] at Z;have al:∀b,b<G.n->∀k∈upd Ls t L' b,k∈bl0∨w0.heap.size<=k:=λb U k C=>by
  by_cases e:b=t
  .subst e;rw[Zo] at C;rcases hg k C with J|J
   .exact h.grew b U k J
   .have:=h.fr.size;omega
  .rw[Z6 _ _ e] at C;exact h.grew b U k C
 have ak:Fr (G.p::bl0) w0 w':=h.fr.trans M (λk C bf=>by
  rcases Z5p.1 C with C|C
  .have h9:=hF.ge t F k (by simp_all);have:=hF.le;omega
  .rcases Z5q.1 C with rfl|C
   .simp
   .rcases h.grew t F k C with J|J
    .simp_all
    .omega)
 refine⟨⟨_,Z.pd,Z.dap,al,ak⟩,λh0=>⟨_,Z,h.gr.fr M (ae.row_ne h.gr (by decide)),h.sr.fr M (ae.row_ne h.sr (by decide)),λb U hn S' O=> ?_,h.in_,h.out,al,ak,Z5w h.le M.size⟩⟩;rw[e2] at O⊢;simp only at O⊢;by_cases e:b=t
 .subst e;rw[Zo] at O⊢;cases O;rw[e1] at h0;exact⟨⟨s,j,hQ,hC.ok h0⟩,by rw[hl.2];exact hd⟩
 .rw[Z6 _ _ e] at O⊢;obtain⟨J,h2⟩:=h.st b U hn S' O;refine⟨J.fr M ae (by decide) (by decide) (λk C hm=> ?_),h2⟩;rcases Z5p.1 hm with hm|hm
  .exact(hF.no hn F e k C).2 (by simp_all)
  .exact J.typed.disj ag (by decide) k C hm
end
theorem Z3X{w w':World}{g cap:Nat}{x:ByteArray}{r:List ByteArray}{sp:List Value}(C:Row w g 9 (Z7 (x::r)++sp))(hc:r.length+1<=cap)(h:Below w.heap.size w w'):Zx w' (if cap=1 then some ⟨g,0,none⟩ else some ⟨g,1,none⟩) r/\∀a o,(if cap=1 then some (⟨g,0,none⟩:Addr) else some ⟨g,1,none⟩)=some ⟨a,o,none⟩->a<w'.heap.size:=by
 have F:g<w'.heap.size:=Z5v C.lt h.size;refine⟨λj J=> ?_,λa o e=> ?_⟩
 .rw[if_neg (by omega)];refine⟨g,1,rfl,((C.after h).cell (j:=1+j) ?_)⟩;rw[Z5c (by simp[F7];omega),Nat.add_comm];simp[Z7,J]
 .split at e<;>(cases e;exact F)
theorem PU(b i g:Nat)(γ:Int)(sv:Value)(w:World)(c3:w.cell? ⟨b,3,none⟩=some (.int .i64 (g:Int)))(Z:g<=1000000000)(F:γ≠g)(J:γ≠g-1∨γ<0):Calls prog 64 #[.pointer (some ⟨b,0,none⟩),.int .i64 (i:Int),sv,.int .i64 γ] w λe w'=>e=.returned (.tuple #[.bool false,.nilIface])/\Below w.heap.size w w':=by
 have e1:(γ==(g:Int))=false:=by rw[beq_eq_false_iff_ne];exact F
 have e2:IntKind.i64.wrap ((g:Int)-1)=(g:Int)-1:=Z5x _ (by omega);by_cases C:γ=g-1
 .have O:γ<0:=J.resolve_left (λh=>h C);have U:decide (γ<0)=true:=by simpa using O
  have M:(γ !=(g:Int)-1)=false:=by simp[C]
  clear F J C;go_enter func64,ntmps64;go_wp2;go_quiet (fail);go_wp2;go_ret2;exact⟨rfl,Zv Z5E _⟩
 .have M:(γ !=(g:Int)-1)=true:=by simp[C]
  clear F J C;go_enter func64,ntmps64;go_wp2;go_quiet (fail);go_wp2;go_ret2;exact⟨rfl,Zv Z5E _⟩
theorem Ob(b s i g:Nat)(gone:List Bs)(w:World)(bh:g+1<=1000000000)(bj:gone.length<=1000)(c3:w.cell? ⟨b,3,none⟩=some (.int .i64 ((g+1:Nat):Int)))(U:∀x:World,(x.cell? ⟨b,3,none⟩=some (.int .i64 ((g+1:Nat):Int))/\Below w.heap.size w x)->Calls prog 63 #[.pointer (some ⟨b,0,none⟩),.pointer (some ⟨s,0,none⟩),.string ⟨#[110]⟩,.int .i64 (i:Int)] x λe Z=>e=.returned (.int .i64 ((g+1:Nat):Int))/\Below x.heap.size x Z)(ag:∀x:World,Below w.heap.size w x->Calls prog 110 #[.pointer (some ⟨s,0,none⟩),.string ⟨#[116]⟩,.string ⟨#[116]⟩] x λe Z=>∃a cap,e=.returned (.tuple #[.slice a (gone.length+1) cap,.nilIface])/\Z.ownsRow x.heap.size 9 1 (.slice a (gone.length+1) cap) (gone.length+1) (Z7 ((Z4 (g+1)::gone).map str))/\Below x.heap.size x Z){R:Value->World->Prop}(ae:∀ (x:World) (gv:Value),Below w.heap.size w x->(∃a cap,gv=.slice a gone.length cap/\Zx x a (gone.map str)/\∀g o,a=some ⟨g,o,none⟩->g<x.heap.size)->Calls prog 41 #[.pointer (some ⟨s,0,none⟩),gv] x λe w'=>∃ev,e=.returned ev/\R ev w'):Calls prog 64 #[.pointer (some ⟨b,0,none⟩),.int .i64 (i:Int),.pointer (some ⟨s,0,none⟩),.int .i64 (g:Int)] w λe w'=>∃ev,e=.returned (.tuple #[.bool true,ev])/\R ev w':=by
 have aj:Yw (s32 (g+1)).data.toList=g+1:=by have h9:=CO (g+1) [];rw[Z5C] at h9;have e9:(s32 (g+1)).data.toList=Z4 (g+1):=rfl;rw[e9,h9];omega
 have ak:(s32 (g+1)).size=4:=Y3 (g+1);have b7:decide ((g:Int)=((g+1:Nat):Int))=false:=by rw[decide_eq_false_iff_not];omega
 have b8:IntKind.i64.wrap (((g+1:Nat):Int)-1)=(g:Int):=by rw[Z5x _ (by omega)];omega
 have bu:decide ((g:Int)<0)=false:=by simp
 obtain⟨q,hq⟩:∃q:Int,((g+1:Nat):Int)=q:=⟨_,rfl⟩;have au:((g:Int)==((g+1:Nat):Int))=false:=by rw[beq_eq_false_iff_ne];omega
 simp only[hq] at c3 U b7 b8 au;have U:=Z5F U;have ag:=Z5F ag;have ae:=Z5F ae;have HQ:=Z5K hq aj ak;clear hq aj ak;go_enter func64,ntmps64;have h:∀A C:World,(A.cell? ⟨b,3,none⟩=some (.int .i64 q)/\Below w.heap.size w A)->Below A.heap.size A C->(C.cell? ⟨b,3,none⟩=some (.int .i64 q)/\Below w.heap.size w C):=by rintro A C ⟨M,O⟩ hb;exact⟨(hb.cell (Z5b A _ M)).trans M,O.trans (hb.mono O.size)⟩
 have hs0:=h w w.drew ⟨c3,Z5E⟩ (Z5E.drew);have F:=Z5F h;clear h;go_wp2;go_region_held3 (λx=>x.cell? ⟨b,3,none⟩=some (.int .i64 q)/\Below w.heap.size w x) (first|exact hs0|(exact F.out _ _ (by assumption) (Z5E.alloc Z5D _))|(exact F.out _ _ (by assumption) (by assumption)))
  (first|(go_at_call 63;refine(U.out _ (by assumption)).mono ?_;rintro e w8 ⟨rfl,b9⟩))
 rename_i hHeld;obtain⟨h3,J⟩:=hHeld;clear hs0 F;go_wp2_with (go_at_call 110;refine(ag.out _ J).mono ?_;rintro e w1 ⟨a,cap,rfl,ah,af⟩;obtain⟨gl,aq,sp,hv,az,aw,bg,hr⟩:=Qs ah (by omega);injection hv with hv1 hv2 al;subst hv1;have S9:gone.length+1<=cap:=(by cases al;exact aw);have S1:=Z5K hr (J.trans (af.mono J.size)) ah;have d3:w1.cell? ⟨b,3,none⟩=some (.int .i64 q):=(af.cell (Z5b _ _ h3)).trans h3;clear ah af hr al);have d0:w1.cell? ⟨gl,0,none⟩=some (.string (s32 (g+1))):=S1.out.1.cell (j:=0) rfl;have h:∀A C:World,(A.cell? ⟨b,3,none⟩=some (.int .i64 q)/\A.cell? ⟨gl,0,none⟩=some (.string (s32 (g+1)))/\Below w1.heap.size w1 A)->Below A.heap.size A C->(C.cell? ⟨b,3,none⟩=some (.int .i64 q)/\C.cell? ⟨gl,0,none⟩=some (.string (s32 (g+1)))/\Below w1.heap.size w1 C):=by rintro A C ⟨M,h1,O⟩ hb;exact⟨(hb.cell (Z5b A _ M)).trans M,(hb.cell (Z5b A _ h1)).trans h1,O.trans (hb.mono O.size)⟩
 have hs0:=h w1 w1.drew ⟨d3,d0,Z5E⟩ (Z5E.drew);have F:=Z5F h;have bm:¬ ((gone.length:Int)+1<1):=by omega
 have bq:(0:Int)<((gone.length+1:Nat):Int):=by omega
 clear h h3 J;go_wp2;go_region_held3 (λx=>x.cell? ⟨b,3,none⟩=some (.int .i64 q)/\x.cell? ⟨gl,0,none⟩=some (.string (s32 (g+1)))/\Below w1.heap.size w1 x) (first|exact hs0|(exact F.out _ _ (by assumption) (Z5E.alloc Z5D _))|(exact F.out _ _ (by assumption) (by assumption)))
  (first|(go_at_call 111;refine(Dl (s32 (g+1)) HQ.out.2.2 _).mono ?_;rw[HQ.out.2.1,HQ.out.1];rintro e w9 ⟨rfl,bf⟩))
 rename_i hHeld;obtain⟨-, -,J⟩:=hHeld;have ai:=Z5F J;clear J hs0 F;go_wp2_with (go_at_call 41;obtain⟨x1,x2⟩:=Z3X (r:=gone.map str) S1.out.1 (by simpa using S9) ai.out;refine(ae.out _ _ (S1.out.2.1.trans (ai.out.mono S1.out.2.1.size)) ⟨_,_,rfl,x1,x2⟩).mono ?_;rintro e w' ⟨ev,rfl,hR⟩;have HR:=Z5F hR;clear hR x1 x2)
 all_goals go_ret2
 all_goals exact⟨ev,rfl,HR.out⟩
