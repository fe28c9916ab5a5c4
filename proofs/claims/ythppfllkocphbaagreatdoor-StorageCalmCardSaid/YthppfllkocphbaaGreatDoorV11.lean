/- Part 12: lemmas. -/
import Derived.Deep.Grids
import Derived.Test.YthppfllkocphbaaGreatDoorV10
namespace Go.Proofs.YthppfllkocphbaaGreatDoor
set_option linter.all false
set_option maxHeartbeats 25600000
set_option maxRecDepth 100000
open Tryz
open Go renaming World->Qs,Value->Qt,TypeId->Qu,Ending->Qv
open Go.RowKit Go.Shelf Go.Sort
variable{bs gl k m n:Nat}{lv:Value}{os:Array Obj}{w w' wr:World}
theorem O7:∀ (a b:Bs),Lib.compareBytes a b<0↔a<b
 |[],[]=>by simp[Lib.compareBytes]
 |[],b::s=>by simp[Lib.compareBytes]
 |a::r,[]=>by simp[Lib.compareBytes]
 |a::r,b::s=>by
  unfold Lib.compareBytes;rw[List.cons_lt_cons_iff];by_cases h:a<b
  .grind
  .rw[Zw h];by_cases C:b<a
   .grind
   .rw[Zw C,O7 r s];grind
abbrev El:=Chg×(Qm×Nat×Nat)
instance:Inhabited El:=⟨(⟨[],none⟩,none,0,0)⟩
def elC(x:El):Qk:=[.string (str x.1.key),.int .i64 ((x.1.val.getD []).length:Int),.slice x.2.1 x.2.2.1 x.2.2.2]
def Fi(x y:El):Int:=Lib.compareBytes x.1.key y.1.key
theorem Z1e:SWO (ltOf Fi):=by
 have:∀x y:El,ltOf Fi x y=decide (x.1.key<y.1.key):=λx y=>by exact decide_eq_decide.2 (O7 _ _)
 refine⟨λx=> ?_,λx y z C F=> ?_,λx y z C F=> ?_⟩
 .simp_all
 .grind
 .grind
def apC(c:Chg):Qk:=[.string (str c.key),.string (str (c.val.getD [])),.bool c.val.isNone]
def BQ(w:Qs)(gc:Nat)(cs:List Chg):Prop:=gc<w/\∀q (h:q<cs.length),w.cell? ⟨gc,q*3,none⟩=some (.string (str cs[q].key))/\w.cell? ⟨gc,q*3+1,none⟩=some (.string (str (cs[q].val.getD [])))/\w.cell? ⟨gc,q*3+2,none⟩=some (.bool cs[q].val.isNone)
def Z3p(bx:Nat)(key:Bs)(x:Chg)(W:Qs)(hb:W.cell? bx=key):Calls prog 74 #[.agg (apC x).toArray,bx] W λe w'=>e=.returned (.bool (x.key==key))/\Below W W w':=by
 have⟨h,C⟩:=x;have:(W.alloc (.cells #[h,.string (str (C.getD [])),C.isNone] 68)).cell? bx=key:=by have F:=(Zu W W).alloc (Zt _) (.cells #[h,.string (str (C.getD [])),C.isNone] 68);exact(F.cell (Z9 W _ hb)).trans hb
 unfold apC;go_enter func74,ntmps74;go_wp2;go_ret;refine⟨?_,(Zu _ _).alloc (Zt _) _⟩;have:((str h).toList==(str key).toList)=(h==key):=by rw[Zeb,Zeb,Yp,Yp]
 simp_all
def Z2n(W:Qs)(a b:Obj):(W.alloc a).alloc b=Go.Sort.grow (W.drewN 0) #[a,b]:=by rfl
def Z3q(x y:El)(W:Qs):Calls prog 77 #[.agg (elC x).toArray,.agg (elC y).toArray] W λe w'=>e=.returned (Fi x y:Int)/\∃q h,w'=Go.Sort.grow (W.drewN q) h:=by unfold elC Fi;go_enter func77,ntmps77;go_wp2_with (go_at_call 78;refine(Tryz.strings_Compare _ _ _).mono ?_;rw[Yp,Yp];rintro e w1 ⟨rfl,rfl⟩);go_ret;exact⟨rfl,0,_,Z2n _ _ _⟩
theorem Km(gc C q n cap bx:Nat)(cs:List Chg)(c:Chg)(W:Qs)(Z:C=q*3∨q=cs.length)(F:W.cell? bx=some (.string (str c.key)))(J:BQ W gc cs)(hq:q<=cs.length)(hn:n=cs.length-q)(hl:cs.length<=1000):Calls prog 32 #[.slice (some ⟨gc,C,none⟩) n cap,.func (.func 74) #[] #[.pointer bx]] W λe w'=>e=.returned (.bool (later c (cs.drop q)))/\Below W W w':=by
 have:Inhabited Chg:=⟨⟨[],none⟩⟩;have O:=Tryz.slices_ContainsFunc (α:=Chg) 3 (λw=>Qy) (λw=>Qy) apC (λx=>rfl) (λo=>o.key==c.key) 74 #[.pointer bx] (λargs w=>Qy) gc C n cap (cs.drop q) W (λM x hb=> ?_) QB Qw J.1 (λj U i v hv=> ?_)
 .go_fit O;rintro e w' ⟨rfl,hb⟩;refine⟨?_,hb⟩;rw[Zi QB];rfl
 .exact(Z3p bx c.key x M ((hb.cell (Z9 W _ F)).trans F)).mono λe w' h=>⟨h.1,hb.trans (h.2.mono hb.size)⟩
 .rw[Zek] at U;have⟨h1,h2,h3⟩:=J.2 (q+j) Qw;unfold apC at hv;grind
def XY(w:Qs)(bs k m:Nat)(x:El):Prop:=match x.1.val with
 |none=>x.2=(none,0,0)
 |some v=>∃g c,x.2=(some ⟨g,0,none⟩,k+m,c)/\bs<=g/\g<w.heap.size/\∀i,i<k+m->w.cell? ⟨g,i,none⟩=some (.string (str (shT k m v i)))
def XY.keep{x:El}(h:XY w bs k m x)(M:∀g,bs<=g->g<w.heap.size->(∃i v,w.cell? ⟨g,i,none⟩=some (.string v))->w'.heap[g]? =w.heap[g]?)(hs:w<=w'.heap.size)(O:1<=k+m):XY w' bs k m x:=by
 unfold XY at h⊢;cases hv:x.1.val with
 |none=>rw[hv] at h;exact h
 |some v=>rw[hv] at h;have⟨g,c,e,C,J,F⟩:=h;have hb:=M g C J ⟨0,_,F 0 Qw⟩;refine⟨g,c,e,C,Qw,λi hi=> ?_⟩;have:=F i hi;unfold World.cell? at this⊢;simp_all
def XY.after{x:El}(h:XY w bs k m x)(hb:Below w w w')(C:1<=k+m):XY w' bs k m x:=h.keep (λg _ F _=>hb.block g F) hb.size C
structure LaS(w:Qs)(k m:Nat)(lv:Qt)(P:List El)(wr:Qs):Prop where
 own:wr.ownsRow w 98 3 lv P.length (P.flatMap elC)
 els:∀x∈P,XY wr w k m x
 ne:∀x∈P,∀g n c,x.2=(some ⟨g,0,none⟩,n,c)->g∉QV lv
 bel:Below w w wr
def LaS.after{P:List El}(h:LaS w k m lv P wr)(hb:Below wr wr w')(C:1<=k+m):LaS w k m lv P w':=⟨Jr h.own hb,λx hx=>(h.els x hx).after hb C,h.ne,h.bel.trans (hb.mono h.bel.size)⟩
theorem XY.lt{x:El}(h:XY w bs k m x){g n c:Nat}(e:x.2=(some ⟨g,0,none⟩,n,c)):g<w:=by unfold XY at h;grind
theorem LaS.put{J:Qt}{P:List El}{x:El}(h:LaS w k m lv P wr)(hx:XY wr w k m x)(af:∀g n c,x.2=(some ⟨g,0,none⟩,n,c)->g∉QV lv)(ho:w'.ownsRow w 98 3 J (P.length+1) (P.flatMap elC++elC x))(M:Fr (QV lv) wr w')(ae:∀q∈QV J,q∈QV lv∨wr.heap.size<=q)(h1:1<=k+m):LaS w k m J (P++[x]) w':=by
 have O:∀y∈P++[x],XY wr w k m y/\∀g n c,y.2=(some ⟨g,0,none⟩,n,c)->g∉QV lv:=λy C=>by
  rcases Zj.1 C with C|C
  .exact⟨h.els y C,h.ne y C⟩
  .grind
 refine⟨?_,λy C=> ?_,λy C g n c e hm=> ?_,h.bel.trans (M.below h.bel.size (Ai h.own))⟩
 .simp_all
 .have⟨F,U⟩:=O y C;unfold XY at F⊢;cases hv:y.1.val with
  |none=>rw[hv] at F;exact F
  |some v=>rw[hv] at F;have⟨g,c,e,k2,Z,k4⟩:=F;have hb:=M.block g Z (U g _ c e);refine⟨g,c,e,k2,Zp Z M.size,λi hi=> ?_⟩;have:=k4 i hi;unfold World.cell? at this⊢;simp_all
 .have⟨F,U⟩:=O y C;have:=F.lt e;grind
def Z60(w:Qs)(e1 e2:Qu)(c1:Array Qt)(l:Qk):Row ((w.alloc (.cells c1 e1)).alloc (.cells l.toArray e2)) (w.heap.size+1) e2 l:=by have:=Z2 (w.alloc (.cells c1 e1)) e2 l;simp_all
def CA{p:Addr}{v:Qt}(h:w.cell? p=some v)(o:Obj):(w.alloc o).cell? p=some v:=(((Zu w w).alloc (Zt _) o).cell (Z9 w _ h)).trans h
def LR{g c H:Nat}(C:lv.ownBlock=some g∨g=H):∀q∈QV (Value.slice g n c),q∈QV lv∨H<=q:=λq h=>by
 rw[YV] at h;simp[Value.ownBlock] at h;subst h;rcases C with h9|h9
 .exact Zv (YV.2 h9)
 .omega
def LaS.lts{P:List El}(h:LaS w k m lv P wr):(∀q∈QV lv,q<wr.heap.size)/\∀x∈P,∀g n c,x.2=(some ⟨g,0,none⟩,n,c)->g<wr.heap.size:=⟨λq C=>by have⟨l,hl⟩:=YS h.own q C;exact hl.lt,λx hx g n c e=>(h.els x hx).lt e⟩
theorem LaS.set{P:List El}(h:LaS w k m lv P wr){xb:Nat}(Z:∀q∈QV lv,q<xb)(h2:∀x∈P,∀g n c,x.2=(some ⟨g,0,none⟩,n,c)->g<xb)(M:w<=xb)(o:Nat)(v:Qt):LaS w k m lv P (wr.setCell ⟨xb,o,none⟩ v):=by
 have F:Fr [xb] wr (wr.setCell ⟨xb,o,none⟩ v):=(Fr.refl _ _).setCell (Zv Qx) _;refine⟨JY h.own F (λq hq hm=> ?_),λx hx=> ?_,h.ne,h.bel.trans (F.below h.bel.size (λi hi=>by rw[Z6] at hi;subst hi;exact M))⟩
 .grind
 .have C:=h.els x hx;unfold XY at C⊢;cases hv:x.1.val with
  |none=>rw[hv] at C;exact C
  |some v=>rw[hv] at C;have⟨g,c,e,O,J,U⟩:=C;have hb:=F.block g J QA;refine⟨g,c,e,O,Zp J F.size,λi hi=> ?_⟩;have:=U i hi;unfold World.cell? at this⊢;simp_all
def Z1d{xb h sc:Nat}{ck v:Bs}(hs:Y9 wr (some ⟨h,0,none⟩) (Y5 k m (str v)))(J:w<=h)(hx:xb<h)(M:1<=k)(u:Qt):XY (wr.setCell ⟨xb,2,none⟩ u) w k m (⟨ck,some v⟩,some ⟨h,0,none⟩,k+m,sc):=by
 have key:∀i,i<k+m->wr.cell? ⟨h,i,none⟩=some (.string (str (shT k m v i))):=λi hi=>by have⟨g,o,e,hc⟩:=hs i (by rw[BL];exact hi);obtain⟨rfl,rfl⟩:=e;rw[Ze5] at hc;rw[hc];have:(Y5 k m (str v)).getD i ⟨#[]⟩=(Y5 k m (str v))[i]'(QA):=QA;rw[<-this];rfl
 have F:Fr [xb] wr (wr.setCell ⟨xb,2,none⟩ u):=(Fr.refl _ _).setCell (Zv Qx) _;have C:=Z9 wr _ (key 0 Qw);have hb:=F.block h C QA;refine⟨h,sc,rfl,J,Zp C F.size,λi hi=> ?_⟩;have:=key i hi;unfold World.cell? at this⊢;simp_all
def Ou(P:List El):(P.flatMap elC).length=P.length*3:=by
 induction P with
 |nil=>rfl
 |cons x r ih=>rw[Zm,Zb,ih];simp[elC];omega
theorem Z1b(P:List El):∀ (q:Nat) (h:q<P.length) (r:Nat),r<3->(P.flatMap elC)[q*3+r]? =(elC P[q])[r]?:=by
 induction P with
 |nil=>intro q h;simp at h
 |cons x l ih=>
  intro q h r C;rw[Zm]
  match q,h with
  |0,_=>rw[Za (by simp[elC];omega)];simp
  |q+1,h=>
   rw[ZdD (by simp[elC];omega)];have:(q+1)*3+r- (elC x).length=q*3+r:=by simp[elC];omega
   grind
def Z1c{P:List El}{sp:Qk}(h:Row w gl 98 (P.flatMap elC++sp)):HoldsK elC 3 w gl 0 P.toArray:=by
 intro j C;rw[size_flatK] at C;have F:j<P.length*3:=Qw;have M:j / 3<P.length:=Qw;rw[get_flatK _ _ _ _ C];have e1:(P.toArray)[j / 3]! =P[j / 3]:=QA;have e2:=Z1b P (j / 3) M (j%3) Qw;rw[show j / 3*3+j%3=j from Qw] at e2;have J:(elC P[j / 3])[j%3]? =some ((elC P[j / 3])[j%3]!):=by
  have:j%3<(elC P[j / 3]).length:=by show j%3<3;omega
  simp_all
 rw[J] at e2;refine⟨?_,h.free (by rw[Zb,Ou];omega)⟩;rw[e1,Ze5];exact h.cell (by rw[Za (by rw[Ou];exact F)];exact e2)
theorem Z78{d:Array El}:Fr [gl] w (sortWorldK elC 3 w gl 0 n d os):=by
 refine⟨rfl,rfl,rfl,?_,λk C h=> ?_⟩
 .simp[sortWorldK,putRowK,Go.Sort.mapBlock]
 .unfold sortWorldK putRowK;rw[Go.Sort.heap_grow_old _ _ QB];show(w.heap.modify gl (Go.Sort.onCells (Go.Sort.putCells id 0 (flatK elC 3 d))))[k]? =_;grind
def Z77{d h:Array El}(F:HoldsK elC 3 w gl 0 d)(hs:h.size=d.size)(M:gl<w){q r:Nat}(O:q<h.size)(U:r<3):(sortWorldK elC 3 w gl 0 n h os).cell? ⟨gl,q*3+r,none⟩=some ((elC h[q]!)[r]!):=by unfold sortWorldK putRowK;rw[Go.Sort.cell?_grow _ _ _ QB];have C:=Go.Sort.cell?_putRow id (Go.Sort.ahead w n) gl 0 (flatK elC 3 d) (flatK elC 3 h) (λj J=>F j J) QB (q*3+r) (by rw[size_flatK];omega);rw[Ze5] at C;rw[C,get_flatK _ _ _ _ Qw,show(q*3+r) / 3=q from Qw,show(q*3+r)%3=r from Qw];rfl
def Z7a{cl:Nat}{P:List El}{h:Array El}(C:LaS w k m (.slice gl P.length cl) P wr)(O:w<=gl)(af:gl<wr)(hH:HoldsK elC 3 wr gl 0 P.toArray)(U:PermIn 0 P.length P.toArray h):(h.toList.map (·.1)).Perm (P.map (·.1))/\(h.toList.map (·.1)).length=P.length/\XX (sortWorldK elC 3 wr gl 0 n h os) w k m gl (h.toList.map (·.1))/\Below w w (sortWorldK elC 3 wr gl 0 n h os):=by
 have ai:h.size=P.length:=by have Z:=U.1;simpa using Z
 have ae:h.toList.Perm P:=by have Z:=U.2.2;have:h.extract 0 P.length=h:=QB;simp_all
 have hf:Fr [gl] wr (sortWorldK elC 3 wr gl 0 n h os):=Z78;refine⟨ae.map _,by rw[Zf,Array.length_toList,ai],⟨O,λq hq=> ?_⟩,C.bel.trans (hf.below C.bel.size (λi hi=>by rw[Z6] at hi;subst hi;exact O))⟩;have ah:q<h.size:=QB;have hc:∀r,r<3->(sortWorldK elC 3 wr gl 0 n h os).cell? ⟨gl,q*3+r,none⟩=some ((elC h[q]!)[r]!):=λr hr=>Z77 hH Qw af ah hr;have hx:(h.toList.map (·.1))[q]=(h[q]!).1:=QB;have F:h[q]!∈P:=QA;have⟨x,aj⟩:=ZK h[q]!;rw[aj] at hc hx F;have J:=C.els x F;have ag:=C.ne x F;rw[hx];refine⟨hc 0 Qw,hc 1 Qw,?_⟩;have M:=hc 2 Qw;have e2:(elC x)[2]! =.slice x.2.1 x.2.2.1 x.2.2.2:=rfl;rw[e2] at M;unfold XY at J;cases hv:x.1.val with
 |none=>simp_all
 |some v=>rw[hv] at J;have⟨g,c,e,k2,k3,k4⟩:=J;have:g≠gl:=λe9=>ag g _ c e (by rw[YV,e9];rfl);rw[e] at M;refine⟨g,0,c,M,k2,λi hi=> ?_⟩;have h4:=k4 i hi;have:=hf.block g k3 QB;unfold World.cell? at h4⊢;simp_all
def Z3w(cs:List Chg)(q:Nat)(h:q<cs.length):Wk (cs.drop q)=if later cs[q] (cs.drop (q+1))=true then Wk (cs.drop (q+1)) else cs[q]::Wk (cs.drop (q+1)):=by rw[Ze1 h];rfl
def Z1g(b k m gc cap n:Nat)(cs:List Chg)(w:Qs)(cy:1<=k)(fh:k+m<=16)(c0:w.cell? b=(k:Int))(c1:w.cell? ⟨b,1,none⟩=(m:Int))(hr:BQ w gc cs)(hn:n=cs.length)(hl:n<=12)(cz:cs≠[])(dx:n<=cap)(hv:∀c∈cs,∀v,c.val=some v->v.length<=200):Calls prog 36 #[b,.slice gc n cap] w λe w'=>∃gl cl l,l.Perm (Wk cs)/\e=.returned (.tuple #[.slice (gl:Nat) l.length cl,.nilIface])/\XX w' w k m gl l/\l.length<=cl/\Below w w w':=by
 have I0:LaS w k m (.slice none 0 0) [] w:=⟨ZA _ _ _ _,λx hx=>absurd hx ZdG,λx hx=>absurd hx ZdG,Zu _ _⟩;have H:=ZZ I0 hr hv hn cz;have HC:=ZM c0 c1;clear I0 hr hv hn cz c0 c1;go_enter func36,ntmps36;go_wp2;go_loopw [6,13] (λlv kv wr=>∃ (q:Nat) (P:List El),q<=n/\kv=(q:Int)/\LaS w k m lv P wr/\P.map (·.1)++Wk (cs.drop q)=Wk cs) (λ_ kv _=>n- (intOf kv).toNat)
 .exact⟨0,[],Qw,rfl,H.1,rfl⟩
 obtain⟨q,P,hq,rfl,hS,hL⟩:=hrel;have HS:=ZM hS hL;by_cases ef:q<n
 .have aj:q<cs.length:=by rw[<-H.4];exact ef
  obtain⟨a1,a2,a3⟩:=(H.2.2 q aj);have ae:∀{p:Addr} {v:Qt},w.cell? p=some v->wr.cell? p=some v:=λh=>(hS.bel.cell (Z9 w _ h)).trans h;have a1:=ae a1;have a2:=ae a2;have a3:=ae a3;have bz:=H.3 _ (Zl aj);have bu:=Z3w cs q aj;obtain⟨c,hc⟩:=ZK cs[q];rw[hc] at a1 a2 a3 bz bu;have fe:(q:Int)<(n:Int):=Qw;have dz:(q:Int)+1<=(n:Int):=Qw;have U:=ZI H.4;have ai:cs.length<=1000:=by have F:=U.o;omega
  obtain⟨L,bj⟩:=ZK (c.val.getD []).length;have az:(str (c.val.getD [])).size=L:=by rw[QW,bj]
  have aw:=Z2 wr 68 [.string (str c.key),.string (str (c.val.getD [])),.bool c.val.isNone];have au:Below w w (wr.alloc (.cells #[.string (str c.key),.string (str (c.val.getD [])),c.val.isNone] 68)):=hS.bel.trans (((Zu wr wr).alloc (Zt _) _).mono hS.bel.size);have ct:=hS.after ((Zu wr wr).alloc (Zt _) (.cells #[.string (str c.key),.string (str (c.val.getD [])),c.val.isNone] 68)) Qw;have de:BQ (wr.alloc (.cells #[.string (str c.key),.string (str (c.val.getD [])),c.val.isNone] 68)) gc cs:=by refine⟨Zp H.2.1 au.size,λq' ek=> ?_⟩;obtain⟨b1,b2,b3⟩:=H.2.2 q' ek;exact⟨(au.cell (p:=⟨gc,q'*3,none⟩) H.2.1).trans b1,(au.cell (p:=⟨gc,q'*3+1,none⟩) H.2.1).trans b2,(au.cell (p:=⟨gc,q'*3+2,none⟩) H.2.1).trans b3⟩
  have C:=ZO aw ct de hL;have HV:=ZN bz bu bj;obtain⟨bx,cu⟩:=ZK wr.heap.size;rw[cu] at C;have eu:=ZI cu;clear hS hL ae hc aw au ct de bz bu bj;obtain⟨so,aq,fg⟩:∃so,(so=(q+1)*3∨q+1=cs.length)/\(if cap=q+1 then(some ⟨gc,0,none⟩:Qm) else some ⟨gc,(q+1)*3,none⟩)=some ⟨gc,so,none⟩:=by
   by_cases F:cap=q+1
   .exact⟨0,Zy (by have h8:=U.o;omega),by rw[Zx F]⟩
   .exact⟨(q+1)*3,Zv rfl,by rw[Zw F]⟩
  have ah:=ZI aq;clear aq;cases Z:later c (cs.drop (q+1)) with
  |true=>
   go_wp2_with (go_at_call 32;refine(Km gc so (q+1) _ _ bx cs c _ ah.o C.1.c0 C.2.2.1 (by have F:=U.o;omega) (by have F:=U.o;omega) ai).mono ?_;rw[Z];rintro e w2 ⟨rfl,M⟩;have R2:=ZI (C.2.1.after M Qw);clear M)
   all_goals go_roundw
   .exact⟨q+1,P,Qw,QC,R2.o,by rw[<-C.2.2.2,HV.2.1,Z];rfl⟩
   simp[intOf];omega
  |false=>
   have ak:P.map (·.1)++(c::Wk (cs.drop (q+1)))=Wk cs:=by rw[<-C.2.2.2,HV.2.1,Z];rfl
   have ez:P.length<=1000:=by have h1:=Lf cs;rw[<-ak,Zb,Zf] at h1;have F:=U.o;omega
   obtain⟨ck,cv⟩:=c;simp only at C HV az Z ak;cases cv with
   |none=>
    simp only[ZgQ,Zes,Option.isNone_none] at C HV az Z;obtain rfl:L=0:=HV.2.2.symm;have bg:=ZI ak;clear ak;go_wp2_with (first|(go_at_call 32;refine(Km gc so (q+1) _ _ bx cs ⟨ck,none⟩ _ ah.o C.1.c0 C.2.2.1 (by have F:=U.o;omega) (by have F:=U.o;omega) ai).mono ?_;rw[Z];rintro e w2 ⟨rfl,M⟩;have J:=C.1.after M;have y0:=J.c0;have y1:=J.c1;have y2:=J.c2;have dp:=λo=>CA y0 o;have cr:=λo=>CA y1 o;have dq:=λo=>CA y2 o;have s2:=C.2.1.after M Qw;have R2:=ZM s2 J.lt;clear M J s2;have s3:=R2.1.after (((Zu w2 w2).alloc (Zt _) (.cells #[ck,(0:Int),()] 98)).alloc Qx (.cells #[ck,(0:Int),()] 98)) Qw;have R3:=ZI s3;clear s3)|(at_builtin;refine Bg _ rfl (.tmp 51) (.tmp 53) 83 98 rfl underlying83 NZ rfl Qw Qw w.heap.size _ P.length (P.flatMap elC) rfl R3.o.own (w2.heap.size+1) 1 (elC (⟨ck,none⟩,none,0,0)) rfl Qw Qw rfl (Z60 w2 _ _ _ _) (by simp[elC,Value.oneCell']) R3.o.bel.size Qw ?_;intro g4 bh w4 ho hf ay _ _;have s4:=R3.o.put (x:=(⟨ck,none⟩,none,0,0)) rfl (λg n c e=>by cases e) ho hf (LR ay) Qw;have R4:=ZI s4;clear ho hf ay s4));go_roundw
    .exact⟨q+1,_,Qw,QC,R4.o,by rw[Zo,Zd,Zn,Zf9,Zf7];exact bg.o⟩
    simp[intOf];omega
   |some v=>
    simp only[Ze7,Option.isNone_some] at C HV az Z;have dh:=HV.1 v rfl;obtain rfl:v.length=L:=HV.2.2;have cw:=λW=>Z1l k m (str v) W cy Qw (by rw[QW];omega);have dt:=ZI cw;have bg:=ZI ak;have fa:=C.2.1.bel;clear ak cw;go_wp2_with (first|(go_at_call 32;refine(Km gc so (q+1) _ _ bx cs ⟨ck,some v⟩ _ ah.o C.1.c0 C.2.2.1 (by have F:=U.o;omega) (by have F:=U.o;omega) ai).mono ?_;rw[Z];rintro e w2 ⟨rfl,M⟩;have J:=C.1.after M;have y0:=J.c0;have y1:=J.c1;have y2:=J.c2;have dp:=λo=>CA y0 o;have cr:=λo=>CA y1 o;have dq:=λo=>CA y2 o;have s2:=C.2.1.after M Qw;have d0:=(s2.bel.cell (Z9 w _ HC.1)).trans HC.1;have d1:=(s2.bel.cell (Z9 w _ HC.2)).trans HC.2;have s3:=s2.after ((Zu w2 w2).alloc (Zt _) (.cells #[ck,(v.length:Int),()] 98)) Qw;have rx:=Z2 w2 98 [.string (str ck),.int .i64 (v.length:Int),.slice none 0 0];have ew:=CA d0 (.cells #[ck,(v.length:Int),()] 98);have ey:=CA d1 (.cells #[ck,(v.length:Int),()] 98);have y9:=cr (.cells #[ck,(v.length:Int),()] 98);have R2:=ZP s3 rx s2.lts s2.bel.size (Zt (w2.heap.size+1));have dj:w2.heap.size<(w2.alloc (.cells #[ck,(v.length:Int),()] 98)).heap.size:=Qx;have RZ:=ZI dj;clear M J s2 s3 rx d0 d1 dj));obtain⟨xb,cj⟩:=ZK w2.heap.size;have bq:=ZJ R2.o RZ.o;rw[cj] at bq;rw[cj];clear R2 RZ dp cr dq y0 y1 y2;generalize w2.alloc (.cells #[ck,(v.length:Int),()] 98)=wa at*
    have ag:=ZI bq;clear bq cj;go_region_with (go_at_call 75;refine(dt.o _).mono ?_;rintro e w5 ⟨O,sc,rfl,⟨df,eo,er⟩,hsg,hb5⟩;have r5:=(ag.1.2.1.drew).after hb5;have x2:=r5.c2;have f2:=r5.free (j:=2) Qx;have cn:xb<O:=Zp ag.2 hsg;have s5:=((ag.1.1.after ((Zu wa wa).drew) Qw).after hb5 Qw).set ag.1.2.2.1.1 ag.1.2.2.1.2 ag.1.2.2.2.1 2 (.slice O (k+m) sc);have e5:=Z1d (w:=w) (xb:=xb) (sc:=sc) (ck:=ck) df (Zq ag.1.2.2.2.1 (ZeK cn)) cn cy (.slice O (k+m) sc);have r6:=r5.set 2 (.slice O (k+m) sc);have z0:=r6.c0;have z1:=r6.c1;have z2:=r6.c2;have dm:(∀g n c,((⟨ck,some v⟩,some ⟨O,0,none⟩,k+m,sc):El).2=(some ⟨g,0,none⟩,n,c)->g∉QV u6):=(λg n c e hm=>(by have F:=ag.1.2.2.1.1 g hm;simp only[ZfI,ZdC,Zh4,and_true] at e;omega));have R5:=ZX s5 e5 dm;clear df eo er hsg hb5 r5 r6 cn s5 e5 dm)
    all_goals clear x2 f2
    all_goals generalize w5.setCell ⟨xb,2,none⟩ (.slice O (k+m) sc)=w6 at*
    all_goals have s7:=R5.1.after ((Zu w6 w6).alloc (Zt _) (.cells #[ck,(v.length:Int),.slice O (k+m) sc] 98)) Qw
    all_goals have e7:=R5.2.after ((Zu w6 w6).alloc (Zt _) (.cells #[ck,(v.length:Int),.slice O (k+m) sc] 98)) Qw
    all_goals have R7:=ZM s7 e7
    all_goals clear s7 e7
    all_goals go_wp2_with (at_builtin;refine Bg _ rfl (.tmp 51) (.tmp 53) 83 98 rfl underlying83 NZ rfl Qw Qw w.heap.size _ P.length (P.flatMap elC) rfl R7.1.own w6.heap.size 1 (elC (⟨ck,some v⟩,some ⟨O,0,none⟩,k+m,sc)) rfl Qw Qw rfl (Z2 w6 _ _) (by simp[elC,Value.oneCell']) R7.1.bel.size Qw ?_;intro g4 bh w4 ho hf ay _ _;have s4:=R7.1.put (x:=(⟨ck,some v⟩,some ⟨O,0,none⟩,k+m,sc)) R7.2 R5.3 ho hf (LR ay) Qw;have R4:=ZI s4;clear ho hf ay s4)
    all_goals go_roundw
    all_goals first
     |exact⟨q+1,_,Qw,QC,R4.o,by rw[Zo,Zd,Zn,Zf9,Zf7];exact bg.o⟩
     |(simp[intOf];omega)
 .obtain rfl:q=n:=by omega
  have bf:P.map (·.1)=Wk cs:=by have F:=hL;rw[H.4,Zg4] at F;simpa[Wk] using F
  have dw:0<P.length:=by
   have h1:(Wk cs).length≠0:=by
    have h2:∀l:List Chg,l≠[]->(Wk l).length≠0:=λl=>by
     induction l with
     |nil=>intro h;exact absurd rfl h
     |cons a r ih=>
      intro _;unfold Wk;split
      .rename_i hl;refine ih (λe=> ?_);rw[e] at hl;simp[later] at hl
      .simp
    exact h2 cs H.5
   rw[<-bf,Zf] at h1;omega
  have bm:P.length<=12:=by have h1:=Lf cs;rw[<-bf,Zf] at h1;have F:=H.4;omega
  obtain⟨gl,cl,sp,rfl,ee,dy,fc,af⟩:=BE hS.own dw;have hH:=Z1c af;have aq:=Tryz.slices_SortFunc_small_sorted_f76 (α:=El) 3 (λw=>Qy) (λw=>Qy) elC (λx=>rfl) (λx v hv=>by simp[elC] at hv;rcases hv with rfl|rfl|rfl<;>rfl) Fi 77 #[] Z1e gl 0 cl P.toArray wr (λargs w=>Qy) (λm os dk hd x y=>Z3q x y _) hH af.lt (by simpa using bm) (λn W hn=>(Tryz.bits_Len n W Qw Qw).mono λe w' h=>⟨⟨_,h.1⟩,h.2⟩);have az:P.toArray.size=P.length:=Qx;rw[az] at aq;have ah:=ZO aq hH bf af.lt;clear aq hH bf af hS hL;go_wp2_with (go_at_call 76;refine ah.1.mono ?_;rintro e w' ⟨rfl,d',dn,du,eh, -,rfl⟩);go_ret2;obtain⟨r1,J,r3,r4⟩:=Z7a (n:=dn) (os:=du) HS.1 ee ah.2.2.2 ah.2.1 eh;refine⟨gl,cl,d'.toList.map (·.1),by rw[<-ah.2.2.1];exact r1,?_,r3,by rw[J];exact dy,r4⟩;rw[J];rfl
def Di(d:Dir):List Bs:=d.names.filter isS++[nmN,nmT].filter λn=>(d.get n).isSome
def UB(d:Dir):acts0 d=(Di d).map dr1:=by unfold acts0 Di;rw[Zo]
theorem SeS.Zd9{s d:Nat}{S:Sto}{gv av:Qt}{l gone:List Bs}{Zan:List Ac}(h:SeS s d S w lv gv l gone av Zan wr){w':Qs}{O:Qt}{l':List Bs}(ho:Strs w' w O l')(C:Fr (QV lv) wr w'):SeS s d S w O gv l' gone av Zan w':=by
 have hb:Below w w w':=h.bel.trans (C.below h.bel.size h.ls.ge);have M:=YS h.ls;have F:∀{g:Nat} {e:Qu} {x:Qk},Row wr g e x->e≠9->g∉QV lv:=λhr he hm=>by have⟨x',J⟩:=M _ hm;exact Row.ne hr J he rfl
 have⟨j,b,uv,U,Z,r3,g,hv,r4⟩:=h.st;refine⟨⟨j,b,uv,U.fr C (F U Qx),Row.fr Z C (F Z Qx),r3.fr C ?_ (λk hk x hx=>F hx Qx hk),g,hv,r4.fr C (F r4 Qx)⟩,JY h.own C (λq hq hm=> ?_),ho,h.gs,hb⟩
 .have⟨fv,m1,_⟩:=r3;have⟨es,cl,ae⟩:=m1.block;intro hm;have⟨x',f,J,_⟩:=M _ hm;simp_all
 .have⟨x',J⟩:=YS h.own q hq;grind
def Zcs{g y c H:Nat}(h:lv.ownBlock=some g∨g=H)(C:lv.ownBlock≠some y)(F:y<H):(Value.slice g n c).ownBlock≠some y:=by intro e;simp[Value.ownBlock] at e;simp_all
def nnL:List Bs:=[nmN,nmT]
theorem Z4n(d:Dir)(k:Nat)(h:k<2):(nnL.take (k+1)).filter (λn=>(d.get n).isSome)=(nnL.take k).filter (λn=>(d.get n).isSome)++(if(d.get (nnL.getD k [])).isSome then[nnL.getD k []] else[]):=by
 have:nnL.take (k+1)=nnL.take k++[nnL.getD k []]:=by
  match k,h with
  |0,_=>rfl
  |1,_=>rfl
 grind
def Z4l(k:Nat)(h:k<2):([.string ⟨#[110]⟩,.string ⟨#[116]⟩]:Qk)[k]? =some (.string (str (nnL.getD k []))):=by rcases(by omega:k=0∨k=1) with rfl|rfl<;>rfl
def Z4m(k:Nat)(h:k<2):(nnL.getD k []).length<=1000000:=by rcases(by omega:k=0∨k=1) with rfl|rfl<;>decide
def Z10(s d:Nat)(S:Sto)(w:Qs)(ak:Wo w s d S)(dj:S.dir.Zax)(ay:S.dir.length<=100000)(aw:∀n e,S.dir.get n=some e->e.runs≠[]/\e.runs.length<=1000000){R:Qt->Qs->Prop}(h0:acts0 S.dir=[]->∀w1,Below w w w1->R .nilIface w1)(hC:acts0 S.dir≠[]->∀ga na ca w1,Below w w w1->Wo w1 s d S->A8 w1 ga 0 (acts0 S.dir)->w.heap.size<=ga->na=(acts0 S.dir).length->na<=ca->Calls prog 38 #[s,.slice (ga:Nat) na ca] w1 λe w'=>∃ev,e=.returned ev/\R ev w'):Calls prog 95 #[s] w λe w'=>∃ev,e=.returned ev/\R ev w':=by
 have ae:=Io s d S [115] w ak dj ay;rw[LD] at ae;have dw:(S.dir.names.filter isS).length<=100000:=by have h1:=ZdM isS S.dir.names;have h2:S.dir.names.length=S.dir.length:=Zf ..;omega
 obtain⟨l,hl⟩:=ZK (S.dir.names.filter isS);have de:Di S.dir=l++nnL.filter (λn=>(S.dir.get n).isSome):=by unfold Di nnL;rw[hl]
 rw[hl] at ae dw;rw[UB] at h0 hC;have H:=ZQ ak ae h0 hC aw de;clear ak ae dj ay hl h0 hC aw de;go_enter func95,ntmps95;go_wp2_with (go_at_call 96;refine H.2.1.mono ?_;rintro e w1 ⟨v,rfl,dh,cz⟩;have S1:=ZM dh cz;clear dh cz);have aj:Row (w1.alloc (.cells #[.string ⟨#[110]⟩,.string ⟨#[116]⟩] 9)) w1.heap.size 9 [.string ⟨#[110]⟩,.string ⟨#[116]⟩]:=Z2 w1 9 _;have I0:SeS s d S w v (.slice none 0 0) l [] (.slice none 0 0) [] w1:=⟨H.1.after S1.2,ZA _ _ _ _,S1.1,⟨none,0,rfl,λj hj=>by simp at hj,λg o h=>by cases h⟩,S1.2⟩;have I1:=I0.after ((Zu w1.heap.size w1).alloc (Zt _) (.cells #[.string ⟨#[110]⟩,.string ⟨#[116]⟩] 9));have U:v.ownBlock≠some w1.heap.size:=λe=>by obtain⟨x',ee⟩:=YS I0.ls _ (YV.2 e);have:=ee.lt;omega
 obtain⟨y,hy⟩:=ZK w1.heap.size;rw[hy] at aj U⊢;have H2:=ZX aj I1 U;clear aj I0 I1 U hy;go_loopw [3,22] (λlv Z wr=>∃k:Nat,k<=2/\Z=(k:Int)/\Row wr y 9 [.string ⟨#[110]⟩,.string ⟨#[116]⟩]/\SeS s d S w lv (.slice none 0 0) (l++(nnL.take k).filter (λn=>(S.dir.get n).isSome)) [] (.slice none 0 0) [] wr/\lv.ownBlock≠some y) (λ_ Z _=>2- (intOf Z).toNat)
 .exact⟨0,Qw,rfl,H2.1,by rw[show(nnL.take 0).filter (λn=>(S.dir.get n).isSome)=[] from rfl,ZdJ];exact H2.2,H2.3⟩
 obtain⟨k,hk,rfl,hr,M,U⟩:=hrel;have C:=ZN hr M U;by_cases ai:k<2
 .have af:=hr.cell (Z4l k ai);have ef:(k:Int)<2:=Qw;have ct:=Z4m k ai;have ak:=Z4n S.dir k ai;obtain⟨x,hx⟩:=ZK (nnL.getD k []);obtain⟨A0,bj⟩:=ZK (l++(nnL.take k).filter (λn=>(S.dir.get n).isSome));have cw:l++(nnL.take (k+1)).filter (λn=>(S.dir.get n).isSome)=A0++(if(S.dir.get x).isSome then[x] else[]):=by rw[<-bj,ak,hx,Zd]
  have cy:A0.length<=1000000:=by
   rw[<-bj,Zb];have:=ZdM (λn=>(S.dir.get n).isSome) (nnL.take k);have h2:(nnL.take k).length<=2:=by rw[Zg];exact Zq (ZgW _ _) hk
   omega
  rw[bj] at C;rw[hx] at af ct;have HT:=ZX cw cy ct;clear M hr U bj cw cy hx ct ak;cases bg:S.dir.get x with
  |none=>
   go_wp2_with (go_at_call 97;refine(Gf s d S x _ C.2.1.st HT.3 bg).mono ?_;rintro e w3 ⟨b,rfl,bz,J⟩;have F:=ZM (C.1.after J) (C.2.1.after J);clear J bz);go_roundw
   .exact⟨k+1,Qw,QC,F.1,by rw[HT.1,bg];simpa using F.2,C.2.2⟩
   simp[intOf];omega
  |some e=>
   obtain⟨dx,dy⟩:=H.2.2.2.2.1 _ _ bg;have HG:=ZI bg;clear bg;go_wp2_with (first|(go_at_call 97;refine(ED s d S x e _ C.2.1.st HT.3 HG.o dx dy).mono ?_;rintro e w3 ⟨v3,rfl,bz,J⟩;have S3:=(C.2.1.after J).after ((Zu w3 w3).alloc (Zt _) (.cells #[x] 9));have r3:=(C.1.after J).after ((Zu w3 w3).alloc (Zt _) (.cells #[x] 9));have dq:=(C.1.after J).lt;have F:=ZN r3 S3 dq;clear J bz S3 r3 dq)|(at_builtin;refine CY _ rfl (.tmp 34) (.tmp 36) rfl w.heap.size _ A0 rfl F.2.1.ls w3.heap.size x rfl (ZB _ _) F.2.1.bel.size HT.2 ?_;intro g2 au w4 ho hf df;have S4:=F.2.1.Zd9 ho hf;have r4:=F.1.fr hf (λhm=>C.2.2 (YV.1 hm));have n4:=Zcs (n:=A0.length+1) (c:=au) df C.2.2 F.1.lt;have R4:=ZX r4 S4 n4;clear ho hf S4 r4 n4 df));go_roundw
   .exact⟨k+1,Qw,QC,R4.1,by rw[HT.1,HG.o];exact R4.2,R4.3⟩
   simp[intOf];omega
 .have cj:k=2:=by omega
  have eh:¬ (k:Int)<2:=Qw;have aq:l++(nnL.take k).filter (λn=>(S.dir.get n).isSome)=Di S.dir:=by rw[cj];exact H.2.2.2.2.2.symm
  rw[aq] at C;clear M hr U;have dz:=Cd C.2.1.ls;obtain⟨na,nc,rfl⟩:=dz;have du:(Di S.dir).length<=1000000:=by
   rw[<-aq,Zb];have:=ZdM (λn=>(S.dir.get n).isSome) (nnL.take k);have h2:(nnL.take k).length<=2:=by rw[cj];decide
   omega
  obtain⟨N,hN⟩:=ZK (Di S.dir);have hH:=H.2.2;rw[hN] at C du hH;have HN:=ZI hH;clear aq hH cj;rw[hN];go_wp2_with fail;go_loopw [9,41] (λav Z wr=>∃k:Nat,k<=N.length/\Z=(k:Int)/\SeS s d S w (.slice na N.length nc) (.slice none 0 0) N [] av ((N.take k).map dr1) wr/\(k=0->av=.slice none 0 0)/\(0<k->∃g c,av=.slice (g:Nat) k c)) (λ_ Z _=>N.length- (intOf Z).toNat)
  .exact⟨0,Qw,rfl,C.2.1,λ_=>rfl,λh=>Qw⟩
  obtain⟨k,hk,rfl,M,hz,hp⟩:=hrel;have HS:=ZI M;have HZ:=ZM hz hp;by_cases ai:k<N.length
  .obtain⟨g,cap,hv,af⟩:=M.Zcu ai;injection hv with hv1 hv2 bq;subst hv1 bq;clear hv2;obtain⟨x,cu⟩:=ZK N[k];rw[cu] at af;have aq:(N.take (k+1)).map dr1=(N.take k).map dr1++[dr1 x]:=by rw[Zc ai,cu];simp
   have dp:((N.take k).map dr1).length=k:=by rw[Zf,Zg];omega
   have dm:((N.take k).map dr1).length<=1000000:=Qw;have aj:Row (wr.alloc (.cells #[(2:Int),x,.string ⟨#[]⟩,.string ⟨#[]⟩] 151)) wr 151 (AcC (dr1 x)):=Z2 wr _ _;have S2:=HS.o.after ((Zu wr wr).alloc (Zt _) (.cells #[(2:Int),x,.string ⟨#[]⟩,.string ⟨#[]⟩] 151));have O:=ZZ aj S2 aq dp dm;clear aj S2 M hz hp cu aq dp dm;go_wp2_with (at_builtin;refine Gm _ rfl (.tmp 45) (.tmp 48) rfl w.heap.size _ ((N.take k).map dr1) rfl O.2.own wr.heap.size (dr1 x) rfl O.1 O.2.bel.size O.5 ?_;intro g2 au w2 ho hf _ _ _;have S3:=O.2.next ho hf;rw[O.4] at S3⊢;have F:=ZI S3;clear ho hf S3);go_roundw
   .exact⟨k+1,Qw,QC,by rw[O.3];exact F.o,λh=>Qw,λ_=>⟨_,_,rfl⟩⟩
   simp[intOf];omega
  .obtain rfl:k=N.length:=(by omega);rw[Zs] at HS;clear M;by_cases bm:N.length=0
   .have cr:N=[]:=Zfq bm;obtain rfl:=hz bm;have az:=HN.1 QB;have HF:=ZI az;have hq:∀W,(binOp .eql 86 (.slice none 0 0) (.slice none 0 0)).run prog W=.ok (.bool true) W:=λ_=>Qy;clear hz hp az cr;go_wp2_with fail;go_ret;exact⟨_,rfl,HF.o _ HS.o.bel⟩
   .obtain⟨g,c,rfl⟩:=hp Qw;have cn:N.map dr1≠[]:=by intro e;exact bm QB
    have hlen:(N.map dr1).length=N.length:=Zf ..;obtain⟨g3,dt,bq,bf,bu,ah⟩:=HS.o.own.row cn;rw[hlen] at bq bu;injection bq with hv31 hv32 hv33;have bh:=ZF (λ(a:Qm)=>a.map Addr.block) hv31;simp only[ZeO,ZdC] at bh;subst bh hv33;have ag:=HN.2.1 cn g N.length c wr HS.o.bel HS.o.st ah bf hlen.symm bu;have HC:=ZI ag;have hq:∀W,(binOp .eql 86 (.slice (g:Nat) N.length c) (.slice none 0 0)).run prog W=.ok (.bool false) W:=λ_=>Qy;clear ag ah bu bf hlen hv31 hv32 hz hp cn bm;go_wp2_with fail;refine HC.o.mono ?_;rintro e w5 ⟨ev,rfl,hR⟩;have HR:=ZI hR;clear hR;go_wp2;go_ret;exact⟨ev,rfl,HR.o⟩
variable{B E gc gi i:Nat}{Ds:Nat->Dk}{G:Eg}{K:List Bs}{P:Pw}{S:Sto}{V V1 Vt:Ev}{bl bl1 blt done:List Nat}{cs l:List Chg}{iv:Value}{ops:List Wt}{w3:World}
abbrev N6:={c:Chg // 1<=c.key.length/\c.key.length<=200/\(c.val.getD []).length<=8000}
instance:Inhabited N6:=⟨⟨⟨[0],none⟩,Qz⟩⟩
def BR(w:Qs)(gc:Nat)(cs:List Chg):Prop:=∃sp,Row w gc 68 (cs.flatMap apC++sp)
def UP(P:List Chg):(P.flatMap apC).length=P.length*3:=by
 induction P with
 |nil=>rfl
 |cons x r ih=>rw[Zm,Zb,ih];simp[apC];omega
theorem UO(P:List Chg):∀ (q:Nat) (h:q<P.length) (r:Nat),r<3->(P.flatMap apC)[q*3+r]? =(apC P[q])[r]?:=by
 induction P with
 |nil=>intro q h;simp at h
 |cons x l ih=>
  intro q h r C;rw[Zm]
  match q,h with
  |0,_=>rw[Za (by simp[apC];omega)];simp
  |q+1,h=>
   rw[ZdD (by simp[apC];omega)];have:(q+1)*3+r- (apC x).length=q*3+r:=by simp[apC];omega
   grind
def BR.rd(h:BR w gc cs):BQ w gc cs:=by
 have⟨sp,C⟩:=h;refine⟨C.lt,λq J=> ?_⟩
 have key:∀r u,r<3->(apC cs[q])[r]? =some u->w.cell? ⟨gc,q*3+r,none⟩=some u:=λr u F hu=>C.cell (by
  rw[Za (by rw[UP];omega),UO cs q J r F];exact hu)
 exact⟨key 0 _ Qw rfl,key 1 _ Qw rfl,key 2 _ Qw rfl⟩
theorem Z8U(gc n cap:Nat)(cs:List Chg)(W:Qs)(O:BQ W gc cs)(hn:n=cs.length)(hl:cs.length<=1000)(hg:∀c∈cs,1<=c.key.length/\c.key.length<=200/\(c.val.getD []).length<=8000):Calls prog 32 #[.slice gc n cap,.func (.func 33) #[] #[]] W λe w'=>e=.returned false/\Below W W w':=by
 have:=Tryz.slices_ContainsFunc (α:=N6) 3 (λw=>Qy) (λw=>Qy) (λx=>apC x.1) (λx=>rfl) (λo=>false) 33 #[] (λargs w=>Qy) gc 0 n cap (cs.pmap Subtype.mk hg) W (λZ x hb=> ?_) QB Qw O.1 (λj hj i v hv=> ?_)
 .grind
 .obtain⟨⟨xk,C⟩,F,J,M⟩:=x;have h9:=Z1y (str xk) (str (C.getD [])) C.isNone (by rw[QW];exact F) (by rw[QW];exact J) (by rw[QW];exact M) (λhh=>by cases C with|none=>rfl|some v=>cases hh) Z;exact h9.mono λe w' h=>⟨h.1,hb.trans (h.2.mono hb.size)⟩
 .have U:j<cs.length:=by simpa using hj
  have⟨F,J,M⟩:=O.2 j U;unfold apC at hv;grind
def QM.chg(X:QM)(l:List Chg):QM:={X with l:=l}
structure Bi(X:QM)(n:Nat)(V:Ev)(cs:List Chg):Prop where
 hK:KOk X.K
 k1:1<=X.k
 rest:∀i,i<n->Wn X.k X.m i X.g X.H (X.T i)
 vk:V.k=X.k
 vm:V.m=X.m
 vg:V.gen=(X.g:Int)
 kn:X.k+X.m=n
 gone:V.P.gone=false
 at_:∀i,i<n->∀S,V.Ms i=some S->X.p0 i (V.Ds i) S
 many:X.k<=(Yj V n).length
 ep:X.E<=1900000000
 gb:X.g<=1000000000
 ne:cs≠[]
 few:cs.length<=4
 key:∀c∈cs,c.key∈X.K
 val:∀c∈cs,∀v,c.val=some v->v.length<=200
def Bi.ok{X:QM}(h:Bi X n V cs)(C:l.Perm (Wk cs)):(X.chg l).Ok n:=⟨h.hK,LOk.of C h.few h.key h.val,h.k1,h.rest⟩
def EAt.oks(h:EAt B w G V bl){i:Nat}(hi:i<G.n){S:Sto}(hM:V.Ms i=some S):(V.Ds i).ok 800/\(V.Ds i).dead=false:=by have⟨s,_,_,C,L,F⟩:=h.mem hi hM;exact⟨F.ok,C⟩
def Bi.start{X:QM}(h:Bi X G.n V cs)(he:EAt B w G V bl):(X.chg l).At (ph1 (X.chg l) []) G.n V:=by refine⟨h.gone,λi hi S hM=>⟨?_,he.oks hi hM⟩⟩;exact h.at_ i hi S hM
theorem Z2Z(V:Ev)(k:Nat):Yj V (k+1)=Yj V k++(if(V.Ms k).isSome=true then[k] else[]):=by unfold Yj;rw[ZdX,Zeo];grind
structure CoS(B:Nat)(w:Qs)(G:Eg)(V:Ev)(bl:Qj)(gc:Nat)(cs:List Chg)(iv:Qt)(ins:Qj)(V1:Ev)(wr:Qs):Prop where
 ran:QG B G bl V1 w wr
 ints:Cq wr w iv ins
 api:BR wr gc cs
def CoS.next{F:Ev}{ins:Qj}(h:CoS B w G V bl gc cs iv ins V1 wr){bl1:Qj}(he:EAt B wr G V1 bl1/\(∀k∈bl1,k∈bl∨w.heap.size<=k)/\Fr (G.p::bl) w wr)(O:QG B G bl1 F wr w'):CoS B w G V bl gc cs iv ins F w':=by have⟨sp,C⟩:=h.api;have⟨J,e2,g2,f2⟩:=O;refine⟨QG.trans he ⟨J,e2,g2,f2⟩,JY h.ints f2 (λq M=> ?_),sp,C.fr f2 (he.1.Zap C Qz)⟩;have⟨l,hl⟩:=YS h.ints q M;exact he.1.Zap hl Qz
def CoS.after{ins:Qj}(h:CoS B w G V bl gc cs iv ins V1 wr)(hb:Below wr wr w'):CoS B w G V bl gc cs iv ins V1 w':=by have⟨sp,C⟩:=h.api;exact⟨h.ran.after hb,Jr h.ints hb,sp,C.after hb⟩
def CoS.put{O:Qt}{ins M:Qj}(h:CoS B w G V bl gc cs iv ins V1 wr)(Z:Cq w' w O M)(F:Fr (QV iv) wr w'):CoS B w G V bl gc cs O M V1 w':=by
 have⟨sp,J⟩:=h.api;have⟨bl1,e1,g1,f1⟩:=h.ran;have C:QL wr (QV iv) [3]:=λq hq=>by have⟨l,f,hl,_⟩:=YS h.ints q hq;simp_all
 refine⟨⟨bl1,e1.fr F C Qx Qx Qx (λk U hm=> ?_),g1,f1.trans F (λi hi ae=> ?_)⟩,Z,sp,J.fr F (C.Zap J Qx)⟩
 .exact e1.typed.Zb5 C Qz k U hm
 .have:=Ai h.ints i hi;omega
def GQ(c:Int)(v:Qt)(s:Nat)(l:Qk)(w:Qs)(hs:Row w s 78 l)(hl:l.length=5)(ht:Ty w)(hg:0≠s)(B:Nat)(hB:B<=w)(he:QK w B c v)(U:s<B):Calls prog 40 #[s,v] w (Ans B c λw'=>Fr [s] w w'/\Row w' s 78 (l.set 4 (.bool true))):=by
 have f4:=hs.free (j:=4) Qw;obtain⟨u,hu⟩:∃u,l[4]? =some u:=⟨_,Z8 Qw⟩;have c4:=hs.cell (j:=4) hu;obtain⟨w1,h⟩:=ZL (w.setCell ⟨s,4,none⟩ (.bool true));have F:Fr [s] w w1:=by rw[h];exact(Fr.refl _ _).setCell (Zv Qx) _
 have Z:Ty w1:=by unfold Ty at ht⊢;rw[h,Zgw _ _ _ _ Qx];omega
 have M:QK w1 B c v:=he.fr F (λk J=>by rw[Z6] at J;subst J;exact U);have hz:w1.heap.size=w.heap.size:=QB;have O:Row w1 s 78 (l.set 4 (.bool true)):=by rw[h];exact hs.set 4 _
 have H:=ZY F Z M O;go_enter func40,ntmps40;go_wp2_with fail;rw[<-h];go_wp2_with (go_at_call 49;refine(Gn B c v _ H.3 H.2).mono ?_;rintro e w2 ⟨v',rfl,hv,hb⟩;have C:=ZM hv hb;clear hv hb);go_ret;exact⟨_,rfl,C.1.base Qw,H.1.trans (Z1 (L:=[]) C.2) Qx,H.4.after C.2⟩
structure C2S(B:Nat)(w3:Qs)(G:Eg)(bl1:Qj)(gi:Nat)(ins:Qj)(V:Ev)(ops:List Wt)(Y:QM)(ph:Nat->Dk->Sto->Prop)(Vt:Ev)(wr:Qs):Prop where
 ran:QG B G bl1 Vt w3 wr
 ints:∃sp,Row wr gi 3 (Ej ins++sp)
 at_:Y.At ph G.n Vt
 run:QT ops V=(0,Vt)
def C2S.cell{ins:Qj}{Y:QM}{ph:Nat->Dk->Sto->Prop}(h:C2S B w3 G bl1 gi ins V ops Y ph Vt wr){t:Nat}(F:t<ins.length):wr.cell? ⟨gi,t,none⟩=(ins[t]:Int):=by have⟨sp,C⟩:=h.ints;exact C.cell (by rw[Za (by simp[Ej];omega)];simp[Ej,F])
theorem KK(l:List Wt):∀V:Ev,(QT l V).2.k=V.k/\(QT l V).2.m=V.m/\(QT l V).2.gen=V.gen/\∀i,((QT l V).2.Ms i).isSome=(V.Ms i).isSome:=by
 induction l with
 |nil=>intro V;exact⟨rfl,rfl,rfl,λ_=>rfl⟩
 |cons x r ih=>intro V;have⟨s1,s2,h,C⟩:=Ec V x;unfold QT;grind
def C2S.same{ins:Qj}{Y:QM}{ph:Nat->Dk->Sto->Prop}(h:C2S B w3 G bl1 gi ins V ops Y ph Vt wr):Vt.k=V.k/\Vt.m=V.m/\Vt.gen=V.gen/\∀i,(Vt.Ms i).isSome=(V.Ms i).isSome:=by have:=KK ops V;rw[h.run] at this;omega
def C2S.after{ins:Qj}{Y:QM}{ph:Nat->Dk->Sto->Prop}(h:C2S B w3 G bl1 gi ins V ops Y ph Vt wr)(hb:Below wr wr w'):C2S B w3 G bl1 gi ins V ops Y ph Vt w':=by have⟨sp,C⟩:=h.ints;exact⟨h.ran.after hb,⟨sp,C.after hb⟩,h.at_,h.run⟩
def C2S.did{ins:Qj}{Y:QM}{ph ph':Nat->Dk->Sto->Prop}(h:C2S B w3 G bl1 gi ins V ops Y ph Vt wr){x:Wt}(J:Yi Vt x=0)(M:Y.At ph' G.n (Y3 Vt x))(he:EAt B wr G Vt blt/\(∀k∈blt,k∈bl1∨w3.heap.size<=k)/\Fr (G.p::bl1) w3 wr)(C:QG B G blt (Y3 Vt x) wr w'):C2S B w3 G bl1 gi ins V (ops++[x]) Y ph' (Y3 Vt x) w':=by have⟨sp,F⟩:=h.ints;exact⟨QG.trans he C,⟨sp,C.row he.1 F Qz⟩,M,by rw[Z1w h.run,J]⟩
def Ye.below(h:Ye B G bl P Ds w w')(C:EAt B w G V bl):Below B w w':=by have⟨Ls,J,M,O,F⟩:=h;exact F.below C.bw C.ge
def Fh(h:Ye B G bl P Ds w w'):w<=w'.heap.size:=by have⟨Ls,F,J,M,C⟩:=h;exact C.size
def EAt.ZbC(h:EAt B w G V bl):G.s∈bl:=by obtain⟨Ls,Os,rfl,_⟩:=h;simp[Wx]
def OD{a b:List Wt}{x:Wt}(h:QT a V=(0,Vt))(C:Yi Vt x≠0):QT (a++(x::b)) V=(Yi Vt x,Y3 Vt x):=by rw[Fn,h];unfold QT;simp_all
theorem OJ{w4 w5 C:Qs}{c:Int}{ev ev':Qt}{o:Qk}(F:EAt B w G V bl)(O:EAt B w3 G V bl1/\(∀k∈bl1,k∈bl∨w.heap.size<=k)/\Fr (G.p::bl) w w3)(ht:EAt B wr G Vt blt/\(∀k∈blt,k∈bl1∨w3.heap.size<=k)/\Fr (G.p::bl1) w3 wr)(hb:Below wr wr w4)(U:Ye B G blt P Ds w4 w5)(hs:Row w5 G.s 78 o)(Z:Fr [G.s] w5 C):Ye B G bl P Ds w C:=by have J:Ye B G bl1 P Ds w3 w5:=Ye.trans ht (U.from hb);have M:Ye B G bl P Ds w w5:=Ye.trans O J;exact M.fr Z (QL.row hs Qx) (ts:=[78]) Qz (λk h=>by rw[Z6] at h;subst h;exact Zv (Zh _ F.ZbC))
def Lz{ga na ca:Nat}{a:Sto->List Ac}{d:Dir}{f:QF}(h:EAt B w G V bl)(hi:i<G.n)(hM:V.Ms i=some S)(O:QU K E (V.Ds i) S)(hK:KOk K)(U:E<=2000000000)(ha:Ym K S (a S) d f)(C:A8 w ga 0 (a S))(M:na=(a S).length)(F:na<=ca)(ht:Ty w)(Z:0<B){s:Nat}{o:Qk}(hr:Row w (G.xs i) 91 (.pointer (some ⟨G.ds i,0,none⟩):: .pointer s::o)):Calls prog 38 #[s,.slice ga na ca] w λe w'=>∃ev,e=.returned ev/\QK w' w (Yi V (i,a)) ev/\(Yi V (i,a)=0->QG B G bl (Y3 V (i,a)) w w')/\Ye B G bl (Y3 V (i,a)).P (Y3 V (i,a)).Ds w w'/\Row w' G.s 78 [(V.k:Int),(V.m:Int),.slice (some ⟨G.ms,0,none⟩) G.n G.cap,(V.gen:Int),false]:=by have⟨e1,e2⟩:=JB (V:=V) (x:=(i,a)) hM;go_fit (Rs h hi hM O hK U ha C M F ht Z hr);rintro e w' ⟨ev,rfl,J,hm⟩;rw[e1,e2];exact⟨ev,rfl,J,hm.ok,hm.bad,hm.set⟩
def Z1u{gone:List Bs}{d:Dir}(h:EAt B w G V bl)(hi:i<G.n)(hM:V.Ms i=some S)(C:QU K E (V.Ds i) S)(hK:KOk K)(hE:E<=2000000000)(ha:Ym K S (Yv S.dir gone) d [])(ht:Ty w)(hg:0<B)(ai:∀x∈gone,x.length<=1000)(aj:gone.length<=1000){F:Qm}{ggc:Nat}(ak:Y9 w F (gone.map str))(ah:∀g o,F=some ⟨g,o,none⟩->g<w.heap.size){s:Nat}{o:Qk}(U:Row w (G.xs i) 91 (.pointer (some ⟨G.ds i,0,none⟩):: .pointer s::o)):Calls prog 41 #[s,.slice F gone.length ggc] w λe w'=>∃ev,e=.returned ev/\QK w' w (Yi V (i,λS=>Yv S.dir gone)) ev/\(Yi V (i,λS=>Yv S.dir gone)=0->QG B G bl (Y3 V (i,λS=>Yv S.dir gone)) w w')/\Ye B G bl (Y3 V (i,λS=>Yv S.dir gone)).P (Y3 V (i,λS=>Yv S.dir gone)).Ds w w'/\Row w' G.s 78 [(V.k:Int),(V.m:Int),.slice (some ⟨G.ms,0,none⟩) G.n G.cap,(V.gen:Int),false]:=by
 have⟨Z,ae,aw,hd,L,ay⟩:=h.mem hi hM;obtain rfl:Z=s:=by have:=ae.c1;have:=U.c1;simp_all
 have au:∀n∈S.dir.names,n.length<=1000:=λn M=>by obtain⟨x,hx,rfl⟩:=Zz.1 M;have:=(BB hK _ (C.sm x hx).1).2;omega
 refine Tr Z (G.ds i) S _ gone w aw C.sorted (by have:=C.few hK;omega) au ⟨F,ggc,rfl,ak,ah⟩ aj ai (λn e M=>by
  have⟨_,J,O⟩:=C.runs M
  exact⟨J,Qw⟩) (R:=λev w'=>QK w' w (Yi V (i,λS=>Yv S.dir gone)) ev/\(Yi V (i,λS=>Yv S.dir gone)=0->QG B G bl (Y3 V (i,λS=>Yv S.dir gone)) w w')/\Ye B G bl (Y3 V (i,λS=>Yv S.dir gone)).P (Y3 V (i,λS=>Yv S.dir gone)).Ds w w'/\Row w' G.s 78 [(V.k:Int),(V.m:Int),.slice (some ⟨G.ms,0,none⟩) G.n G.cap,(V.gen:Int),false]) (λga na ca w1 hb _ af _ aq ag=> ?_)
 go_fit (Lz (a:=λS=>Yv S.dir gone) (h.after hb) hi hM C hK hE ha af aq ag (ht.below hb) hg (U.after hb));rintro e w' ⟨ev,rfl,J,O,h3,h4⟩;exact⟨ev,rfl,J.base hb.size,λh0=>(O h0).from hb,h3.from hb,h4⟩
def Iw{a:Qm}{ss:List Qq}(h:Y9 w a ss)(J:∀g o,a=some ⟨g,o,none⟩->∃r,Row w g 9 r)(he:EAt B w G V bl)(F:QG B G bl V1 w w'):Y9 w' a ss/\∀g o,a=some ⟨g,o,none⟩->∃r,Row w' g 9 r:=by
 refine⟨λj O=> ?_,λg o e=> ?_⟩
 .have⟨g,o,e,hc⟩:=h j O;have⟨r,C⟩:=J g o e;have⟨bl',_,_,M⟩:=F;have:=M.block g C.lt (he.Zap C Qz);refine⟨g,o,e,?_⟩;unfold World.cell? at hc⊢;simp_all
 .have⟨r,C⟩:=J g o e;exact⟨r,F.row he C Qz⟩
def EAt.ZbX(h:EAt B w G V bl)(g:Int):EAt B (w.setCell ⟨G.s,3,none⟩ (.int .i64 g)) G {V with gen:=g} bl:=by obtain⟨Ls,Os,rfl,h⟩:=h;have F:Fr [G.s] w (w.setCell ⟨G.s,3,none⟩ (.int .i64 g)):=(Fr.refl _ _).setCell (Zv Qx) _;have C:QL w [G.s] [78]:=QL.row h.set Qx;have⟨sp,hm⟩:=h.mem;refine⟨Ls,Os,rfl,h.set.set 3 (.int .i64 g),⟨sp,hm.fr F (C.Zap hm Qx)⟩,h.n1,h.n16,λi hi=>(h.pd i hi).fr F (C.Zb5 (h.pd i hi).typed Qz),h.dap,λi hi=>(h.at_ i hi).fr F C Qx Qx (λk J hm=>C.Zb5 (h.at_ i hi).typed Qz k hm J),h.oap,h.bO,h.bs⟩
def OG{X:QM}{ph:Nat->Dk->Sto->Prop}(h:X.At ph n V){i:Nat}{S:Sto}{a:Sto->List Ac}{d:Dir}{f:QF}(hi:i<n)(hM:V.Ms i=some S)(ha:Ym X.K S (a S) d f):Yi V (i,a)=0∨Yi V (i,a)=10:=by
 obtain⟨e1, -⟩:=JB (V:=V) (x:=(i,a)) hM;obtain⟨-,C,F⟩:=h.at_ i hi S hM;rw[e1];simp only;rw[ha.go];rcases Cg (S.ops (a S) d f) (P:=V.P) ha.in_ C.fit F h.gone with h9|h9
 .omega
 .omega
theorem Cq.row{base g c:Nat}{l:Qj}(h:Cq w base (.slice g n c) l)(hl:0<l.length):∃sp,Row w g 3 (Ej l++sp):=by have⟨F,C,sp,hv,_,_,_,J⟩:=BE h hl;grind
structure Uw(B:Nat)(w3:Qs)(bs:Nat)(G:Eg)(bl1:Qj)(X:QM)(gl:Nat)(V Vt:Ev)(done:Qj)(i:Nat)(wr:Qs)(S:Sto)(blt:Qj)(s:Nat):Prop where
 e:EAt B wr G Vt blt
 ty:Ty wr
 hM:Vt.Ms i=some S
 hi:i<G.n
 hB:QU X.K X.E (Vt.Ds i) S
 Zan:∃d f,Ym X.K S (Wg X.k X.m i X.g X.l) d f
 row:Row wr (G.xs i) 91 [.pointer (some ⟨G.ds i,0,none⟩),s,.int .i64 (Vt.Ds i).Zaq,true]
 set:Row wr G.s 78 [(X.k:Int),(X.m:Int),.slice (some ⟨G.ms,0,none⟩) G.n G.cap,(X.g:Int),false]
 ch:XX wr bs X.k X.m gl X.l
def C2S.Zc0{ins:Qj}{Y:QM}(h:C2S B w3 G bl1 gi ins V ops Y (ph1 Y done) Vt wr)(hY:Y.Ok G.n)(Z:EAt B w3 G V bl1)(U:Ty w3)(ae:0<B)(M:XX w3 bs Y.k Y.m gl Y.l)(O:∀k∈G.p::bl1,k<bs)(C:V.k=Y.k)(hm:V.m=Y.m)(hg:V.gen=(Y.g:Int)){i:Nat}(hi:i<G.n)(af:(V.Ms i).isSome=true)(hd:i∉done):∃S blt s,Uw B w3 bs G bl1 Y gl V Vt done i wr S blt s/\(∀k∈blt,k∈bl1∨w3.heap.size<=k)/\Fr (G.p::bl1) w3 wr:=by have⟨blt,e1,g1,f1⟩:=h.ran;have⟨s1,s2,s3,s4⟩:=h.same;have hS:(Vt.Ms i).isSome=true:=QB;have⟨S,hM⟩:=ZdQ.1 hS;have⟨hB,ha⟩:=Z9v hY h.at_ hi hM hd;have⟨s,J,_⟩:=e1.mem hi hM;have F:=e1.Zaz;rw[s1,s2,s3,C,hm,hg] at F;exact⟨S,blt,s,⟨e1,QG.ty ⟨blt,e1,g1,f1⟩ Z U,hM,hi,hB,ha,J,F,M.fr f1 (λk C=>Zv (O k C))⟩,g1,f1⟩
structure Ux(B:Nat)(w3:Qs)(G:Eg)(bl1:Qj)(X:QM)(V4:Ev)(i:Nat)(wr:Qs)(S:Sto)(blt:Qj)(s:Nat)(d:Dir):Prop where
 e:EAt B wr G V4 blt/\(∀k∈blt,k∈bl1∨w3.heap.size<=k)/\Fr (G.p::bl1) w3 wr
 ty:Ty wr
 hM:V4.Ms i=some S
 hB:QU X.K (X.E+1) (V4.Ds i) S
 Zan:Ym X.K S (Yv S.dir (Y4 X.l)) d []
 row:Row wr (G.xs i) 91 [.pointer (some ⟨G.ds i,0,none⟩),s,.int .i64 (V4.Ds i).Zaq,true]
def C2S.Zc1{ins:Qj}{Y:QM}{C:Ev}(h:C2S B w3 G bl1 gi ins V ops Y (ph2 Y done) C wr)(U:Y.Ok G.n)(M:EAt B w3 G V bl1)(J:Ty w3)(ae:0<B){i:Nat}(hi:i<G.n)(af:(V.Ms i).isSome=true)(Z:i∉done):∃S blt s d,Ux B w3 G bl1 Y C i wr S blt s d:=by have⟨blt,e1,g1,f1⟩:=h.ran;have⟨s1,s2,s3,s4⟩:=h.same;have O:(C.Ms i).isSome=true:=QB;have⟨S,hM⟩:=ZdQ.1 O;have⟨hB,d,ha⟩:=Z9w U h.at_ hi hM Z;have⟨s,F,_⟩:=e1.mem hi hM;exact⟨S,blt,s,d,⟨e1,g1,f1⟩,QG.ty ⟨blt,e1,g1,f1⟩ M J,hM,hB,ha,F⟩
def Om(B:Nat)(w:Qs)(G:Eg)(V:Ev)(bl:Qj)(X:QM)(gc n cap:Nat)(cs:List Chg)(h:EAt B w G V bl)(ht:Ty w)(dj:0<B)(hp:Bi X G.n V cs)(hr:BR w gc cs)(hn:n=cs.length)(gy:n<=cap):Calls prog 11 #[G.s,.slice gc n cap] w λe w'=>∃l ev,l.Perm (Wk cs)/\e=.returned ev/\QK w' w (QT (YW (X.chg l) (Yj V G.n)) V).1 ev/\ ((QT (YW (X.chg l) (Yj V G.n)) V).1=0->QG B G bl {(QT (YW (X.chg l) (Yj V G.n)) V).2 with gen:=V.gen+1} w w')/\((QT (YW (X.chg l) (Yj V G.n)) V).1≠0->Ye B G bl (QT (YW (X.chg l) (Yj V G.n)) V).2.P (QT (YW (X.chg l) (Yj V G.n)) V).2.Ds w w'):=by
 have kh:=h.nle;have c4:=h.Zaz.c4;have c2:=h.Zaz.c2;have jy:=hp.few;have lr:((n:Int)==0)=false:=by rw[ZeL];have:=Zew.2 hp.ne;omega
 have kg:decide ((n:Int)>32)=false:=by simp;omega
 have cw:∀c∈cs,1<=c.key.length/\c.key.length<=200/\(c.val.getD []).length<=8000:=λc hc=>by
  have h1:=hp.hK.len _ (hp.key c hc);refine⟨h1.1,Qw,?_⟩;cases hv:c.val with
  |none=>simp
  |some v=>have:=hp.val c hc v hv;simp;omega
 have jm:=Z8U gc n cap cs w hr.rd hn Qw cw;have H:=Q0 h hp hr hn ht jm;clear h hp hr hn ht cw jm jy;go_enter func11,ntmps11;go_wp2_with (go_at_call 32;go_fit H.6;rintro e w1 ⟨rfl,fy⟩;have kz:=(fy.cell (Z9 _ _ c2)).trans c2;have R1:=ZI fy;clear fy c4 c2);have iz:=QG.same H.1 R1.o;have I0:CoS B w G V bl gc cs (.slice none 0 0) (Yj V 0) V w1:=⟨iz,ZA _ _ _ _,by have⟨sp,hr⟩:=H.3;exact⟨sp,hr.after R1.o⟩⟩;have jq:=ZI I0;clear I0 iz;go_loopw [5,43] (λiv kv wr=>∃k:Nat,k<=G.n/\kv=(k:Int)/\CoS B w G V bl gc cs iv (Yj V k) V wr) (λ_ kv _=>G.n- (intOf kv).toNat)
 .exact⟨0,Qw,rfl,jq.o⟩
 obtain⟨k,hk,rfl,Z⟩:=hrel;have HS:=ZI Z;have⟨bl1,hE,ft,hf⟩:=Z.ran;have HE:=ZN hE ft hf;by_cases jg:k<G.n
 .have du:=Z2Z V k;cases hM:V.Ms k with
  |none=>
   rw[hM] at du;have hh:=CF B wr G V bl1 k hE jg hM;have HH:=ZM hh du;clear hE ft hf Z hh du hM;go_wp2_with (go_at_call 34;go_fit HH.1;rintro e w2 ⟨rfl,jh⟩;have R2:=ZI (HS.o.next HE.o jh);clear jh);go_roundw
   .exact⟨k+1,Qw,QC,by rw[HH.2];simpa using R2.o⟩
   simp[intOf];omega
  |some S=>
   rw[hM] at du;have hh:=C1 B wr G V bl1 k hE jg S hM;have jd:(Yj V k).length<=1000000:=by have:(Yj V k).length<=(List.range k).length:=ZdM _ _;rw[Zfv] at this;omega
   have HH:=ZN hh du jd;clear hE ft hf Z hh du hM jd;go_wp2_with (first|(go_at_call 34;go_fit HH.1;rintro e w2 ⟨rfl,bz⟩;have s2:=(HS.o.after bz).after ((Zu w2 w2).alloc (Zt _) (.cells #[(k:Int)] 3));have ji:Row (w2.alloc (.cells #[(k:Int)] 3)) w2 3 [.int .i64 (k:Int)]:=Z2 w2 _ _;have fm:w.heap.size<=(w2.alloc (.cells #[(k:Int)] 3)).heap.size:=(by have⟨ju,e9,g9,f9⟩:=s2.ran;exact f9.size);have R2:=ZN s2 ji fm;clear bz s2 ji fm)|(at_builtin;refine Z8G _ rfl (.tmp 49) (.tmp 51) rfl w.heap.size _ (Yj V k) rfl R2.1.ints w2.heap.size k rfl R2.2.1 R2.2.2 HH.2.2 ?_;intro g4 jx w4 ho hf _ _ _;have O:=ZI (R2.1.put ho hf);clear ho hf));go_roundw
   .exact⟨k+1,Qw,QC,by rw[HH.2.1];simpa using O.o⟩
   simp[intOf];omega
 .obtain rfl:k=G.n:=by omega
  have⟨ins,cn⟩:=ZK (Yj V G.n);have fh:=H.2.many;have ke:ins.length<=16:=by have:(Yj V G.n).length<=(List.range G.n).length:=ZdM _ _;rw[Zfv] at this;rw[<-cn];omega
  rw[cn] at HS fh;have je:=H.2.k1;have jl:=H.2.vk;obtain⟨gi,ci,sp,rfl,lj,l7,ld,ig⟩:=BE HS.o.ints Qw;have c0:=hE.Zaz.c0;have lk:¬ (ins.length:Int)<(V.k:Int):=Qw;have jk:Ty wr:=QG.ty HS.o.ran H.1 H.5;have ie:=Oz B wr G V bl1 hE jk;rw[H.2.gone] at ie;have HR:=ZM ie cn;have fp:=ZI jl;clear hE ft hf Z ie cn jk jl ig;go_wp2_with (first|(go_at_call 35;go_fit HR.1;rintro e w2 ⟨l5,rfl,j9,bz⟩;obtain rfl:=j9.zero;have R2:=ZO (HS.o.after bz) (HE.1.after bz) HE.2.1 (HE.2.2.trans (Z1 (L:=[]) bz) Qx);clear j9 bz)|(go_at_call 36;refine(Z1g G.s V.k V.m gc cap n cs _ (by rw[fp.o];exact je) (by have h8:=H.2.vm;have C:=H.2.kn;have h7:=fp.o;omega) R2.2.1.Zaz.c0 R2.2.1.Zaz.c1 R2.1.api.rd H.4 (by have h8:=H.2.few;have C:=H.4;omega) H.2.ne gy H.2.val).mono ?_;rintro e w3 ⟨gl,cl,l,cy,rfl,ek,fg,dz⟩;have J:=Q4 (R2.1.after dz) (R2.2.1.after dz) R2.2.2.1 (R2.2.2.2.trans (Z1 (L:=[]) dz) Qx) cy ek fg (R2.2.1.typed.lt) dz.size;clear cy ek fg dz));have gj:w2<=w3.heap.size:=J.9;have dx:(X.chg l).Ok G.n:=H.2.ok J.5;have fo:Ty w3:=QG.ty ⟨bl1,J.2,J.3,J.4⟩ H.1 H.5;have ek:XX w3 w2 X.k X.m gl l:=by have C:=J.6;rw[fp.o,H.2.vm] at C;exact C
  have J0:C2S B w3 G bl1 gi ins V [] (X.chg l) (ph1 (X.chg l) []) V w3:=⟨QG.refl J.2,Cq.row J.1.ints Qw,H.2.start J.2,rfl⟩;have HJ:=ZY J0 dx fo ek;have ct:=ZI HR.2;clear J0 dx fo ek gj;go_loopw [78] (λkv wr=>∃ (t:Nat) (Vt:Ev),t<=ins.length/\kv=(t:Int)/\C2S B w3 G bl1 gi ins V ((ins.take t).map (op1 (X.chg l))) (X.chg l) (ph1 (X.chg l) (ins.take t)) Vt wr) (λkv _=>ins.length- (intOf kv).toNat)
  .exact⟨0,V,Qw,rfl,HJ.1⟩
  obtain⟨t,Vt,ht,rfl,Z⟩:=hrel;have cu:=ZI Z;by_cases bm:t<ins.length
  .have bj:=Z.cell bm;have aw:ins[t]∈Yj V G.n:=by rw[ct.o];exact Zl bm
   have ai:ins[t]∉ins.take t:=by
    have ic:ins.Nodup:=by rw[<-ct.o];exact FA
    have C:(ins.take t++ins.drop t).Nodup:=by rw[ZdH];exact ic
    intro hm;exact(ZdP.1 C).2.2 _ hm _ (by rw[Ze1 bm];exact Zfs) rfl
   have dm:ins.take (t+1)=ins.take t++[ins[t]]:=Zc bm;have ay:ins=ins.take t++ins[t]::ins.drop (t+1):=(by rw[<-Ze1 bm,ZdH]);have⟨i,fc⟩:=ZK ins[t];rw[fc] at bj aw ai dm ay;have de:=ZI ay;clear ay;have⟨hi,fe⟩:=mem_ins.1 aw;have⟨S,blt,s,M,df,ja⟩:=Z.Zc0 HJ.2 J.2 HJ.3 dj HJ.4 J.8 fp.o H.2.vm H.2.vg hi fe ai;have⟨d,f,bf⟩:=M.Zan;have ew:=Z15 X.K w2 G.s X.k X.m i X.g gl cl l wr H.2.hK HJ.2.hl je (by have C:=H.2.kn;omega) (by have C:=H.2.kn;omega) (by have C:=H.2.gb;omega) M.set.c0 M.set.c1 M.set.c3 M.ch J.7;have kt:(t:Int)<(ins.length:Int):=Qw;have ia:(i:Int)<(G.n:Int):=Qw;have ag:=OG (a:=λ_=>Wg X.k X.m i X.g l) Z.at_ hi M.hM bf;have F:=Q1 M df ja bf ew ai dm;clear Z aw M df ja bf ew ai dm fc fe;by_cases cj:Yi Vt (i,λ_=>Wg X.k X.m i X.g l)=0
   .clear ag;have ak:=ZI cj;clear cj;go_wp2_with (first|(go_at_call 37;go_fit F.5;rintro e w4 ⟨ga,ca,rfl,dy,eh,dh,bg⟩;have s2:=(F.1.set.after bg).c2;have cm:=(F.1.e.after bg).ZaK hi;have x1:=(F.1.row.after bg).c1;have O:=ZN dy eh bg;clear dy eh bg dh)|(go_at_call 38;refine(Lz (a:=λ_=>Wg X.k X.m i X.g l) (F.1.e.after O.2.2) hi F.1.hM F.1.hB H.2.hK (by have C:=H.2.ep;exact Zq C Qw) F.4 O.1 rfl O.2.1 (F.1.ty.below O.2.2) dj (F.1.row.after O.2.2)).mono ?_;rintro e w5 ⟨dw,rfl,aq,aj,ae,af⟩;rw[ak.o] at aq;obtain rfl:=aq.zero;have U:=ZI (aj ak.o);clear aq aj ae af s2 cm x1)|(go_at_call 19;go_fit (JQ 0 0 12 _ _ (QK.nil _ _) Qz);rintro e w6 ⟨rfl,rfl⟩));go_roundw
    .have C:=cu.o.did (x:=op1 (X.chg l) i) ak.o (QM.ZbW HJ.2 cu.o.at_ hi F.1.hM F.6 ak.o) ⟨F.1.e,F.2,F.3⟩ (U.o.from O.2.2);exact⟨t+1,_,Qw,QC,by rw[F.7,Zo];exact C⟩
    simp[intOf];omega
   .have bh:Yi Vt (i,λ_=>Wg X.k X.m i X.g l)=10:=ag.resolve_left cj;have ak:=ZI bh;clear cj ag bh;go_wp2_with (first|(go_at_call 37;go_fit F.5;rintro e w4 ⟨ga,ca,rfl,dy,eh,dh,bg⟩;have s2:=(F.1.set.after bg).c2;have cm:=(F.1.e.after bg).ZaK hi;have x1:=(F.1.row.after bg).c1;have O:=ZN dy eh bg;clear dy eh bg dh)|(go_at_call 38;refine(Lz (a:=λ_=>Wg X.k X.m i X.g l) (F.1.e.after O.2.2) hi F.1.hM F.1.hB H.2.hK (by have C:=H.2.ep;exact Zq C Qw) F.4 O.1 rfl O.2.1 (F.1.ty.below O.2.2) dj (F.1.row.after O.2.2)).mono ?_;rintro e w5 ⟨dw,rfl,aq,aj,ae,af⟩;rw[ak.o] at aq;obtain⟨b5,rfl⟩:∃b5,dw=.iface 139 (b5:Nat):=(by rcases aq.split with ⟨C,_⟩|⟨_,C⟩;exact absurd C Qz;exact C);have bu:Ty w5:=(by have C:=ae.below (F.1.e.after O.2.2);have h8:=F.1.ty.below O.2.2;unfold Ty at h8⊢;rw[C.cell (p:=⟨0,0,none⟩) dj];exact h8);have U:=ZO aq ae af bu;clear aq aj ae af bu s2 cm x1)|(go_at_call 19;go_fit (JQ _ 10 12 _ _ U.1 Qz);rintro e w6 ⟨rfl,rfl⟩)|(go_at_call 40;refine(GQ 10 _ G.s _ _ U.2.2.1 rfl U.2.2.2 (by have C:=F.1.e.ge G.s (Zh _ F.1.e.ZbC);omega) _ (by exact Fh U.2.1) U.1 (by have C:=F.1.set.lt;have h8:=O.2.2.size;omega)).mono ?_;rintro e w7 ⟨fw,rfl,er,eu, -⟩;have R7:=ZM er eu;clear er eu));go_ret;have ah:QT (YW (X.chg l) (Yj V G.n)) V=(Yi Vt (op1 (X.chg l) i),Y3 Vt (op1 (X.chg l) i)):=by
     rw[ct.o];unfold YW;have e9:ins.map (op1 (X.chg l))++ins.map (op2 (X.chg l))=(ins.take t).map (op1 (X.chg l))++(op1 (X.chg l) i::((ins.drop (t+1)).map (op1 (X.chg l))++ins.map (op2 (X.chg l)))):=by have C:ins.map (op1 (X.chg l))=(ins.take t).map (op1 (X.chg l))++(op1 (X.chg l) i::(ins.drop (t+1)).map (op1 (X.chg l))):=(by rw[<-Zn,<-Zo,<-de.o]);rw[C,Zd,Zef]
     rw[e9];exact OD cu.o.run (by show Yi Vt (i,λ_=>Wg X.k X.m i X.g l)≠0;rw[ak.o];decide)
    have ef:Yi Vt (op1 (X.chg l) i)=10:=ak.o;have ik:w<=w4.heap.size:=Zq J.4.size (Zq F.3.size O.2.2.size);refine⟨l,fw,J.5,rfl,?_,λh=> ?_,λ_=> ?_⟩
    .rw[ah,ef];exact R7.1.base ik
    .rw[ah,ef] at h;exact absurd h Qx
    .rw[ah];exact OJ (c:=0) (ev:=.nilIface) (ev':=.nilIface) H.1 ⟨J.2,J.3,J.4⟩ ⟨F.1.e,F.2,F.3⟩ O.2.2 U.2.1 U.2.2.1 R7.2
  .obtain rfl:t=ins.length:=(by omega);rw[Zs] at cu;have eo:XX wr w2 X.k X.m gl l:=by have⟨ju,e9,g9,f9⟩:=cu.o.ran;exact HJ.4.fr f9 (λk hk=>Zv (J.8 k hk))
   have ix:(X.chg l).At (ph2 (X.chg l) []) G.n Vt:=Z9G (ins:=ins) (λi hi hM=>by
    rw[<-ct.o]
    exact mem_ins.2 ⟨hi,by rw[<-cu.o.same.2.2.2];exact hM⟩) cu.o.at_
   have im:=ZM eo ix;have jf:∀c∈l,c.key.length<=11:=λc hc=>(H.2.hK.len _ (HJ.2.hl.key c hc)).2;have iw:=ZI jf;have lq:l.length<=4:=HJ.2.hl.few;clear Z eo ix jf;have⟨wA,kx⟩:=ZL wr;subst kx;go_wp2;go_loopw [14,122] (λgv kv wr=>∃q:Nat,q<=l.length/\kv=(q:Int)/\Strs wr wA gv (Y4 (l.take q))/\Below wA wA wr) (λ_ kv _=>l.length- (intOf kv).toNat)
   .exact⟨0,Qw,rfl,ZA _ _ _ _,Zu _ _⟩
   obtain⟨q,hq,rfl,dt,ee⟩:=hrel;by_cases ib:q<l.length
   .have⟨a1,a2,a3⟩:=(im.1.after ee).at_ q ib;have hx:=iw.o _ (Zl ib);have df:=P0 l q ib;have lh:(q:Int)<(l.length:Int):=Qw;have⟨c,hc⟩:=ZK l[q];rw[hc] at a1 a2 a3 hx df;have⟨key,val⟩:=c;simp only at a1 a2 a3 hx df;have ey:(Y4 (l.take q)).length<=1000000:=by
     have h1:(Y4 (l.take q)).length<=(l.take q).length:=by unfold Y4;exact Zee _ _
     rw[Zg] at h1;omega
    have HG:=ZY dt ee df ey;clear dt ee df ey hc;cases val with
    |some v=>
     simp[Ze7] at a2;obtain⟨sg,so,sc,s1, -, -⟩:=a3;have kj:∀W,(binOp .eql 96 (.slice (some ⟨sg,so,none⟩) (X.k+X.m) sc) (.slice none 0 0)).run prog W=.ok (.bool false) W:=λ_=>Qy;go_wp2;go_roundw
     .have dq:=(Zu wr wr).alloc (Zt _) (.cells #[key,(v.length:Int),.slice (some ⟨sg,so,none⟩) (X.k+X.m) sc] 98);exact⟨q+1,Qw,QC,by rw[HG.3];simpa using HG.1.after dq,HG.2.trans (dq.mono HG.2.size)⟩
     simp[intOf];omega
    |none=>
     have kj:∀W,(binOp .eql 96 (.slice none 0 0) (.slice none 0 0)).run prog W=.ok (.bool true) W:=λ_=>Qy;simp[ZgQ,Zes] at a2;have fi:((wr.alloc (.cells #[key,(0:Int),()] 98)).alloc (.cells #[key] 9)).heap[wr.heap.size+1]? =some (.cells #[key] 9 (0,0)):=by have C:=ZB (wr.alloc (.cells #[key,(0:Int),()] 98)) (.cells #[key] 9);simpa using C
     have dq:=((Zu wr wr).alloc (Zt _) (.cells #[key,(0:Int),()] 98)).alloc Qx (.cells #[key] 9);have jb:=HG.1.after dq;have bz:=HG.2.trans (dq.mono HG.2.size);have dp:=ZX fi jb bz;clear fi dq jb bz;go_wp2_with (at_builtin;refine CY _ rfl (.tmp 129) (.tmp 132) rfl wA.heap.size _ (Y4 (l.take q)) rfl dp.2 (wr.heap.size+1) key rfl dp.1 dp.3.size HG.4 ?_;intro g2 jw w8 ho hf _;have j8:=dp.3.trans (hf.below dp.3.size dp.2.ge);have R8:=ZM ho j8;clear ho hf j8);go_roundw
     .exact⟨q+1,Qw,QC,by rw[HG.3];exact R8.1,R8.2⟩
     simp[intOf];omega
   .obtain rfl:q=l.length:=(by omega);rw[Zs] at dt;have ir:=ZI dt;obtain⟨fx,ggc,rfl⟩:=Cd dt;have j7:C2S B w3 G bl1 gi ins V (ins.map (op1 (X.chg l))) (X.chg l) (ph2 (X.chg l) []) Vt wr:=by have C:=cu.o.after ee;exact⟨C.ran,C.ints,im.2,C.run⟩
    have fa:Y9 wr fx ((Y4 l).map str):=by have C:=ir.o;intro j hj;have kf:j<(Y4 l).length:=(by simpa using hj);have⟨g9,c9,lz,ku,_,_,_,kq⟩:=Xf C Qw;injection ku with hv1 hv2 hv3;refine⟨g9,0,hv1,?_⟩;rw[Ze5];refine kq.cell ?_;rw[Za (by simp[QS];omega)];simp[QS,kf]
    have iu:=ZM j7 fa;have⟨wB,ky⟩:=ZL wr;subst ky;clear dt ee j7 fa;go_wp2;go_loopw [137] (λkv wr=>∃ (t:Nat) (V4:Ev),t<=ins.length/\kv=(t:Int)/\C2S B w3 G bl1 gi ins V (ins.map (op1 (X.chg l))++(ins.take t).map (op2 (X.chg l))) (X.chg l) (ph2 (X.chg l) (ins.take t)) V4 wr/\Y9 wr fx ((Y4 l).map str)/\∀g o,fx=some ⟨g,o,none⟩->∃r,Row wr g 9 r) (λkv _=>ins.length- (intOf kv).toNat)
    case atStart=>exact⟨0,Vt,Qw,rfl,by simpa using iu.1,iu.2,λg o e=>by
     subst e
     exact YS ir.o g (by rw[YV];rfl)⟩
    case round=>
     obtain⟨t,V4,ht,rfl,Z,fu,fq⟩:=hrel;have cz:=ZI Z;have iq:=ZM fu fq;by_cases bq:t<ins.length
     .have bj:=Z.cell bq;have aw:ins[t]∈Yj V G.n:=by rw[ct.o];exact Zl bq
      have ai:ins[t]∉ins.take t:=by
       have ic:ins.Nodup:=by rw[<-ct.o];exact FA
       have C:(ins.take t++ins.drop t).Nodup:=by rw[ZdH];exact ic
       intro hm;exact(ZdP.1 C).2.2 _ hm _ (by rw[Ze1 bq];exact Zfs) rfl
      have dm:ins.take (t+1)=ins.take t++[ins[t]]:=Zc bq;have ay:ins=ins.take t++ins[t]::ins.drop (t+1):=(by rw[<-Ze1 bq,ZdH]);have⟨i,fc⟩:=ZK ins[t];rw[fc] at bj aw ai dm ay;have de:=ZI ay;clear ay;have⟨hi,fe⟩:=mem_ins.1 aw;have⟨S,blt,s,d,M⟩:=Z.Zc1 HJ.2 J.2 HJ.3 dj hi fe ai;have kt:(t:Int)<(ins.length:Int):=Qw;have ia:(i:Int)<(G.n:Int):=Qw;have au:Ym X.K S (Yv S.dir (Y4 l)) d []:=M.Zan;have iy:QU X.K (X.E+1) (V4.Ds i) S:=M.hB;have ag:=OG (a:=λS=>Yv S.dir (Y4 l)) Z.at_ hi M.hM au;have jc:∀x∈Y4 l,x.length<=1000:=λx hx=>by have⟨c,hc,C,_⟩:=Do.1 hx;rw[<-C];have:=iw.o c hc;omega
      have ez:(Y4 l).length<=1000:=by
       have h1:(Y4 l).length<=l.length:=by unfold Y4;exact Zee _ _
       omega
      have fj:=Z1u (gone:=Y4 l) (K:=X.K) (E:=X.E+1) (ggc:=ggc) M.e.1 hi M.hM iy H.2.hK (by have C:=H.2.ep;exact Zq (Nat.succ_le_succ C) Qw) au M.ty dj jc ez fu (λg o e=>by have⟨r,hr⟩:=fq g o e;exact hr.lt) M.row;have s2:=M.e.1.Zaz.c2;have cm:=M.e.1.ZaK hi;have x1:=M.row.c1;have az:=ZY M fj ai dm;clear Z aw M fj ai dm fc fe fu fq jc ez au iy;by_cases cj:Yi V4 (i,λS=>Yv S.dir (Y4 l))=0
      .have ak:=ZI cj;clear cj ag;go_wp2_with (go_at_call 41;go_fit az.2;rintro e w5 ⟨dw,rfl,aq,aj,ae,af⟩;rw[ak.o] at aq;obtain rfl:=aq.zero;have U:=ZI (aj ak.o);clear aq aj ae af s2 cm x1);go_roundw
       .have C:=cz.o.did (x:=op2 (X.chg l) i) ak.o (Z9O HJ.2 cz.o.at_ hi az.1.hM az.3 ak.o) az.1.e U.o;have h8:=Iw iq.1 iq.2 az.1.e.1 U.o;exact⟨t+1,_,Qw,QC,by rw[az.4,Zo,<-Zd];exact C,h8.1,h8.2⟩
       simp[intOf];omega
      .have bh:Yi V4 (i,λS=>Yv S.dir (Y4 l))=10:=ag.resolve_left cj;have ak:=ZI bh;clear cj ag bh;go_wp2_with (first|(go_at_call 41;go_fit az.2;rintro e w5 ⟨dw,rfl,aq,aj,ae,af⟩;rw[ak.o] at aq;obtain⟨b5,rfl⟩:∃b5,dw=.iface 139 (b5:Nat):=(by rcases aq.split with ⟨C,_⟩|⟨_,C⟩;exact absurd C Qz;exact C);have bu:Ty w5:=(by have C:=ae.below az.1.e.1;have h8:=az.1.ty;unfold Ty at h8⊢;rw[C.cell (p:=⟨0,0,none⟩) dj];exact h8);have U:=ZO aq ae af bu;clear aq aj ae af bu s2 cm x1)|(go_at_call 40;refine(GQ 10 _ G.s _ _ U.2.2.1 rfl U.2.2.2 (by have C:=az.1.e.1.ge G.s (Zh _ az.1.e.1.ZbC);omega) _ (by exact Fh U.2.1) U.1 az.1.e.1.Zaz.lt).mono ?_;rintro e w7 ⟨fw,rfl,er,eu, -⟩;have R7:=ZM er eu;clear er eu));go_ret;have ah:QT (YW (X.chg l) (Yj V G.n)) V=(Yi V4 (op2 (X.chg l) i),Y3 V4 (op2 (X.chg l) i)):=by
        rw[ct.o];unfold YW;have e9:ins.map (op1 (X.chg l))++ins.map (op2 (X.chg l))=(ins.map (op1 (X.chg l))++(ins.take t).map (op2 (X.chg l)))++(op2 (X.chg l) i::(ins.drop (t+1)).map (op2 (X.chg l))):=by have C:ins.map (op2 (X.chg l))=(ins.take t).map (op2 (X.chg l))++(op2 (X.chg l) i::(ins.drop (t+1)).map (op2 (X.chg l))):=(by rw[<-Zn,<-Zo,<-de.o]);rw[Zd,<-C]
        rw[e9];exact OD cz.o.run (by show Yi V4 (i,λS=>Yv S.dir (Y4 l))≠0;rw[ak.o];decide)
       have ef:Yi V4 (op2 (X.chg l) i)=10:=ak.o;have ik:w<=wr.heap.size:=Zq J.4.size az.1.e.2.2.size;refine⟨l,fw,J.5,rfl,?_,λh=> ?_,λ_=> ?_⟩
       .rw[ah,ef];exact R7.1.base ik
       .rw[ah,ef] at h;exact absurd h Qx
       .rw[ah];exact OJ (c:=0) (ev:=.nilIface) (ev':=.nilIface) H.1 ⟨J.2,J.3,J.4⟩ az.1.e (Zu _ _) U.2.1 U.2.2.1 R7.2
     .obtain rfl:t=ins.length:=(by omega);rw[Zs] at cz;have⟨js,e4,g4,f4⟩:=cz.o.ran;have ij:=cz.o.same;have cr:=e4.Zaz;rw[ij.2.2.1,H.2.vg] at cr;have c3:=cr.c3;have f3:=cr.free (j:=3) Qx;have jz:=H.2.gb;have ly:=Zr ((X.g:Int)+1) Qw;have jo:=ZN e4 g4 f4;have jr:=ZI ij;clear Z fu fq e4 g4 f4 ij cr;go_wp2;go_ret;have ah:QT (YW (X.chg l) (Yj V G.n)) V=(0,V4):=by rw[ct.o];exact cz.o.run
      have lu:V4.gen=(X.g:Int):=(by rw[jr.2.2.1,H.2.vg]);refine⟨l,.nilIface,J.5,rfl,?_,λ_=> ?_,λh=> ?_⟩
      .rw[ah];exact QK.nil _ _
      .rw[ah];have⟨jt,e5,g5,f5⟩:=QG.trans ⟨J.2,J.3,J.4⟩ ⟨js,jo.o⟩;have C:=e5.ZbX (V.gen+1);rw[H.2.vg] at C⊢;exact⟨jt,C,g5,f5.setCell (Zv (Zh _ H.1.ZbC)) _⟩
      .rw[ah] at h;exact absurd rfl h
variable{L L' l:List Bs}{base c g:Nat}{la:Option Addr}
def Tu{e:Qu}(g:Nat):∀ (F:Qk) (o:Nat) (w:Qs) (cur:Array Qt),w.heap[g]? =some (.cells cur e (0,0))->o+F.length<=cur.size->∃C,(w.setCells g o F).heap[g]? =some (.cells C e (0,0))/\C.size=cur.size/\C.toList.take (o+F.length)=cur.toList.take o++F
 |[],o,w,cur,h,hl=>⟨cur,h,rfl,Qx⟩
 |v::r,o,w,cur,h,hl=>by
  simp[Ze] at hl;have M:(w.setCell ⟨g,o,none⟩ v).heap[g]? =some (.cells (cur.setIfInBounds o v) e (0,0)):=by rw[setCell_eq_setRow w g o _ e _ v h];exact Zg6 w g _ _ e _ h
  have⟨C,a,b,c⟩:=Tu g r (o+1) _ _ M QA;refine⟨C,a,by rw[b];simp,?_⟩;rw[show o+(v::r).length=o+1+r.length by simp;omega,c];have e1:(cur.setIfInBounds o v).toList.take (o+1)=cur.toList.take o++[v]:=by
   rw[Array.toList_setIfInBounds];have J:o<(cur.toList.set o v).length:=by simp;omega
   rw[Zc J,List.take_set_of_le (Zt _)];simp
  rw[e1];simp
def Tt(g:Nat):∀ (C:Qk) (o:Nat) (w w0:Qs),Fr [g] w0 w->Fr [g] w0 (w.setCells g o C)
 |[],o,w,w0,h=>h
 |v::r,o,w,w0,h=>Tt g r (o+1) _ w0 (h.setCell (Zv Qx) v)
theorem Strs.Zcx{cap q:Nat}{l':List Bs}(h:Strs w base (.slice g n cap) l)(hl:l'.length<=l.length):Strs ((w.drewN q).setCells g 0 ((l'++List.replicate (l.length-l'.length) []).map encStr)) base (.slice g l'.length cap) l'/\Fr [g] w ((w.drewN q).setCells g 0 ((l'++List.replicate (l.length-l'.length) []).map encStr)):=by
 rcases h.2 with ⟨hv,_⟩|⟨U,O,cur,hv,F,hh,Z,J,M,h4⟩
 .grind
 .simp at hv;obtain⟨rfl,rfl,rfl⟩:=hv;have hlen:((l'++List.replicate (l.length-l'.length) ([]:Bs)).map encStr).length=l.length:=QB;have⟨C,a,b,c⟩:=Tu g ((l'++List.replicate (l.length-l'.length) []).map encStr) 0 (w.drewN q) cur hh Qw;refine⟨⟨by simp[QS],Zy ⟨g,cap,C,rfl,F,a,Qw,J,by rw[b,M],?_⟩⟩,Tt g _ 0 _ w (Z1 ⟨rfl,rfl,rfl,Zt _,λ_ _=>rfl⟩)⟩;have c2:=ZF (List.take l'.length) c;rw[ZfQ,hlen,ZeN Qw] at c2;rw[Zg7,c2];simp[QS,str]
def Z7s(l:List Bs):Lib.strsOf (λi=>str (l.toArray[i]!)) l.length=l:=by
 unfold Lib.strsOf;apply Zeu
 .simp
 .intro i C h;simp[str,h]
def Z7e(w:Qs)(base g n cap:Nat)(l:List Bs)(h:Strs w base (.slice g n cap) l)(hl:l.length<=1000000):Calls prog 98 #[.slice g n cap] w λe w'=>e=.returned (.tuple #[])/\Strs w' base (.slice g n cap) (l.mergeSort λx y=>decide (x<=y))/\Fr [g] w w':=by obtain⟨F,C,rfl,J⟩:=h.holds;go_fit (Tryz.slices_Sort_string g 0 cap l w F C Qw);rintro e w' ⟨rfl,q,os,rfl⟩;have⟨a,b⟩:=h.sorted (q:=q) (os:=os) (l':=l.mergeSort λx y=>decide (x<=y)) (ZfY ..);simp_all
def Z6z(w:Qs)(base g n cap:Nat)(l:List Bs)(h:Strs w base (.slice g n cap) l)(hl:l.length<=1000000):Calls prog 99 #[.slice g n cap] w λe w'=>∃v,e=.returned v/\Strs w' base v (Lib.compact l)/\Fr [g] w w':=by obtain⟨F,M,rfl,J⟩:=h.holds;have C:=Tryz.slices_Compact_string_cells g 0 l.length cap (λi=>str (l.toArray[i]!)) w Qw J (λi hi=>(F i Qw).1) (λj O=>(F j Qw).2);rw[Z7s] at C;go_fit C;rintro e w' ⟨rfl,q,rfl⟩;have⟨a,b⟩:=h.Zcx (q:=q) (l':=Lib.compact l) (Lib.compact_length_le l);simp_all
def tl1(x:Bs):Bs:=x.drop 1
def Z7K(x:Bs):(str x).extract 1 (str x).size=str (tl1 x):=by apply JJ;rw[Lib.extract_to_end,Yp,Yp];rfl
def kOf(V:Ev)(pre:Bs)(i:Nat):List Bs:=match V.Ms i with
 |some S=>(S.dir.names.filter λn=>Lib.hasPrefix n (nmD pre)).map tl1
 |none=>[]
def Xx(V:Ev)(pre:Bs)(k:Nat):List Bs:=(List.range k).flatMap (kOf V pre)
def PK(V:Ev)(pre:Bs)(k:Nat):Xx V pre (k+1)=Xx V pre k++kOf V pre k:=by unfold Xx;rw[ZdX,ZdY];simp
def ES(V:Ev)(n:Nat):Prop:=∀i,i<n->∀S,V.Ms i=some S->S.dir.Zax/\S.dir.length<=10000/\∀x∈S.dir.names,x.length<=1000
def PJ(h:ES V n)(pre:Bs){i:Nat}(hi:i<n):(kOf V pre i).length<=10000:=by
 unfold kOf;cases hM:V.Ms i with
 |none=>simp
 |some S=>rw[Zf];have:=ZdM (λn=>Lib.hasPrefix n (nmD pre)) S.dir.names;have:S.dir.names.length=S.dir.length:=Zf ..;have:=(h i hi S hM).2.1;omega
def Hm(h:ES V n)(pre:Bs):∀k,k<=n->(Xx V pre k).length<=k*10000
 |0,_=>by simp[Xx]
 |k+1,hk=>by have:=Hm h pre k Qw;have:=PJ h pre (i:=k) Qw;rw[PK,Zb];omega
structure KyS(B:Nat)(w:Qs)(G:Eg)(V:Ev)(bl:Qj)(lv:Qt)(L:List Bs)(wr:Qs):Prop where
 ran:QG B G bl V w wr
 own:Strs wr w lv L
def KyS.after(h:KyS B w G V bl lv L wr)(hb:Below wr wr w'):KyS B w G V bl lv L w':=⟨h.ran.after hb,h.own.after hb⟩
def KyS.next(h:KyS B w G V bl lv L wr)(he:EAt B wr G V bl1/\(∀k∈bl1,k∈bl∨w.heap.size<=k)/\Fr (G.p::bl) w wr)(J:QG B G bl1 V wr w'):KyS B w G V bl lv L w':=by have⟨C,e2,g2,f2⟩:=J;refine⟨QG.trans he ⟨C,e2,g2,f2⟩,JY h.own f2 (λq F=> ?_)⟩;have⟨l,hl⟩:=YS h.own q F;exact he.1.Zap hl Qz
def KyS.put{F:Qt}(h:KyS B w G V bl lv L wr)(O:Strs w' w F L')(J:Fr (QV lv) wr w'):KyS B w G V bl F L' w':=by
 have⟨bl1,e1,g1,f1⟩:=h.ran;have C:QL wr (QV lv) [9]:=λq U=>by have⟨l,f,hl,_⟩:=YS h.own q U;simp_all
 refine⟨⟨bl1,e1.fr J C Qx Qx Qx (λk M hm=> ?_),g1,f1.trans J (λi hi Z=> ?_)⟩,O⟩
 .exact e1.typed.Zb5 C Qz k M hm
 .have:=Ai h.own i hi;omega
structure KyN(B:Nat)(w:Qs)(G:Eg)(V:Ev)(bl:Qj)(la:Qm)(l:List Bs)(lv:Qt)(L:List Bs)(wr:Qs):Prop where
 s:KyS B w G V bl lv L wr
 nm:Y9 wr la (l.map str)
 lt:∀g o,la=some ⟨g,o,none⟩->g<wr.heap.size/\g∉QV lv
def KyN.after(h:KyN B w G V bl la l lv L wr)(hb:Below wr wr w'):KyN B w G V bl la l lv L w':=⟨h.s.after hb,h.nm.after hb,λg o e=>⟨by have:=(h.lt g o e).1;have:=hb.size;omega,(h.lt g o e).2⟩⟩
def Strs.rd{a:Qm}(h:Strs w base (.slice a n c) l):Y9 w a (l.map str):=λj U=>by have C:j<l.length:=QB;have⟨g9,O,M,J,_,_,_,F⟩:=Xf h Qw;injection J with hv1 hv2 hv3;refine⟨g9,0,hv1,?_⟩;refine F.cell ?_;rw[Za (by simp[QS];omega)];simp[QS,C]
def KyN.start{b0:Nat}(J:Strs wr b0 lv L)(hb:wr<=base)(hs:Strs w3 base (.slice la n c) l)(h:KyS B w G V bl lv L w3):KyN B w G V bl la l lv L w3:=by
 refine⟨h,hs.rd,λg o e=> ?_⟩;subst e;have hm:g∈QV (.slice (some ⟨g,o,none⟩) n c):=by rw[YV];rfl
 have⟨r,M⟩:=YS hs g hm;have:=Ai hs g hm;refine⟨M.lt,λC=> ?_⟩;have⟨U,F⟩:=YS J g C;have:=F.lt;omega
def KyN.put(h:KyN B w G V bl la l lv L wr)(M:Strs w' w (.slice g n c) L')(C:Fr (QV lv) wr w')(F:lv.ownBlock=some g∨g=wr.heap.size):KyN B w G V bl la l (.slice g n c) L' w':=by
 refine⟨h.s.put M C,λj J=> ?_,λg2 o e=> ?_⟩
 .have⟨g2,o,e,hc⟩:=h.nm j J;have:=C.block g2 (h.lt g2 o e).1 (h.lt g2 o e).2;refine⟨g2,o,e,?_⟩;unfold World.cell? at hc⊢;simp_all
 .have⟨O,U⟩:=h.lt g2 o e;refine⟨by have:=C.size;omega,λhm=> ?_⟩;rcases LR F g2 hm with h9|h9
  .simp_all
  .omega
def Oq(B:Nat)(w:Qs)(G:Eg)(V:Ev)(bl:Qj)(pre:Bs)(h:EAt B w G V bl)(eh:pre.length<=1000)(hd:ES V G.n):Calls prog 43 #[G.s,pre] w λe w'=>∃v,e=.returned (.tuple #[v,.nilIface])/\Strs w' w v (Lib.compact ((Xx V pre G.n).mergeSort λx y=>decide (x<=y)))/\QG B G bl V w w':=by
 have c2:=h.Zaz.c2;have c4:=h.Zaz.c4;have:=h.nle;have af:=Br pre Qw;have HC:=ZI af;have HR:=ZI hd;have H0:KyS B w G V bl (.slice none 0 0) (Xx V pre 0) w:=⟨QG.refl h,Strs.nil _ _⟩;have H0:=ZI H0;go_enter func43,ntmps43;go_wp2;go_loopw [6,23] (λlv Z wr=>∃k:Nat,k<=G.n/\Z=(k:Int)/\KyS B w G V bl lv (Xx V pre k) wr) (λ_ Z _=>G.n- (intOf Z).toNat)
 .exact⟨0,Qw,rfl,H0.o⟩
 obtain⟨k,hk,rfl,hS⟩:=hrel;have F:=ZI hS;by_cases ak:k<G.n
 .have⟨bl1,O,hg,hf⟩:=hS.ran;have:(k:Int)<(G.n:Int):=Qw;have cm:=O.ZaK ak;have J:=PK V pre k;have HE:=ZN O hg hf;cases hM:V.Ms k with
  |none=>
   have aj:kOf V pre k=[]:=by unfold kOf;rw[hM]
   rw[aj,ZdJ] at J;have hh:=CF B wr G V bl1 k O ak hM;have C:=ZM hh J;go_wp2_with (go_at_call 34;go_fit C.1;rintro e w2 ⟨rfl,dh⟩;have R2:=ZI (F.o.next HE.o dh));go_roundw
   .exact⟨k+1,Qw,QC,by rw[C.2];exact R2.o⟩
   simp[intOf];omega
  |some S=>
   have⟨s,ay,dq,hd,L,dz⟩:=O.mem ak hM;have hh:=C1 B wr G V bl1 k O ak S hM;have⟨dp,bh,de⟩:=HR.o k ak S hM;have ae:=λw2 (hs:Wo w2 s (G.ds k) S)=>Io s (G.ds k) S (nmD pre) w2 hs dp Qw;have aj:kOf V pre k=(S.dir.names.filter λn=>Lib.hasPrefix n (nmD pre)).map tl1:=by unfold kOf;rw[hM]
   have bf:=Hm HR.o pre k hk;have ai:=PJ HR.o pre ak;have⟨l,hl⟩:=ZK (S.dir.names.filter λn=>Lib.hasPrefix n (nmD pre));have cz:∀x∈l,1<=x.length/\x.length<=1000:=λx hx=>by
    rw[<-hl] at hx;have⟨h1,h2⟩:=ZdV.1 hx;refine⟨?_,de x h1⟩;cases x with
    |nil=>simp[Lib.hasPrefix,nmD] at h2
    |cons a r=>simp
   rw[hl] at aj ae;rw[aj] at J ai;rw[Zf] at ai;have bg:(Xx V pre k).length+l.length<=200000:=(by omega);have⟨M,cr⟩:=ZK (Xx V pre k);rw[cr] at F J bg;have C:=ZR hh ay dq ae J cz bg;go_wp2_with (first|(go_at_call 34;go_fit C.1;rintro e w2 ⟨rfl,az⟩;have x1:=(C.2.1.after az).c1;have q2:=az.cell (Z9 _ _ cm)|>.trans cm;have af:=HC.o;have R2:=ZI az)|(go_at_call 96;go_fit (C.2.2.2.1 _ (C.2.2.1.after R2.o));rintro e w3 ⟨v,rfl,bq,ct⟩;obtain⟨la,lc,rfl⟩:=Cd bq;have S3:=ZX bq (F.o.after (R2.o.trans (ct.mono R2.o.size))) (Zq R2.o.size (Zt _))));have⟨wA,ee⟩:=ZL wr;subst ee;go_loopw [6,48] (λlv Z wr=>∃t:Nat,t<=l.length/\Z=(t:Int)/\KyN B w G V bl la l lv (M++(l.take t).map tl1) wr) (λ_ Z _=>l.length- (intOf Z).toNat)
   .exact⟨0,Qw,rfl,by rw[Zh2,Zf9,ZdJ];exact KyN.start F.o.own S3.3 S3.1 S3.2⟩
   obtain⟨t,ht,rfl,U⟩:=hrel;have HT:=ZI U;by_cases aq:t<l.length
   .have⟨g,o,dy,ag⟩:=U.nm t QB;subst dy;rw[Zf1] at ag;have hx:=C.2.2.2.2.2.1 _ (Zl aq);have⟨x,cj⟩:=ZK l[t];have bu:M++(l.take (t+1)).map tl1=M++(l.take t).map tl1++[tl1 x]:=by rw[Zc aq,cj];simp
    have bz:(M++(l.take t).map tl1).length<=1000000:=by have h9:=C.2.2.2.2.2.2;rw[Zb,Zf,Zg];omega
    rw[cj] at ag hx;have:∀W,(Instr.slice 9 (.string (str x)) (some (.int .i64 1)) none none).run prog W=.ok (.string (str (tl1 x))) W:=λW=>by rw[<-Z7K];exact Ch 9 underlying9 (str x) 1 (by rw[QW];omega) W
    have au:=ZB wr (.cells #[.string (str (tl1 x))] 9);have S2:=HT.o.after ((Zu wr wr).alloc (Zt _) (.cells #[.string (str (tl1 x))] 9));have:(t:Int)<(l.length:Int):=Qw;have bj:l.length<=200000:=by have h9:=C.2.2.2.2.2.2;omega
    have⟨A0,cn⟩:=ZK (M++(l.take t).map tl1);rw[cn] at bu bz S2 U;have HX:=ZZ bu bz au S2 U.s.ran;have cu:w.heap.size<=(wr.alloc (.cells #[.string (str (tl1 x))] 9)).heap.size:=by have⟨_,_,_,f9⟩:=U.s.ran;have:=f9.size;simp;omega
    have du:=ZI cu;go_wp2_with (at_builtin;refine CY _ rfl (.tmp 52) (.tmp 55) rfl w.heap.size _ _ rfl HX.4.s.own wr.heap.size (tl1 x) rfl HX.3 du.o HX.2 ?_;intro g2 dw w8 ho hf df;have R8:=ZI (HX.4.put ho hf df));go_roundw
    .exact⟨t+1,Qw,QC,by rw[HX.1];exact R8.o⟩
    simp[intOf];omega
   .obtain rfl:t=l.length:=(by omega);rw[Zs] at HT;have ah:=HT.o.s;rw[<-C.2.2.2.2.1] at ah;have dt:=ZI ah;go_wp2;go_roundw
    .exact⟨k+1,Qw,QC,dt.o⟩
    simp[intOf];omega
 .obtain rfl:k=G.n:=by omega
  obtain⟨a,cap,rfl⟩:=Cd hS.own;have bf:=Hm HR.o pre G.n (Zt _);have⟨L,hL⟩:=ZK (Xx V pre G.n);rw[hL] at F bf;rw[hL];by_cases bm:L=[]
  .subst bm;go_wp2_with (first|(go_at_call 98;go_fit (Tryz.slices_Sort_string_none a cap _);rintro e w' ⟨rfl,rfl⟩)|(go_at_call 99;go_fit (Tryz.slices_Compact_string_empty a cap _);rintro e w' ⟨rfl,rfl⟩));go_ret2;have dx:Lib.compact (([]:List Bs).mergeSort λx y=>decide (x<=y))=[]:=(by simp[Lib.compact,Lib.compactUpTo]);exact⟨.slice a 0 cap,rfl,by rw[hL,dx];exact F.o.own,F.o.ran⟩
  .have aw:0<L.length:=by
    cases L with
    |nil=>exact absurd rfl bm
    |cons=>simp
   obtain⟨g,c',sp,hv, -, -, -, -⟩:=Xf F.o.own aw;injection hv with hv1 hv2 hv3;subst hv1 hv3;have bj:L.length<=1000000:=Qw;have HL:=ZM hL bj;go_wp2_with (first|(go_at_call 98;go_fit (Z7e _ _ g _ cap L F.o.own HL.2);rintro e w8 ⟨rfl,dj,cw⟩;have S8:=ZI (F.o.put dj cw))|(go_at_call 99;refine(Z6z _ _ g _ cap (L.mergeSort λx y=>decide (x<=y)) S8.o.own (by rw[ZfY];exact HL.2)).mono ?_;rintro e w9 ⟨v9,rfl,dm,cy⟩;have S9:=ZI (S8.o.put dm cy)));go_ret2;exact⟨_,rfl,by rw[HL.1];exact S9.o.own,S9.o.ran⟩
variable{H:Bs->Option Bs}{l:List Chg}{sd:Nat->Bool}
def YG(sd:Qr)(n:Nat):Nat:=((List.range n).filter sd).length
def GK{a b:Qr}(h:∀i,i<n->a i=true->b i=true):YG a n<=YG b n:=by unfold YG;rw[<-Zgh,<-Zgh];exact List.countP_mono_left λi hi=>h i (ZdS.1 hi)
def Ki(n:Nat):YG (λ_=>true) n=n:=by unfold YG;rw[List.filter_eq_self.2 (λ_ _=>rfl),Zfv]
structure Y1(K:List Bs)(E k m n g:Nat)(H:Bs->Option Bs)(sd:Qr)(V:Ev):Prop where
 hK:KOk K
 k1:1<=k
 kn:k+m=n
 vk:V.k=k
 vm:V.m=m
 vg:V.gen=(g:Int)
 gone:V.P.gone=false
 Zas:V.P.Zas<0
 Zaq:∀i,i<n->(V.Ds i).Zaq<=(E:Int)
 in_:∀i,i<n->∀S,V.Ms i=some S->QU K E (V.Ds i) S/\Wn k m i g H (stR (V.Ds i).reads S.dir)
 snd:∀i,i<n->sd i=true->∃S,V.Ms i=some S/\Xt k m i H (stR (V.Ds i).reads S.dir)
 many:k<=YG sd n
def FmS.set(h:FmS K ⟨k,m,0,P,Ds,λ_=>none⟩ n V)(hK:KOk K)(M:1<=k)(O:k+m=n)(hl:∀i,i<n->(Ds i).Zaq<=2):Y1 K 2 k m n 0 (λ_=>none) (λ_=>true) V where
 hK:=hK
 k1:=M
 kn:=O
 vk:=h.k
 vm:=h.m
 vg:=h.gen
 gone:=h.gone
 Zas:=h.Zas
 Zaq:=λi hi=>by rw[h.Zaq i];exact hl i hi
 in_:=λi hi S hM=>by
  have⟨U,C,J,F⟩:=h.done i hi
  rw[hM] at C
  cases C
  rw[F]
  exact⟨J,GC k m i 0 _⟩
 snd:=λi hi _=>by
  have⟨S,C,J,F⟩:=h.done i hi
  exact⟨S,C,by rw[F];exact VN k m i _⟩
 many:=by rw[Ki];omega
def Cl(k m g:Nat)(V:Ev)(i:Nat):Tab:=match V.Ms i with
 |some S=>stR (V.Ds i).reads S.dir
 |none=>JM k m i g
def Z5(K:List Bs)(E k m g:Nat)(H:Bs->Option Bs)(V:Ev):QM:=⟨K,E,k,m,g,H,[],Cl k m g V⟩
def Y1.mono(h:Y1 K E k m n g H sd V){E':Nat}(he:E<=E'):Y1 K E' k m n g H sd V:={h with Zaq:=λi hi=>Int.le_trans (h.Zaq i hi) Qw,in_:=λi hi S hM=>⟨(h.in_ i hi S hM).1.mono he,(h.in_ i hi S hM).2⟩}
def Y1.ins(h:Y1 K E k m n g H sd V):k<=(Yj V n).length:=
 Zq h.many (GK λi hi hs=>by
  have⟨S,C,_⟩:=h.snd i hi hs
  rw[C];rfl)
def Y1.pre(h:Y1 K E k m n g H sd V)(O:E<=1900000000)(U:g<=1000000000)(M:cs≠[])(C:cs.length<=4)(F:∀c∈cs,c.key∈K)(J:∀c∈cs,∀v,c.val=some v->v.length<=200):Bi (Z5 K E k m g H V) n V cs where
 hK:=h.hK
 k1:=h.k1
 rest:=λi hi=>by
  show Wn k m i g H (Cl k m g V i)
  unfold Cl
  cases hM:V.Ms i with
  |none=>exact GC k m i g H
  |some S=>exact(h.in_ i hi S hM).2
 vk:=h.vk
 vm:=h.vm
 vg:=h.vg
 kn:=h.kn
 gone:=h.gone
 at_:=λi hi S hM=>by
  refine⟨(h.in_ i hi S hM).1,?_⟩
  show _=Cl k m g V i
  unfold Cl
  rw[hM]
 many:=h.ins
 ep:=O
 gb:=U
 ne:=M
 few:=C
 key:=F
 val:=J
theorem KJ(l:List Wt):∀ (V:Ev) (i:Nat),((QT l V).2.Ds i).Zaq=(V.Ds i).Zaq:=by
 induction l with
 |nil=>intro V i;rfl
 |cons x r ih=>
  intro V i;have:((Y3 V x).Ds i).Zaq=(V.Ds i).Zaq:=by
   unfold Y3;split
   .simp only;by_cases e:i=x.1
    .subst e;rw[QX,(XK _ _ _).1]
    .rw[QP _ _ e]
   .rfl
  unfold QT;grind
def Y1.did(h:Y1 K E k m n g H sd V){V':Ev}(hk:V'.k=V.k)(hm:V'.m=V.m)(Z:V'.gen=V.gen+1)(O:V'.P.gone=false)(M:V'.P.Zas<0)(U:∀i,(V'.Ds i).Zaq=(V.Ds i).Zaq)(hs:∀i,(V'.Ms i).isSome=(V.Ms i).isSome)(C:∀i,i<n->∀S,V'.Ms i=some S->((Z5 K E k m g H V).chg l).p2 i (V'.Ds i) S):Y1 K (E+2) k m n (g+1) (upH H l) sd V':=by refine⟨h.hK,h.k1,h.kn,hk.trans h.vk,hm.trans h.vm,by rw[Z,h.vg];omega,O,M,λi hi=>by rw[U];have:=h.Zaq i hi;omega,λi hi S hM=>⟨(C i hi S hM).1,(C i hi S hM).2.1⟩,λi hi ae=> ?_,h.many⟩;have⟨S0,J,h4⟩:=h.snd i hi ae;have F:=hs i;rw[J] at F;have⟨S,hM⟩:=ZdQ.1 F;refine⟨S,hM,(C i hi S hM).2.2 ?_⟩;show Xt k m i H (Cl k m g V i);unfold Cl;rw[J];exact h4
def Y1.Zb2(h:Y1 K E k m n g H sd V)(J:G.n=n)(he:EAt B w G V bl)(F:Bi (Z5 K E k m g H V) G.n V cs)(hl:l.Perm (Wk cs)):(QT (YW ((Z5 K E k m g H V).chg l) (Yj V G.n)) V).1=0/\Y1 K (E+2) k m n (g+1) (upH H l) sd {(QT (YW ((Z5 K E k m g H V).chg l) (Yj V G.n)) V).2 with gen:=V.gen+1}:=by have⟨c1,c2⟩:=QM.Zb2 (F.ok hl) (F.start (l:=l) he);have⟨d1,d2⟩:=c2 h.Zas;have C:=c1 d1;have⟨s1,s2,O,M⟩:=KK (YW ((Z5 K E k m g H V).chg l) (Yj V G.n)) V;exact⟨d1,h.did s1 s2 rfl C.gone d2 (λi=>KJ _ V i) M (λi hi S hM=>(C.at_ i (by rw[J];exact hi) S hM).1)⟩
def Y1.Zbz(h:Y1 K E k m n g H sd V){key v:Bs}(C:H key=some v):Cs K E V n key v:=⟨λi hi S hM=>(h.in_ i hi S hM).1,λi hi S hM=>by rw[h.vk,h.vm];exact(h.in_ i hi S hM).2.some_ key v C⟩
def Y1.ZcT(h:Y1 K E k m n g H sd V){key v:Bs}(J:H key=some v):V.k<=WY V key v n:=by rw[h.vk];refine Zq h.many (GK λi hi hs=> ?_);have⟨S,C,F⟩:=h.snd i hi hs;unfold Xe;rw[C];simp only;rw[h.vk,h.vm];exact Zem (F key v J)
def Y1.get(h:Y1 K E k m n g H sd V)(he:EAt B w G V bl)(C:G.n=n)(U:Ty w)(J:0<B){key v:Bs}(F:H key=some v)(O:key∈K)(hv:v.length<=200):Calls prog 28 #[G.s,key] w λe w'=>e=.returned (.tuple #[v,.nilIface])/\QG B G bl V w w':=by have M:=h.hK.len key O;exact Z18 B w G V bl K E key v he U J M.1 Qw hv (by rw[h.vk];exact h.k1) (by rw[h.vk,h.vm,C];exact h.kn) h.gone (by rw[C];exact h.Zbz F) (by rw[C];exact h.ZcT F)
def Y1.ZcV(h:Y1 K E k m n g H sd V):ES V n:=λi hi S hM=>by have C:=(h.in_ i hi S hM).1;refine⟨C.sorted,by have:=C.few h.hK;omega,λx hx=> ?_⟩;obtain⟨y,F,rfl⟩:=Zz.1 hx;have:=(BB h.hK _ (C.sm y F).1).2;omega
def Y1.look(h:Y1 K E k m n g H sd V)(he:EAt B w G V bl)(C:G.n=n)(Z:Ty w)(J:0<B){key v:Bs}(F:H key=some v)(U:key∈K)(hv:v.length<=200){i:Nat}(hi:i<n)(hs:sd i=true):Calls prog 45 #[G.s,(i:Int),key] w λe w'=>e=.returned .nilIface/\QG B G bl V w w':=by have M:=h.hK.len key U;have⟨S,hM,O⟩:=h.snd i hi hs;exact Z1i B w G V bl K E i S key v he Z J (by rw[C];exact hi) hM M.1 Qw hv (by rw[h.vk];exact h.k1) (by rw[h.vk,h.vm,C];exact h.kn) h.gone (h.in_ i hi S hM).1 (by rw[C];exact(h.Zbz F).runs) (by rw[h.vk,h.vm];exact O key v F)
def Y1.ZcQ(h:Y1 K E k m n g H sd V)(he:EAt B w G V bl)(M:G.n=n)(ht:Ty w)(af:0<B)(hE:E<=1900000000)(hg:g<=1000000000)(ah:cs≠[])(U:cs.length<=4)(Z:∀c∈cs,c.key∈K)(ae:∀c∈cs,∀v,c.val=some v->v.length<=200){gc nc cap:Nat}(hr:BR w gc cs)(ag:nc=cs.length)(O:nc<=cap):Calls prog 11 #[G.s,.slice gc nc cap] w λe w'=>∃l V',l.Perm (Wk cs)/\e=.returned .nilIface/\QG B G bl V' w w'/\Y1 K (E+2) k m n (g+1) (upH H l) sd V':=by have C:=h.pre hE hg ah U Z ae;rw[<-M] at C;go_fit (Om B w G V bl (Z5 K E k m g H V) gc nc cap cs he ht af C hr ag O);rintro e w' ⟨l,ev,hl,rfl,F,h0, -⟩;have⟨J,h2⟩:=h.Zb2 M he C hl;rw[J] at F;obtain rfl:=F.zero;exact⟨l,_,hl,rfl,h0 J,h2⟩
theorem Og(d:Array Bs)(x:Bs):∀m,x∈Lib.compactUpTo d m↔∃j,j<m/\d[j]! =x:=by
 intro m
 induction m with
 |zero=>simp[Lib.compactUpTo]
 |succ m ih=>
  rw[Lib.compactUpTo_succ,Zj,ih];constructor
  .grind
  .rintro⟨j,J,e⟩;by_cases C:j<m
   .grind
   .obtain rfl:j=m:=(by omega);by_cases h:Lib.keeps d j=true
    .simp_all
    .have:j≠0/\d[j]! =d[j-1]!:=by unfold Lib.keeps at h;simp at h;exact h
     grind
theorem Z0K(d:Array Bs)(hs:∀i j,i<=j->j<d.size->d[i]!<=d[j]!):∀m,m<=d.size->(Lib.compactUpTo d m).Nodup:=by
 intro m
 induction m with
 |zero=>intro _;simp[Lib.compactUpTo]
 |succ m ih=>
  intro hm;rw[Lib.compactUpTo_succ];by_cases h:Lib.keeps d m=true
  .rw[Zx h];refine ZdP.2 ⟨ih Qw,Qx,λa ha b hb e=> ?_⟩;have⟨j,O,C⟩:=(Og d a m).1 ha;have:=hs j (m-1) Qw Qw;have:=hs (m-1) m Qw Qw;have:d[m]! =d[m-1]!:=QA;unfold Lib.keeps at h;simp_all
  .grind
theorem Z0B(l:List Bs)(hs:l.Pairwise (λa b=>a<=b)):(Lib.compact l).Nodup/\∀x,x∈Lib.compact l↔x∈l:=by
 have M:∀i j,i<=j->j<l.toArray.size->l.toArray[i]!<=l.toArray[j]!:=λi j O C=>by
  have J:j<l.length:=Qw;have F:i<l.length:=Qw;have e1:l.toArray[i]! =l[i]:=QB;have e2:l.toArray[j]! =l[j]:=QB;rw[e1,e2];by_cases e:i=j
  .simp_all
  .exact Zej.1 hs i j F J Qw
 refine⟨Z0K l.toArray M l.length Qx,λx=> ?_⟩;unfold Lib.compact;rw[Og];constructor
 .grind
 .intro h;have⟨j,C,e⟩:=Zez h;exact⟨j,C,by rw[<-e];simp[C]⟩
def Kl(l:List Bs):(Lib.compact (l.mergeSort λx y=>decide (x<=y))).Nodup/\∀x,x∈Lib.compact (l.mergeSort λx y=>decide (x<=y))↔x∈l:=by
 have hs:(l.mergeSort λx y=>decide (x<=y)).Pairwise (λa b=>a<=b):=by
  have:=ZgR (le:=λx y:Bs=>decide (x<=y)) (λa b c h C=>by
   simp at*
   exact List.le_trans h C) (λa b=>by
   simp
   exact List.le_total a b) l
  simp_all
 have⟨a,b⟩:=Z0B _ hs;simp_all
def Ru(hM:V.Ms i=some S)(x:Bs):x∈kOf V [] i↔nmD x∈S.dir.names:=by
 unfold kOf;rw[hM];simp only;rw[Zz];constructor
 .rintro⟨n,J,rfl⟩;have⟨F,C⟩:=ZdV.1 J;cases n with
  |nil=>simp[Lib.hasPrefix,nmD] at C
  |cons a r=>
   have ha:a=100:=by
    simp[Lib.hasPrefix,nmD,List.isPrefixOf] at C
    first|exact C|exact C.symm
   subst ha;exact F
 .intro h;refine⟨nmD x,ZdV.2 ⟨h,?_⟩,rfl⟩;simp[Lib.hasPrefix,nmD,List.isPrefixOf]
def Y1.keys(h:Y1 K E k m n g H sd V):(Lib.compact ((Xx V [] n).mergeSort λx y=>decide (x<=y))).Nodup/\∀x,x∈Lib.compact ((Xx V [] n).mergeSort λx y=>decide (x<=y))↔H x≠none:=by
 have⟨a,b⟩:=Kl (Xx V [] n);refine⟨a,λx=>(b x).trans ?_⟩;have e1:∀{i:Nat} {S:Sto},nmD x∈S.dir.names↔stR (V.Ds i).reads S.dir (nmD x)≠none:=fun{i S}=>by rw[XI,ne_eq,ne_eq,XA]
 unfold Xx;rw[Zeg];constructor
 .rintro⟨i,hi,hx⟩ h8;cases hM:V.Ms i with
  |none=>unfold kOf at hx;rw[hM] at hx;cases hx
  |some S=>exact e1.1 ((Ru hM x).1 hx) ((h.in_ i (ZdS.1 hi) S hM).2.none_ x h8)
 .intro J;have⟨v,hv⟩:=ZdT.1 J;have⟨i,hi⟩:=Zfr (Zp h.k1 h.many);have⟨C,F⟩:=ZdV.1 hi;have⟨S,hM,M⟩:=h.snd i (ZdS.1 C) F;exact⟨i,C,(Ru hM x).2 (e1.2 (by rw[M x v hv];simp))⟩
def Y1.ZcL(h:Y1 K E k m n g H sd V){B:Nat}{w:Qs}{G:Eg}{bl:Qj}(he:EAt B w G V bl)(C:G.n=n):Calls prog 43 #[G.s,.string (str [])] w λe w'=>∃v L,e=.returned (.tuple #[v,.nilIface])/\Strs w' w v L/\L.Nodup/\(∀x,x∈L↔H x≠none)/\QG B G bl V w w':=by refine(Oq B w G V bl [] he Qx (by rw[C];exact h.ZcV)).mono ?_;rintro e w' ⟨v,rfl,hs,F⟩;rw[C] at hs;exact⟨v,_,rfl,hs,h.keys.1,h.keys.2,F⟩
def YJ.ZbJ{Ls Os:Nat->List Nat}(h:YJ B w G V Ls Os){i:Nat}(hi:i<G.n){gh:Nat}(U:∃v,Ls i=G.ds i::gh::QV v){D':Dk}(hd:Y7 w' G.p (G.ds i) gh (.slice none 0 0) D')(ag:D'.ok 800)(hl:(V.Ds i).Zaq<D'.Zaq)(hf:Fr [G.ds i,gh] w w'):QG B G (Wx G Ls Os) {V with Ds:=upd V.Ds i D',Ms:=upd V.Ms i none} w w':=by
 have⟨v,U⟩:=U;have F:=h.pd i hi;have O:=h.at_ i hi;have M:∀k∈[G.ds i,gh],k∈Ls i:=λk C=>by rw[U];simp at C⊢;omega
 have hx:G.xs i∈Os i/\∃sv lf inn,Row w (G.xs i) 91 [.pointer (some ⟨G.ds i,0,none⟩),sv,(lf:Int),.bool inn]/\(inn=true->lf<=(V.Ds i).Zaq):=by
  cases hM:V.Ms i with
  |none=>rw[hM] at O;have⟨sv,lf,inn,Z,J,h9⟩:=O;exact⟨by rw[Z];simp,sv,lf,inn,J,λe=>Int.le_of_lt (h9 e)⟩
  |some S=>rw[hM] at O;have⟨s,j,Z,J,_⟩:=O;exact⟨by rw[Z];simp,_,_,_,J,λ_=>Zff _⟩
 have⟨ah,sv,lf,inn,J,af⟩:=hx;have ae:QL w [G.ds i,gh] FE:=F.Zb3.mono M (λ_ h=>h)
 exact h.step hi (X:=[]) (P':=V.P) (D':=D') (M':=none) (L':=[G.ds i,gh]) (O':=[G.xs i]) (hf.mono (λk C _=>Zh _ (M k C))) Qx ⟨F.pw.fr hf (ae.Zap F.pw Qz),F.pok,⟨gh,.slice none 0 0,by simp[QV,Value.ownBlock],hd⟩,ag,F.bp,λk C=>F.bL _ (M k C)⟩ ⟨sv,lf,inn,rfl,J.fr hf (ae.Zap J Qz),λe=>by have:=af e;omega⟩ (λk C=>Zv (M k C)) (λk C=>by
  rw[Z6] at C;subst C
  exact Zv ah)
def Ot(B:Nat)(w:Qs)(G:Eg)(V:Ev)(bl:Qj)(i:Nat)(h:EAt B w G V bl)(hi:i<G.n)(hl:(V.Ds i).Zaq<=1000):Calls prog 26 #[.pointer (some ⟨G.ds i,0,none⟩)] w λe w'=>e=.returned (.tuple #[])/\QG B G bl {V with Ds:=upd V.Ds i (V.Ds i).ZaV,Ms:=upd V.Ms i none} w w':=by obtain⟨Ls,Os,rfl,J⟩:=h;have C:=J.pd i hi;have⟨gh,v,O,U⟩:=C.dk;go_fit (Z3o G.p (G.ds i) gh v (V.Ds i) 800 w U C.ok);rintro e w' ⟨rfl,M,Z⟩;exact⟨rfl,J.ZbJ hi ⟨v,O⟩ M (Za1 C.ok Qw) (by show _<(V.Ds i).Zaq+1;omega) (Z.mono (λk F _=>by rw[Z6] at F;subst F;simp))⟩
def Z1o(B:Nat)(w:Qs)(G:Eg)(V:Ev)(bl:Qj)(i:Nat)(h:EAt B w G V bl)(hi:i<G.n)(hl:(V.Ds i).Zaq<=1000):Calls prog 23 #[.pointer (some ⟨G.ds i,0,none⟩)] w λe w'=>e=.returned (.tuple #[])/\QG B G bl {V with Ds:=upd V.Ds i (V.Ds i).ZaJ,Ms:=upd V.Ms i none} w w':=by obtain⟨Ls,Os,rfl,F⟩:=h;have C:=F.pd i hi;have⟨gh,v,M,O⟩:=C.dk;go_fit (Z5F G.p (G.ds i) gh v (V.Ds i) 800 w O C.ok);rintro e w' ⟨rfl,J,U⟩;exact⟨rfl,F.ZbJ hi ⟨v,M⟩ J (Z9U C.ok Qw) (by show _<(V.Ds i).Zaq+1;omega) U⟩
variable{R:Nat->ByteArray}
def Sr(b s i g:Nat)(w:Qs)(c3:w.cell? ⟨b,3,none⟩=(g:Int)){R:Qt->Qs->Prop}(C:Calls prog 95 #[s] w λe w'=>∃ev,e=.returned ev/\R ev w'):Calls prog 64 #[b,(i:Int),s,(g:Int)] w λe w'=>∃ev,e=.returned (.tuple #[true,ev])/\R ev w':=by have:decide ((g:Int)≥0)=true:=Qx;have H:=ZI C;go_enter func64,ntmps64;go_wp2_with (go_at_call 95;go_fit H.o;rintro e w' ⟨ev,rfl,h⟩;have F:=ZI h);go_ret2;exact⟨ev,rfl,F.o⟩
def Wn.ZbY{d:Dir}(h:Wn k m i g H (stR R d)):d.get nmN=none/\d.get nmT=none/\∀x,d.get (nmS x)=none:=⟨XA.2 h.next,XA.2 h.under,λx=>XA.2 (h.Zba x)⟩
def Wn.acts0{d:Dir}(h:Wn k m i g H (stR R d)):acts0 d=[]:=by
 have⟨C,F,J⟩:=h.ZbY;have e:d.names.filter isS=[]:=by rw[ZfT];intro n M hs;obtain⟨x,rfl⟩:=(CG n).1 hs;exact XI.1 M (J x)
 unfold Go.Proofs.YthppfllkocphbaaGreatDoor.acts0;rw[e];simp[C,F]
def OX{p d:Nat}{D:Dk}{L:Qj}(b s:Nat)(name:Bs)(w:Qs)(C:PD B w p d 800 P D L)(F:Wo w s d S)(J:QU K E D S)(O:P.gone=false)(M:D.dead=false)(U:name.length<=1000000)(hc:stR D.reads S.dir name=some (some (YQ k m i g)))(hk:k<=16)(hm:m<=16)(hi:i<=16)(Z:g<=1000000000)(c0:w.cell? b=(k:Int))(c1:w.cell? ⟨b,1,none⟩=(m:Int)):Calls prog 63 #[b,s,name,(i:Int)] w λe w'=>e=.returned (g:Int)/\Below w w w':=by
 unfold YQ at hc;refine Z2a b s k m i g name w Qw Qw Qw Qw c0 c1 ?_
 exact FL C F J O M U Qz (by
  have h:=Fa k m i g;unfold YQ at h;rw[CS] at h
  omega) hc
variable{Ls Os Q:Nat->List Nat}{M:Option Sto}{Ss:Nat->Option Sto}{V0:Ev}{W w0 w1:World}{bl0:List Nat}{gb j s sb t:Nat}{gl sl:List Value}{gv:Nat->Int}{q:Int}
theorem YJ.enter(h:YJ B w G V Ls Os){i:Nat}(hi:i<G.n)(hO:Os i=[G.xs i]){s j:Nat}{S:Sto}{o:Qk}(hx:Row w (G.xs i) 91 o)(af:Row w' (G.xs i) 91 [.pointer (some ⟨G.ds i,0,none⟩),s,.int .i64 (V.Ds i).Zaq,true])(O:WI w s j (G.ds i) S)(ae:(V.Ds i).dead=false)(hs:∀a,a<G.n->a≠i->s∉Os a/\j∉Os a)(au:B<=s)(aq:B<=j)(J:Fr [G.xs i] w w'):YJ B w' G {V with Ms:=upd V.Ms i (some S)} Ls (upd Os i [G.xs i,s,j]):=by
 have F:QL w [G.xs i] [91]:=QL.row hx Qx;have ak:s∉[G.xs i]:=by have⟨b,uv,r1,_⟩:=O;exact F.Zap r1 Qx
 have ah:j∉[G.xs i]:=by have⟨b,uv,_,r2,_⟩:=O;exact F.Zap r2 Qx
 have⟨sp,U⟩:=h.mem;have ag:G.xs i∈Os i:=QB;have aj:∀a,a<G.n->a≠i->G.xs i∉Os a:=λa ha ai C=>h.oap a i ha hi ai _ C ag;refine⟨h.set.fr J (F.Zap h.set Qx),⟨sp,U.fr J (F.Zap U Qx)⟩,h.n1,h.n16,λa ha=>(h.pd a ha).fr J (F.Zb5 (h.pd a ha).typed Qz),h.dap,λa ha=> ?_,λa b ha hb Z k C=> ?_,λa ha k C=> ?_,h.bs⟩
 .by_cases e:a=i
  .subst e;simp[QX];exact⟨s,j,rfl,af,O.fr J F Qx Qx ak ah,ae⟩
  .simp[QP _ _ e]
   exact(h.at_ a ha).fr J F Qx Qx (λk C hm=>by
    rw[Z6] at hm;subst hm
    exact aj a ha e C)
 .by_cases ea:a=i
  .subst ea;rw[QX] at C;rw[QP _ _ (λe=>Z e.symm)];grind
  .rw[QP _ _ ea] at C;by_cases eb:b=i
   .subst eb;rw[QX];grind
   .rw[QP _ _ eb];exact h.oap a b ha hb Z k C
 .by_cases e:a=i
  .subst e;rw[QX] at C;simp at C;rcases C with rfl|rfl|rfl
   .exact h.bO a ha _ ag
   .omega
   .omega
  .rw[QP _ _ e] at C;exact h.bO a ha k C
def YJ.ZbX(h:YJ B w G V Ls Os)(g:Int):YJ B (w.setCell ⟨G.s,3,none⟩ (.int .i64 g)) G {V with gen:=g} Ls Os:=by have F:Fr [G.s] w (w.setCell ⟨G.s,3,none⟩ (.int .i64 g)):=(Fr.refl _ _).setCell (Zv Qx) _;have C:QL w [G.s] [78]:=QL.row h.set Qx;have⟨sp,J⟩:=h.mem;refine⟨h.set.set 3 _,⟨sp,J.fr F (C.Zap J Qx)⟩,h.n1,h.n16,λa ha=>(h.pd a ha).fr F (C.Zb5 (h.pd a ha).typed Qz),h.dap,λa ha=>(h.at_ a ha).fr F C Qx Qx (λk O hm=> ?_),h.oap,h.bO,h.bs⟩;rw[Z6] at hm;subst hm;exact(h.at_ a ha).typed.Zap h.set Qz O
def YJ.after(h:YJ B w G V Ls Os)(hb:Below w w w'):YJ B w' G V Ls Os:=h.fr (Z1 (L:=[]) hb) (ts:=[]) (λk C=>by cases C) Qx Qx Qx Qx
def WI.after{d:Nat}(h:WI w s j d S)(hb:Below w w w'):WI w' s j d S:=h.fr (Z1 (L:=[]) hb) (ts:=[]) (λk C=>by cases C) Qx Qx Qx Qx
def Ad(w:Qs)(Q:Qj)(d:Nat):Option Sto->Prop
 |some S=>∃s j,Q=[s,j]/\WI w s j d S
 |none=>Q=[]
def WI.typed{d:Nat}(h:WI w s j d S):QL w [s,j] AX:=by have⟨b,uv,C,F,_⟩:=h;exact QL.cons C Qz (QL.row F Qz)
def Ad.typed{Q:Qj}{d:Nat}(h:Ad w Q d M):QL w Q AX:=by
 cases M with
 |none=>obtain rfl:=h;exact λk C=>by cases C
 |some S=>obtain⟨s,j,rfl,h⟩:=h;exact h.typed
def Ad.fr{Q:Qj}{d:Nat}(h:Ad w Q d M){X:Qj}{ts:List Qu}(O:Fr X w w')(U:QL w X ts)(F:197∉ts)(J:4∉ts)(C:∀k∈Q,k∉X):Ad w' Q d M:=by
 cases M with
 |none=>exact h
 |some S=>obtain⟨s,j,rfl,h⟩:=h;exact⟨s,j,rfl,h.fr O U F J (C _ Qx) (C _ Qx)⟩
def Ad.after{Q:Qj}{d:Nat}(h:Ad w Q d M)(hb:Below w w w'):Ad w' Q d M:=h.fr (Z1 (L:=[]) hb) (ts:=[]) (λk C=>by cases C) Qx Qx Qx
def CO(Q:Qj):Qt:=.pointer (Q.head?.map λs=>⟨s,0,none⟩)
structure Op1(B:Nat)(w0 w1:Qs)(G:Eg)(V0:Ev)(Ls:Nat->List Nat)(Ss:Nat->Option Sto)(gv:Nat->Int)(gb sb t:Nat)(q:Int)(Q:Nat->List Nat)(gl sl:Qk)(wr:Qs):Prop where
 ep:YJ B wr G {V0 with gen:=q} Ls (λi=>[G.xs i])
 gr:Row wr gb 3 gl
 sr:Row wr sb 89 sl
 gn:gl.length=G.n
 sn:sl.length=G.n
 gv:∀a,a<t->gl[a]? =some (.int .i64 (gv a))
 sv:∀a,a<t->sl[a]? =some (CO (Q a))
 sz:∀a,t<=a->a<G.n->sl[a]? =some (.pointer none)
 st:∀a,a<t->Ad wr (Q a) (G.ds a) (Ss a)
 ge:∀a,a<t->∀x∈Q a,w1.heap.size<=x
 ord:∀a b,a<b->b<t->∀x∈Q a,∀y∈Q b,x<y
 bel:Below w0 w0 wr
 le:w0<=w1.heap.size/\w1<=wr.heap.size
 own:w0<=G.s/\w0<=gb/\w0<=sb
def Op1.fr(h:Op1 B w0 w1 G V0 Ls Ss gv gb sb t q Q gl sl wr){X:Qj}{ts:List Qu}(O:Fr X wr w')(U:QL wr X ts)(h1:∀e∈ts,e∉197::4::92::J9)(hX:∀k∈X,w0.heap.size<=k){F J:Qk}(hg:Row w' gb 3 F)(hs:Row w' sb 89 J)(gn:F.length=G.n)(sn:J.length=G.n)(ae:∀a,a<t->F[a]? =gl[a]?)(af:J=sl):Op1 B w0 w1 G V0 Ls Ss gv gb sb t q Q F J w':=by subst af;have C:∀e,e∈197::4::92::J9->e∉ts:=QA;exact⟨h.ep.fr O U (C _ Qx) (C _ Qx) (C _ Qx) (λk Z hm=>U.Zb5 h.ep.typed (λe he hm=>h1 e he QA) k hm Z),hg,hs,gn,sn,λa ha=>by rw[ae a ha];exact h.gv a ha,h.sv,h.sz,λa ha=>(h.st a ha).fr O U (C _ Qx) (C _ Qx) (λk Z hm=>U.Zb5 (h.st a ha).typed (λe he hm=>h1 e he (by have:∀e∈AX,e∈197::4::92::J9:=Qz;exact this e hm)) k hm Z),h.ge,h.ord,h.bel.trans (O.below (by have:=h.le;omega) hX),⟨h.le.1,Zq h.le.2 O.size⟩,h.own⟩
def Op1.after(h:Op1 B w0 w1 G V0 Ls Ss gv gb sb t q Q gl sl wr)(hb:Below wr wr w'):Op1 B w0 w1 G V0 Ls Ss gv gb sb t q Q gl sl w':=h.fr (X:=[]) (ts:=[]) (Z1 hb) (λk C=>by cases C) Qx Qx (h.gr.after hb) (h.sr.after hb) h.gn h.sn (λ_ _=>rfl) rfl
def Op1.mark(h:Op1 B w0 w1 G V0 Ls Ss gv gb sb t q Q gl sl wr)(v:Qt):Op1 B w0 w1 G V0 Ls Ss gv gb sb t q Q (gl.set t v) sl (wr.setCell ⟨gb,t,none⟩ v):=by have C:Fr [gb] wr (wr.setCell ⟨gb,t,none⟩ v):=(Fr.refl _ _).setCell (Zv Qx) _;exact h.fr C (QL.row h.gr (Z6.2 rfl)) Qz (λk F=>by rw[Z6] at F;subst F;exact h.own.2.1) (h.gr.set t v) (h.sr.fr C (by rw[Z6];exact Row.ne h.sr h.gr Qx)) (by simp[h.gn]) h.sn (λa ha=>ZfA Qw) rfl
def Op1.tell(h:Op1 B w0 w1 G V0 Ls Ss gv gb sb t q Q gl sl wr)(O:Int):Op1 B w0 w1 G V0 Ls Ss gv gb sb t O Q gl sl (wr.setCell ⟨G.s,3,none⟩ (.int .i64 O)):=by have C:Fr [G.s] wr (wr.setCell ⟨G.s,3,none⟩ (.int .i64 O)):=(Fr.refl _ _).setCell (Zv Qx) _;have F:QL wr [G.s] [78]:=QL.row h.ep.set Qx;exact⟨h.ep.ZbX O,h.gr.fr C (F.Zap h.gr Qx),h.sr.fr C (F.Zap h.sr Qx),h.gn,h.sn,h.gv,h.sv,h.sz,λa ha=>(h.st a ha).fr C F Qx Qx (λk J hm=>F.Zb5 (h.st a ha).typed Qz k hm J),h.ge,h.ord,h.bel.trans (C.below (by have:=h.le;omega) (λk J=>by rw[Z6] at J;subst J;exact h.own.1)),⟨h.le.1,Zq h.le.2 C.size⟩,h.own⟩
theorem Op1.next(h:Op1 B w0 w1 G V0 Ls Ss gv gb sb t q Q gl sl wr)(hb:Below wr wr w')(ht:t<G.n){N:Qj}(ah:Ad w' N (G.ds t) (Ss t))(hN:∀x∈N,wr.heap.size<=x){U Z:Qk}(J:Fr [gb,sb] w' W)(hg:Row W gb 3 U)(hs:Row W sb 89 Z)(eg:U=gl.set t (.int .i64 (gv t)))(es:Z=sl.set t (CO N)):Op1 B w0 w1 G V0 Ls Ss gv gb sb (t+1) q (upd Q t N) U Z W:=by
 subst eg es;have C:=h.after hb;have F:QL w' [gb,sb] [3,89]:=QL.cons C.gr Qx (QL.row C.sr Qx);have ae:∀{Q:Qj} {d:Nat} {M:Option Sto},Ad w' Q d M->Ad W Q d M:=λhq=>hq.fr J F Qx Qx (λk O hm=>F.Zb5 hq.typed Qz k hm O);refine⟨C.ep.fr J F Qx Qx Qx (λk O hm=>F.Zb5 C.ep.typed Qz k hm O),hg,hs,by simp[h.gn],by simp[h.sn],λa ha=> ?_,λa ha=> ?_,λa ha ag=> ?_,λa ha=> ?_,λa ha=> ?_,λa b af ai=> ?_,C.bel.trans (J.below (by have:=C.le;omega) (λk O=> ?_)),⟨h.le.1,Zq C.le.2 J.size⟩,h.own⟩
 .by_cases e:a=t
  .subst e;simp[h.gn,ht]
  .rw[ZfA Qw];exact h.gv a Qw
 .by_cases e:a=t
  .subst e;simp[h.sn,ht,QX]
  .rw[ZfA Qw,QP _ _ e];exact h.sv a Qw
 .rw[ZfA Qw];exact h.sz a Qw ag
 .by_cases e:a=t
  .subst e;rw[QX];exact ae ah
  .rw[QP _ _ e];exact ae (C.st a Qw)
 .by_cases e:a=t
  .subst e;rw[QX];exact λx hx=>Zq h.le.2 (hN x hx)
  .rw[QP _ _ e];exact h.ge a Qw
 .rw[QP _ _ (show a≠t by omega)];by_cases e:b=t
  .subst e;rw[QX];exact λx hx y hy=>Zp ((h.st a af).typed.lt x hx) (hN y hy)
  .rw[QP _ _ e];exact h.ord a b af Qw
 .have:=h.own;grind
def Op1.both(h:Op1 B w0 w1 G V0 Ls Ss gv gb sb t q Q gl sl wr)(u v:Qt):Row ((wr.setCell ⟨gb,t,none⟩ u).setCell ⟨sb,t,none⟩ v) gb 3 (gl.set t u)/\Row ((wr.setCell ⟨gb,t,none⟩ u).setCell ⟨sb,t,none⟩ v) sb 89 (sl.set t v)/\Fr [gb,sb] wr ((wr.setCell ⟨gb,t,none⟩ u).setCell ⟨sb,t,none⟩ v):=by have:gb≠sb:=Row.ne h.gr h.sr Qx;refine⟨(h.gr.set t u).fr (L:=[sb]) ((Fr.refl _ _).setCell (Zv Qx) _) QB,?_,((Fr.refl _ _).setCell (Zv Qx) _).setCell (Zv Qx) _⟩;exact(h.sr.fr (L:=[gb]) ((Fr.refl _ wr).setCell (p:=⟨gb,t,none⟩) (Zv Qx) u) QA).set t v
theorem Z6P{l:Qk}{v:Qt}(h:l[t]? =some v):l=l.set t v:=by apply ZeB;grind
def Op1.start(J:YJ B w1 G {V0 with gen:=q} Ls (λi=>[G.xs i]))(hb:Below w0 w0 w1)(hs:w0<=G.s):Op1 B w0 w1 G V0 Ls Ss gv w1 (w1.heap.size+1) 0 q (λ_=>[]) (madeCells #[.int .i64 0] G.n).toList (madeCells #[.pointer none] G.n).toList ((w1.alloc (.cells (madeCells #[.int .i64 0] G.n) 3)).alloc (.cells (madeCells #[.pointer none] G.n) 89)):=by
 have h:=((Zu w1 w1).alloc (Zt _) (.cells (madeCells #[.int .i64 0] G.n) 3)).alloc Qx (.cells (madeCells #[.pointer none] G.n) 89);have O:Row ((w1.alloc (.cells (madeCells #[.int .i64 0] G.n) 3)).alloc (.cells (madeCells #[.pointer none] G.n) 89)) w1 3 (madeCells #[.int .i64 0] G.n).toList:=(Z2 w1 3 (madeCells #[.int .i64 0] G.n).toList).alloc _;have F:=Z2 (w1.alloc (.cells (madeCells #[.int .i64 0] G.n) 3)) 89 (madeCells #[.pointer none] G.n).toList;have e:(w1.alloc (.cells (madeCells #[.int .i64 0] G.n) 3)).heap.size=w1.heap.size+1:=Qx;rw[e] at F;have C:=hb.size;have hm:∀a,a<G.n->(madeCells #[.pointer none] G.n).toList[a]? =some (.pointer none):=λa ha=>by simp[madeCells,ha,Zh1]
 exact⟨J.after h,O,F,by simp[madeCells],by simp[madeCells],λa ha=>Qw,λa ha=>Qw,λa _ ha=>hm a ha,λa ha=>Qw,λa ha=>Qw,λa b ha=>Qw,hb.trans (h.mono C),⟨C,h.size⟩,hs,C,Qw⟩
def Xl(t:Nat)(V:Ev):Ev:={V with Ms:=λa=>if a<t then V.Ms a else none}
structure Op2(B:Nat)(w0 w1:Qs)(G:Eg)(bl0:Qj)(Q:Nat->List Nat)(gb sb t:Nat)(gl sl:Qk)(V:Ev)(Ls Os:Nat->List Nat)(wr:Qs):Prop where
 ep:YJ B wr G (Xl t V) Ls Os
 gr:Row wr gb 3 gl
 sr:Row wr sb 89 sl
 st:∀a,t<=a->a<G.n->∀S,V.Ms a=some S->Ad wr (Q a) (G.ds a) (some S)/\(V.Ds a).dead=false
 in_:∀a,a<t->∀k∈Os a,k=G.xs a∨k∈Q a
 o:∀a,t<=a->Os a=[G.xs a]
 ZaT:∀a,a<G.n->∀k∈Ls a,k∈bl0∨w0.heap.size<=k
 fr:Fr (G.p::bl0) w0 wr
 le:w1<=wr.heap.size
structure OpF(w0 w1:Qs)(G:Eg)(Q:Nat->List Nat):Prop where
 ge:∀a,a<G.n->∀x∈Q a,w1.heap.size<=x
 ord:∀a b,a<b->b<G.n->∀x∈Q a,∀y∈Q b,x<y
 le:w0<=w1.heap.size
 xs:∀a,a<G.n->w0.heap.size<=G.xs a/\G.xs a<w1.heap.size
def OpF.no(h:OpF w0 w1 G Q){a b:Nat}(ha:a<G.n)(hb:b<G.n)(F:a≠b):∀k∈Q a,k≠G.xs b/\k∉Q b:=λk C=>by
 refine⟨by have:=h.ge a ha k C;have:=h.xs b hb;omega,λhm=> ?_⟩;rcases Nat.lt_or_gt_of_ne F with h9|h9
 .exact absurd (h.ord a b h9 hb k C k hm) Qw
 .exact absurd (h.ord b a h9 ha k hm k C) Qw
def Op2.no(h:Op2 B w0 w1 G bl0 Q gb sb t gl sl V Ls Os wr)(hF:OpF w0 w1 G Q){a b:Nat}(ha:a<G.n)(hb:b<G.n)(F:a≠b):∀k∈Os b,k∉Q a:=λk C hm=>by
 have:=hF.no ha hb F k hm;by_cases e:b<t
 .rcases h.in_ b e k C with h2|h2
  .omega
  .simp_all
 .rw[h.o b Qw,Z6] at C;omega
def Op2.after(h:Op2 B w0 w1 G bl0 Q gb sb t gl sl V Ls Os wr)(hb:Below wr wr w'):Op2 B w0 w1 G bl0 Q gb sb t gl sl V Ls Os w':=⟨h.ep.after hb,h.gr.after hb,h.sr.after hb,λa C F S J=>⟨(h.st a C F S J).1.after hb,(h.st a C F S J).2⟩,h.in_,h.o,h.ZaT,h.fr.trans (Z1 (L:=[]) hb) Qx,Zq h.le hb.size⟩
def Op1.op2(h:Op1 B w0 w1 G V0 Ls Ss gv gb sb G.n q Q gl sl wr)(J:V0.Ms=λ_=>none)(F:V={V0 with gen:=q,Ms:=V.Ms})(hM:∀a,a<G.n->∀S,V.Ms a=some S->Ss a=some S/\(V0.Ds a).dead=false)(Z:∀a,a<G.n->∀k∈Ls a,k∈bl0):Op2 B w0 w1 G bl0 Q gb sb 0 gl sl V Ls (λi=>[G.xs i]) wr:=by
 refine⟨?_,h.gr,h.sr,λa _ ha S hS=> ?_,λa ha=>Qw,λa _=>rfl,λa ha k hk=>Zv (Z a ha k hk),Z1 h.bel,h.le.2⟩
 .have:=h.ep;have e2:Xl 0 V={V0 with gen:=q}:=by unfold Xl;rw[F];simp[J]
  rw[e2];omega
 .have⟨O,U⟩:=hM a ha S hS;have C:=h.st a ha;rw[O] at C;exact⟨C,by rw[F];exact U⟩
def Op1.opF(h:Op1 B w0 w1 G V0 Ls Ss gv gb sb G.n q Q gl sl wr)(hx:∀a,a<G.n->w0.heap.size<=G.xs a/\G.xs a<w1.heap.size):OpF w0 w1 G Q:=⟨h.ge,h.ord,h.le.1,hx⟩
theorem Op2.enter(h:Op2 B w0 w1 G bl0 Q gb sb t gl sl V Ls Os wr)(hF:OpF w0 w1 G Q)(hB:B<=w0)(F:t<G.n){S:Sto}(hM:V.Ms t=some S){s j:Nat}(O:Q t=[s,j]){o:Qk}(hx:Row wr (G.xs t) 91 o)(ae:Row w' (G.xs t) 91 [.pointer (some ⟨G.ds t,0,none⟩),s,.int .i64 (V.Ds t).Zaq,true])(C:Fr [G.xs t] wr w'):Op2 B w0 w1 G bl0 Q gb sb (t+1) gl sl V Ls (upd Os t [G.xs t,s,j]) w':=by
 have hO:=h.o t (Zt _);have af:QL wr [G.xs t] [91]:=QL.row hx Qx;have⟨Z,hd⟩:=h.st t (Zt _) F S hM;have⟨s',j',hq,Z⟩:=Z;rw[O] at hq;cases hq;have U:=hF.ge t F;rw[O] at U;have:=hF.le;refine⟨?_,h.gr.fr C (af.Zap h.gr Qx),h.sr.fr C (af.Zap h.sr Qx),λa ha hn S' ag=> ?_,λa ha=> ?_,λa ha=> ?_,h.ZaT,h.fr.trans C (λk hk ai=> ?_),Zq h.le C.size⟩
 .have e:Xl (t+1) V={Xl t V with Ms:=upd (Xl t V).Ms t (some S)}:=by
   unfold Xl;congr 1
   funext a
   unfold upd;by_cases e:a=t
   .simp_all
   .grind
  rw[e];refine h.ep.enter F hO hx ae Z hd (λa ha ah=> ?_) ?_ ?_ C
  .have J:=h.no hF F ha (Ne.symm ah);rw[O] at J;exact⟨λhm=>J s hm Qx,λhm=>J j hm Qx⟩
  .have:=U s Qx;omega
  .have:=U j Qx;omega
 .have⟨J,h2⟩:=h.st a Qw hn S' ag
  exact⟨J.fr C af Qx Qx (λk hk hm=>by
   rw[Z6] at hm
   exact absurd (hF.ge a hn _ hk) (by have:=hF.xs t F;omega)),h2⟩
 .by_cases e:a=t
  .subst e;rw[QX,O];simp
  .rw[QP _ _ e];exact h.in_ a Qw
 .rw[QP _ _ Qw];exact h.o a Qw
 .rw[Z6] at hk;have:=(hF.xs t F).1;omega
theorem Op2.skip(h:Op2 B w0 w1 G bl0 Q gb sb t gl sl V Ls Os wr)(hM:V.Ms t=none):Op2 B w0 w1 G bl0 Q gb sb (t+1) gl sl V Ls Os wr:=by
 refine⟨?_,h.gr,h.sr,λa ha=>h.st a Qw,λa ha k C=> ?_,λa ha=>h.o a Qw,h.ZaT,h.fr,h.le⟩
 .have e:Xl (t+1) V=Xl t V:=by
   unfold Xl;congr 1
   funext a
   by_cases e:a=t
   .simp_all
   .grind
  rw[e];exact h.ep
 .by_cases e:a=t
  .subst e;rw[h.o a (Zt _),Z6] at C;omega
  .exact h.in_ a Qw k C
def Op2.d(h:Op2 B w0 w1 G bl0 Q gb sb t gl sl V Ls Os wr):Ye B G bl0 V.P V.Ds w0 wr:=⟨Ls,h.ep.pd,h.ep.dap,h.ZaT,h.fr⟩
theorem Op2.did(h:Op2 B w0 w1 G bl0 Q gb sb t gl sl V Ls Os wr)(hF:OpF w0 w1 G Q)(F:t<G.n){S:Sto}{a:Sto->List Ac}(hM:V.Ms t=some S){s j:Nat}(hQ:Q t=[s,j])(hC:EQ B G.p (G.ds t) s j (Ls t) (S.go (a S)) (S.nx (a S)) V.P (V.Ds t) wr w'):Ye B G bl0 (Y3 V (t,a)).P (Y3 V (t,a)).Ds w0 w'/\(Yi V (t,a)=0->∃au,Op2 B w0 w1 G bl0 Q gb sb t gl sl (Y3 V (t,a)) au Os w'):=by
 have⟨e1,e2⟩:=JB (V:=V) (x:=(t,a)) hM;have⟨ah,hd⟩:=h.st t (Zt _) F S hM;have⟨s',j',hq,ah⟩:=ah;rw[hQ] at hq;cases hq;have⟨L',hp,O,hg⟩:=hC.ran;have hl:=XK (S.go (a S)) V.P (V.Ds t);have bh:∀b,b<G.n->b≠t->∀k∈Os b,k∉[s,j]:=λb hb bg=>by rw[<-hQ];exact h.no hF F hb (Ne.symm bg)
 have ai:=ah.typed;have ag:=(h.ep.pd t F).typed;have ae:QL wr ([s,j]++G.p::Ls t) (Az++AX):=(ai.mono (λ_ h=>h) (λe he=>Zf8 _ he)).append (ag.mono (λ_ h=>h) (λe he=>Zen _ he));have aj:=h.ep.at_ t F;have az:(Xl t V).Ms t=none:=by unfold Xl;simp
 rw[az] at aj;have⟨sv,lf,inn,aw,af,bf⟩:=aj
 have Z:=h.ep.ZbW (M':=none) (O':=Os t) F O ai bh hp ⟨sv,lf,inn,aw,af.fr O (λhm=>by
  rcases Zj.1 hm with hm|hm
  .have h9:=hF.ge t F _ (by rw[hQ];exact hm);have:=(hF.xs t F).2;omega
  .exact ag.Zap af Qz hm),λh9=>by rw[hl.1];exact bf h9⟩ hg (λk C=>Zv C)
 have e:({Xl t V with P:=(QH (S.go (a S)) V.P (V.Ds t)).2.1,Ds:=upd (Xl t V).Ds t (QH (S.go (a S)) V.P (V.Ds t)).2.2,Ms:=upd (Xl t V).Ms t none}:Ev)=Xl t (Y3 V (t,a)):=by
  rw[e2];unfold Xl;simp
  funext b
  unfold upd;grind
 rw[e] at Z;have ay:upd Os t (Os t)=Os:=by
  funext b
  unfold upd;simp_all
 rw[ay] at Z;have aq:∀b,b<G.n->∀k∈upd Ls t L' b,k∈bl0∨w0.heap.size<=k:=λb hb k C=>by
  by_cases e:b=t
  .subst e;rw[QX] at C;rcases hg k C with J|J
   .exact h.ZaT b hb k J
   .have:=h.fr.size;omega
  .rw[QP _ _ e] at C;exact h.ZaT b hb k C
 have ak:Fr (G.p::bl0) w0 w':=h.fr.trans O (λk C bj=>by
  rcases Zj.1 C with C|C
  .have h9:=hF.ge t F k QB;have:=hF.le;omega
  .rcases Zk.1 C with rfl|C
   .simp
   .rcases h.ZaT t F k C with J|J
    .simp_all
    .omega)
 refine⟨⟨_,Z.pd,Z.dap,aq,ak⟩,λh0=>⟨_,Z,h.gr.fr O (ae.Zap h.gr Qz),h.sr.fr O (ae.Zap h.sr Qz),λb hb hn S' U=> ?_,h.in_,h.o,aq,ak,Zq h.le O.size⟩⟩;rw[e2] at U⊢;simp only at U⊢;by_cases e:b=t
 .subst e;rw[QX] at U⊢;cases U;rw[e1] at h0;exact⟨⟨s,j,hQ,hC.ok h0⟩,by rw[hl.2];exact hd⟩
 .rw[QP _ _ e] at U⊢;have⟨J,h2⟩:=h.st b hb hn S' U;refine⟨J.fr O ae Qz Qz (λk C hm=> ?_),h2⟩;rcases Zj.1 hm with hm|hm
  .exact(hF.no hn F e k C).2 QB
  .exact J.typed.Zb5 ag Qz k C hm
variable{l:QY}
def J8(c:Int)(n:Nat):Nat:=((if c<0 then -(c+1) else c)%(n:Int)).toNat
def JA(c:Int){n:Nat}(h:0<n):J8 c n<n:=by unfold J8;have:=Int.emod_lt_of_pos (if c<0 then -(c+1) else c) (b:=(n:Int)) Qw;omega
def Dq(i:Nat):Bs:=[107,101,121,UInt8.ofNat (48+i)]
def K11:List Bs:=[97]::(List.range 10).map Dq
def By:KOk K11:=⟨Qz,Qz⟩
def Z3m(h:i<10):Dq i∈K11:=Zh _ (Zz.2 ⟨i,ZdS.2 h,rfl⟩)
def Aw(x:En):Chg:=⟨Dq (J8 x.key 10),if x.gone then none else some (x.val.data.toList.take 200)⟩
def JN(l:List En):List Chg:=(l.take 4).map Aw
def O1(l:List En):(JN l).length<=4:=by unfold JN;rw[Zf,Zg];omega
def O2(l:List En):∀c∈JN l,c.key∈K11:=λc hc=>by obtain⟨x,_,rfl⟩:=Zz.1 hc;exact Z3m (JA _ Qw)
theorem O3(l:List En):∀c∈JN l,∀v,c.val=some v->v.length<=200:=λc hc v hv=>by obtain⟨x,_,rfl⟩:=Zz.1 hc;unfold Aw at hv;grind
structure HOk(K:List Bs)(l:QY):Prop where
 nd:(l.map (·.1)).Nodup
 key:∀p∈l,p.1∈K
 val:∀p∈l,p.2.length<=200
def HOk.nil(K:List Bs):HOk K []:=⟨Qx,λp h=>QA,λp h=>QA⟩
theorem HOk.hold(h:HOk K l){c:Chg}(F:c.key∈K)(hv:∀v,c.val=some v->v.length<=200):HOk K (JV l c):=by
 refine⟨Pk h.nd c,λp C=> ?_,λp C=> ?_⟩<;>
 .unfold JV at C;rcases Zj.1 C with C|C
  .first|exact h.key p (ZdV.1 C).1|exact h.val p (ZdV.1 C).1
  .grind
def Zaa:∀{l:QY},HOk K l->(∀c∈cs,c.key∈K)->(∀c∈cs,∀v,c.val=some v->v.length<=200)->HOk K (J6 l cs):=by
 induction cs with
 |nil=>intro l h _ _;exact h
 |cons c r ih=>intro l h C F;exact ih (h.hold (C c Qx) (F c Qx)) (λc hc=>C c (Zh _ hc)) (λc hc=>F c (Zh _ hc))
def HOk.few(h:HOk K l)(hK:KOk K):l.length<=18:=by
 have C:=h.nd.length_le_of_subset (l₂:=K) (λx hx=>by
  obtain⟨p,F,rfl⟩:=Zz.1 hx
  exact h.key p F)
 rw[Zf] at C;exact Zq C hK.few
def HOk.at_(h:HOk K l){i:Nat}(hi:i<l.length):Hof l l[i].1=some l[i].2:=Nb h.nd (Zl hi)
variable{a:Option Addr}{v:Value}
def XF(l:QY):Qk:=l.flatMap λp=>[.string (str p.1),.string (str p.2)]
def Z2z(a b:QY):XF (a++b)=XF a++XF b:=by simp[XF]
def Z2B(l:QY):(XF l).length=l.length*2:=by
 induction l with
 |nil=>rfl
 |cons a l ih=>rw[show XF (a::l)=[.string (str a.1),.string (str a.2)]++XF l from by simp[XF],Zb,ih];simp;omega
def Z2A(l:QY):∀ (k:Nat) (h:k<l.length),(XF l)[k*2]? =some (.string (str l[k].1))/\(XF l)[k*2+1]? =some (.string (str l[k].2)):=by
 induction l with
 |nil=>intro k h;simp at h
 |cons a l ih=>
  intro k h;have e:XF (a::l)=.string (str a.1):: .string (str a.2)::XF l:=by simp[XF]
  rw[e]
  match k,h with
  |0,_=>exact⟨rfl,rfl⟩
  |k+1,h=>have C:=ih k (by simpa using h);rw[show(k+1)*2=k*2+2 from Qw,show k*2+2+1=(k*2+1)+2 from Qw];simpa using C
def YZ(w:Qs)(a:Qm)(l:QY):Prop:=l=[]∨∃g sp,a=some ⟨g,0,none⟩/\Row w g 105 (XF l++sp)
def YZ.nil(w:Qs)(a:Qm):YZ w a []:=Zv rfl
def YZ.after(h:YZ w a l)(hb:Below w w w'):YZ w' a l:=by
 rcases h with h|⟨g,sp,C,F⟩
 .exact Zv h
 .exact Zy ⟨g,sp,C,F.after hb⟩
def YZ.ran(h:YZ w a l)(J:QG B G bl V1 w w')(he:EAt B w G V bl):YZ w' a l:=by
 rcases h with h|⟨g,sp,C,F⟩
 .exact Zv h
 .exact Zy ⟨g,sp,C,J.row he F Qz⟩
def YZ.set{ad:Addr}{e:Qu}{r:Qk}(h:YZ w a l)(O:Row w ad.block e r)(he:e≠105)(v:Qt):YZ (w.setCell ad v) a l:=by
 rcases h with h|⟨g,sp,J,C⟩
 .exact Zv h
 .exact Zy ⟨g,sp,J,C.fr (L:=[ad.block]) ((Fr.refl _ _).setCell (Zv Qx) _) (by rw[Z6];exact Row.ne C O (λF=>he F.symm))⟩
def YZ.at_(h:YZ w a l){k:Nat}(F:k<l.length):∃g,a=some ⟨g,0,none⟩/\g<w.heap.size/\w.cell? ⟨g,k*2,none⟩=some (.string (str l[k].1))/\w.cell? ⟨g,k*2+1,none⟩=some (.string (str l[k].2)):=by
 rcases h with rfl|⟨g,sp,J,C⟩
 .simp at F
 .have⟨e1,e2⟩:=Z2A l k F;have:=Z2B l;refine⟨g,J,C.lt,C.cell ?_,C.cell ?_⟩
  .rw[Za Qw];exact e1
  .rw[Za Qw];exact e2
def YZ.own(h:w.ownsRow base 105 2 v l.length (XF l)):∃a c,v=.slice a l.length c/\YZ w a l:=by
 cases l with
 |nil=>
  rcases h.2 with ⟨C,_⟩|⟨g,cap,cur,C,_⟩
  .exact⟨none,0,C,Zv rfl⟩
  .exact⟨_,cap,C,Zv rfl⟩
 |cons p r=>have⟨g,cap,sp,hv,J,O,U,F⟩:=BE h Qx;exact⟨_,cap,hv,Zy ⟨g,sp,rfl,F⟩⟩
def Af(c:Int)(n:Nat)(w:Qs)(J: -9223372036854775808<=c)(O:c<=9223372036854775807)(h:0<n)(F:n<=1000):Calls prog 9 #[(c:Int),(n:Int)] w λe w'=>e=.returned (.int .i64 (J8 c n:Nat))/\w=w':=by
 have C:=JA c h;by_cases hc:c<0
 .go_enter func9,ntmps9;go_wp2;go_ret;refine⟨A7 ?_,rfl⟩;unfold J8;rw[Zx Qw,<-Int.neg_tmod,Zgn Qw];have:=Int.emod_nonneg (-(c+1)) (b:=(n:Int)) Qw;omega
 .go_enter func9,ntmps9;go_wp2;go_ret;refine⟨A7 ?_,rfl⟩;unfold J8;rw[Zw Qw];have:=Int.emod_nonneg c (b:=(n:Int)) Qw;rw[Int.toNat_of_nonneg this]
def TP(a b:Bs):((str a).toList==(str b).toList)=decide (a=b):=by
 rw[Zeb,Zeb,Yp,Yp];by_cases h:a=b
 .simp[h]
 .simp[h]
structure HoS(w:Qs)(key:Bs)(P:QY)(v:Qt)(wr:Qs):Prop where
 own:wr.ownsRow w 105 2 v P.length (XF P)
 bel:Below w w wr
def HoS.put{key:Bs}{P:QY}{w8:Qs}(h:HoS w key P v wr){p:Bs×Bs}(hb:Below wr wr w'){g2 C:Nat}(O:w8.ownsRow w 105 2 (.slice g2 (P.length+1) C) (P.length+1) (XF P++[.string (str p.1),.string (str p.2)]))(J:Fr (QV v) w' w8):HoS w key (P++[p]) (.slice g2 (P.length+1) C) w8:=by have F:=h.bel.size;refine⟨?_,(h.bel.trans (hb.mono F)).trans (J.below (Zq F hb.size) (Ai h.own))⟩;rw[Zb,Z2z];exact O
def Z1F{α:Type}(f:α->Bool)(l:List α)(t:Nat)(h:t<l.length):(l.take (t+1)).filter f=(l.take t).filter f++(if f l[t]=true then[l[t]] else[]):=by rw[Zfe,Z8 h,Zeo];simp[Zf6,Zfl,List.filter_nil]
def Z2H(w:Qs)(a:Qm)(cp:Nat)(l:QY)(key val:Bs)(gn:Bool)(h:YZ w a l)(hl:l.length<=1000):Calls prog 42 #[.slice a l.length cp,key,val,gn] w λe w'=>∃a' az,e=.returned (.slice a' ((l.filter λp=>p.1 !=key)++(if gn then[] else[(key,val)])).length az)/\YZ w' a' ((l.filter λp=>p.1 !=key)++(if gn then[] else[(key,val)]))/\Below w w w':=by
 have⟨N,hN⟩:=ZK l.length;have H:=ZM h hN;rw[hN];rw[hN] at hl;clear h hN;have I0:=ZI (show HoS w key [] (.slice none 0 0) w from⟨ZA _ _ _ _,Zu _ _⟩);cases gn<;>
 .go_enter func42,ntmps42;go_wp2;go_loopw [9,10] (λv kv wr=>∃t:Nat,t<=N/\kv=(t:Int)/\HoS w key ((l.take t).filter λp=>p.1 !=key) v wr) (λ_ kv _=>N- (intOf kv).toNat)
  .exact⟨0,Qw,rfl,I0.o⟩
  obtain⟨t,ht,rfl,C⟩:=hrel;by_cases bj:t<N
  .have ae:t<l.length:=by rw[H.2];exact bj
   obtain⟨g,rfl,hg,c0,c1⟩:=H.1.at_ ae;have J:=Z1F (λp:Bs×Bs=>p.1 !=key) l t ae;have⟨P,hP⟩:=ZK ((l.take t).filter (λp=>p.1 !=key));rw[hP] at C J;have⟨F,ag⟩:=ZK l[t].1;have⟨U,ah⟩:=ZK l[t].2;have aj:l[t]=(F,U):=(by rw[<-ag,<-ah]);rw[ag] at c0;rw[ah] at c1;rw[aj] at J;have bf:P.length<=1000:=by rw[<-hP];exact Zq (ZdM _ _) (by rw[Zg];omega)
   have:=(C.bel.cell (p:=⟨g,t*2,none⟩) hg).trans c0;have:=(C.bel.cell (p:=⟨g,t*2+1,none⟩) hg).trans c1;have:=C.bel.size;have:(t:Int)<(N:Int):=Qw;have af:=(Zu wr wr).alloc (Zt _) (.cells #[F,U] 105);have aq:Row (wr.alloc (.cells #[F,U] 105)) wr 105 [.string (str F),.string (str U)]:=Z2 wr _ _;have ak:=Jr C.own af;have ay:=TP F key;by_cases e:F=key
   .rw[show decide (F=key)=true from by simp[e]] at ay;rw[Zw (by simp[e]),ZdJ] at J;have O:=ZM C J;clear C J af aq ak hP ag ah aj e;go_wp2;go_roundw
    .exact⟨t+1,Qw,QC,by rw[O.2];exact O.1⟩
    simp[intOf];omega
   .rw[show decide (F=key)=false from by simp[e]] at ay;rw[Zx (by simp[e])] at J;have O:=ZP C J af aq ak;clear C J af aq ak hP ag ah aj e;go_wp2_with (at_builtin;refine Bg _ rfl (.tmp 24) (.tmp 29) 36 105 rfl underlying36 Pj rfl Qw Qw w.heap.size _ P.length (XF P) rfl O.2.2.2.2 wr.heap.size 1 [.string (str F),.string (str U)] rfl Qw Qw rfl O.2.2.2.1 (by simp[Value.oneCell']) (by simp;omega) Qw ?_;intro g2 ai w8 ho hf _ _ _;have R8:=ZI (O.1.put (p:=(F,U)) O.2.2.1 ho hf);clear ho hf);go_roundw
    .exact⟨t+1,Qw,QC,by rw[O.2.1];exact R8.o⟩
    simp[intOf];omega
  .obtain rfl:t=N:=(by omega);have bh:l.take t=l:=Zi (by rw[H.2];exact Zt _);rw[bh] at C;have⟨a9,c9,au,aw⟩:=YZ.own C.own;have Z:=ZN C.bel aw C.own;clear C aw;have⟨P,hP⟩:=ZK (l.filter (λp=>p.1 !=key));rw[hP] at Z au;have bf:P.length<=1000:=by rw[<-hP];exact Zq (ZdM _ _) (by rw[H.2];omega)
   have HV:=ZI au;clear au;go_wp2_with (at_builtin;refine Bg _ rfl (.tmp 33) (.tmp 37) 36 105 rfl underlying36 Pj rfl Qw Qw w.heap.size _ P.length (XF P) rfl (Jr Z.2.2 ((Zu wr wr).alloc (Zt _) _)) wr.heap.size 1 [.string (str key),.string (str val)] rfl Qw Qw rfl (Z2 wr _ _) (by simp[Value.oneCell']) (by have:=Z.1.size;simp;omega) Qw ?_;intro g2 ai w8 ho hf _ _ _;have R8:=ZI (HoS.put (key:=key) (p:=(key,val)) ⟨Z.2.2,Z.1⟩ ((Zu wr wr).alloc (Zt _) _) ho hf);clear ho hf);go_ret
   first
    |exact⟨a9,⟨c9,by rw[HV.o];simp⟩,by simpa using Z.2.1,Z.1⟩
    |(have⟨a7,c7,bm,bg⟩:=YZ.own R8.o.own;exact⟨a7,⟨c7,by simpa using bm⟩,by simpa using bg,R8.o.bel⟩)
variable{V':Ev}{ha:Option Addr}{hc:Nat}{hs:QY}{hv sv:Value}
structure Rg where
 r:Nat
 gd:Nat
 cd:Nat
 gs:Nat
 cs:Nat
 k:Nat
 m:Nat
 n:Nat
def BH(R:Rg)(p:Nat)(sv hv:Qt)(ha:Qm)(hn hc:Nat):Qk:=[.pointer p,.slice (some ⟨R.gd,0,none⟩) R.n R.cd,.int .i64 (R.k:Int),.int .i64 (R.m:Int),sv,hv,.slice ha hn hc,.slice (some ⟨R.gs,0,none⟩) R.n R.cs]
def sdC(sd:Qr)(n:Nat):Qk:=(List.range n).map λi=>.bool (sd i)
structure Yr(B:Nat)(w:Qs)(R:Rg)(G:Eg)(V:Ev)(bl:Qj)(sv hv:Qt)(ha:Qm)(hc:Nat)(hs:QY)(sd:Qr):Prop where
 room:Row w R.r 39 (BH R G.p sv hv ha hs.length hc)
 ZaY:∃sp,Row w R.gd 47 (Wv R.n G.ds++sp)
 Zb8:∃sp,Row w R.gs 4 (sdC sd R.n++sp)/\∀v,sp[0]? =some v->v=.bool false
 held:YZ w ha hs
 set:EAt B w G V bl
 rB:B<=R.r
 gn:G.n=R.n
 kn:R.k+R.m=R.n
 k1:1<=R.k
section
variable{R:Rg}
def Yr.after(h:Yr B w R G V bl sv hv ha hc hs sd)(hb:Below w w w'):Yr B w' R G V bl sv hv ha hc hs sd:=by have⟨s1,C⟩:=h.ZaY;have⟨s2,F,z2⟩:=h.Zb8;exact⟨h.room.after hb,⟨s1,C.after hb⟩,⟨s2,F.after hb,z2⟩,h.held.after hb,h.set.after hb,h.rB,h.gn,h.kn,h.k1⟩
def Yr.ran(h:Yr B w R G V bl sv hv ha hc hs sd)(C:QG B G bl V' w w'):∃bl',Yr B w' R G V' bl' sv hv ha hc hs sd:=by have⟨s1,F⟩:=h.ZaY;have⟨s2,J,z2⟩:=h.Zb8;have⟨bl',he,_⟩:=id C;exact⟨bl',C.row h.set h.room Qz,⟨s1,C.row h.set F Qz⟩,⟨s2,C.row h.set J Qz,z2⟩,h.held.ran C h.set,he,h.rB,h.gn,h.kn,h.k1⟩
def Yr.below(h:Yr B w R G V bl sv hv ha hc hs sd)(v:Qt)(j:Nat):Below B w (w.setCell ⟨R.r,j,none⟩ v):=(Zu B w).setCell (p:=⟨R.r,j,none⟩) h.rB _
def Yr.bw(h:Yr B w R G V bl sv hv ha hc hs sd):B<=w:=h.set.bw
def Yr.Zby(h:Yr B w R G V bl sv hv ha hc hs sd){i:Nat}(hi:i<R.n):w.cell? ⟨R.gd,i,none⟩=some (.pointer (some ⟨G.ds i,0,none⟩)):=by have⟨s1,C⟩:=h.ZaY;exact C.cell (by rw[Za (by rw[BG];exact hi)];exact BF _ _ _ hi)
def Yr.Zaz(h:Yr B w R G V bl sv hv ha hc hs sd){i:Nat}(hi:i<R.n):w.cell? ⟨R.gs,i,none⟩=some (.bool (sd i)):=by obtain⟨s1,C, -⟩:=h.Zb8;exact C.cell (by rw[Za (by simpa[sdC] using hi)];simp[sdC,hi])
def Yr.ZbN(h:Yr B w R G V bl sv hv ha hc hs sd)(j:Nat)(v:Qt):(∃sp,Row (w.setCell ⟨R.r,j,none⟩ v) R.gd 47 (Wv R.n G.ds++sp))/\(∃sp,Row (w.setCell ⟨R.r,j,none⟩ v) R.gs 4 (sdC sd R.n++sp)/\∀v,sp[0]? =some v->v=.bool false)/\YZ (w.setCell ⟨R.r,j,none⟩ v) ha hs/\EAt B (w.setCell ⟨R.r,j,none⟩ v) G V bl/\Row (w.setCell ⟨R.r,j,none⟩ v) R.r 39 ((BH R G.p sv hv ha hs.length hc).set j v):=by have⟨s1,d1⟩:=h.ZaY;have⟨s2,d2,z2⟩:=h.Zb8;have C:Fr [R.r] w (w.setCell ⟨R.r,j,none⟩ v):=(Fr.refl _ _).setCell (Zv Qx) _;exact⟨⟨s1,d1.fr C (by rw[Z6];exact Row.ne d1 h.room Qz)⟩,⟨s2,d2.fr C (by rw[Z6];exact Row.ne d2 h.room Qz),z2⟩,h.held.set h.room Qz _,h.set.setCell (a:=⟨R.r,j,none⟩) h.room Qz Qz Qz Qz _,h.room.set j v⟩
def Yr.Zd2(h:Yr B w R G V bl sv hv ha hc hs sd)(v:Qt):Yr B (w.setCell ⟨R.r,4,none⟩ v) R G V bl v hv ha hc hs sd:=by have⟨C,F,J,O,U⟩:=h.ZbN 4 v;exact⟨U,C,F,J,O,h.rB,h.gn,h.kn,h.k1⟩
def Yr.Zbw(h:Yr B w R G V bl sv hv ha hc hs sd)(v:Qt):Yr B (w.setCell ⟨R.r,5,none⟩ v) R G V bl sv v ha hc hs sd:=by have⟨C,F,J,O,U⟩:=h.ZbN 5 v;exact⟨U,C,F,J,O,h.rB,h.gn,h.kn,h.k1⟩
def Yr.tell(h:Yr B w R G V bl sv hv ha hc hs sd){C:Qm}{hc':Nat}{F:QY}(hh:YZ w C F):Yr B (w.setCell ⟨R.r,6,none⟩ (.slice C F.length hc')) R G V bl sv hv C hc' F sd:=by have⟨J,O,h3,U,Z⟩:=h.ZbN 6 (.slice C F.length hc');exact⟨Z,J,O,hh.set h.room Qz _,U,h.rB,h.gn,h.kn,h.k1⟩
end
variable{P':Pw}{cd gd p r tb:Nat}{ds:Nat->Nat}{ka ta:Option Addr}{kl:List (List Bool)}{o sp tc:List Value}{tl:List Int}
def DAt(B:Nat)(w:Qs)(p n:Nat)(ds:Nat->Nat)(P:Pw)(Ds:Nat->Dk)(bl:Qj):Prop:=
 ∃Ls:Nat->List Nat,bl=(List.range n).flatMap Ls/\(∀i,i<n->PD B w p (ds i) 800 P (Ds i) (Ls i))/\∀i j,i<n->j<n->i≠j->∀k∈Ls i,k∉Ls j
def Dx:k∈(List.range n).flatMap Ls↔∃i,i<n/\k∈Ls i:=Qx
def DAt.typed(h:DAt B w p n ds P Ds bl):QL w bl FE:=by obtain⟨Ls,rfl,F,J⟩:=h;intro k C;have⟨i,hi,C⟩:=Dx.1 C;exact(F i hi).Zb3 k C
def DAt.ge(h:DAt B w p n ds P Ds bl):∀k∈bl,B<=k:=by obtain⟨Ls,rfl,F,J⟩:=h;intro k C;have⟨i,hi,C⟩:=Dx.1 C;exact(F i hi).bL k C
def DAt.Zay(h:DAt B w p n ds P Ds bl){X:Qj}(O:Fr X w w')(J:∀k∈bl,k∉X)(Z:Y6 w' p P')(pok:P'.ok):DAt B w' p n ds P' Ds bl:=by obtain⟨Ls,rfl,C,F⟩:=h;exact⟨Ls,rfl,λi hi=>(C i hi).Zay O (λk U=>J k (Dx.2 ⟨i,hi,U⟩)) Z pok,F⟩
theorem DAt.fr(h:DAt B w p n ds P Ds bl){X:Qj}(J:Fr X w w')(O:∀k∈p::bl,k∉X):DAt B w' p n ds P Ds bl:=by obtain⟨Ls,rfl,C,F⟩:=h;refine⟨Ls,rfl,λi hi=>(C i hi).fr J (λk U hm=> ?_),F⟩;grind
def DAt.after(h:DAt B w p n ds P Ds bl)(hb:Below w w w'):DAt B w' p n ds P Ds bl:=h.fr (Z1 (L:=[]) hb) Qx
theorem Ye.at_(h:Ye B G bl0 P Ds w w'):∃bl,DAt B w' G.p G.n G.ds P Ds bl/\∀k∈bl,k∈bl0∨w.heap.size<=k:=by have⟨Ls,C,F,J,O⟩:=h;refine⟨_,⟨Ls,rfl,C,F⟩,λk U=> ?_⟩;grind
theorem DAt.Zc2(h:DAt B w p n ds P Ds bl){i:Nat}(hi:i<n){gh:Nat}{keep:Qn}{t:Int}(hd:Y7 w' p (ds i) gh (.slice none 0 0) ((Ds i).lost keep t))(Z:Fr [ds i,gh] w w'){v:Qt}{D:Dk}(h0:Y7 w p (ds i) gh v D):∃bl',DAt B w' p n ds P (upd Ds i ((Ds i).lost keep t)) bl'/\(∀k∈bl',k∈bl)/\Fr bl w w':=by
 obtain⟨Ls,rfl,F,h2⟩:=h;have⟨J,v',hL,af⟩:=(F i hi).dk;have e:J=gh:=by have:=af.top.c1;have:=h0.top.c1;simp_all
 subst e;have U:∀k∈[ds i,J],k∈Ls i:=QB;have ok:=(F i hi).ok;have ag:∀k∈p::([]:Qj),k∉[ds i,J]:=λk C hm=>by rw[Z6] at C;subst C;exact(F i hi).Zb3.Zap (F i hi).pw Qz (U _ hm)
 have hp:=(F i hi).pw.fr Z (ag p Qx);refine⟨(List.range n).flatMap (upd Ls i [ds i,J]),⟨_,rfl,λj O=> ?_,Gy h2 (λa ha=>(F a ha).Zb3.lt) hi (λk C=>Zv (U k C))⟩,λk C=> ?_,Z.mono (λk C _=>Dx.2 ⟨i,hi,U k C⟩)⟩
 .by_cases e:j=i
  .subst e;simp[QX];have ae:=Ri ok.fit keep t;exact⟨hp,(F j O).pok,⟨J,_,by simp[QV,Value.ownBlock],hd⟩,⟨ae.len,ok.n1,ok.n2,λx hx=>(by cases hx),λx hx=>(by cases hx),(by simp[Dk.lost]),ok.Zbt,ok.ZbG⟩,(F j O).bp,λk C=>(F j O).bL k (U k C)⟩
  .simp[QP _ _ e];refine(F j O).fr Z (λk C hm=> ?_);grind
 .have⟨j,O,C⟩:=Dx.1 C;by_cases e:j=i
  .subst e;rw[QX] at C;grind
  .rw[QP _ _ e] at C;grind
def Bl(B:Nat)(w:Qs)(ka:Qm)(kl:List Qn):Prop:=∀i (h:i<kl.length),∃b o a cap,ka=some ⟨b,o,none⟩/\b<B/\w.cell? ⟨b,o+i,none⟩=some (.slice a kl[i].length cap)/\∀j (h2:j<kl[i].length),∃kb ko,a=some ⟨kb,ko,none⟩/\kb<B/\w.cell? ⟨kb,ko+j,none⟩=some (.bool kl[i][j])
def Au(B:Nat)(w:Qs)(ta:Qm)(tl:List Int):Prop:=∀i (h:i<tl.length),∃b o,ta=some ⟨b,o,none⟩/\b<B/\w.cell? ⟨b,o+i,none⟩=some (.int .i64 tl[i])
def Bl.below(h:Bl B w ka kl)(hb:Below B w w'):Bl B w' ka kl:=λi hi=>by have⟨b,o,a,cap,U,C,Z,h4⟩:=h i hi;refine⟨b,o,a,cap,U,C,(hb.cell (p:=⟨b,o+i,none⟩) C).trans Z,λj hj=> ?_⟩;have⟨J,O,h5,F,h7⟩:=h4 j hj;exact⟨J,O,h5,F,(hb.cell (p:=⟨J,O+j,none⟩) F).trans h7⟩
def Au.below(h:Au B w ta tl)(hb:Below B w w'):Au B w' ta tl:=λi hi=>by have⟨b,o,F,C,J⟩:=h i hi;exact⟨b,o,F,C,(hb.cell (p:=⟨b,o+i,none⟩) C).trans J⟩
def XH(kl:List Qn)(tl:List Int)(Ds:Nat->Dk)(t:Nat):Nat->Dk:=λi=>if i<t then(Ds i).lost (kl.getD i []) (tl.getD i 0) else Ds i
theorem Z3K(kl:List Qn)(tl:List Int)(Ds:Nat->Dk)(t:Nat):XH kl tl Ds (t+1)=upd (XH kl tl Ds t) t ((XH kl tl Ds t t).lost (kl.getD t []) (tl.getD t 0)):=by
 funext i
 unfold XH upd;grind
theorem Bl.get(h:Bl B w ka kl)(t:Nat):∃a cap,(t<kl.length->∃b o,ka=some ⟨b,o,none⟩/\w.cell? ⟨b,o+t,none⟩=some (.slice a (kl.getD t []).length cap))/\(kl.length<=t->a=none/\cap=0/\(kl.getD t []).length=0)/\∀gh,B<=gh->N5 w gh a (kl.getD t []):=by
 by_cases C:t<kl.length
 .have⟨b,o,a,cap,J,Z,O,h4⟩:=h t C;have e:kl.getD t []=kl[t]:=QA;rw[e];refine⟨a,cap,λ_=>⟨b,o,J,O⟩,λh=>Qw,λgh U j F=> ?_⟩;grind
 .have e:kl.getD t []=[]:=by simp[Nat.not_lt.1 C]
  rw[e];exact⟨none,0,λh=>absurd h C,λ_=>⟨rfl,rfl,rfl⟩,λgh U j F=>by cases F⟩
theorem Au.get(h:Au B w ta tl)(t:Nat):(t<tl.length->∃b o,ta=some ⟨b,o,none⟩/\w.cell? ⟨b,o+t,none⟩=(tl.getD t 0:Int))/\(tl.length<=t->tl.getD t 0=0):=by refine⟨λC=> ?_,λC=>by simp[C]⟩;have⟨b,o,F,J,O⟩:=h t C;grind
structure Db(B:Nat)(w:Qs)(r p gd n cd:Nat)(o sp:Qk)(ds:Nat->Nat)(P:Pw)(Ds:Nat->Dk)(bl:Qj)(tb:Nat)(tc:Qk)(ka:Qm)(kl:List Qn)(ta:Qm)(tl:List Int)(t:Nat)(wr:Qs):Prop where
 room:Row wr r 39 (.pointer p:: .slice gd n cd::o)
 ZaY:Row wr gd 47 (Wv n ds++sp)
 Zb6:Row wr tb 56 tc
 at_:∃bl',DAt B wr p n ds P (XH kl tl Ds t) bl'/\∀k∈bl',k∈bl
 pw:Y6 wr p P
 keep:Bl B wr ka kl
 Zcd:Au B wr ta tl
 fr:Fr (p::bl) w wr
def Db.Zav(h:Db B w r p gd n cd o sp ds P Ds bl tb tc ka kl ta tl t wr)(F:t<n):∃gh v,Y7 wr p (ds t) gh v (XH kl tl Ds t t)/\(XH kl tl Ds t t).ok 800/\B<=gh:=by obtain⟨bl',⟨Ls,rfl,C,O⟩,h3⟩:=h.at_;have⟨gh,v,U,J⟩:=(C t F).dk;exact⟨gh,v,J,(C t F).ok,(C t F).bL gh QB⟩
def Db.next(h:Db B w r p gd n cd o sp ds P Ds bl tb tc ka kl ta tl t wr)(ht:t<n){gh:Nat}{v:Qt}(O:Y7 wr p (ds t) gh v (XH kl tl Ds t t)){w':Qs}(hd:Y7 w' p (ds t) gh (.slice none 0 0) ((XH kl tl Ds t t).lost (kl.getD t []) (tl.getD t 0)))(C:Fr [ds t,gh] wr w')(af:B<=gh)(ae:B<=ds t)(hB:B<=wr):Db B w r p gd n cd o sp ds P Ds bl tb tc ka kl ta tl (t+1) w':=by
 have⟨bl',h1,U⟩:=h.at_;have⟨Z,g1,g2,g3⟩:=h1.Zc2 ht hd C O;have J:QL wr [ds t,gh] FE:=by obtain⟨l,hb⟩:∃l,Row wr gh 5 l:=⟨_,O.bytes.row⟩;exact QL.cons O.top Qz (QL.row hb Qz)
 have hb:Below B wr w':=C.below hB (λk F=>by
  simp at F
  rcases F with rfl|rfl<;>assumption)
 exact⟨h.room.fr C (J.Zap h.room Qz),h.ZaY.fr C (J.Zap h.ZaY Qz),h.Zb6.fr C (J.Zap h.Zb6 Qz),⟨Z,by rw[Z3K];exact g1,λk F=>U k (g2 k F)⟩,h.pw.fr C (J.Zap h.pw Qz),h.keep.below hb,h.Zcd.below hb,h.fr.trans g3 (λk F _=>Zh _ (U k F))⟩
def Z3C(B:Nat)(w:Qs)(r p gd n cd:Nat)(o:Qk)(sp:Qk)(ds:Nat->Nat)(P:Pw)(Ds:Nat->Dk)(bl:Qj)(ev:Qt)(o0 o1 o2 o3:Int)(ka:Qm)(kc:Nat)(kl:List Qn)(ta:Qm)(tc:Nat)(tl:List Int)(hr:Row w r 39 (.pointer p:: .slice gd n cd::o))(J:Row w gd 47 (Wv n ds++sp))(h:DAt B w p n ds P Ds bl)(hB:B<=w)(F:Bl B w ka kl)(ht:Au B w ta tl)(bq:B<=p)(hn:n<=16)(ah:Y6 w p P)(ae:P.ok):Calls prog 20 #[r,.agg #[o0,o1,o2,o3,ev,.slice ka kl.length kc,.slice ta tl.length tc]] w λe w'=>e=.returned (.tuple #[])/\(∃bl',DAt B w' p n ds {P with gone:=false,Zas:= -1} (XH kl tl Ds n) bl'/\∀k∈bl',k∈bl)/\Y6 w' p {P with gone:=false,Zas:= -1}/\Fr (p::bl) w w':=by
 have c0:=λob=>(hr.alloc ob).c0;have aw:∀i,i<n->B<=ds i:=λi hi=>by obtain⟨Ls,rfl,h1,h2⟩:=h;have⟨gh,v,hL,J⟩:=(h1 i hi).dk;exact(h1 i hi).bL _ (by rw[hL];simp)
 have ct:r≠p:=Row.ne hr ah Qz;have bu:gd≠p:=Row.ne J ah Qz;have H:=Q3 hr J h F ht ah ae aw;clear hr J h F ht ah ae aw;go_enter func20,ntmps20;go_wp2_with (go_at_call 52;go_fit (Z4v p P _ (Row.alloc H.6 _));rintro e w1 ⟨rfl,bh,ay⟩;have H1:=ZM bh ay;clear bh ay);have ai:Below B w w1:=((Zu B w).alloc hB _).trans (H1.2.below (by simp;omega) (λk F=>by rw[Z6] at F;subst F;exact bq));have:p<w:=Row.lt H.6;have S0:Db B w r p gd n cd o sp ds {P with gone:=false,Zas:= -1} Ds bl w [.int .i64 o0,.int .i64 o1,.int .i64 o2,.int .i64 o3,ev,.slice ka kl.length kc,.slice ta tl.length tc] ka kl ta tl 0 w1:=by
  refine⟨(H.1.alloc _).fr H1.2 (by simpa using ct),(H.2.alloc _).fr H1.2 (by simpa using bu),(Z2 w _ _).fr H1.2 (by simp;omega),⟨bl,?_,λ_ h=>h⟩,H1.1,H.4.below ai,H.5.below ai,(Z1 (L:=p::bl) ((Zu w w).alloc (Zt _) _)).trans H1.2 (λk F _=>by rw[Z6] at F;subst F;simp)⟩;have e:XH kl tl Ds 0=Ds:=by funext i;simp[XH]
  rw[e]
  exact(H.3.after ((Zu w w).alloc (Zt _) _)).Zay H1.2 (λk F hm=>by
   rw[Z6] at hm;subst hm
   exact H.3.typed.Zap H.6 Qz F) H1.1 ⟨by show(-1:Int)<= -1;omega,by show(-1:Int)<=9223372036854775807;omega⟩
 have bm:=ZI S0;clear S0 c0 ai;go_loopw [4] (λiv wr=>∃t:Nat,t<=n/\iv=(t:Int)/\Db B w r p gd n cd o sp ds {P with gone:=false,Zas:= -1} Ds bl w [.int .i64 o0,.int .i64 o1,.int .i64 o2,.int .i64 o3,ev,.slice ka kl.length kc,.slice ta tl.length tc] ka kl ta tl t wr) (λiv _=>n- (intOf iv).toNat)
 .exact⟨0,Qw,rfl,bm.o⟩
 obtain⟨t,cw,rfl,C⟩:=hrel;have c1:=C.room.c1;by_cases U:t<n
 .have:(t:Int)<(n:Int):=by omega
  have⟨gh,v,J,bg,aj⟩:=C.Zav U;have cd:wr.cell? ⟨gd,t,none⟩=some (.pointer (some ⟨ds t,0,none⟩)):=C.ZaY.cell (by rw[Za (by rw[BG];exact U)];exact BF _ _ _ U);have t5:=C.Zb6.c5;have t6:=C.Zb6.c6;have⟨a,cap,k1,k2,k3⟩:=C.keep.get t;have⟨q1,q2⟩:=C.Zcd.get t;have af:=Z3I p (ds t) gh v _ _ 800 a cap (kl.getD t []) (tl.getD t 0) wr C.pw J bg (k3 gh aj);have ag:=λ(w':Qs)=>C.next (w':=w') U J
  have⟨kk,bf⟩:=ZK (kl.getD t []);have⟨tt,bj⟩:=ZK (tl.getD t 0);have⟨Z,ak⟩:=ZK kl.length;have⟨TN,aq⟩:=ZK tl.length;rw[bf] at k1 k2 af ag;rw[bj] at q1 q2 af ag;rw[ak] at t5 k1 k2;rw[aq] at t6 q1 q2;have hz:B<=wr:=Zq hB C.fr.size;have O:=ZP af ag aj (H.8 t U) hz;clear C J bg aj k3 af ag bf bj ak aq hz;rcases ZeF t Z with hk9|hk9
  case' inl=>(obtain⟨kb,ko,rfl,cy⟩:=k1 hk9;have cj:(t:Int)<(Z:Int):=Qw)
  case' inr=>(obtain⟨rfl,rfl,bz⟩:=k2 hk9;rw[bz] at O;have cj:¬ (t:Int)<(Z:Int):=Qw)
  all_goals clear k1 k2
  all_goals rcases ZeF t TN with ht9|ht9
  all_goals first|(obtain⟨tb,de,rfl,cz⟩:=q1 ht9;have cr:(t:Int)<(TN:Int):=Qw)|(obtain rfl:=q2 ht9;have cr:¬ (t:Int)<(TN:Int):=Qw)
  all_goals clear q1 q2
  all_goals
   go_wp2_with (go_at_call 53;go_fit O.1;rintro e w2 ⟨rfl,au,az⟩;have R2:=ZI (O.2.1 _ au az O.2.2.1 O.2.2.2.1 O.2.2.2.2);clear au az);go_roundw
   .exact⟨t+1,Qw,QC,R2.o⟩
   simp[intOf];omega
 .obtain rfl:t=n:=by omega
  have HS:=ZI C;clear C;go_wp2;go_end0;exact⟨rfl,HS.o.at_,HS.o.pw,HS.o.fr⟩
open Go.ChangeShapes Go.WideShapes Go.Deep
variable{H:Type}{cap len:Nat}{enc:TypeId×Value->H}{p:List MemPlace}
def IV{x:Addr}(h:w.cell? (x.add 0)=some v):∃b o,x=⟨b,o,none⟩/\b<w.heap.size/\∀i,x.add i=⟨b,o+i,none⟩:=by
 have⟨b,o,spot⟩:=x;have C:spot=none:=by simpa[Addr.add] using ZgS h
 subst C;have ea:∀i,(⟨b,o,none⟩:Addr).add i=⟨b,o+i,none⟩:=λi=>by unfold Addr.add;split<;>simp_all
 rw[ea] at h;exact⟨b,o,rfl,GG h,ea⟩
def VT{fuel:Nat}{y:DataW H×List MemPlace}(U:DataW.trod enc prog W 0 (λ_=>true) true fuel 37 [.slice a len cap]=some y):∃l:Qn,len=l.length/\∀j (h:j<l.length),∃b o,a=some ⟨b,o,none⟩/\b<W.heap.size/\W.cell? ⟨b,o+j,none⟩=some (.bool l[j]):=by
 rcases open_bools underlying37 underlying4 Qy U with ⟨C,_⟩|⟨x,l,c,B,C,_,hl,_,_,F⟩
 .simp at C;obtain⟨rfl,rfl,rfl⟩:=C;exact⟨[],rfl,λi hi=>by simp at hi⟩
 .simp at C;obtain⟨rfl,rfl,rfl⟩:=C;refine⟨(List.range len).map B,Qx,λi hi=> ?_⟩;have:i<len:=by simpa using hi
  obtain⟨b,o,rfl,J,O⟩:=IV (F 0 Qw);have hc:=F i Qw;rw[O] at hc;exact⟨b,o,rfl,J,by rw[hc];simp⟩
def VU{d:DataW H}(h:DataW.Trod enc prog W 0 (λ_=>true) true 45 (.slice a len cap) d p):∃ll:List Qn,len=ll.length/\Bl W W a ll:=by
 have⟨fuel,hf⟩:=h;rcases open_slice1 underlying45 Qy hf with ⟨F,_⟩|⟨x,l,c,m,n,Z,D,Pl,F,_,hl,hm,ah,_,hi⟩
 .simp[Value.cells] at F;obtain⟨rfl,rfl,rfl⟩:=F;exact⟨[],rfl,λi hi=>by simp at hi⟩
 .simp[Value.cells] at F;obtain⟨rfl,rfl,rfl⟩:=F;simp at ah;have hex:∀i,i<len->∃y:Qm×Nat×Qn,Z i=.slice y.1 y.2.2.length y.2.1/\∀j (h:j<y.2.2.length),∃b o,y.1=some ⟨b,o,none⟩/\b<W.heap.size/\W.cell? ⟨b,o+j,none⟩=some (.bool y.2.2[j]):=by
   intro i ag;have⟨_,O⟩:=hi i Qw;obtain⟨A,L,C,hv⟩:∃A L C,Z i=.slice A L C:=by
    rcases open_slice underlying37 O with ⟨F,_⟩|⟨x,l,c,m,n,D,Pl,F,_⟩
    .simp_all
    .simp_all
   rw[hv] at O;obtain⟨l,rfl,J⟩:=VT O;exact⟨(A,C,l),hv,J⟩
  have⟨f,af⟩:=choose_lt (α:=Qm×Nat×Qn) hex;refine⟨(List.range len).map λi=>(f i).2.2,Qx,λi ag=> ?_⟩;have ae:i<len:=QB;have e0:((List.range len).map λi=>(f i).2.2)[i]=(f i).2.2:=Qx;have⟨J,h2⟩:=af i ae;obtain⟨b,o,rfl,h3,h4⟩:=IV (hi 0 Qw).1;have U:=(hi i Qw).1;rw[h4,J] at U;refine⟨b,o,(f i).1,(f i).2.1,rfl,h3,by rw[e0];exact U,?_⟩;rw[e0];exact h2
def ints_open{d:DataW H}(h:DataW.Trod enc prog W 0 (λ_=>true) true 46 (.slice a len cap) d p):∃l:List Int,len=l.length/\len<=maxLen/\Au W W a l/\∀z∈l, -9223372036854775808<=z/\z<=9223372036854775807:=by
 have⟨fuel,hf⟩:=h;rcases open_ints underlying46 underlying3 Qy hf with ⟨C,_⟩|⟨x,l,c,U,C,_,hl,hm,hlen,_,J,Z⟩
 .simp[Value.cells] at C;obtain⟨rfl,rfl,rfl⟩:=C;exact⟨[],rfl,ZeT _,λi hi=>by simp at hi,λz F=>by cases F⟩
 .simp[Value.cells] at C;obtain⟨rfl,rfl,rfl⟩:=C;simp[ZgV] at hlen;refine⟨U.take len,by simp[hlen];omega,Zq hl hm,λi hi=> ?_,λz F=> ?_⟩
  .have O:i<U.length:=by simp at hi;omega
   obtain⟨b,o,rfl,h1,h2⟩:=IV (J 0 Qw);have hc:=J i O;rw[h2] at hc;refine⟨b,o,rfl,h1,?_⟩;rw[hc];simp[Z7,Z8 O]
  .have h9:=Z z (ZdK F);simpa[Lit.wf,IntKind.min,IntKind.max,IntKind.signed,IntKind.bits] using h9
def Z7M{d:DataW H}(h:DataW.Trod enc prog W 0 (λ_=>true) true 46 (.slice a len cap) d p):∃l:List Int,len=l.length/\Au W W a l:=by obtain⟨l,C, -,F, -⟩:=ints_open h;exact⟨l,C,F⟩
def YI(V:Ev)(i:Nat)(key:Bs):Int:=match V.Ms i with
 |none=>if(V.Ds i).dead then 11 else 15
 |some S=>if V.P.gone then 10 else match stR (V.Ds i).reads S.dir (nmD key) with
  |none=>13
  |some none=>14
  |some (some _)=>0
def AT(w:Qs)(B:Nat)(c:Int)(v:Qt):Prop:=QK w B c v/\(c=13->∃b,v=.iface 139 (b:Nat)/\w.cell? ⟨b,1,none⟩=(1:Int))
def AT.of{c:Int}(h:QK w B c v)(hc:c≠13):AT w B c v:=⟨h,λe=>absurd e hc⟩
def EAt.dsk(h:EAt B w G V bl){i:Nat}(hi:i<G.n):w.cell? ⟨G.xs i,0,none⟩=some (.pointer (some ⟨G.ds i,0,none⟩))/\∃L,PD B w G.p (G.ds i) 800 V.P (V.Ds i) L:=by
 obtain⟨Ls,Os,rfl,h⟩:=h;refine⟨?_,_,h.pd i hi⟩;have C:=h.at_ i hi;cases hM:V.Ms i with
 |none=>rw[hM] at C;have⟨sv,lf,inn,_,F,_⟩:=C;exact F.c0
 |some S=>rw[hM] at C;have⟨s,j,_,F,_⟩:=C;exact F.c0
def Kz(B:Nat)(w:Qs)(G:Eg)(V:Ev)(bl:Qj)(K:List Bs)(E i:Nat)(key v:Bs)(h:EAt B w G V bl)(ht:Ty w)(dp:0<B)(hi:i<G.n)(dt:1<=key.length)(cu:key.length<=200)(hv:v.length<=200)(cz:1<=V.k)(dq:V.k+V.m=G.n)(cn:Cs K E V G.n key v)(bz:1<=WY V key v G.n):Calls prog 45 #[G.s,(i:Int),key] w λe w'=>∃ev,e=.returned ev/\AT w' w (YI V i key) ev/\QG B G bl V w w':=by
 have:=h.nle;have c4:=h.Zaz.c4;have c2:=h.Zaz.c2;have cw:=TW bz;have hm:(decide (1<=(str key).size)&&decide ((str key).size<=200))=true:=by rw[QW];simp;omega
 have aj:=IC B w G V bl key h cu cn.runs;rw[cw] at aj;have H:=ZY h aj ht dp;cases hM:V.Ms i with
 |none=>
  have bu:YI V i key=if(V.Ds i).dead then 11 else 15:=by unfold YI;rw[hM]
  rw[bu];cases hd:(V.Ds i).dead
  all_goals
   have Z:=ZM hM hd;go_enter func45,ntmps45;go_wp2_with (first|(go_at_call 66;refine(BZ _ _).mono ?_;rw[hm];rintro e w1 ⟨rfl,rfl⟩)|(go_at_call 67;go_fit H.2;rintro e w2 ⟨rfl,O,e2,g2,f2⟩;have C:=ZN e2 g2 f2;have bf:=e2.Zaz.c2;have bg:=e2.ZaK hi;have x0:=(e2.dsk hi).1)|(go_at_call 22;have⟨L,ah⟩:=(C.1.dsk hi).2;obtain⟨bh,v9, -,ag⟩:=ah.dk;refine(BY _ _ bh v9 _ _ ag).mono ?_;rw[Z.2];rintro e w4 ⟨rfl,rfl⟩)|(go_at_call 34;go_fit (CF B _ G V O i C.1 hi Z.1);rintro e w5 ⟨rfl,dh⟩;have U:=ZI (QG.trans C.o dh))|(go_at_call 31;go_fit (Fm _ _ Qz _);rintro e w9 ⟨b9,rfl,aw, -,au⟩;have R9:=ZM aw au));go_ret
  .exact⟨_,rfl,AT.of (R9.1.base (by have⟨_,_,_,hf⟩:=U.o;exact hf.size)) Qz,U.o.after R9.2⟩
  .exact⟨_,rfl,AT.of (R9.1.base C.2.2.size) Qz,QG.after ⟨O,C.o⟩ R9.2⟩
 |some S=>
  have hb:=cn.b i hi S hM;have hT:=cn.t i hi S hM;have cj:(nmD key).length<=1000000:=by simp[nmD];omega
  have af:=Br key Qw;have bu:YI V i key=if V.P.gone then 10 else match stR (V.Ds i).reads S.dir (nmD key) with
   |none=>13
   |some none=>14
   |some (some _)=>0:=by unfold YI;rw[hM]
  rw[bu];have ay:=cn.runs i hi S hM;have Z:=ZP hM hb hT af ay;cases hg:V.P.gone
  rotate_left
  .have HG:=ZI hg;go_enter func45,ntmps45;go_wp2_with (first|(go_at_call 66;refine(BZ _ _).mono ?_;rw[hm];rintro e w1 ⟨rfl,rfl⟩)|(go_at_call 67;go_fit H.2;rintro e w2 ⟨rfl,O,e2,g2,f2⟩;have C:=ZN e2 g2 f2;have bf:=e2.Zaz.c2;have bg:=e2.ZaK hi;have⟨s,ae,az,hd,L,ah⟩:=e2.mem hi Z.1;have x0:=ae.c0;have F:=ZY ae az hd ah)|(go_at_call 22;obtain⟨bh,v9, -,ag⟩:=F.4.dk;refine(BY _ _ bh v9 _ _ ag).mono ?_;rw[F.3];rintro e w4 ⟨rfl,rfl⟩)|(go_at_call 34;go_fit (C1 B _ G V O i C.1 hi S Z.1);rintro e w5 ⟨rfl,ak⟩;have U:=ZI ak)|(go_at_call 35;have t2:=(QG.ty (w:=w) ⟨O,C.o⟩ H.1 H.3 H.4).below U.o;refine(Oz B _ G V O (C.1.after U.o) t2).mono ?_;rw[HG.o];rintro e w6 ⟨cy,rfl,ai,aq⟩;obtain⟨b6,rfl⟩:=(ai.split.resolve_left (λh=>absurd h.1 Qz)).2;have R6:=ZM ai (U.o.trans (aq.mono U.o.size))));go_ret;exact⟨_,rfl,AT.of (R6.1.base (Zq C.2.2.size U.o.size)) Qz,QG.after ⟨O,C.o⟩ R6.2⟩
  .have⟨T,hT⟩:=ZK (stR (V.Ds i).reads S.dir (nmD key));rw[hT];cases bm:S.dir.get (nmD key) with
   |none=>
    have dm:T=none:=by rw[<-hT,stR,bm];rfl
    subst dm;have HG:=ZM bm hg;go_enter func45,ntmps45;go_wp2_with (first|(go_at_call 66;refine(BZ _ _).mono ?_;rw[hm];rintro e w1 ⟨rfl,rfl⟩)|(go_at_call 67;go_fit H.2;rintro e w2 ⟨rfl,O,e2,g2,f2⟩;have C:=ZN e2 g2 f2;have bf:=e2.Zaz.c2;have bg:=e2.ZaK hi;have⟨s,ae,az,hd,L,ah⟩:=e2.mem hi Z.1;have x0:=ae.c0;have F:=ZY ae az hd ah)|(go_at_call 22;obtain⟨bh,v9, -,ag⟩:=F.4.dk;refine(BY _ _ bh v9 _ _ ag).mono ?_;rw[F.3];rintro e w4 ⟨rfl,rfl⟩)|(go_at_call 34;go_fit (C1 B _ G V O i C.1 hi S Z.1);rintro e w5 ⟨rfl,ak⟩;have U:=ZI ak)|(go_at_call 35;go_fit (GR B _ G V O (C.1.after U.o) HG.2);rintro e w6 ⟨cy,rfl,ai,aq⟩;obtain rfl:=ai.zero;have J:=U.o.trans (aq.mono U.o.size);have cr:=(C.1.after J).Zaz.c2;have ct:=(C.1.after J).ZaK hi;have x1:=(F.1.after J).c1;have af:=Z.2.2.2.1;have R6:=ZI J)|(go_at_call 97;go_fit (Gf s (G.ds i) S (nmD key) _ (F.2.after R6.o) cj HG.1);rintro e7 w7 ⟨b7,rfl, -,J⟩;have R7:=ZI (R6.o.trans (J.mono R6.o.size)))|(go_at_call 31;go_fit (Fm _ _ Qz _);rintro e w9 ⟨b9,rfl,aw,dj,au⟩;have R9:=ZN aw au dj));go_ret;exact⟨_,rfl,⟨R9.1.base (Zq C.2.2.size R7.o.size),λ_=>⟨b9,rfl,R9.2.2.c1⟩⟩,QG.after (QG.after ⟨O,C.o⟩ R7.o) R9.2.1⟩
   |some en=>
    have⟨de,df⟩:=Z.2.2.2.2 _ _ bm;have HG:=ZP bm hg de df hT;rcases Z.2.2.1 with h9|h9|h9
    .rw[stR,HG.1] at h9;cases h9
    all_goals
     rw[hT] at h9;subst h9;go_enter func45,ntmps45;go_wp2_with (first|(go_at_call 66;refine(BZ _ _).mono ?_;rw[hm];rintro e w1 ⟨rfl,rfl⟩)|(go_at_call 67;go_fit H.2;rintro e w2 ⟨rfl,O,e2,g2,f2⟩;have C:=ZN e2 g2 f2;have bf:=e2.Zaz.c2;have bg:=e2.ZaK hi;have⟨s,ae,az,hd,L,ah⟩:=e2.mem hi Z.1;have x0:=ae.c0;have F:=ZY ae az hd ah)|(go_at_call 22;obtain⟨bh,v9, -,ag⟩:=F.4.dk;refine(BY _ _ bh v9 _ _ ag).mono ?_;rw[F.3];rintro e w4 ⟨rfl,rfl⟩)|(go_at_call 34;go_fit (C1 B _ G V O i C.1 hi S Z.1);rintro e w5 ⟨rfl,ak⟩;have U:=ZI ak)|(go_at_call 35;go_fit (GR B _ G V O (C.1.after U.o) HG.2.1);rintro e w6 ⟨cy,rfl,ai,aq⟩;obtain rfl:=ai.zero;have J:=U.o.trans (aq.mono U.o.size);have cr:=(C.1.after J).Zaz.c2;have ct:=(C.1.after J).ZaK hi;have x1:=(F.1.after J).c1;have af:=Z.2.2.2.1;have R6:=ZI J)|(go_at_call 97;refine(ED s (G.ds i) S (nmD key) en _ (F.2.after R6.o) cj HG.1 HG.2.2.1 (by have:=HG.2.2.2.1;omega)).mono ?_;rintro e7 w7 ⟨v7,rfl, -,J⟩;have R7:=ZI (R6.o.trans (J.mono R6.o.size)))|(go_at_call 100;have bj:=C.1.after R7.o;first|(refine(Ma G.s G.ms (G.xs i) s V.k V.m i G.cap G.n key v _ cz Qw hi dq.symm hv cu bj.Zaz.c0 bj.Zaz.c2 (bj.ZaK hi) ((F.1.after R7.o).c1) (FL (F.4.after R7.o) (F.2.after R7.o) Z.2.1 HG.2.1 F.3 cj (by simp[nmD];omega) (DN (m:=V.m) (i:=i) (key:=key) cz hv).2 HG.2.2.2.2)).mono ?_;rintro e8 w8 ⟨rfl,bq⟩;have R8:=ZI (R7.o.trans (bq.mono R7.o.size)))|(go_fit (Sz G.s G.ms (G.xs i) s i G.cap G.n key _ _ hi cu bj.Zaz.c2 (bj.ZaK hi) ((F.1.after R7.o).c1) (LO (F.4.after R7.o) (F.2.after R7.o) Z.2.1 HG.2.1 F.3 cj (Zy HG.2.2.2.2)));rintro e8 w8 ⟨b8,rfl, -,bq⟩;have R8:=ZI (R7.o.trans (bq.mono R7.o.size))))|(go_at_call 31;go_fit (Fm _ _ Qz _);rintro e w9 ⟨b9,rfl,aw, -,au⟩;have R9:=ZM aw au));go_ret
    .exact⟨_,rfl,AT.of (R9.1.base (Zq C.2.2.size R8.o.size)) Qz,QG.after (QG.after ⟨O,C.o⟩ R8.o) R9.2⟩
    .exact⟨_,rfl,AT.of (QK.nil _ _) Qz,QG.after ⟨O,C.o⟩ R8.o⟩
def Z7D{x:Qq}{r:List Qq}(h:Row w g 9 (QS (x::r)++sp))(hc:r.length+1<=cap)(hb:Below w w w'):Y9 w' (if cap=1 then some ⟨g,0,none⟩ else some ⟨g,1,none⟩) r/\∀a o,(if cap=1 then some (⟨g,0,none⟩:Addr) else some ⟨g,1,none⟩)=some ⟨a,o,none⟩->a<w'.heap.size:=by
 have C:g<w':=Zp h.lt hb.size;refine⟨λj F=> ?_,λa o e=> ?_⟩
 .rw[Zw Qw];refine⟨g,1,rfl,((h.after hb).cell (j:=1+j) ?_)⟩;rw[Za (by simp[Tf];omega),ZfD];simp[QS,F]
 .split at e<;>(cases e;exact C)
def Z5B(b i g:Nat)(γ:Int)(sv:Qt)(w:Qs)(c3:w.cell? ⟨b,3,none⟩=(g:Int))(hg:g<=1000000000)(F:γ≠g)(J:γ≠g-1∨γ<0):Calls prog 64 #[b,(i:Int),sv,.int .i64 γ] w λe w'=>e=.returned (.tuple #[false,.nilIface])/\Below w w w':=by
 have:(γ==(g:Int))=false:=by rw[ZeL];exact F
 have:IntKind.i64.wrap ((g:Int)-1)=(g:Int)-1:=Zr _ Qw;by_cases C:γ=g-1
 .have U:γ<0:=J.resolve_left (λh=>h C);have:decide (γ<0)=true:=by simpa using U
  have O:(γ !=(g:Int)-1)=false:=by simp[C]
  clear F J C;go_enter func64,ntmps64;go_wp2;go_quiet (fail);go_wp2;go_ret2;exact⟨rfl,YE (Zu _ _) _⟩
 .have O:(γ !=(g:Int)-1)=true:=by simp[C]
  clear F J C;go_enter func64,ntmps64;go_wp2;go_quiet (fail);go_wp2;go_ret2;exact⟨rfl,YE (Zu _ _) _⟩
def Z5A(b s i g:Nat)(gone:List Bs)(w:Qs)(bq:g+1<=1000000000)(bu:gone.length<=1000)(c3:w.cell? ⟨b,3,none⟩=((g+1:Nat):Int))(Z:∀x:Qs,(x.cell? ⟨b,3,none⟩=((g+1:Nat):Int)/\Below w w x)->Calls prog 63 #[b,s,.string ⟨#[110]⟩,(i:Int)] x λe x'=>e=.returned ((g+1:Nat):Int)/\Below x x x')(ag:∀x:Qs,Below w w x->Calls prog 110 #[s,.string ⟨#[116]⟩,.string ⟨#[116]⟩] x λe x'=>∃a cap,e=.returned (.tuple #[.slice a (gone.length+1) cap,.nilIface])/\x'.ownsRow x 9 1 (.slice a (gone.length+1) cap) (gone.length+1) (QS ((QI (g+1)::gone).map str))/\Below x x x'){R:Qt->Qs->Prop}(ae:∀ (x:Qs) (gv:Qt),Below w w x->(∃a cap,gv=.slice a gone.length cap/\Y9 x a (gone.map str)/\∀g o,a=some ⟨g,o,none⟩->g<x.heap.size)->Calls prog 41 #[s,gv] x λe w'=>∃ev,e=.returned ev/\R ev w'):Calls prog 64 #[b,(i:Int),s,(g:Int)] w λe w'=>∃ev,e=.returned (.tuple #[true,ev])/\R ev w':=by
 have aj:Wz (s32 (g+1)).data.toList=g+1:=by have h9:=I8 (g+1) [];rw[ZdJ] at h9;have e9:(s32 (g+1)).data.toList=QI (g+1):=rfl;rw[e9,h9];omega
 have ak:(s32 (g+1)).size=4:=Jh (g+1);have bf:decide ((g:Int)=((g+1:Nat):Int))=false:=by rw[ZfN];omega
 have bg:IntKind.i64.wrap (((g+1:Nat):Int)-1)=(g:Int):=by rw[Zr _ Qw];omega
 have cn:decide ((g:Int)<0)=false:=Qx;obtain⟨q,hq⟩:∃q:Int,((g+1:Nat):Int)=q:=⟨_,rfl⟩;have aw:((g:Int)==((g+1:Nat):Int))=false:=by rw[ZeL];omega
 simp only[hq] at c3 Z bf bg aw;have Z:=ZI Z;have ag:=ZI ag;have ae:=ZI ae;have HQ:=ZX hq aj ak;clear hq aj ak;go_enter func64,ntmps64;have h:∀A C:Qs,(A.cell? ⟨b,3,none⟩=(q:Int)/\Below w w A)->Below A A C->(C.cell? ⟨b,3,none⟩=(q:Int)/\Below w w C):=by rintro A C ⟨O,U⟩ hb;exact⟨(hb.cell (Z9 A _ O)).trans O,U.trans (hb.mono U.size)⟩
 have hs0:=h w w.drew ⟨c3,Zu _ _⟩ ((Zu _ _).drew);have F:=ZI h;clear h;go_wp2;go_region_held3 (λx=>x.cell? ⟨b,3,none⟩=(q:Int)/\Below w w x) (first|exact hs0|(exact F.o _ _ (by assumption) ((Zu _ _).alloc (Zt _) _))|(exact F.o _ _ (by assumption) (by assumption)))
  (first|(go_at_call 63;refine(Z.o _ (by assumption)).mono ?_;rintro e w8 ⟨rfl,bh⟩))
 rename_i hHeld;obtain⟨h3,J⟩:=hHeld;clear hs0 F;go_wp2_with (go_at_call 110;refine(ag.o _ J).mono ?_;rintro e w1 ⟨a,cap,rfl,ah,af⟩;obtain⟨gl,au,sp,hv,az,ay,bm,hr⟩:=Xf ah Qw;injection hv with hv1 hv2 aq;subst hv1;have S9:gone.length+1<=cap:=(by cases aq;exact ay);have S1:=ZX hr (J.trans (af.mono J.size)) ah;have d3:w1.cell? ⟨b,3,none⟩=(q:Int):=(af.cell (Z9 _ _ h3)).trans h3;clear ah af hr aq);have d0:w1.cell? gl=some (.string (s32 (g+1))):=S1.1.c0;have h:∀A C:Qs,(A.cell? ⟨b,3,none⟩=(q:Int)/\A.cell? gl=some (.string (s32 (g+1)))/\Below w1 w1 A)->Below A A C->(C.cell? ⟨b,3,none⟩=(q:Int)/\C.cell? gl=some (.string (s32 (g+1)))/\Below w1 w1 C):=by rintro A C ⟨O,h1,U⟩ hb;exact⟨(hb.cell (Z9 A _ O)).trans O,(hb.cell (Z9 A _ h1)).trans h1,U.trans (hb.mono U.size)⟩
 have hs0:=h w1 w1.drew ⟨d3,d0,Zu _ _⟩ ((Zu _ _).drew);have F:=ZI h;have bz:¬ ((gone.length:Int)+1<1):=Qw;have cj:(0:Int)<((gone.length+1:Nat):Int):=Qw;clear h h3 J;go_wp2;go_region_held3 (λx=>x.cell? ⟨b,3,none⟩=(q:Int)/\x.cell? gl=some (.string (s32 (g+1)))/\Below w1 w1 x) (first|exact hs0|(exact F.o _ _ (by assumption) ((Zu _ _).alloc (Zt _) _))|(exact F.o _ _ (by assumption) (by assumption)))
  (first|(go_at_call 111;refine(KI (s32 (g+1)) HQ.3 _).mono ?_;rw[HQ.2,HQ.1];rintro e w9 ⟨rfl,bj⟩))
 rename_i hHeld;obtain⟨-, -,J⟩:=hHeld;have ai:=ZI J;clear J hs0 F;go_wp2_with (go_at_call 41;obtain⟨x1,x2⟩:=Z7D (r:=gone.map str) S1.1 (by simpa using S9) ai.o;refine(ae.o _ _ (S1.2.trans (ai.o.mono S1.2.size)) ⟨_,_,rfl,x1,x2⟩).mono ?_;rintro e w' ⟨ev,rfl,hR⟩;have HR:=ZI hR;clear hR x1 x2)
 all_goals go_ret2
 all_goals exact⟨ev,rfl,HR.o⟩
