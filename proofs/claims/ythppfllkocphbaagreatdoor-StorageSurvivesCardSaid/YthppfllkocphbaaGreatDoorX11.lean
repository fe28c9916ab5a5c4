/- Part 12: lemmas about what the program computes. -/
import Derived.Lib.SlicesCompact
import Derived.ChangeSlices
import Derived.Deep.Grids
import Derived.Test.YthppfllkocphbaaGreatDoorX10
namespace Go.Proofs.YthppfllkocphbaaGreatDoor
set_option linter.all false
set_option maxHeartbeats 25600000
set_option maxRecDepth 100000
open Tryz
open Go renaming World->Qs,Value->Qt,TypeId->Qu,Ending->Qv
section
open Go.RowKit Go.Shelf Go.Sort
variable{bs gl k m n:Nat}{lv:Value}{os:Array Obj}{w w' wr:World}
theorem NI:∀ (a b:Bs),Lib.compareBytes a b<0↔a<b
 |[],[]=>by simp[Lib.compareBytes]
 |[],b::s=>by simp[Lib.compareBytes]
 |a::r,[]=>by simp[Lib.compareBytes]
 |a::r,b::s=>by
  unfold Lib.compareBytes;rw[List.cons_lt_cons_iff];by_cases h:a<b
  .grind
  .rw[Zw h];by_cases C:b<a
   .grind
   .rw[Zw C,NI r s];grind
abbrev El:=Chg×(Qm×Nat×Nat)
instance:Inhabited El:=⟨(⟨[],none⟩,none,0,0)⟩
def elC(x:El):Qk:=[.string (str x.1.key),.int .i64 ((x.1.val.getD []).length:Int),.slice x.2.1 x.2.2.1 x.2.2.2]
def Fb(x y:El):Int:=Lib.compareBytes x.1.key y.1.key
theorem Z0P:SWO (ltOf Fb):=by
 have h:∀x y:El,ltOf Fb x y=decide (x.1.key<y.1.key):=λx y=>by exact decide_eq_decide.2 (NI _ _)
 refine⟨λx=> ?_,λx y z C F=> ?_,λx y z C F=> ?_⟩
 .simp_all
 .grind
 .grind
def apC(c:Chg):Qk:=[.string (str c.key),.string (str (c.val.getD [])),.bool c.val.isNone]
def BH(w:Qs)(gc:Nat)(cs:List Chg):Prop:=gc<w/\∀q (h:q<cs.length),w.cell? ⟨gc,q*3,none⟩=some (.string (str cs[q].key))/\w.cell? ⟨gc,q*3+1,none⟩=some (.string (str (cs[q].val.getD [])))/\w.cell? ⟨gc,q*3+2,none⟩=some (.bool cs[q].val.isNone)
def Z31(bx:Nat)(key:Bs)(x:Chg)(W:Qs)(hb:W.cell? bx=key):Calls prog 74 #[.agg (apC x).toArray,bx] W λe w'=>e=.returned (.bool (x.key==key))/\Below W W w':=by
 obtain⟨h,C⟩:=x;have J:(W.alloc (.cells #[h,.string (str (C.getD [])),C.isNone] 68)).cell? bx=key:=by have F:=(Zu W W).alloc (Zt _) (.cells #[h,.string (str (C.getD [])),C.isNone] 68);exact(F.cell (Z9 W _ hb)).trans hb
 unfold apC;go_enter func74,ntmps74;go_wp2;go_ret;refine⟨?_,(Zu _ _).alloc (Zt _) _⟩;have:((str h).toList==(str key).toList)=(h==key):=by rw[ZdH,ZdH,Yp,Yp]
 simp_all
def Z1W(W:Qs)(a b:Obj):(W.alloc a).alloc b=Go.Sort.grow (W.drewN 0) #[a,b]:=by rfl
def Z32(x y:El)(W:Qs):Calls prog 77 #[.agg (elC x).toArray,.agg (elC y).toArray] W λe w'=>e=.returned (Fb x y:Int)/\∃q h,w'=Go.Sort.grow (W.drewN q) h:=by unfold elC Fb;go_enter func77,ntmps77;go_wp2_with (go_at_call 78;refine(Tryz.strings_Compare _ _ _).mono ?_;rw[Yp,Yp];rintro e w1 ⟨rfl,rfl⟩);go_ret;exact⟨rfl,0,_,Z1W _ _ _⟩
theorem K9(gc C q n cap bx:Nat)(cs:List Chg)(c:Chg)(W:Qs)(Z:C=q*3∨q=cs.length)(F:W.cell? bx=some (.string (str c.key)))(J:BH W gc cs)(hq:q<=cs.length)(hn:n=cs.length-q)(hl:cs.length<=1000):Calls prog 32 #[.slice (some ⟨gc,C,none⟩) n cap,.func (.func 74) #[] #[.pointer bx]] W λe w'=>e=.returned (.bool (later c (cs.drop q)))/\Below W W w':=by
 have:Inhabited Chg:=⟨⟨[],none⟩⟩;have O:=Tryz.slices_ContainsFunc (α:=Chg) 3 (λw=>Qy) (λw=>Qy) apC (λx=>rfl) (λo=>o.key==c.key) 74 #[.pointer bx] (λargs w=>Qy) gc C n cap (cs.drop q) W (λM x hb=> ?_) QB Qw J.1 (λj U i v hv=> ?_)
 .refine O.mono ?_;rintro e w' ⟨rfl,hb⟩;refine⟨?_,hb⟩;rw[Zi QB];rfl
 .exact(Z31 bx c.key x M ((hb.cell (Z9 W _ F)).trans F)).mono λe w' h=>⟨h.1,hb.trans (h.2.mono hb.size)⟩
 .rw[ZdN] at U;obtain⟨h1,h2,h3⟩:=J.2 (q+j) Qw;unfold apC at hv;grind
def XP(w:Qs)(bs k m:Nat)(x:El):Prop:=match x.1.val with
 |none=>x.2=(none,0,0)
 |some v=>∃g c,x.2=(some ⟨g,0,none⟩,k+m,c)/\bs<=g/\g<w.heap.size/\∀i,i<k+m->w.cell? ⟨g,i,none⟩=some (.string (str (shT k m v i)))
def XP.keep{x:El}(h:XP w bs k m x)(M:∀g,bs<=g->g<w.heap.size->(∃i v,w.cell? ⟨g,i,none⟩=some (.string v))->w'.heap[g]? =w.heap[g]?)(hs:w<=w'.heap.size)(O:1<=k+m):XP w' bs k m x:=by
 unfold XP at h⊢;cases hv:x.1.val with
 |none=>rw[hv] at h;exact h
 |some v=>rw[hv] at h;obtain⟨g,c,e,C,J,F⟩:=h;have hb:=M g C J ⟨0,_,F 0 Qw⟩;refine⟨g,c,e,C,Qw,λi hi=> ?_⟩;have:=F i hi;unfold World.cell? at this⊢;simp_all
def XP.after{x:El}(h:XP w bs k m x)(hb:Below w w w')(C:1<=k+m):XP w' bs k m x:=h.keep (λg _ F _=>hb.block g F) hb.size C
structure LaS(w:Qs)(k m:Nat)(lv:Qt)(P:List El)(wr:Qs):Prop where
 own:wr.ownsRow w 98 3 lv P.length (P.flatMap elC)
 els:∀x∈P,XP wr w k m x
 ne:∀x∈P,∀g n c,x.2=(some ⟨g,0,none⟩,n,c)->g∉QU lv
 bel:Below w w wr
def LaS.after{P:List El}(h:LaS w k m lv P wr)(hb:Below wr wr w')(C:1<=k+m):LaS w k m lv P w':=⟨Jj h.own hb,λx hx=>(h.els x hx).after hb C,h.ne,h.bel.trans (hb.mono h.bel.size)⟩
theorem XP.lt{x:El}(h:XP w bs k m x){g n c:Nat}(e:x.2=(some ⟨g,0,none⟩,n,c)):g<w:=by unfold XP at h;grind
theorem LaS.put{J:Qt}{P:List El}{x:El}(h:LaS w k m lv P wr)(hx:XP wr w k m x)(af:∀g n c,x.2=(some ⟨g,0,none⟩,n,c)->g∉QU lv)(ho:w'.ownsRow w 98 3 J (P.length+1) (P.flatMap elC++elC x))(M:Fr (QU lv) wr w')(ae:∀q∈QU J,q∈QU lv∨wr.heap.size<=q)(h1:1<=k+m):LaS w k m J (P++[x]) w':=by
 have O:∀y∈P++[x],XP wr w k m y/\∀g n c,y.2=(some ⟨g,0,none⟩,n,c)->g∉QU lv:=λy C=>by
  rcases Zj.1 C with C|C
  .exact⟨h.els y C,h.ne y C⟩
  .grind
 refine⟨?_,λy C=> ?_,λy C g n c e hm=> ?_,h.bel.trans (M.below h.bel.size (Ab h.own))⟩
 .simp_all
 .obtain⟨F,U⟩:=O y C;unfold XP at F⊢;cases hv:y.1.val with
  |none=>rw[hv] at F;exact F
  |some v=>rw[hv] at F;obtain⟨g,c,e,k2,Z,k4⟩:=F;have hb:=M.block g Z (U g _ c e);refine⟨g,c,e,k2,Zp Z M.size,λi hi=> ?_⟩;have:=k4 i hi;unfold World.cell? at this⊢;simp_all
 .obtain⟨F,U⟩:=O y C;have:=F.lt e;grind
def Z5C(w:Qs)(e1 e2:Qu)(c1:Array Qt)(l:Qk):Row ((w.alloc (.cells c1 e1)).alloc (.cells l.toArray e2)) (w.heap.size+1) e2 l:=by have h:=Z2 (w.alloc (.cells c1 e1)) e2 l;simp_all
def Cp{p:Addr}{v:Qt}(h:w.cell? p=some v)(o:Obj):(w.alloc o).cell? p=some v:=(((Zu w w).alloc (Zt _) o).cell (Z9 w _ h)).trans h
def Lu{g c H:Nat}(C:lv.ownBlock=some g∨g=H):∀q∈QU (Value.slice g n c),q∈QU lv∨H<=q:=λq h=>by
 rw[YS] at h;simp[Value.ownBlock] at h;subst h;rcases C with h9|h9
 .exact Zv (YS.2 h9)
 .omega
def LaS.lts{P:List El}(h:LaS w k m lv P wr):(∀q∈QU lv,q<wr.heap.size)/\∀x∈P,∀g n c,x.2=(some ⟨g,0,none⟩,n,c)->g<wr.heap.size:=⟨λq C=>by obtain⟨l,hl⟩:=YP h.own q C;exact hl.lt,λx hx g n c e=>(h.els x hx).lt e⟩
theorem LaS.set{P:List El}(h:LaS w k m lv P wr){xb:Nat}(Z:∀q∈QU lv,q<xb)(h2:∀x∈P,∀g n c,x.2=(some ⟨g,0,none⟩,n,c)->g<xb)(M:w<=xb)(o:Nat)(v:Qt):LaS w k m lv P (wr.setCell ⟨xb,o,none⟩ v):=by
 have F:Fr [xb] wr (wr.setCell ⟨xb,o,none⟩ v):=(Fr.refl _ _).setCell (Zv Qx) _;refine⟨JU h.own F (λq hq hm=> ?_),λx hx=> ?_,h.ne,h.bel.trans (F.below h.bel.size (λi hi=>by rw[Z6] at hi;subst hi;exact M))⟩
 .grind
 .have C:=h.els x hx;unfold XP at C⊢;cases hv:x.1.val with
  |none=>rw[hv] at C;exact C
  |some v=>rw[hv] at C;obtain⟨g,c,e,O,J,U⟩:=C;have hb:=F.block g J QA;refine⟨g,c,e,O,Zp J F.size,λi hi=> ?_⟩;have:=U i hi;unfold World.cell? at this⊢;simp_all
def Z0O{xb h sc:Nat}{ck v:Bs}(hs:Yd wr (some ⟨h,0,none⟩) (Y5 k m (str v)))(J:w<=h)(hx:xb<h)(M:1<=k)(u:Qt):XP (wr.setCell ⟨xb,2,none⟩ u) w k m (⟨ck,some v⟩,some ⟨h,0,none⟩,k+m,sc):=by
 have key:∀i,i<k+m->wr.cell? ⟨h,i,none⟩=some (.string (str (shT k m v i))):=λi hi=>by obtain⟨g,o,e,hc⟩:=hs i (by rw[BC];exact hi);obtain⟨rfl,rfl⟩:=e;rw[Zdz] at hc;rw[hc];have:(Y5 k m (str v)).getD i ⟨#[]⟩=(Y5 k m (str v))[i]'(QA):=QA;rw[<-this];rfl
 have F:Fr [xb] wr (wr.setCell ⟨xb,2,none⟩ u):=(Fr.refl _ _).setCell (Zv Qx) _;have C:=Z9 wr _ (key 0 Qw);have hb:=F.block h C QA;refine⟨h,sc,rfl,J,Zp C F.size,λi hi=> ?_⟩;have:=key i hi;unfold World.cell? at this⊢;simp_all
def O2(P:List El):(P.flatMap elC).length=P.length*3:=by
 induction P with
 |nil=>rfl
 |cons x r ih=>rw[Zm,Zb,ih];simp[elC];omega
theorem Z0M(P:List El):∀ (q:Nat) (h:q<P.length) (r:Nat),r<3->(P.flatMap elC)[q*3+r]? =(elC P[q])[r]?:=by
 induction P with
 |nil=>intro q h;simp at h
 |cons x l ih=>
  intro q h r C;rw[Zm]
  match q,h with
  |0,_=>rw[Za (by simp[elC];omega)];simp
  |q+1,h=>
   rw[Zda (by simp[elC];omega)];have:(q+1)*3+r- (elC x).length=q*3+r:=by simp[elC];omega
   grind
def Z0N{P:List El}{sp:Qk}(h:Row w gl 98 (P.flatMap elC++sp)):HoldsK elC 3 w gl 0 P.toArray:=by
 intro j C;rw[size_flatK] at C;have F:j<P.length*3:=Qw;have M:j / 3<P.length:=Qw;rw[get_flatK _ _ _ _ C];have e1:(P.toArray)[j / 3]! =P[j / 3]:=QA;have e2:=Z0M P (j / 3) M (j%3) Qw;rw[show j / 3*3+j%3=j from Qw] at e2;have J:(elC P[j / 3])[j%3]? =some ((elC P[j / 3])[j%3]!):=by
  have:j%3<(elC P[j / 3]).length:=by show j%3<3;omega
  simp_all
 rw[J] at e2;refine⟨?_,h.free (by rw[Zb,O2];omega)⟩;rw[e1,Zdz];exact h.cell (by rw[Za (by rw[O2];exact F)];exact e2)
theorem Z6K{d:Array El}:Fr [gl] w (sortWorldK elC 3 w gl 0 n d os):=by
 refine⟨rfl,rfl,rfl,?_,λk C h=> ?_⟩
 .simp[sortWorldK,putRowK,Go.Sort.mapBlock]
 .unfold sortWorldK putRowK;rw[Go.Sort.heap_grow_old _ _ QB];show(w.heap.modify gl (Go.Sort.onCells (Go.Sort.putCells id 0 (flatK elC 3 d))))[k]? =_;grind
def Z6J{d h:Array El}(F:HoldsK elC 3 w gl 0 d)(hs:h.size=d.size)(M:gl<w){q r:Nat}(O:q<h.size)(U:r<3):(sortWorldK elC 3 w gl 0 n h os).cell? ⟨gl,q*3+r,none⟩=some ((elC h[q]!)[r]!):=by unfold sortWorldK putRowK;rw[Go.Sort.cell?_grow _ _ _ QB];have C:=Go.Sort.cell?_putRow id (Go.Sort.ahead w n) gl 0 (flatK elC 3 d) (flatK elC 3 h) (λj J=>F j J) QB (q*3+r) (by rw[size_flatK];omega);rw[Zdz] at C;rw[C,get_flatK _ _ _ _ Qw,show(q*3+r) / 3=q from Qw,show(q*3+r)%3=r from Qw];rfl
def Z6L{cl:Nat}{P:List El}{h:Array El}(C:LaS w k m (.slice gl P.length cl) P wr)(O:w<=gl)(af:gl<wr)(hH:HoldsK elC 3 wr gl 0 P.toArray)(U:PermIn 0 P.length P.toArray h):(h.toList.map (·.1)).Perm (P.map (·.1))/\(h.toList.map (·.1)).length=P.length/\XO (sortWorldK elC 3 wr gl 0 n h os) w k m gl (h.toList.map (·.1))/\Below w w (sortWorldK elC 3 wr gl 0 n h os):=by
 have ai:h.size=P.length:=by have Z:=U.1;simpa using Z
 have ae:h.toList.Perm P:=by have Z:=U.2.2;have e1:h.extract 0 P.length=h:=QB;simp_all
 have hf:Fr [gl] wr (sortWorldK elC 3 wr gl 0 n h os):=Z6K;refine⟨ae.map _,by rw[Zf,Array.length_toList,ai],⟨O,λq hq=> ?_⟩,C.bel.trans (hf.below C.bel.size (λi hi=>by rw[Z6] at hi;subst hi;exact O))⟩;have ah:q<h.size:=QB;have hc:∀r,r<3->(sortWorldK elC 3 wr gl 0 n h os).cell? ⟨gl,q*3+r,none⟩=some ((elC h[q]!)[r]!):=λr hr=>Z6J hH Qw af ah hr;have hx:(h.toList.map (·.1))[q]=(h[q]!).1:=QB;have F:h[q]!∈P:=QA;obtain⟨x,aj⟩:=ZK h[q]!;rw[aj] at hc hx F;have J:=C.els x F;have ag:=C.ne x F;rw[hx];refine⟨hc 0 Qw,hc 1 Qw,?_⟩;have M:=hc 2 Qw;have e2:(elC x)[2]! =.slice x.2.1 x.2.2.1 x.2.2.2:=rfl;rw[e2] at M;unfold XP at J;cases hv:x.1.val with
 |none=>simp_all
 |some v=>rw[hv] at J;obtain⟨g,c,e,k2,k3,k4⟩:=J;have hg:g≠gl:=λe9=>ag g _ c e (by rw[YS,e9];rfl);rw[e] at M;refine⟨g,0,c,M,k2,λi hi=> ?_⟩;have h4:=k4 i hi;have hb:=hf.block g k3 QB;unfold World.cell? at h4⊢;simp_all
def Z38(cs:List Chg)(q:Nat)(h:q<cs.length):Wh (cs.drop q)=if later cs[q] (cs.drop (q+1))=true then Wh (cs.drop (q+1)) else cs[q]::Wh (cs.drop (q+1)):=by rw[Zdw h];rfl
def Z0R(b k m gc cap n:Nat)(cs:List Chg)(w:Qs)(cy:1<=k)(fh:k+m<=16)(c0:w.cell? b=(k:Int))(c1:w.cell? ⟨b,1,none⟩=(m:Int))(hr:BH w gc cs)(hn:n=cs.length)(hl:n<=12)(cz:cs≠[])(dx:n<=cap)(hv:∀c∈cs,∀v,c.val=some v->v.length<=200):Calls prog 36 #[b,.slice gc n cap] w λe w'=>∃gl cl l,l.Perm (Wh cs)/\e=.returned (.tuple #[.slice (gl:Nat) l.length cl,.nilIface])/\XO w' w k m gl l/\l.length<=cl/\Below w w w':=by
 have I0:LaS w k m (.slice none 0 0) [] w:=⟨ZA _ _ _ _,λx hx=>absurd hx Zdd,λx hx=>absurd hx Zdd,Zu _ _⟩;have H:=ZZ I0 hr hv hn cz;have HC:=ZM c0 c1;clear I0 hr hv hn cz c0 c1;go_enter func36,ntmps36;go_wp2;go_loopw [6,13] (λlv kv wr=>∃ (q:Nat) (P:List El),q<=n/\kv=(q:Int)/\LaS w k m lv P wr/\P.map (·.1)++Wh (cs.drop q)=Wh cs) (λ_ kv _=>n- (intOf kv).toNat)
 .exact⟨0,[],Qw,rfl,H.1,rfl⟩
 obtain⟨q,P,hq,rfl,hS,hL⟩:=hrel;have HS:=ZM hS hL;by_cases ef:q<n
 .have aj:q<cs.length:=by rw[<-H.4];exact ef
  obtain⟨a1,a2,a3⟩:=(H.2.2 q aj);have ae:∀{p:Addr} {v:Qt},w.cell? p=some v->wr.cell? p=some v:=λh=>(hS.bel.cell (Z9 w _ h)).trans h;have a1:=ae a1;have a2:=ae a2;have a3:=ae a3;have bz:=H.3 _ (Zl aj);have bu:=Z38 cs q aj;obtain⟨c,hc⟩:=ZK cs[q];rw[hc] at a1 a2 a3 bz bu;have fe:(q:Int)<(n:Int):=Qw;have dz:(q:Int)+1<=(n:Int):=Qw;have U:=ZI H.4;have ai:cs.length<=1000:=by have F:=U.o;omega
  obtain⟨L,bj⟩:=ZK (c.val.getD []).length;have az:(str (c.val.getD [])).size=L:=by rw[QW,bj]
  have aw:=Z2 wr 68 [.string (str c.key),.string (str (c.val.getD [])),.bool c.val.isNone];have au:Below w w (wr.alloc (.cells #[.string (str c.key),.string (str (c.val.getD [])),c.val.isNone] 68)):=hS.bel.trans (((Zu wr wr).alloc (Zt _) _).mono hS.bel.size);have ct:=hS.after ((Zu wr wr).alloc (Zt _) (.cells #[.string (str c.key),.string (str (c.val.getD [])),c.val.isNone] 68)) Qw;have de:BH (wr.alloc (.cells #[.string (str c.key),.string (str (c.val.getD [])),c.val.isNone] 68)) gc cs:=by refine⟨Zp H.2.1 au.size,λq' ek=> ?_⟩;obtain⟨b1,b2,b3⟩:=H.2.2 q' ek;exact⟨(au.cell (p:=⟨gc,q'*3,none⟩) H.2.1).trans b1,(au.cell (p:=⟨gc,q'*3+1,none⟩) H.2.1).trans b2,(au.cell (p:=⟨gc,q'*3+2,none⟩) H.2.1).trans b3⟩
  have C:=ZO aw ct de hL;have HV:=ZN bz bu bj;obtain⟨bx,cu⟩:=ZK wr.heap.size;rw[cu] at C;have eu:=ZI cu;clear hS hL ae hc aw au ct de bz bu bj;obtain⟨so,aq,fg⟩:∃so,(so=(q+1)*3∨q+1=cs.length)/\(if cap=q+1 then(some ⟨gc,0,none⟩:Qm) else some ⟨gc,(q+1)*3,none⟩)=some ⟨gc,so,none⟩:=by
   by_cases F:cap=q+1
   .exact⟨0,Zy (by have h8:=U.o;omega),by rw[Zx F]⟩
   .exact⟨(q+1)*3,Zv rfl,by rw[Zw F]⟩
  have ah:=ZI aq;clear aq;cases Z:later c (cs.drop (q+1)) with
  |true=>
   go_wp2_with (go_at_call 32;refine(K9 gc so (q+1) _ _ bx cs c _ ah.o C.1.c0 C.2.2.1 (by have F:=U.o;omega) (by have F:=U.o;omega) ai).mono ?_;rw[Z];rintro e w2 ⟨rfl,M⟩;have R2:=ZI (C.2.1.after M Qw);clear M)
   all_goals go_roundw
   .exact⟨q+1,P,Qw,QC,R2.o,by rw[<-C.2.2.2,HV.2.1,Z];rfl⟩
   simp[intOf];omega
  |false=>
   have ak:P.map (·.1)++(c::Wh (cs.drop (q+1)))=Wh cs:=by rw[<-C.2.2.2,HV.2.1,Z];rfl
   have ez:P.length<=1000:=by have h1:=KP cs;rw[<-ak,Zb,Zf] at h1;have F:=U.o;omega
   obtain⟨ck,cv⟩:=c;simp only at C HV az Z ak;cases cv with
   |none=>
    simp only[Zgh,ZdV,Option.isNone_none] at C HV az Z;obtain rfl:L=0:=HV.2.2.symm;have bg:=ZI ak;clear ak;go_wp2_with (first|(go_at_call 32;refine(K9 gc so (q+1) _ _ bx cs ⟨ck,none⟩ _ ah.o C.1.c0 C.2.2.1 (by have F:=U.o;omega) (by have F:=U.o;omega) ai).mono ?_;rw[Z];rintro e w2 ⟨rfl,M⟩;have J:=C.1.after M;have y0:=J.c0;have y1:=J.c1;have y2:=J.c2;have dp:=λo=>Cp y0 o;have cr:=λo=>Cp y1 o;have dq:=λo=>Cp y2 o;have s2:=C.2.1.after M Qw;have R2:=ZM s2 J.lt;clear M J s2;have s3:=R2.1.after (((Zu w2 w2).alloc (Zt _) (.cells #[ck,(0:Int),()] 98)).alloc Qx (.cells #[ck,(0:Int),()] 98)) Qw;have R3:=ZI s3;clear s3)|(at_builtin;refine B5 _ rfl (.tmp 51) (.tmp 53) 83 98 rfl underlying83 Nz rfl Qw Qw w.heap.size _ P.length (P.flatMap elC) rfl R3.o.own (w2.heap.size+1) 1 (elC (⟨ck,none⟩,none,0,0)) rfl Qw Qw rfl (Z5C w2 _ _ _ _) (by simp[elC,Value.oneCell']) R3.o.bel.size Qw ?_;intro g4 bh w4 ho hf ay _ _;have s4:=R3.o.put (x:=(⟨ck,none⟩,none,0,0)) rfl (λg n c e=>by cases e) ho hf (Lu ay) Qw;have R4:=ZI s4;clear ho hf ay s4));go_roundw
    .exact⟨q+1,_,Qw,QC,R4.o,by rw[Zo,Zd,Zn,ZeC,ZeA];exact bg.o⟩
    simp[intOf];omega
   |some v=>
    simp only[ZdE,Option.isNone_some] at C HV az Z;have dh:=HV.1 v rfl;obtain rfl:v.length=L:=HV.2.2;have cw:=λW=>Z0U k m (str v) W cy Qw (by rw[QW];omega);have dt:=ZI cw;have bg:=ZI ak;have fa:=C.2.1.bel;clear ak cw;go_wp2_with (first|(go_at_call 32;refine(K9 gc so (q+1) _ _ bx cs ⟨ck,some v⟩ _ ah.o C.1.c0 C.2.2.1 (by have F:=U.o;omega) (by have F:=U.o;omega) ai).mono ?_;rw[Z];rintro e w2 ⟨rfl,M⟩;have J:=C.1.after M;have y0:=J.c0;have y1:=J.c1;have y2:=J.c2;have dp:=λo=>Cp y0 o;have cr:=λo=>Cp y1 o;have dq:=λo=>Cp y2 o;have s2:=C.2.1.after M Qw;have d0:=(s2.bel.cell (Z9 w _ HC.1)).trans HC.1;have d1:=(s2.bel.cell (Z9 w _ HC.2)).trans HC.2;have s3:=s2.after ((Zu w2 w2).alloc (Zt _) (.cells #[ck,(v.length:Int),()] 98)) Qw;have rx:=Z2 w2 98 [.string (str ck),.int .i64 (v.length:Int),.slice none 0 0];have ew:=Cp d0 (.cells #[ck,(v.length:Int),()] 98);have ey:=Cp d1 (.cells #[ck,(v.length:Int),()] 98);have y9:=cr (.cells #[ck,(v.length:Int),()] 98);have R2:=ZP s3 rx s2.lts s2.bel.size (Zt (w2.heap.size+1));have dj:w2.heap.size<(w2.alloc (.cells #[ck,(v.length:Int),()] 98)).heap.size:=Qx;have RZ:=ZI dj;clear M J s2 s3 rx d0 d1 dj));obtain⟨xb,cj⟩:=ZK w2.heap.size;have bq:=ZJ R2.o RZ.o;rw[cj] at bq;rw[cj];clear R2 RZ dp cr dq y0 y1 y2;generalize w2.alloc (.cells #[ck,(v.length:Int),()] 98)=wa at*
    have ag:=ZI bq;clear bq cj;go_region_with (go_at_call 75;refine(dt.o _).mono ?_;rintro e w5 ⟨O,sc,rfl,⟨df,eo,er⟩,hsg,hb5⟩;have r5:=(ag.1.2.1.drew).after hb5;have x2:=r5.c2;have f2:=r5.free (j:=2) Qx;have cn:xb<O:=Zp ag.2 hsg;have s5:=((ag.1.1.after ((Zu wa wa).drew) Qw).after hb5 Qw).set ag.1.2.2.1.1 ag.1.2.2.1.2 ag.1.2.2.2.1 2 (.slice O (k+m) sc);have e5:=Z0O (w:=w) (xb:=xb) (sc:=sc) (ck:=ck) df (Zq ag.1.2.2.2.1 (Zef cn)) cn cy (.slice O (k+m) sc);have r6:=r5.set 2 (.slice O (k+m) sc);have z0:=r6.c0;have z1:=r6.c1;have z2:=r6.c2;have dm:(∀g n c,((⟨ck,some v⟩,some ⟨O,0,none⟩,k+m,sc):El).2=(some ⟨g,0,none⟩,n,c)->g∉QU u6):=(λg n c e hm=>(by have F:=ag.1.2.2.1.1 g hm;simp only[Zfb,Zd9,Zgu,and_true] at e;omega));have R5:=ZX s5 e5 dm;clear df eo er hsg hb5 r5 r6 cn s5 e5 dm)
    all_goals clear x2 f2
    all_goals generalize w5.setCell ⟨xb,2,none⟩ (.slice O (k+m) sc)=w6 at*
    all_goals have s7:=R5.1.after ((Zu w6 w6).alloc (Zt _) (.cells #[ck,(v.length:Int),.slice O (k+m) sc] 98)) Qw
    all_goals have e7:=R5.2.after ((Zu w6 w6).alloc (Zt _) (.cells #[ck,(v.length:Int),.slice O (k+m) sc] 98)) Qw
    all_goals have R7:=ZM s7 e7
    all_goals clear s7 e7
    all_goals go_wp2_with (at_builtin;refine B5 _ rfl (.tmp 51) (.tmp 53) 83 98 rfl underlying83 Nz rfl Qw Qw w.heap.size _ P.length (P.flatMap elC) rfl R7.1.own w6.heap.size 1 (elC (⟨ck,some v⟩,some ⟨O,0,none⟩,k+m,sc)) rfl Qw Qw rfl (Z2 w6 _ _) (by simp[elC,Value.oneCell']) R7.1.bel.size Qw ?_;intro g4 bh w4 ho hf ay _ _;have s4:=R7.1.put (x:=(⟨ck,some v⟩,some ⟨O,0,none⟩,k+m,sc)) R7.2 R5.3 ho hf (Lu ay) Qw;have R4:=ZI s4;clear ho hf ay s4)
    all_goals go_roundw
    all_goals first
     |exact⟨q+1,_,Qw,QC,R4.o,by rw[Zo,Zd,Zn,ZeC,ZeA];exact bg.o⟩
     |(simp[intOf];omega)
 .obtain rfl:q=n:=by omega
  have bf:P.map (·.1)=Wh cs:=by have F:=hL;rw[H.4,Zfw] at F;simpa[Wh] using F
  have dw:0<P.length:=by
   have h1:(Wh cs).length≠0:=by
    have h2:∀l:List Chg,l≠[]->(Wh l).length≠0:=λl=>by
     induction l with
     |nil=>intro h;exact absurd rfl h
     |cons a r ih=>
      intro _;unfold Wh;split
      .rename_i hl;refine ih (λe=> ?_);rw[e] at hl;simp[later] at hl
      .simp
    exact h2 cs H.5
   rw[<-bf,Zf] at h1;omega
  have bm:P.length<=12:=by have h1:=KP cs;rw[<-bf,Zf] at h1;have F:=H.4;omega
  obtain⟨gl,cl,sp,rfl,ee,dy,fc,af⟩:=Bv hS.own dw;have hH:=Z0N af;have aq:=Tryz.slices_SortFunc_small_sorted_f76 (α:=El) 3 (λw=>Qy) (λw=>Qy) elC (λx=>rfl) (λx v hv=>by simp[elC] at hv;rcases hv with rfl|rfl|rfl<;>rfl) Fb 77 #[] Z0P gl 0 cl P.toArray wr (λargs w=>Qy) (λm os dk hd x y=>Z32 x y _) hH af.lt (by simpa using bm) (λn W hn=>(Tryz.bits_Len n W Qw Qw).mono λe w' h=>⟨⟨_,h.1⟩,h.2⟩);have az:P.toArray.size=P.length:=Qx;rw[az] at aq;have ah:=ZO aq hH bf af.lt;clear aq hH bf af hS hL;go_wp2_with (go_at_call 76;refine ah.1.mono ?_;rintro e w' ⟨rfl,d',dn,du,eh, -,rfl⟩);go_ret2;obtain⟨r1,J,r3,r4⟩:=Z6L (n:=dn) (os:=du) HS.1 ee ah.2.2.2 ah.2.1 eh;refine⟨gl,cl,d'.toList.map (·.1),by rw[<-ah.2.2.1];exact r1,?_,r3,by rw[J];exact dy,r4⟩;rw[J];rfl
end
section
open Go.RowKit Go.Shelf
variable{lv:Value}
def CX(d:Dir):List Bs:=d.names.filter isS++[nmN,nmT].filter λn=>(d.get n).isSome
def Ub(d:Dir):acts0 d=(CX d).map dr1:=by unfold acts0 CX;rw[Zo]
theorem SeS.ZcE{s d:Nat}{S:Sto}{w wr:Qs}{gv av:Qt}{l gone:List Bs}{Z9Y:List Ac}(h:SeS s d S w lv gv l gone av Z9Y wr){w':Qs}{O:Qt}{l':List Bs}(ho:Strs w' w O l')(C:Fr (QU lv) wr w'):SeS s d S w O gv l' gone av Z9Y w':=by
 have hb:Below w w w':=h.bel.trans (C.below h.bel.size h.ls.ge);have M:=YP h.ls;have F:∀{g:Nat} {e:Qu} {x:Qk},Row wr g e x->e≠9->g∉QU lv:=λhr he hm=>by obtain⟨x',J⟩:=M _ hm;exact Row.ne hr J he rfl
 obtain⟨j,b,uv,U,Z,r3,g,hv,r4⟩:=h.st;refine⟨⟨j,b,uv,U.fr C (F U Qx),Row.fr Z C (F Z Qx),r3.fr C ?_ (λk hk x hx=>F hx Qx hk),g,hv,r4.fr C (F r4 Qx)⟩,JU h.own C (λq hq hm=> ?_),ho,h.gs,hb⟩
 .obtain⟨fv,m1,_⟩:=r3;obtain⟨es,cl,ae⟩:=m1.block;intro hm;obtain⟨x',f,J,_⟩:=M _ hm;simp_all
 .obtain⟨x',J⟩:=YP h.own q hq;grind
def Zc1{g y n c H:Nat}(h:lv.ownBlock=some g∨g=H)(C:lv.ownBlock≠some y)(F:y<H):(Value.slice g n c).ownBlock≠some y:=by intro e;simp[Value.ownBlock] at e;simp_all
def nnL:List Bs:=[nmN,nmT]
theorem Z3Z(d:Dir)(k:Nat)(h:k<2):(nnL.take (k+1)).filter (λn=>(d.get n).isSome)=(nnL.take k).filter (λn=>(d.get n).isSome)++(if(d.get (nnL.getD k [])).isSome then[nnL.getD k []] else[]):=by
 have e:nnL.take (k+1)=nnL.take k++[nnL.getD k []]:=by
  match k,h with
  |0,_=>rfl
  |1,_=>rfl
 grind
def Z3X(k:Nat)(h:k<2):([.string ⟨#[110]⟩,.string ⟨#[116]⟩]:Qk)[k]? =some (.string (str (nnL.getD k []))):=by rcases(by omega:k=0∨k=1) with rfl|rfl<;>rfl
def Z3Y(k:Nat)(h:k<2):(nnL.getD k []).length<=1000000:=by rcases(by omega:k=0∨k=1) with rfl|rfl<;>decide
def Z0A(s d:Nat)(S:Sto)(w:Qs)(ak:Wm w s d S)(dj:S.dir.Za8)(ay:S.dir.length<=100000)(aw:∀n e,S.dir.get n=some e->e.runs≠[]/\e.runs.length<=1000000){R:Qt->Qs->Prop}(h0:acts0 S.dir=[]->∀w1,Below w w w1->R .nilIface w1)(hC:acts0 S.dir≠[]->∀ga na ca w1,Below w w w1->Wm w1 s d S->JX w1 ga 0 (acts0 S.dir)->w.heap.size<=ga->na=(acts0 S.dir).length->na<=ca->Calls prog 38 #[s,.slice (ga:Nat) na ca] w1 λe w'=>∃ev,e=.returned ev/\R ev w'):Calls prog 95 #[s] w λe w'=>∃ev,e=.returned ev/\R ev w':=by
 have ae:=If s d S [115] w ak dj ay;rw[Lf] at ae;have dw:(S.dir.names.filter isS).length<=100000:=by have h1:=Zdk isS S.dir.names;have h2:S.dir.names.length=S.dir.length:=Zf ..;omega
 obtain⟨l,hl⟩:=ZK (S.dir.names.filter isS);have de:CX S.dir=l++nnL.filter (λn=>(S.dir.get n).isSome):=by unfold CX nnL;rw[hl]
 rw[hl] at ae dw;rw[Ub] at h0 hC;have H:=ZQ ak ae h0 hC aw de;clear ak ae dj ay hl h0 hC aw de;go_enter func95,ntmps95;go_wp2_with (go_at_call 96;refine H.2.1.mono ?_;rintro e w1 ⟨v,rfl,dh,cz⟩;have S1:=ZM dh cz;clear dh cz);have aj:Row (w1.alloc (.cells #[.string ⟨#[110]⟩,.string ⟨#[116]⟩] 9)) w1.heap.size 9 [.string ⟨#[110]⟩,.string ⟨#[116]⟩]:=Z2 w1 9 _;have I0:SeS s d S w v (.slice none 0 0) l [] (.slice none 0 0) [] w1:=⟨H.1.after S1.2,ZA _ _ _ _,S1.1,⟨none,0,rfl,λj hj=>by simp at hj,λg o h=>by cases h⟩,S1.2⟩;have I1:=I0.after ((Zu w1.heap.size w1).alloc (Zt _) (.cells #[.string ⟨#[110]⟩,.string ⟨#[116]⟩] 9));have U:v.ownBlock≠some w1.heap.size:=λe=>by obtain⟨x',ee⟩:=YP I0.ls _ (YS.2 e);have:=ee.lt;omega
 obtain⟨y,hy⟩:=ZK w1.heap.size;rw[hy] at aj U⊢;have H2:=ZX aj I1 U;clear aj I0 I1 U hy;go_loopw [3,22] (λlv Z wr=>∃k:Nat,k<=2/\Z=(k:Int)/\Row wr y 9 [.string ⟨#[110]⟩,.string ⟨#[116]⟩]/\SeS s d S w lv (.slice none 0 0) (l++(nnL.take k).filter (λn=>(S.dir.get n).isSome)) [] (.slice none 0 0) [] wr/\lv.ownBlock≠some y) (λ_ Z _=>2- (intOf Z).toNat)
 .exact⟨0,Qw,rfl,H2.1,by rw[show(nnL.take 0).filter (λn=>(S.dir.get n).isSome)=[] from rfl,Zdg];exact H2.2,H2.3⟩
 obtain⟨k,hk,rfl,hr,M,U⟩:=hrel;have C:=ZN hr M U;by_cases ai:k<2
 .have af:=hr.cell (Z3X k ai);have ef:(k:Int)<2:=Qw;have ct:=Z3Y k ai;have ak:=Z3Z S.dir k ai;obtain⟨x,hx⟩:=ZK (nnL.getD k []);obtain⟨A0,bj⟩:=ZK (l++(nnL.take k).filter (λn=>(S.dir.get n).isSome));have cw:l++(nnL.take (k+1)).filter (λn=>(S.dir.get n).isSome)=A0++(if(S.dir.get x).isSome then[x] else[]):=by rw[<-bj,ak,hx,Zd]
  have cy:A0.length<=1000000:=by
   rw[<-bj,Zb];have:=Zdk (λn=>(S.dir.get n).isSome) (nnL.take k);have h2:(nnL.take k).length<=2:=by rw[Zg];exact Zq (Zgm _ _) hk
   omega
  rw[bj] at C;rw[hx] at af ct;have HT:=ZX cw cy ct;clear M hr U bj cw cy hx ct ak;cases bg:S.dir.get x with
  |none=>
   go_wp2_with (go_at_call 97;refine(G6 s d S x _ C.2.1.st HT.3 bg).mono ?_;rintro e w3 ⟨b,rfl,bz,J⟩;have F:=ZM (C.1.after J) (C.2.1.after J);clear J bz);go_roundw
   .exact⟨k+1,Qw,QC,F.1,by rw[HT.1,bg];simpa using F.2,C.2.2⟩
   simp[intOf];omega
  |some e=>
   obtain⟨dx,dy⟩:=H.2.2.2.2.1 _ _ bg;have HG:=ZI bg;clear bg;go_wp2_with (first|(go_at_call 97;refine(Et s d S x e _ C.2.1.st HT.3 HG.o dx dy).mono ?_;rintro e w3 ⟨v3,rfl,bz,J⟩;have S3:=(C.2.1.after J).after ((Zu w3 w3).alloc (Zt _) (.cells #[x] 9));have r3:=(C.1.after J).after ((Zu w3 w3).alloc (Zt _) (.cells #[x] 9));have dq:=(C.1.after J).lt;have F:=ZN r3 S3 dq;clear J bz S3 r3 dq)|(at_builtin;refine CM _ rfl (.tmp 34) (.tmp 36) rfl w.heap.size _ A0 rfl F.2.1.ls w3.heap.size x rfl (ZB _ _) F.2.1.bel.size HT.2 ?_;intro g2 au w4 ho hf df;have S4:=F.2.1.ZcE ho hf;have r4:=F.1.fr hf (λhm=>C.2.2 (YS.1 hm));have n4:=Zc1 (n:=A0.length+1) (c:=au) df C.2.2 F.1.lt;have R4:=ZX r4 S4 n4;clear ho hf S4 r4 n4 df));go_roundw
   .exact⟨k+1,Qw,QC,R4.1,by rw[HT.1,HG.o];exact R4.2,R4.3⟩
   simp[intOf];omega
 .have cj:k=2:=by omega
  have eh:¬ (k:Int)<2:=Qw;have aq:l++(nnL.take k).filter (λn=>(S.dir.get n).isSome)=CX S.dir:=by rw[cj];exact H.2.2.2.2.2.symm
  rw[aq] at C;clear M hr U;have dz:=BY C.2.1.ls;obtain⟨na,nc,rfl⟩:=dz;have du:(CX S.dir).length<=1000000:=by
   rw[<-aq,Zb];have:=Zdk (λn=>(S.dir.get n).isSome) (nnL.take k);have h2:(nnL.take k).length<=2:=by rw[cj];decide
   omega
  obtain⟨N,hN⟩:=ZK (CX S.dir);have hH:=H.2.2;rw[hN] at C du hH;have HN:=ZI hH;clear aq hH cj;rw[hN];go_wp2_with fail;go_loopw [9,41] (λav Z wr=>∃k:Nat,k<=N.length/\Z=(k:Int)/\SeS s d S w (.slice na N.length nc) (.slice none 0 0) N [] av ((N.take k).map dr1) wr/\(k=0->av=.slice none 0 0)/\(0<k->∃g c,av=.slice (g:Nat) k c)) (λ_ Z _=>N.length- (intOf Z).toNat)
  .exact⟨0,Qw,rfl,C.2.1,λ_=>rfl,λh=>Qw⟩
  obtain⟨k,hk,rfl,M,hz,hp⟩:=hrel;have HS:=ZI M;have HZ:=ZM hz hp;by_cases ai:k<N.length
  .obtain⟨g,cap,hv,af⟩:=M.Zc3 ai;injection hv with hv1 hv2 bq;subst hv1 bq;clear hv2;obtain⟨x,cu⟩:=ZK N[k];rw[cu] at af;have aq:(N.take (k+1)).map dr1=(N.take k).map dr1++[dr1 x]:=by rw[Zc ai,cu];simp
   have dp:((N.take k).map dr1).length=k:=by rw[Zf,Zg];omega
   have dm:((N.take k).map dr1).length<=1000000:=Qw;have aj:Row (wr.alloc (.cells #[(2:Int),x,.string ⟨#[]⟩,.string ⟨#[]⟩] 151)) wr 151 (AcC (dr1 x)):=Z2 wr _ _;have S2:=HS.o.after ((Zu wr wr).alloc (Zt _) (.cells #[(2:Int),x,.string ⟨#[]⟩,.string ⟨#[]⟩] 151));have O:=ZZ aj S2 aq dp dm;clear aj S2 M hz hp cu aq dp dm;go_wp2_with (at_builtin;refine Gd _ rfl (.tmp 45) (.tmp 48) rfl w.heap.size _ ((N.take k).map dr1) rfl O.2.own wr.heap.size (dr1 x) rfl O.1 O.2.bel.size O.5 ?_;intro g2 au w2 ho hf _ _ _;have S3:=O.2.next ho hf;rw[O.4] at S3⊢;have F:=ZI S3;clear ho hf S3);go_roundw
   .exact⟨k+1,Qw,QC,by rw[O.3];exact F.o,λh=>Qw,λ_=>⟨_,_,rfl⟩⟩
   simp[intOf];omega
  .obtain rfl:k=N.length:=(by omega);rw[Zs] at HS;clear M;by_cases bm:N.length=0
   .have cr:N=[]:=ZeS bm;obtain rfl:=hz bm;have az:=HN.1 QB;have HF:=ZI az;have hq:∀W,(binOp .eql 86 (.slice none 0 0) (.slice none 0 0)).run prog W=.ok (.bool true) W:=λ_=>Qy;clear hz hp az cr;go_wp2_with fail;go_ret;exact⟨_,rfl,HF.o _ HS.o.bel⟩
   .obtain⟨g,c,rfl⟩:=hp Qw;have cn:N.map dr1≠[]:=by intro e;exact bm QB
    have hlen:(N.map dr1).length=N.length:=Zf ..;obtain⟨g3,dt,bq,bf,bu,ah⟩:=HS.o.own.row cn;rw[hlen] at bq bu;injection bq with hv31 hv32 hv33;have bh:=ZF (λ(a:Qm)=>a.map Addr.block) hv31;simp only[Zek,Zd9] at bh;subst bh hv33;have ag:=HN.2.1 cn g N.length c wr HS.o.bel HS.o.st ah bf hlen.symm bu;have HC:=ZI ag;have hq:∀W,(binOp .eql 86 (.slice (g:Nat) N.length c) (.slice none 0 0)).run prog W=.ok (.bool false) W:=λ_=>Qy;clear ag ah bu bf hlen hv31 hv32 hz hp cn bm;go_wp2_with fail;refine HC.o.mono ?_;rintro e w5 ⟨ev,rfl,hR⟩;have HR:=ZI hR;clear hR;go_wp2;go_ret;exact⟨ev,rfl,HR.o⟩
end
section
open Go.RowKit Go.Shelf
variable{B E gc gi i n:Nat}{Ds:Nat->Dk}{G:Eg}{K:List Bs}{P:Pw}{S:Sto}{V V1 Vt:Ev}{bl bl1 blt done ins:List Nat}{cs l:List Chg}{d:Dir}{iv:Value}{ops:List Wp}{ph:Nat->Dk->Sto->Prop}{w w' w3 wr:World}
abbrev MF:={c:Chg // 1<=c.key.length/\c.key.length<=200/\(c.val.getD []).length<=8000}
instance:Inhabited MF:=⟨⟨⟨[0],none⟩,Qz⟩⟩
def BI(w:Qs)(gc:Nat)(cs:List Chg):Prop:=∃sp,Row w gc 68 (cs.flatMap apC++sp)
def Uo(P:List Chg):(P.flatMap apC).length=P.length*3:=by
 induction P with
 |nil=>rfl
 |cons x r ih=>rw[Zm,Zb,ih];simp[apC];omega
theorem Un(P:List Chg):∀ (q:Nat) (h:q<P.length) (r:Nat),r<3->(P.flatMap apC)[q*3+r]? =(apC P[q])[r]?:=by
 induction P with
 |nil=>intro q h;simp at h
 |cons x l ih=>
  intro q h r C;rw[Zm]
  match q,h with
  |0,_=>rw[Za (by simp[apC];omega)];simp
  |q+1,h=>
   rw[Zda (by simp[apC];omega)];have:(q+1)*3+r- (apC x).length=q*3+r:=by simp[apC];omega
   grind
def BI.rd(h:BI w gc cs):BH w gc cs:=by
 obtain⟨sp,C⟩:=h;refine⟨C.lt,λq J=> ?_⟩
 have key:∀r u,r<3->(apC cs[q])[r]? =some u->w.cell? ⟨gc,q*3+r,none⟩=some u:=λr u F hu=>C.cell (by
  rw[Za (by rw[Uo];omega),Un cs q J r F];exact hu)
 exact⟨key 0 _ Qw rfl,key 1 _ Qw rfl,key 2 _ Qw rfl⟩
theorem Z8v(gc n cap:Nat)(cs:List Chg)(W:Qs)(O:BH W gc cs)(hn:n=cs.length)(hl:cs.length<=1000)(hg:∀c∈cs,1<=c.key.length/\c.key.length<=200/\(c.val.getD []).length<=8000):Calls prog 32 #[.slice gc n cap,.func (.func 33) #[] #[]] W λe w'=>e=.returned false/\Below W W w':=by
 have hE:=Tryz.slices_ContainsFunc (α:=MF) 3 (λw=>Qy) (λw=>Qy) (λx=>apC x.1) (λx=>rfl) (λo=>false) 33 #[] (λargs w=>Qy) gc 0 n cap (cs.pmap Subtype.mk hg) W (λZ x hb=> ?_) QB Qw O.1 (λj hj i v hv=> ?_)
 .grind
 .obtain⟨⟨xk,C⟩,F,J,M⟩:=x;have h9:=Z17 (str xk) (str (C.getD [])) C.isNone (by rw[QW];exact F) (by rw[QW];exact J) (by rw[QW];exact M) (λhh=>by cases C with|none=>rfl|some v=>cases hh) Z;exact h9.mono λe w' h=>⟨h.1,hb.trans (h.2.mono hb.size)⟩
 .have U:j<cs.length:=by simpa using hj
  obtain⟨F,J,M⟩:=O.2 j U;unfold apC at hv;grind
def QM.chg(X:QM)(l:List Chg):QM:={X with l:=l}
structure B7(X:QM)(n:Nat)(V:Ev)(cs:List Chg):Prop where
 hK:KOk X.K
 k1:1<=X.k
 rest:∀i,i<n->Wl X.k X.m i X.g X.H (X.T i)
 vk:V.k=X.k
 vm:V.m=X.m
 vg:V.gen=(X.g:Int)
 kn:X.k+X.m=n
 gone:V.P.gone=false
 at_:∀i,i<n->∀S,V.Ms i=some S->X.p0 i (V.Ds i) S
 many:X.k<=(Yj V n).length
 ep:X.E<=1900000000
 gb:X.g<=1000000000
 ne:cs≠[]
 few:cs.length<=4
 key:∀c∈cs,c.key∈X.K
 val:∀c∈cs,∀v,c.val=some v->v.length<=200
def B7.ok{X:QM}(h:B7 X n V cs)(C:l.Perm (Wh cs)):(X.chg l).Ok n:=⟨h.hK,LOk.of C h.few h.key h.val,h.k1,h.rest⟩
def EAt.oks(h:EAt B w G V bl){i:Nat}(hi:i<G.n){S:Sto}(hM:V.Ms i=some S):(V.Ds i).ok 800/\(V.Ds i).dead=false:=by obtain⟨s,_,_,C,L,F⟩:=h.mem hi hM;exact⟨F.ok,C⟩
def B7.start{X:QM}(h:B7 X G.n V cs)(he:EAt B w G V bl):(X.chg l).At (ph1 (X.chg l) []) G.n V:=by refine⟨h.gone,λi hi S hM=>⟨?_,he.oks hi hM⟩⟩;exact h.at_ i hi S hM
theorem Z2y(V:Ev)(k:Nat):Yj V (k+1)=Yj V k++(if(V.Ms k).isSome=true then[k] else[]):=by unfold Yj;rw[Zds,ZdQ];grind
structure CoS(B:Nat)(w:Qs)(G:Eg)(V:Ev)(bl:Qj)(gc:Nat)(cs:List Chg)(iv:Qt)(ins:Qj)(V1:Ev)(wr:Qs):Prop where
 ran:QH B G bl V1 w wr
 ints:Cf wr w iv ins
 api:BI wr gc cs
def CoS.next{F:Ev}(h:CoS B w G V bl gc cs iv ins V1 wr){bl1:Qj}(he:EAt B wr G V1 bl1/\(∀k∈bl1,k∈bl∨w.heap.size<=k)/\Fr (G.p::bl) w wr)(O:QH B G bl1 F wr w'):CoS B w G V bl gc cs iv ins F w':=by obtain⟨sp,C⟩:=h.api;obtain⟨J,e2,g2,f2⟩:=O;refine⟨QH.trans he ⟨J,e2,g2,f2⟩,JU h.ints f2 (λq M=> ?_),sp,C.fr f2 (he.1.Za0 C Qz)⟩;obtain⟨l,hl⟩:=YP h.ints q M;exact he.1.Za0 hl Qz
def CoS.after(h:CoS B w G V bl gc cs iv ins V1 wr)(hb:Below wr wr w'):CoS B w G V bl gc cs iv ins V1 w':=by obtain⟨sp,C⟩:=h.api;exact⟨h.ran.after hb,Jj h.ints hb,sp,C.after hb⟩
def CoS.put{O:Qt}{M:Qj}(h:CoS B w G V bl gc cs iv ins V1 wr)(Z:Cf w' w O M)(F:Fr (QU iv) wr w'):CoS B w G V bl gc cs O M V1 w':=by
 obtain⟨sp,J⟩:=h.api;obtain⟨bl1,e1,g1,f1⟩:=h.ran;have C:QL wr (QU iv) [3]:=λq hq=>by obtain⟨l,f,hl,_⟩:=YP h.ints q hq;simp_all
 refine⟨⟨bl1,e1.fr F C Qx Qx Qx (λk U hm=> ?_),g1,f1.trans F (λi hi ae=> ?_)⟩,Z,sp,J.fr F (C.Za0 J Qx)⟩
 .exact e1.typed.ZaH C Qz k U hm
 .have:=Ab h.ints i hi;omega
def GG(c:Int)(v:Qt)(s:Nat)(l:Qk)(w:Qs)(hs:Row w s 78 l)(hl:l.length=5)(ht:Ty w)(hg:0≠s)(B:Nat)(hB:B<=w)(he:QK w B c v)(U:s<B):Calls prog 40 #[s,v] w (Ans B c λw'=>Fr [s] w w'/\Row w' s 78 (l.set 4 (.bool true))):=by
 have f4:=hs.free (j:=4) Qw;obtain⟨u,hu⟩:∃u,l[4]? =some u:=⟨_,Z8 Qw⟩;have c4:=hs.cell (j:=4) hu;obtain⟨w1,h⟩:=ZL (w.setCell ⟨s,4,none⟩ (.bool true));have F:Fr [s] w w1:=by rw[h];exact(Fr.refl _ _).setCell (Zv Qx) _
 have Z:Ty w1:=by unfold Ty at ht⊢;rw[h,ZfX _ _ _ _ Qx];omega
 have M:QK w1 B c v:=he.fr F (λk J=>by rw[Z6] at J;subst J;exact U);have hz:w1.heap.size=w.heap.size:=QB;have O:Row w1 s 78 (l.set 4 (.bool true)):=by rw[h];exact hs.set 4 _
 have H:=ZY F Z M O;go_enter func40,ntmps40;go_wp2_with fail;rw[<-h];go_wp2_with (go_at_call 49;refine(Ge B c v _ H.3 H.2).mono ?_;rintro e w2 ⟨v',rfl,hv,hb⟩;have C:=ZM hv hb;clear hv hb);go_ret;exact⟨_,rfl,C.1.base Qw,H.1.trans (Z1 (L:=[]) C.2) Qx,H.4.after C.2⟩
structure C2S(B:Nat)(w3:Qs)(G:Eg)(bl1:Qj)(gi:Nat)(ins:Qj)(V:Ev)(ops:List Wp)(Y:QM)(ph:Nat->Dk->Sto->Prop)(Vt:Ev)(wr:Qs):Prop where
 ran:QH B G bl1 Vt w3 wr
 ints:∃sp,Row wr gi 3 (E5 ins++sp)
 at_:Y.At ph G.n Vt
 run:QS ops V=(0,Vt)
def C2S.cell{Y:QM}(h:C2S B w3 G bl1 gi ins V ops Y ph Vt wr){t:Nat}(F:t<ins.length):wr.cell? ⟨gi,t,none⟩=(ins[t]:Int):=by obtain⟨sp,C⟩:=h.ints;exact C.cell (by rw[Za (by simp[E5];omega)];simp[E5,F])
theorem Ku(l:List Wp):∀V:Ev,(QS l V).2.k=V.k/\(QS l V).2.m=V.m/\(QS l V).2.gen=V.gen/\∀i,((QS l V).2.Ms i).isSome=(V.Ms i).isSome:=by
 induction l with
 |nil=>intro V;exact⟨rfl,rfl,rfl,λ_=>rfl⟩
 |cons x r ih=>intro V;obtain⟨s1,s2,h,C⟩:=DY V x;unfold QS;grind
def C2S.same{Y:QM}(h:C2S B w3 G bl1 gi ins V ops Y ph Vt wr):Vt.k=V.k/\Vt.m=V.m/\Vt.gen=V.gen/\∀i,(Vt.Ms i).isSome=(V.Ms i).isSome:=by have:=Ku ops V;rw[h.run] at this;omega
def C2S.after{Y:QM}(h:C2S B w3 G bl1 gi ins V ops Y ph Vt wr)(hb:Below wr wr w'):C2S B w3 G bl1 gi ins V ops Y ph Vt w':=by obtain⟨sp,C⟩:=h.ints;exact⟨h.ran.after hb,⟨sp,C.after hb⟩,h.at_,h.run⟩
def C2S.did{Y:QM}{ph':Nat->Dk->Sto->Prop}(h:C2S B w3 G bl1 gi ins V ops Y ph Vt wr){x:Wp}(J:Yi Vt x=0)(M:Y.At ph' G.n (Y4 Vt x))(he:EAt B wr G Vt blt/\(∀k∈blt,k∈bl1∨w3.heap.size<=k)/\Fr (G.p::bl1) w3 wr)(C:QH B G blt (Y4 Vt x) wr w'):C2S B w3 G bl1 gi ins V (ops++[x]) Y ph' (Y4 Vt x) w':=by obtain⟨sp,F⟩:=h.ints;exact⟨QH.trans he C,⟨sp,C.row he.1 F Qz⟩,M,by rw[Z15 h.run,J]⟩
def Ye.below(h:Ye B G bl P Ds w w')(C:EAt B w G V bl):Below B w w':=by obtain⟨Ls,J,M,O,F⟩:=h;exact F.below C.bw C.ge
def Fa(h:Ye B G bl P Ds w w'):w<=w'.heap.size:=by obtain⟨Ls,F,J,M,C⟩:=h;exact C.size
def EAt.Zbb(h:EAt B w G V bl):G.s∈bl:=by obtain⟨Ls,Os,rfl,_⟩:=h;simp[Wu]
def Ob{a b:List Wp}{x:Wp}(h:QS a V=(0,Vt))(C:Yi Vt x≠0):QS (a++(x::b)) V=(Yi Vt x,Y4 Vt x):=by rw[Fg,h];unfold QS;simp_all
def Oh{w4 w5 C:Qs}{c:Int}{ev ev':Qt}{o:Qk}(F:EAt B w G V bl)(O:EAt B w3 G V bl1/\(∀k∈bl1,k∈bl∨w.heap.size<=k)/\Fr (G.p::bl) w w3)(ht:EAt B wr G Vt blt/\(∀k∈blt,k∈bl1∨w3.heap.size<=k)/\Fr (G.p::bl1) w3 wr)(hb:Below wr wr w4)(U:Ye B G blt P Ds w4 w5)(hs:Row w5 G.s 78 o)(Z:Fr [G.s] w5 C):Ye B G bl P Ds w C:=by have J:Ye B G bl1 P Ds w3 w5:=Ye.trans ht (U.from hb);have M:Ye B G bl P Ds w w5:=Ye.trans O J;exact M.fr Z (QL.row hs Qx) (ts:=[78]) Qz (λk h=>by rw[Z6] at h;subst h;exact Zv (Zh _ F.Zbb))
def Ld{ga na ca:Nat}{a:Sto->List Ac}{f:QF}(h:EAt B w G V bl)(hi:i<G.n)(hM:V.Ms i=some S)(O:QV K E (V.Ds i) S)(hK:KOk K)(U:E<=2000000000)(ha:Ym K S (a S) d f)(C:JX w ga 0 (a S))(M:na=(a S).length)(F:na<=ca)(ht:Ty w)(Z:0<B){s:Nat}{o:Qk}(hr:Row w (G.xs i) 91 (.pointer (some ⟨G.ds i,0,none⟩):: .pointer s::o)):Calls prog 38 #[s,.slice ga na ca] w λe w'=>∃ev,e=.returned ev/\QK w' w (Yi V (i,a)) ev/\(Yi V (i,a)=0->QH B G bl (Y4 V (i,a)) w w')/\Ye B G bl (Y4 V (i,a)).P (Y4 V (i,a)).Ds w w'/\Row w' G.s 78 [(V.k:Int),(V.m:Int),.slice (some ⟨G.ms,0,none⟩) G.n G.cap,(V.gen:Int),false]:=by obtain⟨e1,e2⟩:=JM (V:=V) (x:=(i,a)) hM;refine(PO h hi hM O hK U ha C M F ht Z hr).mono ?_;rintro e w' ⟨ev,rfl,J,hm⟩;rw[e1,e2];exact⟨ev,rfl,J,hm.ok,hm.bad,hm.set⟩
def Z13{gone:List Bs}(h:EAt B w G V bl)(hi:i<G.n)(hM:V.Ms i=some S)(C:QV K E (V.Ds i) S)(hK:KOk K)(hE:E<=2000000000)(ha:Ym K S (Yu S.dir gone) d [])(ht:Ty w)(hg:0<B)(ai:∀x∈gone,x.length<=1000)(aj:gone.length<=1000){F:Qm}{ggc:Nat}(ak:Yd w F (gone.map str))(ah:∀g o,F=some ⟨g,o,none⟩->g<w.heap.size){s:Nat}{o:Qk}(U:Row w (G.xs i) 91 (.pointer (some ⟨G.ds i,0,none⟩):: .pointer s::o)):Calls prog 41 #[s,.slice F gone.length ggc] w λe w'=>∃ev,e=.returned ev/\QK w' w (Yi V (i,λS=>Yu S.dir gone)) ev/\(Yi V (i,λS=>Yu S.dir gone)=0->QH B G bl (Y4 V (i,λS=>Yu S.dir gone)) w w')/\Ye B G bl (Y4 V (i,λS=>Yu S.dir gone)).P (Y4 V (i,λS=>Yu S.dir gone)).Ds w w'/\Row w' G.s 78 [(V.k:Int),(V.m:Int),.slice (some ⟨G.ms,0,none⟩) G.n G.cap,(V.gen:Int),false]:=by
 obtain⟨Z,ae,aw,hd,L,ay⟩:=h.mem hi hM;obtain rfl:Z=s:=by have e1:=ae.c1;have e2:=U.c1;simp_all
 have au:∀n∈S.dir.names,n.length<=1000:=λn M=>by obtain⟨x,hx,rfl⟩:=Zz.1 M;have:=(Br hK _ (C.sm x hx).1).2;omega
 refine SF Z (G.ds i) S _ gone w aw C.sorted (by have:=C.few hK;omega) au ⟨F,ggc,rfl,ak,ah⟩ aj ai (λn e M=>by
  obtain⟨_,J,O⟩:=C.runs M
  exact⟨J,Qw⟩) (R:=λev w'=>QK w' w (Yi V (i,λS=>Yu S.dir gone)) ev/\(Yi V (i,λS=>Yu S.dir gone)=0->QH B G bl (Y4 V (i,λS=>Yu S.dir gone)) w w')/\Ye B G bl (Y4 V (i,λS=>Yu S.dir gone)).P (Y4 V (i,λS=>Yu S.dir gone)).Ds w w'/\Row w' G.s 78 [(V.k:Int),(V.m:Int),.slice (some ⟨G.ms,0,none⟩) G.n G.cap,(V.gen:Int),false]) (λga na ca w1 hb _ af _ aq ag=> ?_)
 refine(Ld (a:=λS=>Yu S.dir gone) (h.after hb) hi hM C hK hE ha af aq ag (ht.below hb) hg (U.after hb)).mono ?_;rintro e w' ⟨ev,rfl,J,O,h3,h4⟩;exact⟨ev,rfl,J.base hb.size,λh0=>(O h0).from hb,h3.from hb,h4⟩
def Tm{a:Qm}{ss:List Qq}(h:Yd w a ss)(J:∀g o,a=some ⟨g,o,none⟩->∃r,Row w g 9 r)(he:EAt B w G V bl)(F:QH B G bl V1 w w'):Yd w' a ss/\∀g o,a=some ⟨g,o,none⟩->∃r,Row w' g 9 r:=by
 refine⟨λj O=> ?_,λg o e=> ?_⟩
 .obtain⟨g,o,e,hc⟩:=h j O;obtain⟨r,C⟩:=J g o e;obtain⟨bl',_,_,M⟩:=F;have hb:=M.block g C.lt (he.Za0 C Qz);refine⟨g,o,e,?_⟩;unfold World.cell? at hc⊢;simp_all
 .obtain⟨r,C⟩:=J g o e;exact⟨r,F.row he C Qz⟩
def EAt.Zbw(h:EAt B w G V bl)(g:Int):EAt B (w.setCell ⟨G.s,3,none⟩ (.int .i64 g)) G {V with gen:=g} bl:=by obtain⟨Ls,Os,rfl,h⟩:=h;have F:Fr [G.s] w (w.setCell ⟨G.s,3,none⟩ (.int .i64 g)):=(Fr.refl _ _).setCell (Zv Qx) _;have C:QL w [G.s] [78]:=QL.row h.set Qx;obtain⟨sp,hm⟩:=h.mem;refine⟨Ls,Os,rfl,h.set.set 3 (.int .i64 g),⟨sp,hm.fr F (C.Za0 hm Qx)⟩,h.n1,h.n16,λi hi=>(h.pd i hi).fr F (C.ZaH (h.pd i hi).typed Qz),h.dap,λi hi=>(h.at_ i hi).fr F C Qx Qx (λk J hm=>C.ZaH (h.at_ i hi).typed Qz k hm J),h.oap,h.bO,h.bs⟩
def Oe{X:QM}(h:X.At ph n V){i:Nat}{S:Sto}{a:Sto->List Ac}{d:Dir}{f:QF}(hi:i<n)(hM:V.Ms i=some S)(ha:Ym X.K S (a S) d f):Yi V (i,a)=0∨Yi V (i,a)=10:=by
 obtain⟨e1, -⟩:=JM (V:=V) (x:=(i,a)) hM;obtain⟨-,C,F⟩:=h.at_ i hi S hM;rw[e1];simp only;rw[ha.go];rcases C2 (S.ops (a S) d f) (P:=V.P) ha.in_ C.fit F h.gone with h9|h9
 .omega
 .omega
theorem Cf.row{base g c:Nat}{l:Qj}(h:Cf w base (.slice g n c) l)(hl:0<l.length):∃sp,Row w g 3 (E5 l++sp):=by obtain⟨F,C,sp,hv,_,_,_,J⟩:=Bv h hl;grind
structure U6(B:Nat)(w3:Qs)(bs:Nat)(G:Eg)(bl1:Qj)(X:QM)(gl:Nat)(V Vt:Ev)(done:Qj)(i:Nat)(wr:Qs)(S:Sto)(blt:Qj)(s:Nat):Prop where
 e:EAt B wr G Vt blt
 ty:Ty wr
 hM:Vt.Ms i=some S
 hi:i<G.n
 hB:QV X.K X.E (Vt.Ds i) S
 Z9Y:∃d f,Ym X.K S (Wd X.k X.m i X.g X.l) d f
 row:Row wr (G.xs i) 91 [.pointer (some ⟨G.ds i,0,none⟩),s,.int .i64 (Vt.Ds i).Za2,true]
 set:Row wr G.s 78 [(X.k:Int),(X.m:Int),.slice (some ⟨G.ms,0,none⟩) G.n G.cap,(X.g:Int),false]
 ch:XO wr bs X.k X.m gl X.l
def C2S.ZbA{gl bs:Nat}{Y:QM}(h:C2S B w3 G bl1 gi ins V ops Y (ph1 Y done) Vt wr)(hY:Y.Ok G.n)(Z:EAt B w3 G V bl1)(U:Ty w3)(ae:0<B)(M:XO w3 bs Y.k Y.m gl Y.l)(O:∀k∈G.p::bl1,k<bs)(C:V.k=Y.k)(hm:V.m=Y.m)(hg:V.gen=(Y.g:Int)){i:Nat}(hi:i<G.n)(af:(V.Ms i).isSome=true)(hd:i∉done):∃S blt s,U6 B w3 bs G bl1 Y gl V Vt done i wr S blt s/\(∀k∈blt,k∈bl1∨w3.heap.size<=k)/\Fr (G.p::bl1) w3 wr:=by obtain⟨blt,e1,g1,f1⟩:=h.ran;obtain⟨s1,s2,s3,s4⟩:=h.same;have hS:(Vt.Ms i).isSome=true:=QB;obtain⟨S,hM⟩:=Zdp.1 hS;obtain⟨hB,ha⟩:=Z96 hY h.at_ hi hM hd;obtain⟨s,J,_⟩:=e1.mem hi hM;have F:=e1.Zaa;rw[s1,s2,s3,C,hm,hg] at F;exact⟨S,blt,s,⟨e1,QH.ty ⟨blt,e1,g1,f1⟩ Z U,hM,hi,hB,ha,J,F,M.fr f1 (λk C=>Zv (O k C))⟩,g1,f1⟩
structure U7(B:Nat)(w3:Qs)(G:Eg)(bl1:Qj)(X:QM)(V4:Ev)(i:Nat)(wr:Qs)(S:Sto)(blt:Qj)(s:Nat)(d:Dir):Prop where
 e:EAt B wr G V4 blt/\(∀k∈blt,k∈bl1∨w3.heap.size<=k)/\Fr (G.p::bl1) w3 wr
 ty:Ty wr
 hM:V4.Ms i=some S
 hB:QV X.K (X.E+1) (V4.Ds i) S
 Z9Y:Ym X.K S (Yu S.dir (Y2 X.l)) d []
 row:Row wr (G.xs i) 91 [.pointer (some ⟨G.ds i,0,none⟩),s,.int .i64 (V4.Ds i).Za2,true]
def C2S.ZbB{Y:QM}{C:Ev}(h:C2S B w3 G bl1 gi ins V ops Y (ph2 Y done) C wr)(U:Y.Ok G.n)(M:EAt B w3 G V bl1)(J:Ty w3)(ae:0<B){i:Nat}(hi:i<G.n)(af:(V.Ms i).isSome=true)(Z:i∉done):∃S blt s d,U7 B w3 G bl1 Y C i wr S blt s d:=by obtain⟨blt,e1,g1,f1⟩:=h.ran;obtain⟨s1,s2,s3,s4⟩:=h.same;have O:(C.Ms i).isSome=true:=QB;obtain⟨S,hM⟩:=Zdp.1 O;obtain⟨hB,d,ha⟩:=Z97 U h.at_ hi hM Z;obtain⟨s,F,_⟩:=e1.mem hi hM;exact⟨S,blt,s,d,⟨e1,g1,f1⟩,QH.ty ⟨blt,e1,g1,f1⟩ M J,hM,hB,ha,F⟩
def NY(B:Nat)(w:Qs)(G:Eg)(V:Ev)(bl:Qj)(X:QM)(gc n cap:Nat)(cs:List Chg)(h:EAt B w G V bl)(ht:Ty w)(dj:0<B)(hp:B7 X G.n V cs)(hr:BI w gc cs)(hn:n=cs.length)(gy:n<=cap):Calls prog 11 #[G.s,.slice gc n cap] w λe w'=>∃l ev,l.Perm (Wh cs)/\e=.returned ev/\QK w' w (QS (YT (X.chg l) (Yj V G.n)) V).1 ev/\ ((QS (YT (X.chg l) (Yj V G.n)) V).1=0->QH B G bl {(QS (YT (X.chg l) (Yj V G.n)) V).2 with gen:=V.gen+1} w w')/\((QS (YT (X.chg l) (Yj V G.n)) V).1≠0->Ye B G bl (QS (YT (X.chg l) (Yj V G.n)) V).2.P (QS (YT (X.chg l) (Yj V G.n)) V).2.Ds w w'):=by
 have kh:=h.nle;have c4:=h.Zaa.c4;have c2:=h.Zaa.c2;have jy:=hp.few;have lr:((n:Int)==0)=false:=by rw[Zeh];have:=Ze0.2 hp.ne;omega
 have kg:decide ((n:Int)>32)=false:=by simp;omega
 have cw:∀c∈cs,1<=c.key.length/\c.key.length<=200/\(c.val.getD []).length<=8000:=λc hc=>by
  have h1:=hp.hK.len _ (hp.key c hc);refine⟨h1.1,Qw,?_⟩;cases hv:c.val with
  |none=>simp
  |some v=>have:=hp.val c hc v hv;simp;omega
 have jm:=Z8v gc n cap cs w hr.rd hn Qw cw;have H:=Q0 h hp hr hn ht jm;clear h hp hr hn ht cw jm jy;go_enter func11,ntmps11;go_wp2_with (go_at_call 32;refine H.6.mono ?_;rintro e w1 ⟨rfl,fy⟩;have kz:=(fy.cell (Z9 _ _ c2)).trans c2;have R1:=ZI fy;clear fy c4 c2);have iz:=QH.same H.1 R1.o;have I0:CoS B w G V bl gc cs (.slice none 0 0) (Yj V 0) V w1:=⟨iz,ZA _ _ _ _,by obtain⟨sp,hr⟩:=H.3;exact⟨sp,hr.after R1.o⟩⟩;have jq:=ZI I0;clear I0 iz;go_loopw [5,43] (λiv kv wr=>∃k:Nat,k<=G.n/\kv=(k:Int)/\CoS B w G V bl gc cs iv (Yj V k) V wr) (λ_ kv _=>G.n- (intOf kv).toNat)
 .exact⟨0,Qw,rfl,jq.o⟩
 obtain⟨k,hk,rfl,Z⟩:=hrel;have HS:=ZI Z;obtain⟨bl1,hE,ft,hf⟩:=Z.ran;have HE:=ZN hE ft hf;by_cases jg:k<G.n
 .have du:=Z2y V k;cases hM:V.Ms k with
  |none=>
   rw[hM] at du;have hh:=Cv B wr G V bl1 k hE jg hM;have HH:=ZM hh du;clear hE ft hf Z hh du hM;go_wp2_with (go_at_call 34;refine HH.1.mono ?_;rintro e w2 ⟨rfl,jh⟩;have R2:=ZI (HS.o.next HE.o jh);clear jh);go_roundw
   .exact⟨k+1,Qw,QC,by rw[HH.2];simpa using R2.o⟩
   simp[intOf];omega
  |some S=>
   rw[hM] at du;have hh:=BP B wr G V bl1 k hE jg S hM;have jd:(Yj V k).length<=1000000:=by have:(Yj V k).length<=(List.range k).length:=Zdk _ _;rw[ZeW] at this;omega
   have HH:=ZN hh du jd;clear hE ft hf Z hh du hM jd;go_wp2_with (first|(go_at_call 34;refine HH.1.mono ?_;rintro e w2 ⟨rfl,bz⟩;have s2:=(HS.o.after bz).after ((Zu w2 w2).alloc (Zt _) (.cells #[(k:Int)] 3));have ji:Row (w2.alloc (.cells #[(k:Int)] 3)) w2 3 [.int .i64 (k:Int)]:=Z2 w2 _ _;have fm:w.heap.size<=(w2.alloc (.cells #[(k:Int)] 3)).heap.size:=(by obtain⟨ju,e9,g9,f9⟩:=s2.ran;exact f9.size);have R2:=ZN s2 ji fm;clear bz s2 ji fm)|(at_builtin;refine Z8h _ rfl (.tmp 49) (.tmp 51) rfl w.heap.size _ (Yj V k) rfl R2.1.ints w2.heap.size k rfl R2.2.1 R2.2.2 HH.2.2 ?_;intro g4 jx w4 ho hf _ _ _;have O:=ZI (R2.1.put ho hf);clear ho hf));go_roundw
   .exact⟨k+1,Qw,QC,by rw[HH.2.1];simpa using O.o⟩
   simp[intOf];omega
 .obtain rfl:k=G.n:=by omega
  obtain⟨ins,cn⟩:=ZK (Yj V G.n);have fh:=H.2.many;have ke:ins.length<=16:=by have:(Yj V G.n).length<=(List.range G.n).length:=Zdk _ _;rw[ZeW] at this;rw[<-cn];omega
  rw[cn] at HS fh;have je:=H.2.k1;have jl:=H.2.vk;obtain⟨gi,ci,sp,rfl,lj,l7,ld,ig⟩:=Bv HS.o.ints Qw;have c0:=hE.Zaa.c0;have lk:¬ (ins.length:Int)<(V.k:Int):=Qw;have jk:Ty wr:=QH.ty HS.o.ran H.1 H.5;have ie:=O7 B wr G V bl1 hE jk;rw[H.2.gone] at ie;have HR:=ZM ie cn;have fp:=ZI jl;clear hE ft hf Z ie cn jk jl ig;go_wp2_with (first|(go_at_call 35;refine HR.1.mono ?_;rintro e w2 ⟨l5,rfl,j9,bz⟩;obtain rfl:=j9.zero;have R2:=ZO (HS.o.after bz) (HE.1.after bz) HE.2.1 (HE.2.2.trans (Z1 (L:=[]) bz) Qx);clear j9 bz)|(go_at_call 36;refine(Z0R G.s V.k V.m gc cap n cs _ (by rw[fp.o];exact je) (by have h8:=H.2.vm;have C:=H.2.kn;have h7:=fp.o;omega) R2.2.1.Zaa.c0 R2.2.1.Zaa.c1 R2.1.api.rd H.4 (by have h8:=H.2.few;have C:=H.4;omega) H.2.ne gy H.2.val).mono ?_;rintro e w3 ⟨gl,cl,l,cy,rfl,ek,fg,dz⟩;have J:=Q4 (R2.1.after dz) (R2.2.1.after dz) R2.2.2.1 (R2.2.2.2.trans (Z1 (L:=[]) dz) Qx) cy ek fg (R2.2.1.typed.lt) dz.size;clear cy ek fg dz));have gj:w2<=w3.heap.size:=J.9;have dx:(X.chg l).Ok G.n:=H.2.ok J.5;have fo:Ty w3:=QH.ty ⟨bl1,J.2,J.3,J.4⟩ H.1 H.5;have ek:XO w3 w2 X.k X.m gl l:=by have C:=J.6;rw[fp.o,H.2.vm] at C;exact C
  have J0:C2S B w3 G bl1 gi ins V [] (X.chg l) (ph1 (X.chg l) []) V w3:=⟨QH.refl J.2,Cf.row J.1.ints Qw,H.2.start J.2,rfl⟩;have HJ:=ZY J0 dx fo ek;have ct:=ZI HR.2;clear J0 dx fo ek gj;go_loopw [78] (λkv wr=>∃ (t:Nat) (Vt:Ev),t<=ins.length/\kv=(t:Int)/\C2S B w3 G bl1 gi ins V ((ins.take t).map (op1 (X.chg l))) (X.chg l) (ph1 (X.chg l) (ins.take t)) Vt wr) (λkv _=>ins.length- (intOf kv).toNat)
  .exact⟨0,V,Qw,rfl,HJ.1⟩
  obtain⟨t,Vt,ht,rfl,Z⟩:=hrel;have cu:=ZI Z;by_cases bm:t<ins.length
  .have bj:=Z.cell bm;have aw:ins[t]∈Yj V G.n:=by rw[ct.o];exact Zl bm
   have ai:ins[t]∉ins.take t:=by
    have ic:ins.Nodup:=by rw[<-ct.o];exact Fs
    have C:(ins.take t++ins.drop t).Nodup:=by rw[Zde];exact ic
    intro hm;exact(Zdm.1 C).2.2 _ hm _ (by rw[Zdw bm];exact ZeU) rfl
   have dm:ins.take (t+1)=ins.take t++[ins[t]]:=Zc bm;have ay:ins=ins.take t++ins[t]::ins.drop (t+1):=(by rw[<-Zdw bm,Zde]);obtain⟨i,fc⟩:=ZK ins[t];rw[fc] at bj aw ai dm ay;have de:=ZI ay;clear ay;obtain⟨hi,fe⟩:=mem_ins.1 aw;obtain⟨S,blt,s,M,df,ja⟩:=Z.ZbA HJ.2 J.2 HJ.3 dj HJ.4 J.8 fp.o H.2.vm H.2.vg hi fe ai;obtain⟨d,f,bf⟩:=M.Z9Y;have ew:=Z0G X.K w2 G.s X.k X.m i X.g gl cl l wr H.2.hK HJ.2.hl je (by have C:=H.2.kn;omega) (by have C:=H.2.kn;omega) (by have C:=H.2.gb;omega) M.set.c0 M.set.c1 M.set.c3 M.ch J.7;have kt:(t:Int)<(ins.length:Int):=Qw;have ia:(i:Int)<(G.n:Int):=Qw;have ag:=Oe (a:=λ_=>Wd X.k X.m i X.g l) Z.at_ hi M.hM bf;have F:=Q1 M df ja bf ew ai dm;clear Z aw M df ja bf ew ai dm fc fe;by_cases cj:Yi Vt (i,λ_=>Wd X.k X.m i X.g l)=0
   .clear ag;have ak:=ZI cj;clear cj;go_wp2_with (first|(go_at_call 37;refine F.5.mono ?_;rintro e w4 ⟨ga,ca,rfl,dy,eh,dh,bg⟩;have s2:=(F.1.set.after bg).c2;have cm:=(F.1.e.after bg).Zak hi;have x1:=(F.1.row.after bg).c1;have O:=ZN dy eh bg;clear dy eh bg dh)|(go_at_call 38;refine(Ld (a:=λ_=>Wd X.k X.m i X.g l) (F.1.e.after O.2.2) hi F.1.hM F.1.hB H.2.hK (by have C:=H.2.ep;exact Zq C Qw) F.4 O.1 rfl O.2.1 (F.1.ty.below O.2.2) dj (F.1.row.after O.2.2)).mono ?_;rintro e w5 ⟨dw,rfl,aq,aj,ae,af⟩;rw[ak.o] at aq;obtain rfl:=aq.zero;have U:=ZI (aj ak.o);clear aq aj ae af s2 cm x1)|(go_at_call 19;refine(JL 0 0 12 _ _ (QK.nil _ _) Qz).mono ?_;rintro e w6 ⟨rfl,rfl⟩));go_roundw
    .have C:=cu.o.did (x:=op1 (X.chg l) i) ak.o (QM.Zbv HJ.2 cu.o.at_ hi F.1.hM F.6 ak.o) ⟨F.1.e,F.2,F.3⟩ (U.o.from O.2.2);exact⟨t+1,_,Qw,QC,by rw[F.7,Zo];exact C⟩
    simp[intOf];omega
   .have bh:Yi Vt (i,λ_=>Wd X.k X.m i X.g l)=10:=ag.resolve_left cj;have ak:=ZI bh;clear cj ag bh;go_wp2_with (first|(go_at_call 37;refine F.5.mono ?_;rintro e w4 ⟨ga,ca,rfl,dy,eh,dh,bg⟩;have s2:=(F.1.set.after bg).c2;have cm:=(F.1.e.after bg).Zak hi;have x1:=(F.1.row.after bg).c1;have O:=ZN dy eh bg;clear dy eh bg dh)|(go_at_call 38;refine(Ld (a:=λ_=>Wd X.k X.m i X.g l) (F.1.e.after O.2.2) hi F.1.hM F.1.hB H.2.hK (by have C:=H.2.ep;exact Zq C Qw) F.4 O.1 rfl O.2.1 (F.1.ty.below O.2.2) dj (F.1.row.after O.2.2)).mono ?_;rintro e w5 ⟨dw,rfl,aq,aj,ae,af⟩;rw[ak.o] at aq;obtain⟨b5,rfl⟩:∃b5,dw=.iface 139 (b5:Nat):=(by rcases aq.split with ⟨C,_⟩|⟨_,C⟩;exact absurd C Qz;exact C);have bu:Ty w5:=(by have C:=ae.below (F.1.e.after O.2.2);have h8:=F.1.ty.below O.2.2;unfold Ty at h8⊢;rw[C.cell (p:=⟨0,0,none⟩) dj];exact h8);have U:=ZO aq ae af bu;clear aq aj ae af bu s2 cm x1)|(go_at_call 19;refine(JL _ 10 12 _ _ U.1 Qz).mono ?_;rintro e w6 ⟨rfl,rfl⟩)|(go_at_call 40;refine(GG 10 _ G.s _ _ U.2.2.1 rfl U.2.2.2 (by have C:=F.1.e.ge G.s (Zh _ F.1.e.Zbb);omega) _ (by exact Fa U.2.1) U.1 (by have C:=F.1.set.lt;have h8:=O.2.2.size;omega)).mono ?_;rintro e w7 ⟨fw,rfl,er,eu, -⟩;have R7:=ZM er eu;clear er eu));go_ret;have ah:QS (YT (X.chg l) (Yj V G.n)) V=(Yi Vt (op1 (X.chg l) i),Y4 Vt (op1 (X.chg l) i)):=by
     rw[ct.o];unfold YT;have e9:ins.map (op1 (X.chg l))++ins.map (op2 (X.chg l))=(ins.take t).map (op1 (X.chg l))++(op1 (X.chg l) i::((ins.drop (t+1)).map (op1 (X.chg l))++ins.map (op2 (X.chg l)))):=by have C:ins.map (op1 (X.chg l))=(ins.take t).map (op1 (X.chg l))++(op1 (X.chg l) i::(ins.drop (t+1)).map (op1 (X.chg l))):=(by rw[<-Zn,<-Zo,<-de.o]);rw[C,Zd,ZdK]
     rw[e9];exact Ob cu.o.run (by show Yi Vt (i,λ_=>Wd X.k X.m i X.g l)≠0;rw[ak.o];decide)
    have ef:Yi Vt (op1 (X.chg l) i)=10:=ak.o;have ik:w<=w4.heap.size:=Zq J.4.size (Zq F.3.size O.2.2.size);refine⟨l,fw,J.5,rfl,?_,λh=> ?_,λ_=> ?_⟩
    .rw[ah,ef];exact R7.1.base ik
    .rw[ah,ef] at h;exact absurd h Qx
    .rw[ah];exact Oh (c:=0) (ev:=.nilIface) (ev':=.nilIface) H.1 ⟨J.2,J.3,J.4⟩ ⟨F.1.e,F.2,F.3⟩ O.2.2 U.2.1 U.2.2.1 R7.2
  .obtain rfl:t=ins.length:=(by omega);rw[Zs] at cu;have eo:XO wr w2 X.k X.m gl l:=by obtain⟨ju,e9,g9,f9⟩:=cu.o.ran;exact HJ.4.fr f9 (λk hk=>Zv (J.8 k hk))
   have ix:(X.chg l).At (ph2 (X.chg l) []) G.n Vt:=Z9h (ins:=ins) (λi hi hM=>by
    rw[<-ct.o]
    exact mem_ins.2 ⟨hi,by rw[<-cu.o.same.2.2.2];exact hM⟩) cu.o.at_
   have im:=ZM eo ix;have jf:∀c∈l,c.key.length<=11:=λc hc=>(H.2.hK.len _ (HJ.2.hl.key c hc)).2;have iw:=ZI jf;have lq:l.length<=4:=HJ.2.hl.few;clear Z eo ix jf;obtain⟨wA,kx⟩:=ZL wr;subst kx;go_wp2_with fail;go_loopw [14,122] (λgv kv wr=>∃q:Nat,q<=l.length/\kv=(q:Int)/\Strs wr wA gv (Y2 (l.take q))/\Below wA wA wr) (λ_ kv _=>l.length- (intOf kv).toNat)
   .exact⟨0,Qw,rfl,ZA _ _ _ _,Zu _ _⟩
   obtain⟨q,hq,rfl,dt,ee⟩:=hrel;by_cases ib:q<l.length
   .obtain⟨a1,a2,a3⟩:=(im.1.after ee).at_ q ib;have hx:=iw.o _ (Zl ib);have df:=OC l q ib;have lh:(q:Int)<(l.length:Int):=Qw;obtain⟨c,hc⟩:=ZK l[q];rw[hc] at a1 a2 a3 hx df;obtain⟨key,val⟩:=c;simp only at a1 a2 a3 hx df;have ey:(Y2 (l.take q)).length<=1000000:=by
     have h1:(Y2 (l.take q)).length<=(l.take q).length:=by unfold Y2;exact ZdJ _ _
     rw[Zg] at h1;omega
    have HG:=ZY dt ee df ey;clear dt ee df ey hc;cases val with
    |some v=>
     simp only[ZdE] at a2;obtain⟨sg,so,sc,s1, -, -⟩:=a3;have kj:∀W,(binOp .eql 96 (.slice (some ⟨sg,so,none⟩) (X.k+X.m) sc) (.slice none 0 0)).run prog W=.ok (.bool false) W:=λ_=>Qy;go_wp2_with fail;go_roundw
     .have dq:=(Zu wr wr).alloc (Zt _) (.cells #[key,(v.length:Int),.slice (some ⟨sg,so,none⟩) (X.k+X.m) sc] 98);exact⟨q+1,Qw,QC,by rw[HG.3];simpa using HG.1.after dq,HG.2.trans (dq.mono HG.2.size)⟩
     simp[intOf];omega
    |none=>
     have kj:∀W,(binOp .eql 96 (.slice none 0 0) (.slice none 0 0)).run prog W=.ok (.bool true) W:=λ_=>Qy;simp only[Zgh,ZdV] at a2;have fi:((wr.alloc (.cells #[key,(0:Int),()] 98)).alloc (.cells #[key] 9)).heap[wr.heap.size+1]? =some (.cells #[key] 9 (0,0)):=by have C:=ZB (wr.alloc (.cells #[key,(0:Int),()] 98)) (.cells #[key] 9);simpa using C
     have dq:=((Zu wr wr).alloc (Zt _) (.cells #[key,(0:Int),()] 98)).alloc Qx (.cells #[key] 9);have jb:=HG.1.after dq;have bz:=HG.2.trans (dq.mono HG.2.size);have dp:=ZX fi jb bz;clear fi dq jb bz;go_wp2_with (at_builtin;refine CM _ rfl (.tmp 129) (.tmp 132) rfl wA.heap.size _ (Y2 (l.take q)) rfl dp.2 (wr.heap.size+1) key rfl dp.1 dp.3.size HG.4 ?_;intro g2 jw w8 ho hf _;have j8:=dp.3.trans (hf.below dp.3.size dp.2.ge);have R8:=ZM ho j8;clear ho hf j8);go_roundw
     .exact⟨q+1,Qw,QC,by rw[HG.3];exact R8.1,R8.2⟩
     simp[intOf];omega
   .obtain rfl:q=l.length:=(by omega);rw[Zs] at dt;have ir:=ZI dt;obtain⟨fx,ggc,rfl⟩:=BY dt;have j7:C2S B w3 G bl1 gi ins V (ins.map (op1 (X.chg l))) (X.chg l) (ph2 (X.chg l) []) Vt wr:=by have C:=cu.o.after ee;exact⟨C.ran,C.ints,im.2,C.run⟩
    have fa:Yd wr fx ((Y2 l).map str):=by have C:=ir.o;intro j hj;have kf:j<(Y2 l).length:=(by simpa using hj);obtain⟨g9,c9,lz,ku,_,_,_,kq⟩:=Xa C Qw;injection ku with hv1 hv2 hv3;refine⟨g9,0,hv1,?_⟩;rw[Zdz];refine kq.cell ?_;rw[Za (by simp[QR];omega)];simp[QR,kf]
    have iu:=ZM j7 fa;obtain⟨wB,ky⟩:=ZL wr;subst ky;clear dt ee j7 fa;go_wp2_with fail;go_loopw [137] (λkv wr=>∃ (t:Nat) (V4:Ev),t<=ins.length/\kv=(t:Int)/\C2S B w3 G bl1 gi ins V (ins.map (op1 (X.chg l))++(ins.take t).map (op2 (X.chg l))) (X.chg l) (ph2 (X.chg l) (ins.take t)) V4 wr/\Yd wr fx ((Y2 l).map str)/\∀g o,fx=some ⟨g,o,none⟩->∃r,Row wr g 9 r) (λkv _=>ins.length- (intOf kv).toNat)
    case atStart=>exact⟨0,Vt,Qw,rfl,by simpa using iu.1,iu.2,λg o e=>by
     subst e
     exact YP ir.o g (by rw[YS];rfl)⟩
    case round=>
     obtain⟨t,V4,ht,rfl,Z,fu,fq⟩:=hrel;have cz:=ZI Z;have iq:=ZM fu fq;by_cases bq:t<ins.length
     .have bj:=Z.cell bq;have aw:ins[t]∈Yj V G.n:=by rw[ct.o];exact Zl bq
      have ai:ins[t]∉ins.take t:=by
       have ic:ins.Nodup:=by rw[<-ct.o];exact Fs
       have C:(ins.take t++ins.drop t).Nodup:=by rw[Zde];exact ic
       intro hm;exact(Zdm.1 C).2.2 _ hm _ (by rw[Zdw bq];exact ZeU) rfl
      have dm:ins.take (t+1)=ins.take t++[ins[t]]:=Zc bq;have ay:ins=ins.take t++ins[t]::ins.drop (t+1):=(by rw[<-Zdw bq,Zde]);obtain⟨i,fc⟩:=ZK ins[t];rw[fc] at bj aw ai dm ay;have de:=ZI ay;clear ay;obtain⟨hi,fe⟩:=mem_ins.1 aw;obtain⟨S,blt,s,d,M⟩:=Z.ZbB HJ.2 J.2 HJ.3 dj hi fe ai;have kt:(t:Int)<(ins.length:Int):=Qw;have ia:(i:Int)<(G.n:Int):=Qw;have au:Ym X.K S (Yu S.dir (Y2 l)) d []:=M.Z9Y;have iy:QV X.K (X.E+1) (V4.Ds i) S:=M.hB;have ag:=Oe (a:=λS=>Yu S.dir (Y2 l)) Z.at_ hi M.hM au;have jc:∀x∈Y2 l,x.length<=1000:=λx hx=>by obtain⟨c,hc,C,_⟩:=Dc.1 hx;rw[<-C];have:=iw.o c hc;omega
      have ez:(Y2 l).length<=1000:=by
       have h1:(Y2 l).length<=l.length:=by unfold Y2;exact ZdJ _ _
       omega
      have fj:=Z13 (gone:=Y2 l) (K:=X.K) (E:=X.E+1) (ggc:=ggc) M.e.1 hi M.hM iy H.2.hK (by have C:=H.2.ep;exact Zq (Nat.succ_le_succ C) Qw) au M.ty dj jc ez fu (λg o e=>by obtain⟨r,hr⟩:=fq g o e;exact hr.lt) M.row;have s2:=M.e.1.Zaa.c2;have cm:=M.e.1.Zak hi;have x1:=M.row.c1;have az:=ZY M fj ai dm;clear Z aw M fj ai dm fc fe fu fq jc ez au iy;by_cases cj:Yi V4 (i,λS=>Yu S.dir (Y2 l))=0
      .have ak:=ZI cj;clear cj ag;go_wp2_with (go_at_call 41;refine az.2.mono ?_;rintro e w5 ⟨dw,rfl,aq,aj,ae,af⟩;rw[ak.o] at aq;obtain rfl:=aq.zero;have U:=ZI (aj ak.o);clear aq aj ae af s2 cm x1);go_roundw
       .have C:=cz.o.did (x:=op2 (X.chg l) i) ak.o (Z9p HJ.2 cz.o.at_ hi az.1.hM az.3 ak.o) az.1.e U.o;have h8:=Tm iq.1 iq.2 az.1.e.1 U.o;exact⟨t+1,_,Qw,QC,by rw[az.4,Zo,<-Zd];exact C,h8.1,h8.2⟩
       simp[intOf];omega
      .have bh:Yi V4 (i,λS=>Yu S.dir (Y2 l))=10:=ag.resolve_left cj;have ak:=ZI bh;clear cj ag bh;go_wp2_with (first|(go_at_call 41;refine az.2.mono ?_;rintro e w5 ⟨dw,rfl,aq,aj,ae,af⟩;rw[ak.o] at aq;obtain⟨b5,rfl⟩:∃b5,dw=.iface 139 (b5:Nat):=(by rcases aq.split with ⟨C,_⟩|⟨_,C⟩;exact absurd C Qz;exact C);have bu:Ty w5:=(by have C:=ae.below az.1.e.1;have h8:=az.1.ty;unfold Ty at h8⊢;rw[C.cell (p:=⟨0,0,none⟩) dj];exact h8);have U:=ZO aq ae af bu;clear aq aj ae af bu s2 cm x1)|(go_at_call 40;refine(GG 10 _ G.s _ _ U.2.2.1 rfl U.2.2.2 (by have C:=az.1.e.1.ge G.s (Zh _ az.1.e.1.Zbb);omega) _ (by exact Fa U.2.1) U.1 az.1.e.1.Zaa.lt).mono ?_;rintro e w7 ⟨fw,rfl,er,eu, -⟩;have R7:=ZM er eu;clear er eu));go_ret;have ah:QS (YT (X.chg l) (Yj V G.n)) V=(Yi V4 (op2 (X.chg l) i),Y4 V4 (op2 (X.chg l) i)):=by
        rw[ct.o];unfold YT;have e9:ins.map (op1 (X.chg l))++ins.map (op2 (X.chg l))=(ins.map (op1 (X.chg l))++(ins.take t).map (op2 (X.chg l)))++(op2 (X.chg l) i::(ins.drop (t+1)).map (op2 (X.chg l))):=by have C:ins.map (op2 (X.chg l))=(ins.take t).map (op2 (X.chg l))++(op2 (X.chg l) i::(ins.drop (t+1)).map (op2 (X.chg l))):=(by rw[<-Zn,<-Zo,<-de.o]);rw[Zd,<-C]
        rw[e9];exact Ob cz.o.run (by show Yi V4 (i,λS=>Yu S.dir (Y2 l))≠0;rw[ak.o];decide)
       have ef:Yi V4 (op2 (X.chg l) i)=10:=ak.o;have ik:w<=wr.heap.size:=Zq J.4.size az.1.e.2.2.size;refine⟨l,fw,J.5,rfl,?_,λh=> ?_,λ_=> ?_⟩
       .rw[ah,ef];exact R7.1.base ik
       .rw[ah,ef] at h;exact absurd h Qx
       .rw[ah];exact Oh (c:=0) (ev:=.nilIface) (ev':=.nilIface) H.1 ⟨J.2,J.3,J.4⟩ az.1.e (Zu _ _) U.2.1 U.2.2.1 R7.2
     .obtain rfl:t=ins.length:=(by omega);rw[Zs] at cz;obtain⟨js,e4,g4,f4⟩:=cz.o.ran;have ij:=cz.o.same;have cr:=e4.Zaa;rw[ij.2.2.1,H.2.vg] at cr;have c3:=cr.c3;have f3:=cr.free (j:=3) Qx;have jz:=H.2.gb;have ly:=Zr ((X.g:Int)+1) Qw;have jo:=ZN e4 g4 f4;have jr:=ZI ij;clear Z fu fq e4 g4 f4 ij cr;go_wp2_with fail;go_ret;have ah:QS (YT (X.chg l) (Yj V G.n)) V=(0,V4):=by rw[ct.o];exact cz.o.run
      have lu:V4.gen=(X.g:Int):=(by rw[jr.2.2.1,H.2.vg]);refine⟨l,.nilIface,J.5,rfl,?_,λ_=> ?_,λh=> ?_⟩
      .rw[ah];exact QK.nil _ _
      .rw[ah];obtain⟨jt,e5,g5,f5⟩:=QH.trans ⟨J.2,J.3,J.4⟩ ⟨js,jo.o⟩;have C:=e5.Zbw (V.gen+1);rw[H.2.vg] at C⊢;exact⟨jt,C,g5,f5.setCell (Zv (Zh _ H.1.Zbb)) _⟩
      .rw[ah] at h;exact absurd rfl h
end
section
open Go.RowKit Go.Shelf Go.Sort
variable{B base c g n:Nat}{G:Eg}{L L' l:List Bs}{V:Ev}{bl:List Nat}{la:Option Addr}{lv:Value}{w w' wr:World}
def SJ{e:Qu}(g:Nat):∀ (F:Qk) (o:Nat) (w:Qs) (cur:Array Qt),w.heap[g]? =some (.cells cur e (0,0))->o+F.length<=cur.size->∃C,(w.setCells g o F).heap[g]? =some (.cells C e (0,0))/\C.size=cur.size/\C.toList.take (o+F.length)=cur.toList.take o++F
 |[],o,w,cur,h,hl=>⟨cur,h,rfl,Qx⟩
 |v::r,o,w,cur,h,hl=>by
  simp only[Ze] at hl;have M:(w.setCell ⟨g,o,none⟩ v).heap[g]? =some (.cells (cur.setIfInBounds o v) e (0,0)):=by rw[setCell_eq_setRow w g o _ e _ v h];exact Zfy w g _ _ e _ h
  obtain⟨C,a,b,c⟩:=SJ g r (o+1) _ _ M QA;refine⟨C,a,by rw[b];simp,?_⟩;rw[show o+(v::r).length=o+1+r.length by simp;omega,c];have e1:(cur.setIfInBounds o v).toList.take (o+1)=cur.toList.take o++[v]:=by
   rw[Array.toList_setIfInBounds];have J:o<(cur.toList.set o v).length:=by simp;omega
   rw[Zc J,List.take_set_of_le (Zt _)];simp
  rw[e1];simp
def SI(g:Nat):∀ (C:Qk) (o:Nat) (w w0:Qs),Fr [g] w0 w->Fr [g] w0 (w.setCells g o C)
 |[],o,w,w0,h=>h
 |v::r,o,w,w0,h=>SI g r (o+1) _ w0 (h.setCell (Zv Qx) v)
theorem Strs.Zc6{cap q:Nat}{l':List Bs}(h:Strs w base (.slice g n cap) l)(hl:l'.length<=l.length):Strs ((w.drewN q).setCells g 0 ((l'++List.replicate (l.length-l'.length) []).map encStr)) base (.slice g l'.length cap) l'/\Fr [g] w ((w.drewN q).setCells g 0 ((l'++List.replicate (l.length-l'.length) []).map encStr)):=by
 rcases h.2 with ⟨hv,_⟩|⟨U,O,cur,hv,F,hh,Z,J,M,h4⟩
 .grind
 .simp at hv;obtain⟨rfl,rfl,rfl⟩:=hv;have hlen:((l'++List.replicate (l.length-l'.length) ([]:Bs)).map encStr).length=l.length:=QB;obtain⟨C,a,b,c⟩:=SJ g ((l'++List.replicate (l.length-l'.length) []).map encStr) 0 (w.drewN q) cur hh Qw;refine⟨⟨by simp[QR],Zy ⟨g,cap,C,rfl,F,a,Qw,J,by rw[b,M],?_⟩⟩,SI g _ 0 _ w (Z1 ⟨rfl,rfl,rfl,Zt _,λ_ _=>rfl⟩)⟩;have c2:=ZF (List.take l'.length) c;rw[Zfj,hlen,Zej Qw] at c2;rw[Zfz,c2];simp[QR,str]
def Z73(l:List Bs):Lib.strsOf (λi=>str (l.toArray[i]!)) l.length=l:=by
 unfold Lib.strsOf;apply ZdX
 .simp
 .intro i C h;simp[str,h]
def Z6P(w:Qs)(base g n cap:Nat)(l:List Bs)(h:Strs w base (.slice g n cap) l)(hl:l.length<=1000000):Calls prog 98 #[.slice g n cap] w λe w'=>e=.returned (.tuple #[])/\Strs w' base (.slice g n cap) (l.mergeSort λx y=>decide (x<=y))/\Fr [g] w w':=by obtain⟨F,C,rfl,J⟩:=h.holds;refine(Tryz.slices_Sort_string g 0 cap l w F C Qw).mono ?_;rintro e w' ⟨rfl,q,os,rfl⟩;obtain⟨a,b⟩:=h.sorted (q:=q) (os:=os) (l':=l.mergeSort λx y=>decide (x<=y)) (Zfr ..);simp_all
def Z6b(w:Qs)(base g n cap:Nat)(l:List Bs)(h:Strs w base (.slice g n cap) l)(hl:l.length<=1000000):Calls prog 99 #[.slice g n cap] w λe w'=>∃v,e=.returned v/\Strs w' base v (Lib.compact l)/\Fr [g] w w':=by obtain⟨F,M,rfl,J⟩:=h.holds;have C:=Tryz.slices_Compact_string_cells g 0 l.length cap (λi=>str (l.toArray[i]!)) w Qw J (λi hi=>(F i Qw).1) (λj O=>(F j Qw).2);rw[Z73] at C;refine C.mono ?_;rintro e w' ⟨rfl,q,rfl⟩;obtain⟨a,b⟩:=h.Zc6 (q:=q) (l':=Lib.compact l) (Lib.compact_length_le l);simp_all
def tl1(x:Bs):Bs:=x.drop 1
def Z7l(x:Bs):(str x).extract 1 (str x).size=str (tl1 x):=by apply JC;rw[Lib.extract_to_end,Yp,Yp];rfl
def kOf(V:Ev)(pre:Bs)(i:Nat):List Bs:=match V.Ms i with
 |some S=>(S.dir.names.filter λn=>Lib.hasPrefix n (nmD pre)).map tl1
 |none=>[]
def XY(V:Ev)(pre:Bs)(k:Nat):List Bs:=(List.range k).flatMap (kOf V pre)
def Ph(V:Ev)(pre:Bs)(k:Nat):XY V pre (k+1)=XY V pre k++kOf V pre k:=by unfold XY;rw[Zds,Zdt];simp
def EJ(V:Ev)(n:Nat):Prop:=∀i,i<n->∀S,V.Ms i=some S->S.dir.Za8/\S.dir.length<=10000/\∀x∈S.dir.names,x.length<=1000
def Pg(h:EJ V n)(pre:Bs){i:Nat}(hi:i<n):(kOf V pre i).length<=10000:=by
 unfold kOf;cases hM:V.Ms i with
 |none=>simp
 |some S=>rw[Zf];have C:=Zdk (λn=>Lib.hasPrefix n (nmD pre)) S.dir.names;have F:S.dir.names.length=S.dir.length:=Zf ..;have J:=(h i hi S hM).2.1;omega
def Hc(h:EJ V n)(pre:Bs):∀k,k<=n->(XY V pre k).length<=k*10000
 |0,_=>by simp[XY]
 |k+1,hk=>by have C:=Hc h pre k Qw;have F:=Pg h pre (i:=k) Qw;rw[Ph,Zb];omega
structure KyS(B:Nat)(w:Qs)(G:Eg)(V:Ev)(bl:Qj)(lv:Qt)(L:List Bs)(wr:Qs):Prop where
 ran:QH B G bl V w wr
 own:Strs wr w lv L
def KyS.after(h:KyS B w G V bl lv L wr)(hb:Below wr wr w'):KyS B w G V bl lv L w':=⟨h.ran.after hb,h.own.after hb⟩
def KyS.next{C:Qj}(h:KyS B w G V bl lv L wr)(he:EAt B wr G V C/\(∀k∈C,k∈bl∨w.heap.size<=k)/\Fr (G.p::bl) w wr)(M:QH B G C V wr w'):KyS B w G V bl lv L w':=by obtain⟨F,e2,g2,f2⟩:=M;refine⟨QH.trans he ⟨F,e2,g2,f2⟩,JU h.own f2 (λq J=> ?_)⟩;obtain⟨l,hl⟩:=YP h.own q J;exact he.1.Za0 hl Qz
def KyS.put{F:Qt}(h:KyS B w G V bl lv L wr)(U:Strs w' w F L')(J:Fr (QU lv) wr w'):KyS B w G V bl F L' w':=by
 obtain⟨M,e1,g1,f1⟩:=h.ran;have C:QL wr (QU lv) [9]:=λq Z=>by obtain⟨l,f,hl,_⟩:=YP h.own q Z;simp_all
 refine⟨⟨M,e1.fr J C Qx Qx Qx (λk O hm=> ?_),g1,f1.trans J (λi hi ae=> ?_)⟩,U⟩
 .exact e1.typed.ZaH C Qz k O hm
 .have:=Ab h.own i hi;omega
structure KyN(B:Nat)(w:Qs)(G:Eg)(V:Ev)(bl:Qj)(la:Qm)(l:List Bs)(lv:Qt)(L:List Bs)(wr:Qs):Prop where
 s:KyS B w G V bl lv L wr
 nm:Yd wr la (l.map str)
 lt:∀g o,la=some ⟨g,o,none⟩->g<wr.heap.size/\g∉QU lv
def KyN.after(h:KyN B w G V bl la l lv L wr)(hb:Below wr wr w'):KyN B w G V bl la l lv L w':=⟨h.s.after hb,h.nm.after hb,λg o e=>⟨by have:=(h.lt g o e).1;have:=hb.size;omega,(h.lt g o e).2⟩⟩
def Strs.rd{a:Qm}(h:Strs w base (.slice a n c) l):Yd w a (l.map str):=λj U=>by have C:j<l.length:=QB;obtain⟨g9,O,M,J,_,_,_,F⟩:=Xa h Qw;injection J with hv1 hv2 hv3;refine⟨g9,0,hv1,?_⟩;refine F.cell ?_;rw[Za (by simp[QR];omega)];simp[QR,C]
def KyN.start{w3:Qs}{b0:Nat}(J:Strs wr b0 lv L)(hb:wr<=base)(hs:Strs w3 base (.slice la n c) l)(h:KyS B w G V bl lv L w3):KyN B w G V bl la l lv L w3:=by
 refine⟨h,hs.rd,λg o e=> ?_⟩;subst e;have hm:g∈QU (.slice (some ⟨g,o,none⟩) n c):=by rw[YS];rfl
 obtain⟨r,M⟩:=YP hs g hm;have O:=Ab hs g hm;refine⟨M.lt,λC=> ?_⟩;obtain⟨U,F⟩:=YP J g C;have:=F.lt;omega
def KyN.put(h:KyN B w G V bl la l lv L wr)(M:Strs w' w (.slice g n c) L')(C:Fr (QU lv) wr w')(F:lv.ownBlock=some g∨g=wr.heap.size):KyN B w G V bl la l (.slice g n c) L' w':=by
 refine⟨h.s.put M C,λj J=> ?_,λg2 o e=> ?_⟩
 .obtain⟨g2,o,e,hc⟩:=h.nm j J;have hb:=C.block g2 (h.lt g2 o e).1 (h.lt g2 o e).2;refine⟨g2,o,e,?_⟩;unfold World.cell? at hc⊢;simp_all
 .obtain⟨O,U⟩:=h.lt g2 o e;refine⟨by have:=C.size;omega,λhm=> ?_⟩;rcases Lu F g2 hm with h9|h9
  .simp_all
  .omega
def NZ(B:Nat)(w:Qs)(G:Eg)(V:Ev)(bl:Qj)(pre:Bs)(h:EAt B w G V bl)(ek:pre.length<=1000)(hd:EJ V G.n):Calls prog 43 #[G.s,pre] w λe w'=>∃v,e=.returned (.tuple #[v,.nilIface])/\Strs w' w v (Lib.compact ((XY V pre G.n).mergeSort λx y=>decide (x<=y)))/\QH B G bl V w w':=by
 have c2:=h.Zaa.c2;have c4:=h.Zaa.c4;have hn:=h.nle;have af:=Bg pre Qw;have HC:=ZI af;have HR:=ZI hd;have H0:KyS B w G V bl (.slice none 0 0) (XY V pre 0) w:=⟨QH.refl h,Strs.nil _ _⟩;have H0:=ZI H0;clear h af hd;go_enter func43,ntmps43;go_wp2;go_loopw [6,23] (λlv Z wr=>∃k:Nat,k<=G.n/\Z=(k:Int)/\KyS B w G V bl lv (XY V pre k) wr) (λ_ Z _=>G.n- (intOf Z).toNat)
 .exact⟨0,Qw,rfl,H0.o⟩
 obtain⟨k,hk,rfl,hS⟩:=hrel;have F:=ZI hS;by_cases ak:k<G.n
 .obtain⟨cn,O,hg,hf⟩:=hS.ran;have eh:(k:Int)<(G.n:Int):=Qw;have cm:=O.Zak ak;have J:=Ph V pre k;have HE:=ZN O hg hf;cases hM:V.Ms k with
  |none=>
   have aj:kOf V pre k=[]:=by unfold kOf;rw[hM]
   rw[aj,Zdg] at J;have hh:=Cv B wr G V cn k O ak hM;have C:=ZM hh J;clear O hg hf hh hM aj J hS;go_wp2_with (go_at_call 34;refine C.1.mono ?_;rintro e w2 ⟨rfl,dj⟩;have R2:=ZI (F.o.next HE.o dj);clear dj);go_roundw
   .exact⟨k+1,Qw,QC,by rw[C.2];exact R2.o⟩
   simp[intOf];omega
  |some S=>
   obtain⟨s,ay,dt,hd,L,ee⟩:=O.mem ak hM;have hh:=BP B wr G V cn k O ak S hM;obtain⟨dq,bh,df⟩:=HR.o k ak S hM;have ae:=λw2 (hs:Wm w2 s (G.ds k) S)=>If s (G.ds k) S (nmD pre) w2 hs dq Qw;have aj:kOf V pre k=(S.dir.names.filter λn=>Lib.hasPrefix n (nmD pre)).map tl1:=by unfold kOf;rw[hM]
   have bf:=Hc HR.o pre k hk;have ai:=Pg HR.o pre ak;obtain⟨l,hl⟩:=ZK (S.dir.names.filter λn=>Lib.hasPrefix n (nmD pre));have de:∀x∈l,1<=x.length/\x.length<=1000:=λx hx=>by
    rw[<-hl] at hx;obtain⟨h1,h2⟩:=Zdr.1 hx;refine⟨?_,df x h1⟩;cases x with
    |nil=>simp[Lib.hasPrefix,nmD] at h2
    |cons a r=>simp
   rw[hl] at aj ae;rw[aj] at J ai;rw[Zf] at ai;have bg:(XY V pre k).length+l.length<=200000:=(by omega);obtain⟨M,ct⟩:=ZK (XY V pre k);rw[ct] at F J bg;have C:=ZR hh ay dt ae J de bg;clear O hg hf hh hM ay dt ee hd hS ae J de bg aj bf ai hl ct dq bh df;go_wp2_with (first|(go_at_call 34;refine C.1.mono ?_;rintro e w2 ⟨rfl,az⟩;have x1:=(C.2.1.after az).c1;have q2:=az.cell (Z9 _ _ cm)|>.trans cm;have af:=HC.o;have R2:=ZI az;clear az cm)|(go_at_call 96;refine(C.2.2.2.1 _ (C.2.2.1.after R2.o)).mono ?_;rintro e w3 ⟨v,rfl,bq,cu⟩;obtain⟨la,lc,rfl⟩:=BY bq;have S3:=ZX bq (F.o.after (R2.o.trans (cu.mono R2.o.size))) (Zq R2.o.size (Zt _));clear bq cu x1 q2 af));obtain⟨wA,ef⟩:=ZL wr;subst ef;go_loopw [6,48] (λlv Z wr=>∃t:Nat,t<=l.length/\Z=(t:Int)/\KyN B w G V bl la l lv (M++(l.take t).map tl1) wr) (λ_ Z _=>l.length- (intOf Z).toNat)
   .exact⟨0,Qw,rfl,by rw[Zgr,ZeC,Zdg];exact KyN.start F.o.own S3.3 S3.1 S3.2⟩
   obtain⟨t,ht,rfl,U⟩:=hrel;have HT:=ZI U;by_cases aq:t<l.length
   .obtain⟨g,o,dz,ag⟩:=U.nm t QB;subst dz;rw[ZeP] at ag;have hx:=C.2.2.2.2.2.1 _ (Zl aq);obtain⟨x,cj⟩:=ZK l[t];have bu:M++(l.take (t+1)).map tl1=M++(l.take t).map tl1++[tl1 x]:=by rw[Zc aq,cj];simp
    have bz:(M++(l.take t).map tl1).length<=1000000:=by have h9:=C.2.2.2.2.2.2;rw[Zb,Zf,Zg];omega
    rw[cj] at ag hx;have eo:∀W,(Instr.slice 9 (.string (str x)) (some (.int .i64 1)) none none).run prog W=.ok (.string (str (tl1 x))) W:=λW=>by rw[<-Z7l];exact C3 9 underlying9 (str x) 1 (by rw[QW];omega) W
    have au:=ZB wr (.cells #[.string (str (tl1 x))] 9);have S2:=HT.o.after ((Zu wr wr).alloc (Zt _) (.cells #[.string (str (tl1 x))] 9));have er:(t:Int)<(l.length:Int):=Qw;have bj:l.length<=200000:=by have h9:=C.2.2.2.2.2.2;omega
    obtain⟨A0,cr⟩:=ZK (M++(l.take t).map tl1);rw[cr] at bu bz S2 U;have HX:=ZZ bu bz au S2 U.s.ran;have cw:w.heap.size<=(wr.alloc (.cells #[.string (str (tl1 x))] 9)).heap.size:=by obtain⟨_,_,_,f9⟩:=U.s.ran;have:=f9.size;simp;omega
    have dw:=ZI cw;clear bu bz au S2 U cj hx cw cr;go_wp2_with (at_builtin;refine CM _ rfl (.tmp 52) (.tmp 55) rfl w.heap.size _ _ rfl HX.4.s.own wr.heap.size (tl1 x) rfl HX.3 dw.o HX.2 ?_;intro g2 dx w8 ho hf dh;have R8:=ZI (HX.4.put ho hf dh);clear ho hf dh);go_roundw
    .exact⟨t+1,Qw,QC,by rw[HX.1];exact R8.o⟩
    simp[intOf];omega
   .obtain rfl:t=l.length:=(by omega);rw[Zs] at HT;have ah:=HT.o.s;rw[<-C.2.2.2.2.1] at ah;have du:=ZI ah;clear ah U;go_wp2_with fail;go_roundw
    .exact⟨k+1,Qw,QC,du.o⟩
    simp[intOf];omega
 .obtain rfl:k=G.n:=by omega
  obtain⟨a,cap,rfl⟩:=BY hS.own;have bf:=Hc HR.o pre G.n (Zt _);obtain⟨L,hL⟩:=ZK (XY V pre G.n);rw[hL] at F bf;clear hS;rw[hL];by_cases bm:L=[]
  .subst bm;go_wp2_with (first|(go_at_call 98;refine(Tryz.slices_Sort_string_none a cap _).mono ?_;rintro e w' ⟨rfl,rfl⟩)|(go_at_call 99;refine(Tryz.slices_Compact_string_empty a cap _).mono ?_;rintro e w' ⟨rfl,rfl⟩));go_ret2;have dy:Lib.compact (([]:List Bs).mergeSort λx y=>decide (x<=y))=[]:=(by simp[Lib.compact,Lib.compactUpTo]);exact⟨.slice a 0 cap,rfl,by rw[hL,dy];exact F.o.own,F.o.ran⟩
  .have aw:0<L.length:=by
    cases L with
    |nil=>exact absurd rfl bm
    |cons=>simp
   obtain⟨g,c',sp,hv, -, -, -, -⟩:=Xa F.o.own aw;injection hv with hv1 hv2 hv3;subst hv1 hv3;have bj:L.length<=1000000:=Qw;have HL:=ZM hL bj;clear hL bm aw hv2 bj bf;go_wp2_with (first|(go_at_call 98;refine(Z6P _ _ g _ cap L F.o.own HL.2).mono ?_;rintro e w8 ⟨rfl,dm,cy⟩;have S8:=ZI (F.o.put dm cy);clear dm cy)|(go_at_call 99;refine(Z6b _ _ g _ cap (L.mergeSort λx y=>decide (x<=y)) S8.o.own (by rw[Zfr];exact HL.2)).mono ?_;rintro e w9 ⟨v9,rfl,dp,cz⟩;have S9:=ZI (S8.o.put dp cz);clear dp cz));go_ret2;exact⟨_,rfl,by rw[HL.1];exact S9.o.own,S9.o.ran⟩
end
section
open Go.RowKit Go.Shelf
def YN(sd:Qr)(n:Nat):Nat:=((List.range n).filter sd).length
def GA{a b:Qr}{n:Nat}(h:∀i,i<n->a i=true->b i=true):YN a n<=YN b n:=by unfold YN;rw[<-ZfH,<-ZfH];exact List.countP_mono_left λi hi=>h i (Zdo.1 hi)
def Z07(n:Nat):YN (λ_=>true) n=n:=by unfold YN;rw[List.filter_eq_self.2 (λ_ _=>rfl),ZeW]
structure Y0(K:List Bs)(E k m n g:Nat)(H:Bs->Option Bs)(sd:Qr)(V:Ev):Prop where
 hK:KOk K
 k1:1<=k
 kn:k+m=n
 vk:V.k=k
 vm:V.m=m
 vg:V.gen=(g:Int)
 gone:V.P.gone=false
 Za3:V.P.Za3<0
 Za2:∀i,i<n->(V.Ds i).Za2<=(E:Int)
 in_:∀i,i<n->∀S,V.Ms i=some S->QV K E (V.Ds i) S/\Wl k m i g H (stR (V.Ds i).reads S.dir)
 snd:∀i,i<n->sd i=true->∃S,V.Ms i=some S/\Xn k m i H (stR (V.Ds i).reads S.dir)
 many:k<=YN sd n
def FmS.set{K:List Bs}{k m n:Nat}{P:Pw}{Ds:Nat->Dk}{V:Ev}(h:FmS K ⟨k,m,0,P,Ds,λ_=>none⟩ n V)(hK:KOk K)(M:1<=k)(O:k+m=n)(hl:∀i,i<n->(Ds i).Za2<=2):Y0 K 2 k m n 0 (λ_=>none) (λ_=>true) V where
 hK:=hK
 k1:=M
 kn:=O
 vk:=h.k
 vm:=h.m
 vg:=h.gen
 gone:=h.gone
 Za3:=h.Za3
 Za2:=λi hi=>by rw[h.Za2 i];exact hl i hi
 in_:=λi hi S hM=>by
  obtain⟨U,C,J,F⟩:=h.done i hi
  rw[hM] at C
  cases C
  rw[F]
  exact⟨J,Gs k m i 0 _⟩
 snd:=λi hi _=>by
  obtain⟨S,C,J,F⟩:=h.done i hi
  exact⟨S,C,by rw[F];exact Vk k m i _⟩
 many:=by rw[Z07];omega
section
variable{K:List Bs}{E k m n g:Nat}{H:Bs->Option Bs}{sd:Qr}{V:Ev}
def Ca(k m g:Nat)(V:Ev)(i:Nat):Tab:=match V.Ms i with
 |some S=>stR (V.Ds i).reads S.dir
 |none=>JG k m i g
def Z5(K:List Bs)(E k m g:Nat)(H:Bs->Option Bs)(V:Ev):QM:=⟨K,E,k,m,g,H,[],Ca k m g V⟩
def Y0.mono(h:Y0 K E k m n g H sd V){E':Nat}(he:E<=E'):Y0 K E' k m n g H sd V:={h with Za2:=λi hi=>Int.le_trans (h.Za2 i hi) Qw,in_:=λi hi S hM=>⟨(h.in_ i hi S hM).1.mono he,(h.in_ i hi S hM).2⟩}
def Y0.ins(h:Y0 K E k m n g H sd V):k<=(Yj V n).length:=
 Zq h.many (GA λi hi hs=>by
  obtain⟨S,C,_⟩:=h.snd i hi hs
  rw[C];rfl)
def Y0.pre{cs:List Chg}(h:Y0 K E k m n g H sd V)(O:E<=1900000000)(U:g<=1000000000)(M:cs≠[])(C:cs.length<=4)(F:∀c∈cs,c.key∈K)(J:∀c∈cs,∀v,c.val=some v->v.length<=200):B7 (Z5 K E k m g H V) n V cs where
 hK:=h.hK
 k1:=h.k1
 rest:=λi hi=>by
  show Wl k m i g H (Ca k m g V i)
  unfold Ca
  cases hM:V.Ms i with
  |none=>exact Gs k m i g H
  |some S=>exact(h.in_ i hi S hM).2
 vk:=h.vk
 vm:=h.vm
 vg:=h.vg
 kn:=h.kn
 gone:=h.gone
 at_:=λi hi S hM=>by
  refine⟨(h.in_ i hi S hM).1,?_⟩
  show _=Ca k m g V i
  unfold Ca
  rw[hM]
 many:=h.ins
 ep:=O
 gb:=U
 ne:=M
 few:=C
 key:=F
 val:=J
end
theorem Kt(l:List Wp):∀ (V:Ev) (i:Nat),((QS l V).2.Ds i).Za2=(V.Ds i).Za2:=by
 induction l with
 |nil=>intro V i;rfl
 |cons x r ih=>
  intro V i;have h:((Y4 V x).Ds i).Za2=(V.Ds i).Za2:=by
   unfold Y4;split
   .simp only;by_cases e:i=x.1
    .subst e;rw[Y3,(Jk _ _ _).1]
    .rw[QQ _ _ e]
   .rfl
  unfold QS;grind
section
variable{K:List Bs}{E k m n g:Nat}{H:Bs->Option Bs}{sd:Qr}{V:Ev}{cs l:List Chg}{B:Nat}{w:Qs}{G:Eg}{bl:Qj}
def Y0.did(h:Y0 K E k m n g H sd V){V':Ev}(hk:V'.k=V.k)(hm:V'.m=V.m)(Z:V'.gen=V.gen+1)(O:V'.P.gone=false)(M:V'.P.Za3<0)(U:∀i,(V'.Ds i).Za2=(V.Ds i).Za2)(hs:∀i,(V'.Ms i).isSome=(V.Ms i).isSome)(C:∀i,i<n->∀S,V'.Ms i=some S->((Z5 K E k m g H V).chg l).p2 i (V'.Ds i) S):Y0 K (E+2) k m n (g+1) (upH H l) sd V':=by refine⟨h.hK,h.k1,h.kn,hk.trans h.vk,hm.trans h.vm,by rw[Z,h.vg];omega,O,M,λi hi=>by rw[U];have:=h.Za2 i hi;omega,λi hi S hM=>⟨(C i hi S hM).1,(C i hi S hM).2.1⟩,λi hi ae=> ?_,h.many⟩;obtain⟨S0,J,h4⟩:=h.snd i hi ae;have F:=hs i;rw[J] at F;obtain⟨S,hM⟩:=Zdp.1 F;refine⟨S,hM,(C i hi S hM).2.2 ?_⟩;show Xn k m i H (Ca k m g V i);unfold Ca;rw[J];exact h4
def Y0.ZaD(h:Y0 K E k m n g H sd V)(J:G.n=n)(he:EAt B w G V bl)(F:B7 (Z5 K E k m g H V) G.n V cs)(hl:l.Perm (Wh cs)):(QS (YT ((Z5 K E k m g H V).chg l) (Yj V G.n)) V).1=0/\Y0 K (E+2) k m n (g+1) (upH H l) sd {(QS (YT ((Z5 K E k m g H V).chg l) (Yj V G.n)) V).2 with gen:=V.gen+1}:=by obtain⟨c1,c2⟩:=QM.ZaD (F.ok hl) (F.start (l:=l) he);obtain⟨d1,d2⟩:=c2 h.Za3;have C:=c1 d1;obtain⟨s1,s2,O,M⟩:=Ku (YT ((Z5 K E k m g H V).chg l) (Yj V G.n)) V;exact⟨d1,h.did s1 s2 rfl C.gone d2 (λi=>Kt _ V i) M (λi hi S hM=>(C.at_ i (by rw[J];exact hi) S hM).1)⟩
def Y0.Zb8(h:Y0 K E k m n g H sd V){key v:Bs}(C:H key=some v):Ch K E V n key v:=⟨λi hi S hM=>(h.in_ i hi S hM).1,λi hi S hM=>by rw[h.vk,h.vm];exact(h.in_ i hi S hM).2.some_ key v C⟩
def Y0.Zco(h:Y0 K E k m n g H sd V){key v:Bs}(J:H key=some v):V.k<=WT V key v n:=by rw[h.vk];refine Zq h.many (GA λi hi hs=> ?_);obtain⟨S,C,F⟩:=h.snd i hi hs;unfold X8;rw[C];simp only;rw[h.vk,h.vm];exact ZdY (F key v J)
def Y0.get(h:Y0 K E k m n g H sd V)(he:EAt B w G V bl)(C:G.n=n)(U:Ty w)(J:0<B){key v:Bs}(F:H key=some v)(O:key∈K)(hv:v.length<=200):Calls prog 28 #[G.s,key] w λe w'=>e=.returned (.tuple #[v,.nilIface])/\QH B G bl V w w':=by have M:=h.hK.len key O;exact Z0J B w G V bl K E key v he U J M.1 Qw hv (by rw[h.vk];exact h.k1) (by rw[h.vk,h.vm,C];exact h.kn) h.gone (by rw[C];exact h.Zb8 F) (by rw[C];exact h.Zco F)
def Y0.Zcn(h:Y0 K E k m n g H sd V):EJ V n:=λi hi S hM=>by have C:=(h.in_ i hi S hM).1;refine⟨C.sorted,by have:=C.few h.hK;omega,λx hx=> ?_⟩;obtain⟨y,F,rfl⟩:=Zz.1 hx;have:=(Br h.hK _ (C.sm y F).1).2;omega
def Y0.look(h:Y0 K E k m n g H sd V)(he:EAt B w G V bl)(C:G.n=n)(Z:Ty w)(J:0<B){key v:Bs}(F:H key=some v)(U:key∈K)(hv:v.length<=200){i:Nat}(hi:i<n)(hs:sd i=true):Calls prog 45 #[G.s,(i:Int),key] w λe w'=>e=.returned .nilIface/\QH B G bl V w w':=by have M:=h.hK.len key U;obtain⟨S,hM,O⟩:=h.snd i hi hs;exact Z0T B w G V bl K E i S key v he Z J (by rw[C];exact hi) hM M.1 Qw hv (by rw[h.vk];exact h.k1) (by rw[h.vk,h.vm,C];exact h.kn) h.gone (h.in_ i hi S hM).1 (by rw[C];exact(h.Zb8 F).runs) (by rw[h.vk,h.vm];exact O key v F)
def Y0.Zck(h:Y0 K E k m n g H sd V)(he:EAt B w G V bl)(M:G.n=n)(ht:Ty w)(af:0<B)(hE:E<=1900000000)(hg:g<=1000000000)(ah:cs≠[])(U:cs.length<=4)(Z:∀c∈cs,c.key∈K)(ae:∀c∈cs,∀v,c.val=some v->v.length<=200){gc nc cap:Nat}(hr:BI w gc cs)(ag:nc=cs.length)(O:nc<=cap):Calls prog 11 #[G.s,.slice gc nc cap] w λe w'=>∃l V',l.Perm (Wh cs)/\e=.returned .nilIface/\QH B G bl V' w w'/\Y0 K (E+2) k m n (g+1) (upH H l) sd V':=by have C:=h.pre hE hg ah U Z ae;rw[<-M] at C;refine(NY B w G V bl (Z5 K E k m g H V) gc nc cap cs he ht af C hr ag O).mono ?_;rintro e w' ⟨l,ev,hl,rfl,F,h0, -⟩;obtain⟨J,h2⟩:=h.ZaD M he C hl;rw[J] at F;obtain rfl:=F.zero;exact⟨l,_,hl,rfl,h0 J,h2⟩
end
end
section
open Go.RowKit
theorem NS(d:Array Bs)(x:Bs):∀m,x∈Lib.compactUpTo d m↔∃j,j<m/\d[j]! =x:=by
 intro m
 induction m with
 |zero=>simp[Lib.compactUpTo]
 |succ m ih=>
  rw[Lib.compactUpTo_succ,Zj,ih];constructor
  .grind
  .rintro⟨j,J,e⟩;by_cases C:j<m
   .grind
   .obtain rfl:j=m:=(by omega);by_cases h:Lib.keeps d j=true
    .simp_all
    .have F:j≠0/\d[j]! =d[j-1]!:=by unfold Lib.keeps at h;simp at h;exact h
     grind
theorem Z0k(d:Array Bs)(hs:∀i j,i<=j->j<d.size->d[i]!<=d[j]!):∀m,m<=d.size->(Lib.compactUpTo d m).Nodup:=by
 intro m
 induction m with
 |zero=>intro _;simp[Lib.compactUpTo]
 |succ m ih=>
  intro hm;rw[Lib.compactUpTo_succ];by_cases h:Lib.keeps d m=true
  .rw[Zx h];refine Zdm.2 ⟨ih Qw,Qx,λa ha b hb e=> ?_⟩;obtain⟨j,O,C⟩:=(NS d a m).1 ha;have F:=hs j (m-1) Qw Qw;have J:=hs (m-1) m Qw Qw;have M:d[m]! =d[m-1]!:=QA;unfold Lib.keeps at h;simp_all
  .grind
theorem Z0d(l:List Bs)(hs:l.Pairwise (λa b=>a<=b)):(Lib.compact l).Nodup/\∀x,x∈Lib.compact l↔x∈l:=by
 have M:∀i j,i<=j->j<l.toArray.size->l.toArray[i]!<=l.toArray[j]!:=λi j O C=>by
  have J:j<l.length:=Qw;have F:i<l.length:=Qw;have e1:l.toArray[i]! =l[i]:=QB;have e2:l.toArray[j]! =l[j]:=QB;rw[e1,e2];by_cases e:i=j
  .simp_all
  .exact Ze5.1 hs i j F J Qw
 refine⟨Z0k l.toArray M l.length Qx,λx=> ?_⟩;unfold Lib.compact;rw[NS];constructor
 .grind
 .intro h;obtain⟨j,C,e⟩:=Zeg h;exact⟨j,C,by rw[<-e];simp[C]⟩
def Z0c(l:List Bs):(Lib.compact (l.mergeSort λx y=>decide (x<=y))).Nodup/\∀x,x∈Lib.compact (l.mergeSort λx y=>decide (x<=y))↔x∈l:=by
 have hs:(l.mergeSort λx y=>decide (x<=y)).Pairwise (λa b=>a<=b):=by
  have F:=List.pairwise_mergeSort (le:=λx y:Bs=>decide (x<=y)) (λa b c h C=>by
   simp at*
   exact List.le_trans h C) (λa b=>by
   simp
   exact List.le_total a b) l
  simp_all
 obtain⟨a,b⟩:=Z0d _ hs;simp_all
end
section
open Go.RowKit Go.Shelf
def PR{V:Ev}{i:Nat}{S:Sto}(hM:V.Ms i=some S)(x:Bs):x∈kOf V [] i↔nmD x∈S.dir.names:=by
 unfold kOf;rw[hM];simp only;rw[Zz];constructor
 .rintro⟨n,J,rfl⟩;obtain⟨F,C⟩:=Zdr.1 J;cases n with
  |nil=>simp[Lib.hasPrefix,nmD] at C
  |cons a r=>
   have ha:a=100:=by
    simp[Lib.hasPrefix,nmD,List.isPrefixOf] at C
    first|exact C|exact C.symm
   subst ha;exact F
 .intro h;refine⟨nmD x,Zdr.2 ⟨h,?_⟩,rfl⟩;simp[Lib.hasPrefix,nmD,List.isPrefixOf]
section
variable{K:List Bs}{E k m n g:Nat}{H:Bs->Option Bs}{sd:Qr}{V:Ev}
def Y0.keys(h:Y0 K E k m n g H sd V):(Lib.compact ((XY V [] n).mergeSort λx y=>decide (x<=y))).Nodup/\∀x,x∈Lib.compact ((XY V [] n).mergeSort λx y=>decide (x<=y))↔H x≠none:=by
 obtain⟨a,b⟩:=Z0c (XY V [] n);refine⟨a,λx=>(b x).trans ?_⟩;have e1:∀{i:Nat} {S:Sto},nmD x∈S.dir.names↔stR (V.Ds i).reads S.dir (nmD x)≠none:=fun{i S}=>by rw[XB,ne_eq,ne_eq,Xt]
 unfold XY;rw[ZdL];constructor
 .rintro⟨i,hi,hx⟩ h8;cases hM:V.Ms i with
  |none=>unfold kOf at hx;rw[hM] at hx;cases hx
  |some S=>exact e1.1 ((PR hM x).1 hx) ((h.in_ i (Zdo.1 hi) S hM).2.none_ x h8)
 .intro J;obtain⟨v,hv⟩:=ZdC.1 J;obtain⟨i,hi⟩:=ZeT (Zp h.k1 h.many);obtain⟨C,F⟩:=Zdr.1 hi;obtain⟨S,hM,M⟩:=h.snd i (Zdo.1 C) F;exact⟨i,C,(PR hM x).2 (e1.2 (by rw[M x v hv];simp))⟩
def Y0.Zca(h:Y0 K E k m n g H sd V){B:Nat}{w:Qs}{G:Eg}{bl:Qj}(he:EAt B w G V bl)(C:G.n=n):Calls prog 43 #[G.s,.string (str [])] w λe w'=>∃v L,e=.returned (.tuple #[v,.nilIface])/\Strs w' w v L/\L.Nodup/\(∀x,x∈L↔H x≠none)/\QH B G bl V w w':=by refine(NZ B w G V bl [] he Qx (by rw[C];exact h.Zcn)).mono ?_;rintro e w' ⟨v,rfl,hs,F⟩;rw[C] at hs;exact⟨v,_,rfl,hs,h.keys.1,h.keys.2,F⟩
end
def YF.ZbQ{B:Nat}{w w':Qs}{G:Eg}{V:Ev}{Ls Os:Nat->List Nat}(h:YF B w G V Ls Os){i:Nat}(hi:i<G.n){gh:Nat}(U:∃v,Ls i=G.ds i::gh::QU v){D':Dk}(hd:Y7 w' G.p (G.ds i) gh (.slice none 0 0) D')(ag:D'.ok 800)(hl:(V.Ds i).Za2<D'.Za2)(hf:Fr [G.ds i,gh] w w'):QH B G (Wu G Ls Os) {V with Ds:=upd V.Ds i D',Ms:=upd V.Ms i none} w w':=by
 obtain⟨v,U⟩:=U;have F:=h.pd i hi;have O:=h.at_ i hi;have M:∀k∈[G.ds i,gh],k∈Ls i:=λk C=>by rw[U];simp at C⊢;omega
 have hx:G.xs i∈Os i/\∃sv lf inn,Row w (G.xs i) 91 [.pointer (some ⟨G.ds i,0,none⟩),sv,(lf:Int),.bool inn]/\(inn=true->lf<=(V.Ds i).Za2):=by
  cases hM:V.Ms i with
  |none=>rw[hM] at O;obtain⟨sv,lf,inn,Z,J,h9⟩:=O;exact⟨by rw[Z];simp,sv,lf,inn,J,λe=>Int.le_of_lt (h9 e)⟩
  |some S=>rw[hM] at O;obtain⟨s,j,Z,J,_⟩:=O;exact⟨by rw[Z];simp,_,_,_,J,λ_=>Zf2 _⟩
 obtain⟨ah,sv,lf,inn,J,af⟩:=hx;have ae:QL w [G.ds i,gh] Fw:=F.ZaC.mono M (λ_ h=>h)
 exact h.step hi (X:=[]) (P':=V.P) (D':=D') (M':=none) (L':=[G.ds i,gh]) (O':=[G.xs i]) (hf.mono (λk C _=>Zh _ (M k C))) Qx ⟨F.pw.fr hf (ae.Za0 F.pw Qz),F.pok,⟨gh,.slice none 0 0,by simp[QU,Value.ownBlock],hd⟩,ag,F.bp,λk C=>F.bL _ (M k C)⟩ ⟨sv,lf,inn,rfl,J.fr hf (ae.Za0 J Qz),λe=>by have:=af e;omega⟩ (λk C=>Zv (M k C)) (λk C=>by
  rw[Z6] at C;subst C
  exact Zv ah)
def O1(B:Nat)(w:Qs)(G:Eg)(V:Ev)(bl:Qj)(i:Nat)(h:EAt B w G V bl)(hi:i<G.n)(hl:(V.Ds i).Za2<=1000):Calls prog 26 #[.pointer (some ⟨G.ds i,0,none⟩)] w λe w'=>e=.returned (.tuple #[])/\QH B G bl {V with Ds:=upd V.Ds i (V.Ds i).Zaz,Ms:=upd V.Ms i none} w w':=by obtain⟨Ls,Os,rfl,J⟩:=h;have C:=J.pd i hi;obtain⟨gh,v,O,U⟩:=C.dk;refine(Z2Z G.p (G.ds i) gh v (V.Ds i) 800 w U C.ok).mono ?_;rintro e w' ⟨rfl,M,Z⟩;exact⟨rfl,J.ZbQ hi ⟨v,O⟩ M (Z9C C.ok Qw) (by show _<(V.Ds i).Za2+1;omega) (Z.mono (λk F _=>by rw[Z6] at F;subst F;simp))⟩
def Z0X(B:Nat)(w:Qs)(G:Eg)(V:Ev)(bl:Qj)(i:Nat)(h:EAt B w G V bl)(hi:i<G.n)(hl:(V.Ds i).Za2<=1000):Calls prog 23 #[.pointer (some ⟨G.ds i,0,none⟩)] w λe w'=>e=.returned (.tuple #[])/\QH B G bl {V with Ds:=upd V.Ds i (V.Ds i).Zam,Ms:=upd V.Ms i none} w w':=by obtain⟨Ls,Os,rfl,F⟩:=h;have C:=F.pd i hi;obtain⟨gh,v,M,O⟩:=C.dk;refine(Z5h G.p (G.ds i) gh v (V.Ds i) 800 w O C.ok).mono ?_;rintro e w' ⟨rfl,J,U⟩;exact⟨rfl,F.ZbQ hi ⟨v,M⟩ J (Z9v C.ok Qw) (by show _<(V.Ds i).Za2+1;omega) U⟩
end
section
open Go.RowKit Go.Shelf
variable{H:Bs->Option Bs}{R:Nat->ByteArray}{d:Dir}{g i k m:Nat}
def RL(b s i g:Nat)(w:Qs)(c3:w.cell? ⟨b,3,none⟩=(g:Int)){R:Qt->Qs->Prop}(C:Calls prog 95 #[s] w λe w'=>∃ev,e=.returned ev/\R ev w'):Calls prog 64 #[b,(i:Int),s,(g:Int)] w λe w'=>∃ev,e=.returned (.tuple #[true,ev])/\R ev w':=by have d1:decide ((g:Int)≥0)=true:=Qx;have H:=ZI C;clear C;go_enter func64,ntmps64;go_wp2_with (go_at_call 95;refine H.o.mono ?_;rintro e w' ⟨ev,rfl,h⟩;have F:=ZI h;clear h);go_ret2;exact⟨ev,rfl,F.o⟩
def Wl.Zbx(h:Wl k m i g H (stR R d)):d.get nmN=none/\d.get nmT=none/\∀x,d.get (nmS x)=none:=⟨Xt.2 h.next,Xt.2 h.under,λx=>Xt.2 (h.ZaL x)⟩
def Wl.acts0(h:Wl k m i g H (stR R d)):acts0 d=[]:=by
 obtain⟨C,F,J⟩:=h.Zbx;have e:d.names.filter isS=[]:=by rw[Zgk];intro n M hs;obtain⟨x,rfl⟩:=(Cw n).1 hs;exact XB.1 M (J x)
 unfold Go.Proofs.YthppfllkocphbaaGreatDoor.acts0;rw[e];simp[C,F]
end
section
open Go.RowKit Go.Shelf
def Oz{B p d:Nat}{P:Pw}{D:Dk}{L:Qj}{K:List Bs}{E k m i g:Nat}{S:Sto}(b s:Nat)(name:Bs)(w:Qs)(C:PD B w p d 800 P D L)(F:Wm w s d S)(J:QV K E D S)(O:P.gone=false)(M:D.dead=false)(U:name.length<=1000000)(hc:stR D.reads S.dir name=some (some (YM k m i g)))(hk:k<=16)(hm:m<=16)(hi:i<=16)(Z:g<=1000000000)(c0:w.cell? b=(k:Int))(c1:w.cell? ⟨b,1,none⟩=(m:Int)):Calls prog 63 #[b,s,name,(i:Int)] w λe w'=>e=.returned (g:Int)/\Below w w w':=by
 unfold YM at hc;refine Z1J b s k m i g name w Qw Qw Qw Qw c0 c1 ?_
 exact FC C F J O M U Qz (by
  have h:=F2 k m i g;unfold YM at h;rw[CG] at h
  omega) hc
theorem YF.enter{B:Nat}{w w':Qs}{G:Eg}{V:Ev}{Ls Os:Nat->List Nat}(h:YF B w G V Ls Os){i:Nat}(hi:i<G.n)(hO:Os i=[G.xs i]){s j:Nat}{S:Sto}{o:Qk}(hx:Row w (G.xs i) 91 o)(af:Row w' (G.xs i) 91 [.pointer (some ⟨G.ds i,0,none⟩),s,.int .i64 (V.Ds i).Za2,true])(M:WE w s j (G.ds i) S)(ae:(V.Ds i).dead=false)(hs:∀a,a<G.n->a≠i->s∉Os a/\j∉Os a)(aq:B<=s)(ak:B<=j)(J:Fr [G.xs i] w w'):YF B w' G {V with Ms:=upd V.Ms i (some S)} Ls (upd Os i [G.xs i,s,j]):=by
 have F:QL w [G.xs i] [91]:=QL.row hx Qx;have aj:s∉[G.xs i]:=by obtain⟨b,uv,r1,_⟩:=M;exact F.Za0 r1 Qx
 have ag:j∉[G.xs i]:=by obtain⟨b,uv,_,r2,_⟩:=M;exact F.Za0 r2 Qx
 obtain⟨sp,O⟩:=h.mem;have Z:G.xs i∈Os i:=QB;have ai:∀a,a<G.n->a≠i->G.xs i∉Os a:=λa ha ah C=>h.oap a i ha hi ah _ C Z;refine⟨h.set.fr J (F.Za0 h.set Qx),⟨sp,O.fr J (F.Za0 O Qx)⟩,h.n1,h.n16,λa ha=>(h.pd a ha).fr J (F.ZaH (h.pd a ha).typed Qz),h.dap,λa ha=> ?_,λa b ha hb U k C=> ?_,λa ha k C=> ?_,h.bs⟩
 .by_cases e:a=i
  .subst e;simp[Y3];exact⟨s,j,rfl,af,M.fr J F Qx Qx aj ag,ae⟩
  .simp[QQ _ _ e]
   exact(h.at_ a ha).fr J F Qx Qx (λk C hm=>by
    rw[Z6] at hm;subst hm
    exact ai a ha e C)
 .by_cases ea:a=i
  .subst ea;rw[Y3] at C;rw[QQ _ _ (λe=>U e.symm)];grind
  .rw[QQ _ _ ea] at C;by_cases eb:b=i
   .subst eb;rw[Y3];grind
   .rw[QQ _ _ eb];exact h.oap a b ha hb U k C
 .by_cases e:a=i
  .subst e;rw[Y3] at C;simp at C;rcases C with rfl|rfl|rfl
   .exact h.bO a ha _ Z
   .omega
   .omega
  .rw[QQ _ _ e] at C;exact h.bO a ha k C
def YF.Zbw{B:Nat}{w:Qs}{G:Eg}{V:Ev}{Ls Os:Nat->List Nat}(h:YF B w G V Ls Os)(g:Int):YF B (w.setCell ⟨G.s,3,none⟩ (.int .i64 g)) G {V with gen:=g} Ls Os:=by have F:Fr [G.s] w (w.setCell ⟨G.s,3,none⟩ (.int .i64 g)):=(Fr.refl _ _).setCell (Zv Qx) _;have C:QL w [G.s] [78]:=QL.row h.set Qx;obtain⟨sp,J⟩:=h.mem;refine⟨h.set.set 3 _,⟨sp,J.fr F (C.Za0 J Qx)⟩,h.n1,h.n16,λa ha=>(h.pd a ha).fr F (C.ZaH (h.pd a ha).typed Qz),h.dap,λa ha=>(h.at_ a ha).fr F C Qx Qx (λk M hm=> ?_),h.oap,h.bO,h.bs⟩;rw[Z6] at hm;subst hm;exact(h.at_ a ha).typed.Za0 h.set Qz M
def YF.after{B:Nat}{w w':Qs}{G:Eg}{V:Ev}{Ls Os:Nat->List Nat}(h:YF B w G V Ls Os)(hb:Below w w w'):YF B w' G V Ls Os:=h.fr (Z1 (L:=[]) hb) (ts:=[]) (λk C=>by cases C) Qx Qx Qx Qx
def WE.after{w w':Qs}{s j d:Nat}{S:Sto}(h:WE w s j d S)(hb:Below w w w'):WE w' s j d S:=h.fr (Z1 (L:=[]) hb) (ts:=[]) (λk C=>by cases C) Qx Qx Qx Qx
def A8(w:Qs)(Q:Qj)(d:Nat):Option Sto->Prop
 |some S=>∃s j,Q=[s,j]/\WE w s j d S
 |none=>Q=[]
def WE.typed{w:Qs}{s j d:Nat}{S:Sto}(h:WE w s j d S):QL w [s,j] AP:=by obtain⟨b,uv,C,F,_⟩:=h;exact QL.cons C Qz (QL.row F Qz)
def A8.typed{w:Qs}{Q:Qj}{d:Nat}{M:Option Sto}(h:A8 w Q d M):QL w Q AP:=by
 cases M with
 |none=>obtain rfl:=h;exact λk C=>by cases C
 |some S=>obtain⟨s,j,rfl,h⟩:=h;exact h.typed
def A8.fr{w w':Qs}{Q:Qj}{d:Nat}{M:Option Sto}(h:A8 w Q d M){X:Qj}{ts:List Qu}(O:Fr X w w')(U:QL w X ts)(F:197∉ts)(J:4∉ts)(C:∀k∈Q,k∉X):A8 w' Q d M:=by
 cases M with
 |none=>exact h
 |some S=>obtain⟨s,j,rfl,h⟩:=h;exact⟨s,j,rfl,h.fr O U F J (C _ Qx) (C _ Qx)⟩
def A8.after{w w':Qs}{Q:Qj}{d:Nat}{M:Option Sto}(h:A8 w Q d M)(hb:Below w w w'):A8 w' Q d M:=h.fr (Z1 (L:=[]) hb) (ts:=[]) (λk C=>by cases C) Qx Qx Qx
def CD(Q:Qj):Qt:=.pointer (Q.head?.map λs=>⟨s,0,none⟩)
structure Op1(B:Nat)(w0 w1:Qs)(G:Eg)(V0:Ev)(Ls:Nat->List Nat)(Ss:Nat->Option Sto)(gv:Nat->Int)(gb sb t:Nat)(q:Int)(Q:Nat->List Nat)(gl sl:Qk)(wr:Qs):Prop where
 ep:YF B wr G {V0 with gen:=q} Ls (λi=>[G.xs i])
 gr:Row wr gb 3 gl
 sr:Row wr sb 89 sl
 gn:gl.length=G.n
 sn:sl.length=G.n
 gv:∀a,a<t->gl[a]? =some (.int .i64 (gv a))
 sv:∀a,a<t->sl[a]? =some (CD (Q a))
 sz:∀a,t<=a->a<G.n->sl[a]? =some (.pointer none)
 st:∀a,a<t->A8 wr (Q a) (G.ds a) (Ss a)
 ge:∀a,a<t->∀x∈Q a,w1.heap.size<=x
 ord:∀a b,a<b->b<t->∀x∈Q a,∀y∈Q b,x<y
 bel:Below w0 w0 wr
 le:w0<=w1.heap.size/\w1<=wr.heap.size
 own:w0<=G.s/\w0<=gb/\w0<=sb
section
variable{B:Nat}{w0 w1 wr w' W:Qs}{G:Eg}{V0:Ev}{Ls:Nat->List Nat}{Ss:Nat->Option Sto}{gv:Nat->Int}{gb sb t:Nat}{q:Int}{Q:Nat->List Nat}{gl sl:Qk}
def Op1.fr(h:Op1 B w0 w1 G V0 Ls Ss gv gb sb t q Q gl sl wr){X:Qj}{ts:List Qu}(M:Fr X wr w')(O:QL wr X ts)(Z:∀e∈ts,e∉197::4::92::XT)(hX:∀k∈X,w0.heap.size<=k){F J:Qk}(hg:Row w' gb 3 F)(hs:Row w' sb 89 J)(gn:F.length=G.n)(sn:J.length=G.n)(ae:∀a,a<t->F[a]? =gl[a]?)(af:J=sl):Op1 B w0 w1 G V0 Ls Ss gv gb sb t q Q F J w':=by subst af;have C:∀e,e∈197::4::92::XT->e∉ts:=QA;exact⟨h.ep.fr M O (C _ Qx) (C _ Qx) (C _ Qx) (λk U hm=>O.ZaH h.ep.typed (λe he hm=>Z e he QA) k hm U),hg,hs,gn,sn,λa ha=>by rw[ae a ha];exact h.gv a ha,h.sv,h.sz,λa ha=>(h.st a ha).fr M O (C _ Qx) (C _ Qx) (λk U hm=>O.ZaH (h.st a ha).typed (λe he hm=>Z e he (by have:∀e∈AP,e∈197::4::92::XT:=Qz;exact this e hm)) k hm U),h.ge,h.ord,h.bel.trans (M.below (by have:=h.le;omega) hX),⟨h.le.1,Zq h.le.2 M.size⟩,h.own⟩
def Op1.after(h:Op1 B w0 w1 G V0 Ls Ss gv gb sb t q Q gl sl wr)(hb:Below wr wr w'):Op1 B w0 w1 G V0 Ls Ss gv gb sb t q Q gl sl w':=h.fr (X:=[]) (ts:=[]) (Z1 hb) (λk C=>by cases C) Qx Qx (h.gr.after hb) (h.sr.after hb) h.gn h.sn (λ_ _=>rfl) rfl
def Op1.mark(h:Op1 B w0 w1 G V0 Ls Ss gv gb sb t q Q gl sl wr)(v:Qt):Op1 B w0 w1 G V0 Ls Ss gv gb sb t q Q (gl.set t v) sl (wr.setCell ⟨gb,t,none⟩ v):=by have C:Fr [gb] wr (wr.setCell ⟨gb,t,none⟩ v):=(Fr.refl _ _).setCell (Zv Qx) _;exact h.fr C (QL.row h.gr (Z6.2 rfl)) Qz (λk F=>by rw[Z6] at F;subst F;exact h.own.2.1) (h.gr.set t v) (h.sr.fr C (by rw[Z6];exact Row.ne h.sr h.gr Qx)) (by simp[h.gn]) h.sn (λa ha=>Zf3 Qw) rfl
def Op1.tell(h:Op1 B w0 w1 G V0 Ls Ss gv gb sb t q Q gl sl wr)(M:Int):Op1 B w0 w1 G V0 Ls Ss gv gb sb t M Q gl sl (wr.setCell ⟨G.s,3,none⟩ (.int .i64 M)):=by have C:Fr [G.s] wr (wr.setCell ⟨G.s,3,none⟩ (.int .i64 M)):=(Fr.refl _ _).setCell (Zv Qx) _;have F:QL wr [G.s] [78]:=QL.row h.ep.set Qx;exact⟨h.ep.Zbw M,h.gr.fr C (F.Za0 h.gr Qx),h.sr.fr C (F.Za0 h.sr Qx),h.gn,h.sn,h.gv,h.sv,h.sz,λa ha=>(h.st a ha).fr C F Qx Qx (λk J hm=>F.ZaH (h.st a ha).typed Qz k hm J),h.ge,h.ord,h.bel.trans (C.below (by have:=h.le;omega) (λk J=>by rw[Z6] at J;subst J;exact h.own.1)),⟨h.le.1,Zq h.le.2 C.size⟩,h.own⟩
theorem Op1.next(h:Op1 B w0 w1 G V0 Ls Ss gv gb sb t q Q gl sl wr)(hb:Below wr wr w')(ht:t<G.n){N:Qj}(ah:A8 w' N (G.ds t) (Ss t))(hN:∀x∈N,wr.heap.size<=x){U Z:Qk}(J:Fr [gb,sb] w' W)(hg:Row W gb 3 U)(hs:Row W sb 89 Z)(eg:U=gl.set t (.int .i64 (gv t)))(es:Z=sl.set t (CD N)):Op1 B w0 w1 G V0 Ls Ss gv gb sb (t+1) q (upd Q t N) U Z W:=by
 subst eg es;have C:=h.after hb;have F:QL w' [gb,sb] [3,89]:=QL.cons C.gr Qx (QL.row C.sr Qx);have ae:∀{Q:Qj} {d:Nat} {M:Option Sto},A8 w' Q d M->A8 W Q d M:=λhq=>hq.fr J F Qx Qx (λk O hm=>F.ZaH hq.typed Qz k hm O);refine⟨C.ep.fr J F Qx Qx Qx (λk O hm=>F.ZaH C.ep.typed Qz k hm O),hg,hs,by simp[h.gn],by simp[h.sn],λa ha=> ?_,λa ha=> ?_,λa ha ag=> ?_,λa ha=> ?_,λa ha=> ?_,λa b af ai=> ?_,C.bel.trans (J.below (by have:=C.le;omega) (λk O=> ?_)),⟨h.le.1,Zq C.le.2 J.size⟩,h.own⟩
 .by_cases e:a=t
  .subst e;simp[h.gn,ht]
  .rw[Zf3 Qw];exact h.gv a Qw
 .by_cases e:a=t
  .subst e;simp[h.sn,ht,Y3]
  .rw[Zf3 Qw,QQ _ _ e];exact h.sv a Qw
 .rw[Zf3 Qw];exact h.sz a Qw ag
 .by_cases e:a=t
  .subst e;rw[Y3];exact ae ah
  .rw[QQ _ _ e];exact ae (C.st a Qw)
 .by_cases e:a=t
  .subst e;rw[Y3];exact λx hx=>Zq h.le.2 (hN x hx)
  .rw[QQ _ _ e];exact h.ge a Qw
 .rw[QQ _ _ (show a≠t by omega)];by_cases e:b=t
  .subst e;rw[Y3];exact λx hx y hy=>Zp ((h.st a af).typed.lt x hx) (hN y hy)
  .rw[QQ _ _ e];exact h.ord a b af Qw
 .have:=h.own;grind
def Op1.both(h:Op1 B w0 w1 G V0 Ls Ss gv gb sb t q Q gl sl wr)(u v:Qt):Row ((wr.setCell ⟨gb,t,none⟩ u).setCell ⟨sb,t,none⟩ v) gb 3 (gl.set t u)/\Row ((wr.setCell ⟨gb,t,none⟩ u).setCell ⟨sb,t,none⟩ v) sb 89 (sl.set t v)/\Fr [gb,sb] wr ((wr.setCell ⟨gb,t,none⟩ u).setCell ⟨sb,t,none⟩ v):=by have C:gb≠sb:=Row.ne h.gr h.sr Qx;refine⟨(h.gr.set t u).fr (L:=[sb]) ((Fr.refl _ _).setCell (Zv Qx) _) QB,?_,((Fr.refl _ _).setCell (Zv Qx) _).setCell (Zv Qx) _⟩;exact(h.sr.fr (L:=[gb]) ((Fr.refl _ wr).setCell (p:=⟨gb,t,none⟩) (Zv Qx) u) QA).set t v
theorem Z6r{l:Qk}{t:Nat}{v:Qt}(h:l[t]? =some v):l=l.set t v:=by apply Ze7;grind
def Op1.start(J:YF B w1 G {V0 with gen:=q} Ls (λi=>[G.xs i]))(hb:Below w0 w0 w1)(hs:w0<=G.s):Op1 B w0 w1 G V0 Ls Ss gv w1 (w1.heap.size+1) 0 q (λ_=>[]) (madeCells #[.int .i64 0] G.n).toList (madeCells #[.pointer none] G.n).toList ((w1.alloc (.cells (madeCells #[.int .i64 0] G.n) 3)).alloc (.cells (madeCells #[.pointer none] G.n) 89)):=by
 have h:=((Zu w1 w1).alloc (Zt _) (.cells (madeCells #[.int .i64 0] G.n) 3)).alloc Qx (.cells (madeCells #[.pointer none] G.n) 89);have M:Row ((w1.alloc (.cells (madeCells #[.int .i64 0] G.n) 3)).alloc (.cells (madeCells #[.pointer none] G.n) 89)) w1 3 (madeCells #[.int .i64 0] G.n).toList:=(Z2 w1 3 (madeCells #[.int .i64 0] G.n).toList).alloc _;have F:=Z2 (w1.alloc (.cells (madeCells #[.int .i64 0] G.n) 3)) 89 (madeCells #[.pointer none] G.n).toList;have e:(w1.alloc (.cells (madeCells #[.int .i64 0] G.n) 3)).heap.size=w1.heap.size+1:=Qx;rw[e] at F;have C:=hb.size;have hm:∀a,a<G.n->(madeCells #[.pointer none] G.n).toList[a]? =some (.pointer none):=λa ha=>by simp[madeCells,ha,Zgq]
 exact⟨J.after h,M,F,by simp[madeCells],by simp[madeCells],λa ha=>Qw,λa ha=>Qw,λa _ ha=>hm a ha,λa ha=>Qw,λa ha=>Qw,λa b ha=>Qw,hb.trans (h.mono C),⟨C,h.size⟩,hs,C,Qw⟩
end
def Xg(t:Nat)(V:Ev):Ev:={V with Ms:=λa=>if a<t then V.Ms a else none}
structure Op2(B:Nat)(w0 w1:Qs)(G:Eg)(bl0:Qj)(Q:Nat->List Nat)(gb sb t:Nat)(gl sl:Qk)(V:Ev)(Ls Os:Nat->List Nat)(wr:Qs):Prop where
 ep:YF B wr G (Xg t V) Ls Os
 gr:Row wr gb 3 gl
 sr:Row wr sb 89 sl
 st:∀a,t<=a->a<G.n->∀S,V.Ms a=some S->A8 wr (Q a) (G.ds a) (some S)/\(V.Ds a).dead=false
 in_:∀a,a<t->∀k∈Os a,k=G.xs a∨k∈Q a
 o:∀a,t<=a->Os a=[G.xs a]
 Zat:∀a,a<G.n->∀k∈Ls a,k∈bl0∨w0.heap.size<=k
 fr:Fr (G.p::bl0) w0 wr
 le:w1<=wr.heap.size
structure OpF(w0 w1:Qs)(G:Eg)(Q:Nat->List Nat):Prop where
 ge:∀a,a<G.n->∀x∈Q a,w1.heap.size<=x
 ord:∀a b,a<b->b<G.n->∀x∈Q a,∀y∈Q b,x<y
 le:w0<=w1.heap.size
 xs:∀a,a<G.n->w0.heap.size<=G.xs a/\G.xs a<w1.heap.size
section
variable{B:Nat}{w0 w1 wr w':Qs}{G:Eg}{bl0:Qj}{Q:Nat->List Nat}{gb sb t:Nat}{gl sl:Qk}{V:Ev}{Ls Os:Nat->List Nat}
def OpF.no(h:OpF w0 w1 G Q){a b:Nat}(ha:a<G.n)(hb:b<G.n)(F:a≠b):∀k∈Q a,k≠G.xs b/\k∉Q b:=λk C=>by
 refine⟨by have:=h.ge a ha k C;have:=h.xs b hb;omega,λhm=> ?_⟩;rcases Nat.lt_or_gt_of_ne F with h9|h9
 .exact absurd (h.ord a b h9 hb k C k hm) Qw
 .exact absurd (h.ord b a h9 ha k hm k C) Qw
def Op2.no(h:Op2 B w0 w1 G bl0 Q gb sb t gl sl V Ls Os wr)(hF:OpF w0 w1 G Q){a b:Nat}(ha:a<G.n)(hb:b<G.n)(F:a≠b):∀k∈Os b,k∉Q a:=λk C hm=>by
 have J:=hF.no ha hb F k hm;by_cases e:b<t
 .rcases h.in_ b e k C with h2|h2
  .omega
  .simp_all
 .rw[h.o b Qw,Z6] at C;omega
def Op2.after(h:Op2 B w0 w1 G bl0 Q gb sb t gl sl V Ls Os wr)(hb:Below wr wr w'):Op2 B w0 w1 G bl0 Q gb sb t gl sl V Ls Os w':=⟨h.ep.after hb,h.gr.after hb,h.sr.after hb,λa C F S J=>⟨(h.st a C F S J).1.after hb,(h.st a C F S J).2⟩,h.in_,h.o,h.Zat,h.fr.trans (Z1 (L:=[]) hb) Qx,Zq h.le hb.size⟩
def Op1.op2{V0:Ev}{Ss:Nat->Option Sto}{gv:Nat->Int}{q:Int}(h:Op1 B w0 w1 G V0 Ls Ss gv gb sb G.n q Q gl sl wr)(J:V0.Ms=λ_=>none)(F:V={V0 with gen:=q,Ms:=V.Ms})(hM:∀a,a<G.n->∀S,V.Ms a=some S->Ss a=some S/\(V0.Ds a).dead=false)(U:∀a,a<G.n->∀k∈Ls a,k∈bl0):Op2 B w0 w1 G bl0 Q gb sb 0 gl sl V Ls (λi=>[G.xs i]) wr:=by
 refine⟨?_,h.gr,h.sr,λa _ ha S Z=> ?_,λa ha=>Qw,λa _=>rfl,λa ha k hk=>Zv (U a ha k hk),Z1 h.bel,h.le.2⟩
 .have e:=h.ep;have e2:Xg 0 V={V0 with gen:=q}:=by unfold Xg;rw[F];simp[J]
  rw[e2];omega
 .obtain⟨M,O⟩:=hM a ha S Z;have C:=h.st a ha;rw[M] at C;exact⟨C,by rw[F];exact O⟩
def Op1.opF{V0:Ev}{Ss:Nat->Option Sto}{gv:Nat->Int}{q:Int}(h:Op1 B w0 w1 G V0 Ls Ss gv gb sb G.n q Q gl sl wr)(hx:∀a,a<G.n->w0.heap.size<=G.xs a/\G.xs a<w1.heap.size):OpF w0 w1 G Q:=⟨h.ge,h.ord,h.le.1,hx⟩
theorem Op2.enter(h:Op2 B w0 w1 G bl0 Q gb sb t gl sl V Ls Os wr)(hF:OpF w0 w1 G Q)(hB:B<=w0)(F:t<G.n){S:Sto}(hM:V.Ms t=some S){s j:Nat}(M:Q t=[s,j]){o:Qk}(hx:Row wr (G.xs t) 91 o)(ae:Row w' (G.xs t) 91 [.pointer (some ⟨G.ds t,0,none⟩),s,.int .i64 (V.Ds t).Za2,true])(C:Fr [G.xs t] wr w'):Op2 B w0 w1 G bl0 Q gb sb (t+1) gl sl V Ls (upd Os t [G.xs t,s,j]) w':=by
 have hO:=h.o t (Zt _);have Z:QL wr [G.xs t] [91]:=QL.row hx Qx;obtain⟨U,hd⟩:=h.st t (Zt _) F S hM;obtain⟨s',j',hq,U⟩:=U;rw[M] at hq;cases hq;have O:=hF.ge t F;rw[M] at O;have hle:=hF.le;refine⟨?_,h.gr.fr C (Z.Za0 h.gr Qx),h.sr.fr C (Z.Za0 h.sr Qx),λa ha hn S' af=> ?_,λa ha=> ?_,λa ha=> ?_,h.Zat,h.fr.trans C (λk hk ah=> ?_),Zq h.le C.size⟩
 .have e:Xg (t+1) V={Xg t V with Ms:=upd (Xg t V).Ms t (some S)}:=by
   unfold Xg;congr 1
   funext a
   unfold upd;by_cases e:a=t
   .simp_all
   .grind
  rw[e];refine h.ep.enter F hO hx ae U hd (λa ha ag=> ?_) ?_ ?_ C
  .have J:=h.no hF F ha (Ne.symm ag);rw[M] at J;exact⟨λhm=>J s hm Qx,λhm=>J j hm Qx⟩
  .have:=O s Qx;omega
  .have:=O j Qx;omega
 .obtain⟨J,h2⟩:=h.st a Qw hn S' af
  exact⟨J.fr C Z Qx Qx (λk hk hm=>by
   rw[Z6] at hm
   exact absurd (hF.ge a hn _ hk) (by have:=hF.xs t F;omega)),h2⟩
 .by_cases e:a=t
  .subst e;rw[Y3,M];simp
  .rw[QQ _ _ e];exact h.in_ a Qw
 .rw[QQ _ _ Qw];exact h.o a Qw
 .rw[Z6] at hk;have:=(hF.xs t F).1;omega
theorem Op2.skip(h:Op2 B w0 w1 G bl0 Q gb sb t gl sl V Ls Os wr)(hM:V.Ms t=none):Op2 B w0 w1 G bl0 Q gb sb (t+1) gl sl V Ls Os wr:=by
 refine⟨?_,h.gr,h.sr,λa ha=>h.st a Qw,λa ha k C=> ?_,λa ha=>h.o a Qw,h.Zat,h.fr,h.le⟩
 .have e:Xg (t+1) V=Xg t V:=by
   unfold Xg;congr 1
   funext a
   by_cases e:a=t
   .simp_all
   .grind
  rw[e];exact h.ep
 .by_cases e:a=t
  .subst e;rw[h.o a (Zt _),Z6] at C;omega
  .exact h.in_ a Qw k C
def Op2.d(h:Op2 B w0 w1 G bl0 Q gb sb t gl sl V Ls Os wr):Ye B G bl0 V.P V.Ds w0 wr:=⟨Ls,h.ep.pd,h.ep.dap,h.Zat,h.fr⟩
theorem Op2.did(h:Op2 B w0 w1 G bl0 Q gb sb t gl sl V Ls Os wr)(hF:OpF w0 w1 G Q)(F:t<G.n){S:Sto}{a:Sto->List Ac}(hM:V.Ms t=some S){s j:Nat}(Z:Q t=[s,j])(hC:EG B G.p (G.ds t) s j (Ls t) (S.go (a S)) (S.nx (a S)) V.P (V.Ds t) wr w'):Ye B G bl0 (Y4 V (t,a)).P (Y4 V (t,a)).Ds w0 w'/\(Yi V (t,a)=0->∃au,Op2 B w0 w1 G bl0 Q gb sb t gl sl (Y4 V (t,a)) au Os w'):=by
 obtain⟨e1,e2⟩:=JM (V:=V) (x:=(t,a)) hM;obtain⟨ah,hd⟩:=h.st t (Zt _) F S hM;obtain⟨s',j',hq,ah⟩:=ah;rw[Z] at hq;cases hq;obtain⟨L',hp,M,hg⟩:=hC.ran;have hl:=Jk (S.go (a S)) V.P (V.Ds t);have bh:∀b,b<G.n->b≠t->∀k∈Os b,k∉[s,j]:=λb hb bg=>by rw[<-Z];exact h.no hF F hb (Ne.symm bg)
 have ai:=ah.typed;have ag:=(h.ep.pd t F).typed;have ae:QL wr ([s,j]++G.p::Ls t) (Ap++AP):=(ai.mono (λ_ h=>h) (λe he=>ZeB _ he)).append (ag.mono (λ_ h=>h) (λe he=>ZdP _ he));have aj:=h.ep.at_ t F;have az:(Xg t V).Ms t=none:=by unfold Xg;simp
 rw[az] at aj;obtain⟨sv,lf,inn,aw,af,bf⟩:=aj
 have U:=h.ep.Zbv (M':=none) (O':=Os t) F M ai bh hp ⟨sv,lf,inn,aw,af.fr M (λhm=>by
  rcases Zj.1 hm with hm|hm
  .have h9:=hF.ge t F _ (by rw[Z];exact hm);have:=(hF.xs t F).2;omega
  .exact ag.Za0 af Qz hm),λh9=>by rw[hl.1];exact bf h9⟩ hg (λk C=>Zv C)
 have e:({Xg t V with P:=(QG (S.go (a S)) V.P (V.Ds t)).2.1,Ds:=upd (Xg t V).Ds t (QG (S.go (a S)) V.P (V.Ds t)).2.2,Ms:=upd (Xg t V).Ms t none}:Ev)=Xg t (Y4 V (t,a)):=by
  rw[e2];unfold Xg;simp
  funext b
  unfold upd;grind
 rw[e] at U;have ay:upd Os t (Os t)=Os:=by
  funext b
  unfold upd;simp_all
 rw[ay] at U;have aq:∀b,b<G.n->∀k∈upd Ls t L' b,k∈bl0∨w0.heap.size<=k:=λb hb k C=>by
  by_cases e:b=t
  .subst e;rw[Y3] at C;rcases hg k C with J|J
   .exact h.Zat b hb k J
   .have:=h.fr.size;omega
  .rw[QQ _ _ e] at C;exact h.Zat b hb k C
 have ak:Fr (G.p::bl0) w0 w':=h.fr.trans M (λk C bj=>by
  rcases Zj.1 C with C|C
  .have h9:=hF.ge t F k QB;have:=hF.le;omega
  .rcases Zk.1 C with rfl|C
   .simp
   .rcases h.Zat t F k C with J|J
    .simp_all
    .omega)
 refine⟨⟨_,U.pd,U.dap,aq,ak⟩,λh0=>⟨_,U,h.gr.fr M (ae.Za0 h.gr Qz),h.sr.fr M (ae.Za0 h.sr Qz),λb hb hn S' O=> ?_,h.in_,h.o,aq,ak,Zq h.le M.size⟩⟩;rw[e2] at O⊢;simp only at O⊢;by_cases e:b=t
 .subst e;rw[Y3] at O⊢;cases O;rw[e1] at h0;exact⟨⟨s,j,Z,hC.ok h0⟩,by rw[hl.2];exact hd⟩
 .rw[QQ _ _ e] at O⊢;obtain⟨J,h2⟩:=h.st b hb hn S' O;refine⟨J.fr M ae Qz Qz (λk C hm=> ?_),h2⟩;rcases Zj.1 hm with hm|hm
  .exact(hF.no hn F e k C).2 QB
  .exact J.typed.ZaH ag Qz k C hm
end
end
section
variable{K:List Bs}{l:QY}
def JH(c:Int)(n:Nat):Nat:=((if c<0 then -(c+1) else c)%(n:Int)).toNat
def Am(c:Int){n:Nat}(h:0<n):JH c n<n:=by unfold JH;have C:=Int.emod_lt_of_pos (if c<0 then -(c+1) else c) (b:=(n:Int)) Qw;omega
def Df(i:Nat):Bs:=[107,101,121,UInt8.ofNat (48+i)]
def K11:List Bs:=[97]::(List.range 10).map Df
def BS:KOk K11:=⟨Qz,Qz⟩
def Z2W{i:Nat}(h:i<10):Df i∈K11:=Zh _ (Zz.2 ⟨i,Zdo.2 h,rfl⟩)
def An(x:En):Chg:=⟨Df (JH x.key 10),if x.gone then none else some (x.val.data.toList.take 200)⟩
def JI(l:List En):List Chg:=(l.take 4).map An
def NA(l:List En):(JI l).length<=4:=by unfold JI;rw[Zf,Zg];omega
def NB(l:List En):∀c∈JI l,c.key∈K11:=λc hc=>by obtain⟨x,_,rfl⟩:=Zz.1 hc;exact Z2W (Am _ Qw)
theorem ND(l:List En):∀c∈JI l,∀v,c.val=some v->v.length<=200:=λc hc v hv=>by obtain⟨x,_,rfl⟩:=Zz.1 hc;unfold An at hv;grind
structure HOk(K:List Bs)(l:QY):Prop where
 nd:(l.map (·.1)).Nodup
 key:∀p∈l,p.1∈K
 val:∀p∈l,p.2.length<=200
def HOk.nil(K:List Bs):HOk K []:=⟨Qx,λp h=>QA,λp h=>QA⟩
theorem HOk.hold(h:HOk K l){c:Chg}(F:c.key∈K)(hv:∀v,c.val=some v->v.length<=200):HOk K (JR l c):=by
 refine⟨OP h.nd c,λp C=> ?_,λp C=> ?_⟩<;>
 .unfold JR at C;rcases Zj.1 C with C|C
  .first|exact h.key p (Zdr.1 C).1|exact h.val p (Zdr.1 C).1
  .grind
def Z9L{cs:List Chg}:∀{l:QY},HOk K l->(∀c∈cs,c.key∈K)->(∀c∈cs,∀v,c.val=some v->v.length<=200)->HOk K (XR l cs):=by
 induction cs with
 |nil=>intro l h _ _;exact h
 |cons c r ih=>intro l h C F;exact ih (h.hold (C c Qx) (F c Qx)) (λc hc=>C c (Zh _ hc)) (λc hc=>F c (Zh _ hc))
def HOk.few(h:HOk K l)(hK:KOk K):l.length<=18:=by
 have C:=h.nd.length_le_of_subset (l₂:=K) (λx hx=>by
  obtain⟨p,F,rfl⟩:=Zz.1 hx
  exact h.key p F)
 rw[Zf] at C;exact Zq C hK.few
def HOk.at_(h:HOk K l){i:Nat}(hi:i<l.length):Hof l l[i].1=some l[i].2:=MJ h.nd (Zl hi)
end
section
open Go.RowKit Go.Shelf
variable{a:Option Addr}{l:QY}{v:Value}{w w':World}
def Xy(l:QY):Qk:=l.flatMap λp=>[.string (str p.1),.string (str p.2)]
def Z28(a b:QY):Xy (a++b)=Xy a++Xy b:=by simp[Xy]
def Z2a(l:QY):(Xy l).length=l.length*2:=by
 induction l with
 |nil=>rfl
 |cons a l ih=>rw[show Xy (a::l)=[.string (str a.1),.string (str a.2)]++Xy l from by simp[Xy],Zb,ih];simp;omega
def Z29(l:QY):∀ (k:Nat) (h:k<l.length),(Xy l)[k*2]? =some (.string (str l[k].1))/\(Xy l)[k*2+1]? =some (.string (str l[k].2)):=by
 induction l with
 |nil=>intro k h;simp at h
 |cons a l ih=>
  intro k h;have e:Xy (a::l)=.string (str a.1):: .string (str a.2)::Xy l:=by simp[Xy]
  rw[e]
  match k,h with
  |0,_=>exact⟨rfl,rfl⟩
  |k+1,h=>have C:=ih k (by simpa using h);rw[show(k+1)*2=k*2+2 from Qw,show k*2+2+1=(k*2+1)+2 from Qw];simpa using C
def YW(w:Qs)(a:Qm)(l:QY):Prop:=l=[]∨∃g sp,a=some ⟨g,0,none⟩/\Row w g 105 (Xy l++sp)
def YW.nil(w:Qs)(a:Qm):YW w a []:=Zv rfl
def YW.after(h:YW w a l)(hb:Below w w w'):YW w' a l:=by
 rcases h with h|⟨g,sp,C,F⟩
 .exact Zv h
 .exact Zy ⟨g,sp,C,F.after hb⟩
def YW.ran{B:Nat}{G:Eg}{V C:Ev}{bl:Qj}(h:YW w a l)(M:QH B G bl C w w')(he:EAt B w G V bl):YW w' a l:=by
 rcases h with h|⟨g,sp,F,J⟩
 .exact Zv h
 .exact Zy ⟨g,sp,F,M.row he J Qz⟩
def YW.set{ad:Addr}{e:Qu}{r:Qk}(h:YW w a l)(M:Row w ad.block e r)(he:e≠105)(v:Qt):YW (w.setCell ad v) a l:=by
 rcases h with h|⟨g,sp,J,C⟩
 .exact Zv h
 .exact Zy ⟨g,sp,J,C.fr (L:=[ad.block]) ((Fr.refl _ _).setCell (Zv Qx) _) (by rw[Z6];exact Row.ne C M (λF=>he F.symm))⟩
def YW.at_(h:YW w a l){k:Nat}(F:k<l.length):∃g,a=some ⟨g,0,none⟩/\g<w.heap.size/\w.cell? ⟨g,k*2,none⟩=some (.string (str l[k].1))/\w.cell? ⟨g,k*2+1,none⟩=some (.string (str l[k].2)):=by
 rcases h with rfl|⟨g,sp,J,C⟩
 .simp at F
 .obtain⟨e1,e2⟩:=Z29 l k F;have hl:=Z2a l;refine⟨g,J,C.lt,C.cell ?_,C.cell ?_⟩
  .rw[Za Qw];exact e1
  .rw[Za Qw];exact e2
def YW.own{base:Nat}(h:w.ownsRow base 105 2 v l.length (Xy l)):∃a c,v=.slice a l.length c/\YW w a l:=by
 cases l with
 |nil=>
  rcases h.2 with ⟨C,_⟩|⟨g,cap,cur,C,_⟩
  .exact⟨none,0,C,Zv rfl⟩
  .exact⟨_,cap,C,Zv rfl⟩
 |cons p r=>obtain⟨g,cap,sp,hv,J,M,O,F⟩:=Bv h Qx;exact⟨_,cap,hv,Zy ⟨g,sp,rfl,F⟩⟩
def Bh(c:Int)(n:Nat)(w:Qs)(J: -9223372036854775808<=c)(M:c<=9223372036854775807)(h:0<n)(F:n<=1000):Calls prog 9 #[(c:Int),(n:Int)] w λe w'=>e=.returned (.int .i64 (JH c n:Nat))/\w=w':=by
 have C:=Am c h;by_cases hc:c<0
 .go_enter func9,ntmps9;go_wp2;go_ret;refine⟨JW ?_,rfl⟩;unfold JH;rw[Zx Qw,<-Int.neg_tmod,ZfO Qw];have:=Int.emod_nonneg (-(c+1)) (b:=(n:Int)) Qw;omega
 .go_enter func9,ntmps9;go_wp2;go_ret;refine⟨JW ?_,rfl⟩;unfold JH;rw[Zw Qw];have:=Int.emod_nonneg c (b:=(n:Int)) Qw;rw[Int.toNat_of_nonneg this]
def Tk(a b:Bs):((str a).toList==(str b).toList)=decide (a=b):=by
 rw[ZdH,ZdH,Yp,Yp];by_cases h:a=b
 .simp[h]
 .simp[h]
structure HoS(w:Qs)(key:Bs)(P:QY)(v:Qt)(wr:Qs):Prop where
 own:wr.ownsRow w 105 2 v P.length (Xy P)
 bel:Below w w wr
def HoS.put{key:Bs}{P:QY}{wr w8:Qs}(h:HoS w key P v wr){p:Bs×Bs}(hb:Below wr wr w'){g2 C:Nat}(M:w8.ownsRow w 105 2 (.slice g2 (P.length+1) C) (P.length+1) (Xy P++[.string (str p.1),.string (str p.2)]))(J:Fr (QU v) w' w8):HoS w key (P++[p]) (.slice g2 (P.length+1) C) w8:=by have F:=h.bel.size;refine⟨?_,(h.bel.trans (hb.mono F)).trans (J.below (Zq F hb.size) (Ab h.own))⟩;rw[Zb,Z28];exact M
def Z1e{α:Type}(f:α->Bool)(l:List α)(t:Nat)(h:t<l.length):(l.take (t+1)).filter f=(l.take t).filter f++(if f l[t]=true then[l[t]] else[]):=by rw[ZeG,Z8 h,ZdQ];simp only[Zez,ZeM,List.filter_nil]
def Z2h(w:Qs)(a:Qm)(cp:Nat)(l:QY)(key val:Bs)(gn:Bool)(h:YW w a l)(hl:l.length<=1000):Calls prog 42 #[.slice a l.length cp,key,val,gn] w λe w'=>∃a' az,e=.returned (.slice a' ((l.filter λp=>p.1 !=key)++(if gn then[] else[(key,val)])).length az)/\YW w' a' ((l.filter λp=>p.1 !=key)++(if gn then[] else[(key,val)]))/\Below w w w':=by
 obtain⟨N,hN⟩:=ZK l.length;have H:=ZM h hN;rw[hN];rw[hN] at hl;clear h hN;have I0:=ZI (show HoS w key [] (.slice none 0 0) w from⟨ZA _ _ _ _,Zu _ _⟩);cases gn<;>
 .go_enter func42,ntmps42;go_wp2_with fail;go_loopw [9,10] (λv kv wr=>∃t:Nat,t<=N/\kv=(t:Int)/\HoS w key ((l.take t).filter λp=>p.1 !=key) v wr) (λ_ kv _=>N- (intOf kv).toNat)
  .exact⟨0,Qw,rfl,I0.o⟩
  obtain⟨t,ht,rfl,C⟩:=hrel;by_cases bj:t<N
  .have ae:t<l.length:=by rw[H.2];exact bj
   obtain⟨g,rfl,hg,c0,c1⟩:=H.1.at_ ae;have J:=Z1e (λp:Bs×Bs=>p.1 !=key) l t ae;obtain⟨P,Z⟩:=ZK ((l.take t).filter (λp=>p.1 !=key));rw[Z] at C J;obtain⟨F,ag⟩:=ZK l[t].1;obtain⟨O,ah⟩:=ZK l[t].2;have aj:l[t]=(F,O):=(by rw[<-ag,<-ah]);rw[ag] at c0;rw[ah] at c1;rw[aj] at J;have bf:P.length<=1000:=by rw[<-Z];exact Zq (Zdk _ _) (by rw[Zg];omega)
   have d0:=(C.bel.cell (p:=⟨g,t*2,none⟩) hg).trans c0;have d1:=(C.bel.cell (p:=⟨g,t*2+1,none⟩) hg).trans c1;have hz:=C.bel.size;have bq:(t:Int)<(N:Int):=Qw;have af:=(Zu wr wr).alloc (Zt _) (.cells #[F,O] 105);have aq:Row (wr.alloc (.cells #[F,O] 105)) wr 105 [.string (str F),.string (str O)]:=Z2 wr _ _;have ak:=Jj C.own af;have ay:=Tk F key;by_cases e:F=key
   .rw[show decide (F=key)=true from by simp[e]] at ay;rw[Zw (by simp[e]),Zdg] at J;have M:=ZM C J;clear C J af aq ak Z ag ah aj e;go_wp2_with fail;go_roundw
    .exact⟨t+1,Qw,QC,by rw[M.2];exact M.1⟩
    simp[intOf];omega
   .rw[show decide (F=key)=false from by simp[e]] at ay;rw[Zx (by simp[e])] at J;have M:=ZP C J af aq ak;clear C J af aq ak Z ag ah aj e;go_wp2_with (at_builtin;refine B5 _ rfl (.tmp 24) (.tmp 29) 36 105 rfl underlying36 OO rfl Qw Qw w.heap.size _ P.length (Xy P) rfl M.2.2.2.2 wr.heap.size 1 [.string (str F),.string (str O)] rfl Qw Qw rfl M.2.2.2.1 (by simp[Value.oneCell']) (by simp;omega) Qw ?_;intro g2 ai w8 ho hf _ _ _;have R8:=ZI (M.1.put (p:=(F,O)) M.2.2.1 ho hf);clear ho hf);go_roundw
    .exact⟨t+1,Qw,QC,by rw[M.2.1];exact R8.o⟩
    simp[intOf];omega
  .obtain rfl:t=N:=(by omega);have bh:l.take t=l:=Zi (by rw[H.2];exact Zt _);rw[bh] at C;obtain⟨a9,c9,au,aw⟩:=YW.own C.own;have U:=ZN C.bel aw C.own;clear C aw;obtain⟨P,Z⟩:=ZK (l.filter (λp=>p.1 !=key));rw[Z] at U au;have bf:P.length<=1000:=by rw[<-Z];exact Zq (Zdk _ _) (by rw[H.2];omega)
   have HV:=ZI au;clear au;go_wp2_with (at_builtin;refine B5 _ rfl (.tmp 33) (.tmp 37) 36 105 rfl underlying36 OO rfl Qw Qw w.heap.size _ P.length (Xy P) rfl (Jj U.2.2 ((Zu wr wr).alloc (Zt _) _)) wr.heap.size 1 [.string (str key),.string (str val)] rfl Qw Qw rfl (Z2 wr _ _) (by simp[Value.oneCell']) (by have:=U.1.size;simp;omega) Qw ?_;intro g2 ai w8 ho hf _ _ _;have R8:=ZI (HoS.put (key:=key) (p:=(key,val)) ⟨U.2.2,U.1⟩ ((Zu wr wr).alloc (Zt _) _) ho hf);clear ho hf);go_ret
   first
    |exact⟨a9,⟨c9,by rw[HV.o];simp⟩,by simpa using U.2.1,U.1⟩
    |(obtain⟨a7,c7,bm,bg⟩:=YW.own R8.o.own;exact⟨a7,⟨c7,by simpa using bm⟩,by simpa using bg,R8.o.bel⟩)
end
section
open Go.RowKit Go.Shelf
structure Rg where
 r:Nat
 gd:Nat
 cd:Nat
 gs:Nat
 cs:Nat
 k:Nat
 m:Nat
 n:Nat
def By(R:Rg)(p:Nat)(sv hv:Qt)(ha:Qm)(hn hc:Nat):Qk:=[.pointer p,.slice (some ⟨R.gd,0,none⟩) R.n R.cd,.int .i64 (R.k:Int),.int .i64 (R.m:Int),sv,hv,.slice ha hn hc,.slice (some ⟨R.gs,0,none⟩) R.n R.cs]
def sdC(sd:Qr)(n:Nat):Qk:=(List.range n).map λi=>.bool (sd i)
structure Ys(B:Nat)(w:Qs)(R:Rg)(G:Eg)(V:Ev)(bl:Qj)(sv hv:Qt)(ha:Qm)(hc:Nat)(hs:QY)(sd:Qr):Prop where
 room:Row w R.r 39 (By R G.p sv hv ha hs.length hc)
 Zax:∃sp,Row w R.gd 47 (Ws R.n G.ds++sp)
 ZaJ:∃sp,Row w R.gs 4 (sdC sd R.n++sp)/\∀v,sp[0]? =some v->v=.bool false
 held:YW w ha hs
 set:EAt B w G V bl
 rB:B<=R.r
 gn:G.n=R.n
 kn:R.k+R.m=R.n
 k1:1<=R.k
section
variable{B:Nat}{w w':Qs}{R:Rg}{G:Eg}{V V':Ev}{bl:Qj}{sv hv:Qt}{ha:Qm}{hc:Nat}{hs:QY}{sd:Qr}
def Ys.after(h:Ys B w R G V bl sv hv ha hc hs sd)(hb:Below w w w'):Ys B w' R G V bl sv hv ha hc hs sd:=by obtain⟨s1,C⟩:=h.Zax;obtain⟨s2,F,z2⟩:=h.ZaJ;exact⟨h.room.after hb,⟨s1,C.after hb⟩,⟨s2,F.after hb,z2⟩,h.held.after hb,h.set.after hb,h.rB,h.gn,h.kn,h.k1⟩
def Ys.ran(h:Ys B w R G V bl sv hv ha hc hs sd)(C:QH B G bl V' w w'):∃bl',Ys B w' R G V' bl' sv hv ha hc hs sd:=by obtain⟨s1,F⟩:=h.Zax;obtain⟨s2,J,z2⟩:=h.ZaJ;obtain⟨bl',he,_⟩:=id C;exact⟨bl',C.row h.set h.room Qz,⟨s1,C.row h.set F Qz⟩,⟨s2,C.row h.set J Qz,z2⟩,h.held.ran C h.set,he,h.rB,h.gn,h.kn,h.k1⟩
def Ys.below(h:Ys B w R G V bl sv hv ha hc hs sd)(v:Qt)(j:Nat):Below B w (w.setCell ⟨R.r,j,none⟩ v):=(Zu B w).setCell (p:=⟨R.r,j,none⟩) h.rB _
def Ys.bw(h:Ys B w R G V bl sv hv ha hc hs sd):B<=w:=h.set.bw
def Ys.Zbo(h:Ys B w R G V bl sv hv ha hc hs sd){i:Nat}(hi:i<R.n):w.cell? ⟨R.gd,i,none⟩=some (.pointer (some ⟨G.ds i,0,none⟩)):=by obtain⟨s1,C⟩:=h.Zax;exact C.cell (by rw[Za (by rw[Bx];exact hi)];exact Bw _ _ _ hi)
def Ys.Zaa(h:Ys B w R G V bl sv hv ha hc hs sd){i:Nat}(hi:i<R.n):w.cell? ⟨R.gs,i,none⟩=some (.bool (sd i)):=by obtain⟨s1,C, -⟩:=h.ZaJ;exact C.cell (by rw[Za (by simpa[sdC] using hi)];simp[sdC,hi])
def Ys.Zbl(h:Ys B w R G V bl sv hv ha hc hs sd)(j:Nat)(v:Qt):(∃sp,Row (w.setCell ⟨R.r,j,none⟩ v) R.gd 47 (Ws R.n G.ds++sp))/\(∃sp,Row (w.setCell ⟨R.r,j,none⟩ v) R.gs 4 (sdC sd R.n++sp)/\∀v,sp[0]? =some v->v=.bool false)/\YW (w.setCell ⟨R.r,j,none⟩ v) ha hs/\EAt B (w.setCell ⟨R.r,j,none⟩ v) G V bl/\Row (w.setCell ⟨R.r,j,none⟩ v) R.r 39 ((By R G.p sv hv ha hs.length hc).set j v):=by obtain⟨s1,d1⟩:=h.Zax;obtain⟨s2,d2,z2⟩:=h.ZaJ;have C:Fr [R.r] w (w.setCell ⟨R.r,j,none⟩ v):=(Fr.refl _ _).setCell (Zv Qx) _;exact⟨⟨s1,d1.fr C (by rw[Z6];exact Row.ne d1 h.room Qz)⟩,⟨s2,d2.fr C (by rw[Z6];exact Row.ne d2 h.room Qz),z2⟩,h.held.set h.room Qz _,h.set.setCell (a:=⟨R.r,j,none⟩) h.room Qz Qz Qz Qz _,h.room.set j v⟩
def Ys.Zcw(h:Ys B w R G V bl sv hv ha hc hs sd)(v:Qt):Ys B (w.setCell ⟨R.r,4,none⟩ v) R G V bl v hv ha hc hs sd:=by obtain⟨C,F,J,M,O⟩:=h.Zbl 4 v;exact⟨O,C,F,J,M,h.rB,h.gn,h.kn,h.k1⟩
def Ys.Zbc(h:Ys B w R G V bl sv hv ha hc hs sd)(v:Qt):Ys B (w.setCell ⟨R.r,5,none⟩ v) R G V bl sv v ha hc hs sd:=by obtain⟨C,F,J,M,O⟩:=h.Zbl 5 v;exact⟨O,C,F,J,M,h.rB,h.gn,h.kn,h.k1⟩
def Ys.tell(h:Ys B w R G V bl sv hv ha hc hs sd){C:Qm}{hc':Nat}{F:QY}(hh:YW w C F):Ys B (w.setCell ⟨R.r,6,none⟩ (.slice C F.length hc')) R G V bl sv hv C hc' F sd:=by obtain⟨J,M,Z,O,U⟩:=h.Zbl 6 (.slice C F.length hc');exact⟨U,J,M,hh.set h.room Qz _,O,h.rB,h.gn,h.kn,h.k1⟩
end
def DAt(B:Nat)(w:Qs)(p n:Nat)(ds:Nat->Nat)(P:Pw)(Ds:Nat->Dk)(bl:Qj):Prop:=
 ∃Ls:Nat->List Nat,bl=(List.range n).flatMap Ls/\(∀i,i<n->PD B w p (ds i) 800 P (Ds i) (Ls i))/\∀i j,i<n->j<n->i≠j->∀k∈Ls i,k∉Ls j
def Dl{n:Nat}{Ls:Nat->List Nat}{k:Nat}:k∈(List.range n).flatMap Ls↔∃i,i<n/\k∈Ls i:=Qx
section
variable{B:Nat}{w w':Qs}{p n:Nat}{ds:Nat->Nat}{P P':Pw}{Ds:Nat->Dk}{bl:Qj}
def DAt.typed(h:DAt B w p n ds P Ds bl):QL w bl Fw:=by obtain⟨Ls,rfl,F,J⟩:=h;intro k C;obtain⟨i,hi,C⟩:=Dl.1 C;exact(F i hi).ZaC k C
def DAt.ge(h:DAt B w p n ds P Ds bl):∀k∈bl,B<=k:=by obtain⟨Ls,rfl,F,J⟩:=h;intro k C;obtain⟨i,hi,C⟩:=Dl.1 C;exact(F i hi).bL k C
def DAt.Za9(h:DAt B w p n ds P Ds bl){X:Qj}(M:Fr X w w')(J:∀k∈bl,k∉X)(U:Y6 w' p P')(pok:P'.ok):DAt B w' p n ds P' Ds bl:=by obtain⟨Ls,rfl,C,F⟩:=h;exact⟨Ls,rfl,λi hi=>(C i hi).Za9 M (λk O=>J k (Dl.2 ⟨i,hi,O⟩)) U pok,F⟩
theorem DAt.fr(h:DAt B w p n ds P Ds bl){X:Qj}(J:Fr X w w')(M:∀k∈p::bl,k∉X):DAt B w' p n ds P Ds bl:=by obtain⟨Ls,rfl,C,F⟩:=h;refine⟨Ls,rfl,λi hi=>(C i hi).fr J (λk O hm=> ?_),F⟩;grind
def DAt.after(h:DAt B w p n ds P Ds bl)(hb:Below w w w'):DAt B w' p n ds P Ds bl:=h.fr (Z1 (L:=[]) hb) Qx
theorem Ye.at_{G:Eg}{bl0:Qj}(h:Ye B G bl0 P Ds w w'):∃bl,DAt B w' G.p G.n G.ds P Ds bl/\∀k∈bl,k∈bl0∨w.heap.size<=k:=by obtain⟨Ls,C,F,J,M⟩:=h;refine⟨_,⟨Ls,rfl,C,F⟩,λk O=> ?_⟩;grind
theorem DAt.Zby(h:DAt B w p n ds P Ds bl){i:Nat}(hi:i<n){gh:Nat}{keep:Qn}{t:Int}(hd:Y7 w' p (ds i) gh (.slice none 0 0) ((Ds i).lost keep t))(U:Fr [ds i,gh] w w'){v:Qt}{D:Dk}(h0:Y7 w p (ds i) gh v D):∃bl',DAt B w' p n ds P (upd Ds i ((Ds i).lost keep t)) bl'/\(∀k∈bl',k∈bl)/\Fr bl w w':=by
 obtain⟨Ls,rfl,F,h2⟩:=h;obtain⟨J,v',hL,ae⟩:=(F i hi).dk;have e:J=gh:=by have e1:=ae.top.c1;have e2:=h0.top.c1;simp_all
 subst e;have O:∀k∈[ds i,J],k∈Ls i:=QB;have ok:=(F i hi).ok;have af:∀k∈p::([]:Qj),k∉[ds i,J]:=λk C hm=>by rw[Z6] at C;subst C;exact(F i hi).ZaC.Za0 (F i hi).pw Qz (O _ hm)
 have hp:=(F i hi).pw.fr U (af p Qx);refine⟨(List.range n).flatMap (upd Ls i [ds i,J]),⟨_,rfl,λj M=> ?_,Gn h2 (λa ha=>(F a ha).ZaC.lt) hi (λk C=>Zv (O k C))⟩,λk C=> ?_,U.mono (λk C _=>Dl.2 ⟨i,hi,O k C⟩)⟩
 .by_cases e:j=i
  .subst e;simp[Y3];have Z:=PG ok.fit keep t;exact⟨hp,(F j M).pok,⟨J,_,by simp[QU,Value.ownBlock],hd⟩,⟨Z.len,ok.n1,ok.n2,λx hx=>(by cases hx),λx hx=>(by cases hx),(by simp[Dk.lost]),ok.Zb4,ok.Zbf⟩,(F j M).bp,λk C=>(F j M).bL k (O k C)⟩
  .simp[QQ _ _ e];refine(F j M).fr U (λk C hm=> ?_);grind
 .obtain⟨j,M,C⟩:=Dl.1 C;by_cases e:j=i
  .subst e;rw[Y3] at C;grind
  .rw[QQ _ _ e] at C;grind
end
def Ba(B:Nat)(w:Qs)(ka:Qm)(kl:List Qn):Prop:=∀i (h:i<kl.length),∃b o a cap,ka=some ⟨b,o,none⟩/\b<B/\w.cell? ⟨b,o+i,none⟩=some (.slice a kl[i].length cap)/\∀j (h2:j<kl[i].length),∃kb ko,a=some ⟨kb,ko,none⟩/\kb<B/\w.cell? ⟨kb,ko+j,none⟩=some (.bool kl[i][j])
def Bc(B:Nat)(w:Qs)(ta:Qm)(tl:List Int):Prop:=∀i (h:i<tl.length),∃b o,ta=some ⟨b,o,none⟩/\b<B/\w.cell? ⟨b,o+i,none⟩=some (.int .i64 tl[i])
def Ba.below{B:Nat}{w w':Qs}{ka:Qm}{kl:List Qn}(h:Ba B w ka kl)(hb:Below B w w'):Ba B w' ka kl:=λi hi=>by obtain⟨b,o,a,cap,O,C,U,Z⟩:=h i hi;refine⟨b,o,a,cap,O,C,(hb.cell (p:=⟨b,o+i,none⟩) C).trans U,λj hj=> ?_⟩;obtain⟨J,M,h5,F,h7⟩:=Z j hj;exact⟨J,M,h5,F,(hb.cell (p:=⟨J,M+j,none⟩) F).trans h7⟩
def Bc.below{B:Nat}{w w':Qs}{ta:Qm}{tl:List Int}(h:Bc B w ta tl)(hb:Below B w w'):Bc B w' ta tl:=λi hi=>by obtain⟨b,o,F,C,J⟩:=h i hi;exact⟨b,o,F,C,(hb.cell (p:=⟨b,o+i,none⟩) C).trans J⟩
def XA(kl:List Qn)(tl:List Int)(Ds:Nat->Dk)(t:Nat):Nat->Dk:=λi=>if i<t then(Ds i).lost (kl.getD i []) (tl.getD i 0) else Ds i
theorem Z3m(kl:List Qn)(tl:List Int)(Ds:Nat->Dk)(t:Nat):XA kl tl Ds (t+1)=upd (XA kl tl Ds t) t ((XA kl tl Ds t t).lost (kl.getD t []) (tl.getD t 0)):=by
 funext i
 unfold XA upd;grind
theorem Ba.get{B:Nat}{w:Qs}{ka:Qm}{kl:List Qn}(h:Ba B w ka kl)(t:Nat):∃a cap,(t<kl.length->∃b o,ka=some ⟨b,o,none⟩/\w.cell? ⟨b,o+t,none⟩=some (.slice a (kl.getD t []).length cap))/\(kl.length<=t->a=none/\cap=0/\(kl.getD t []).length=0)/\∀gh,B<=gh->ME w gh a (kl.getD t []):=by
 by_cases C:t<kl.length
 .obtain⟨b,o,a,cap,J,U,M,Z⟩:=h t C;have e:kl.getD t []=kl[t]:=QA;rw[e];refine⟨a,cap,λ_=>⟨b,o,J,M⟩,λh=>Qw,λgh O j F=> ?_⟩;grind
 .have e:kl.getD t []=[]:=by simp[Nat.not_lt.1 C]
  rw[e];exact⟨none,0,λh=>absurd h C,λ_=>⟨rfl,rfl,rfl⟩,λgh O j F=>by cases F⟩
theorem Bc.get{B:Nat}{w:Qs}{ta:Qm}{tl:List Int}(h:Bc B w ta tl)(t:Nat):(t<tl.length->∃b o,ta=some ⟨b,o,none⟩/\w.cell? ⟨b,o+t,none⟩=(tl.getD t 0:Int))/\(tl.length<=t->tl.getD t 0=0):=by refine⟨λC=> ?_,λC=>by simp[C]⟩;obtain⟨b,o,F,J,M⟩:=h t C;grind
structure CP(B:Nat)(w:Qs)(r p gd n cd:Nat)(o sp:Qk)(ds:Nat->Nat)(P:Pw)(Ds:Nat->Dk)(bl:Qj)(tb:Nat)(tc:Qk)(ka:Qm)(kl:List Qn)(ta:Qm)(tl:List Int)(t:Nat)(wr:Qs):Prop where
 room:Row wr r 39 (.pointer p:: .slice gd n cd::o)
 Zax:Row wr gd 47 (Ws n ds++sp)
 ZaG:Row wr tb 56 tc
 at_:∃bl',DAt B wr p n ds P (XA kl tl Ds t) bl'/\∀k∈bl',k∈bl
 pw:Y6 wr p P
 keep:Ba B wr ka kl
 ZbJ:Bc B wr ta tl
 fr:Fr (p::bl) w wr
section
variable{B:Nat}{w:Qs}{r p gd n cd:Nat}{o sp:Qk}{ds:Nat->Nat}{P:Pw}{Ds:Nat->Dk}{bl:Qj}{tb:Nat}{tc:Qk}{ka:Qm}{kl:List Qn}{ta:Qm}{tl:List Int}{t:Nat}{wr:Qs}
def CP.Za6(h:CP B w r p gd n cd o sp ds P Ds bl tb tc ka kl ta tl t wr)(F:t<n):∃gh v,Y7 wr p (ds t) gh v (XA kl tl Ds t t)/\(XA kl tl Ds t t).ok 800/\B<=gh:=by obtain⟨bl',⟨Ls,rfl,C,M⟩,h3⟩:=h.at_;obtain⟨gh,v,O,J⟩:=(C t F).dk;exact⟨gh,v,J,(C t F).ok,(C t F).bL gh QB⟩
def CP.next(h:CP B w r p gd n cd o sp ds P Ds bl tb tc ka kl ta tl t wr)(ht:t<n){gh:Nat}{v:Qt}(M:Y7 wr p (ds t) gh v (XA kl tl Ds t t)){w':Qs}(hd:Y7 w' p (ds t) gh (.slice none 0 0) ((XA kl tl Ds t t).lost (kl.getD t []) (tl.getD t 0)))(C:Fr [ds t,gh] wr w')(af:B<=gh)(ae:B<=ds t)(hB:B<=wr):CP B w r p gd n cd o sp ds P Ds bl tb tc ka kl ta tl (t+1) w':=by
 obtain⟨bl',Z,O⟩:=h.at_;obtain⟨U,g1,g2,g3⟩:=Z.Zby ht hd C M;have J:QL wr [ds t,gh] Fw:=by obtain⟨l,hb⟩:∃l,Row wr gh 5 l:=⟨_,M.bytes.row⟩;exact QL.cons M.top Qz (QL.row hb Qz)
 have hb:Below B wr w':=C.below hB (λk F=>by
  simp at F
  rcases F with rfl|rfl<;>assumption)
 exact⟨h.room.fr C (J.Za0 h.room Qz),h.Zax.fr C (J.Za0 h.Zax Qz),h.ZaG.fr C (J.Za0 h.ZaG Qz),⟨U,by rw[Z3m];exact g1,λk F=>O k (g2 k F)⟩,h.pw.fr C (J.Za0 h.pw Qz),h.keep.below hb,h.ZbJ.below hb,h.fr.trans g3 (λk F _=>Zh _ (O k F))⟩
end
def Z3e(B:Nat)(w:Qs)(r p gd n cd:Nat)(o:Qk)(sp:Qk)(ds:Nat->Nat)(P:Pw)(Ds:Nat->Dk)(bl:Qj)(ev:Qt)(o0 o1 o2 o3:Int)(ka:Qm)(kc:Nat)(kl:List Qn)(ta:Qm)(tc:Nat)(tl:List Int)(hr:Row w r 39 (.pointer p:: .slice gd n cd::o))(J:Row w gd 47 (Ws n ds++sp))(h:DAt B w p n ds P Ds bl)(hB:B<=w)(F:Ba B w ka kl)(ht:Bc B w ta tl)(bq:B<=p)(hn:n<=16)(ah:Y6 w p P)(ae:P.ok):Calls prog 20 #[r,.agg #[o0,o1,o2,o3,ev,.slice ka kl.length kc,.slice ta tl.length tc]] w λe w'=>e=.returned (.tuple #[])/\(∃bl',DAt B w' p n ds {P with gone:=false,Za3:= -1} (XA kl tl Ds n) bl'/\∀k∈bl',k∈bl)/\Y6 w' p {P with gone:=false,Za3:= -1}/\Fr (p::bl) w w':=by
 have c0:=λob=>(hr.alloc ob).c0;have aw:∀i,i<n->B<=ds i:=λi hi=>by obtain⟨Ls,rfl,h1,h2⟩:=h;obtain⟨gh,v,hL,J⟩:=(h1 i hi).dk;exact(h1 i hi).bL _ (by rw[hL];simp)
 have ct:r≠p:=Row.ne hr ah Qz;have bu:gd≠p:=Row.ne J ah Qz;have H:=Q3 hr J h F ht ah ae aw;clear hr J h F ht ah ae aw;go_enter func20,ntmps20;go_wp2_with (go_at_call 52;refine(Z47 p P _ (Row.alloc H.6 _)).mono ?_;rintro e w1 ⟨rfl,bh,ay⟩;have H1:=ZM bh ay;clear bh ay);have ai:Below B w w1:=((Zu B w).alloc hB _).trans (H1.2.below (by simp;omega) (λk F=>by rw[Z6] at F;subst F;exact bq));have cn:p<w:=Row.lt H.6;have S0:CP B w r p gd n cd o sp ds {P with gone:=false,Za3:= -1} Ds bl w [.int .i64 o0,.int .i64 o1,.int .i64 o2,.int .i64 o3,ev,.slice ka kl.length kc,.slice ta tl.length tc] ka kl ta tl 0 w1:=by
  refine⟨(H.1.alloc _).fr H1.2 (by simpa using ct),(H.2.alloc _).fr H1.2 (by simpa using bu),(Z2 w _ _).fr H1.2 (by simp;omega),⟨bl,?_,λ_ h=>h⟩,H1.1,H.4.below ai,H.5.below ai,(Z1 (L:=p::bl) ((Zu w w).alloc (Zt _) _)).trans H1.2 (λk F _=>by rw[Z6] at F;subst F;simp)⟩;have e:XA kl tl Ds 0=Ds:=by funext i;simp[XA]
  rw[e]
  exact(H.3.after ((Zu w w).alloc (Zt _) _)).Za9 H1.2 (λk F hm=>by
   rw[Z6] at hm;subst hm
   exact H.3.typed.Za0 H.6 Qz F) H1.1 ⟨by show(-1:Int)<= -1;omega,by show(-1:Int)<=9223372036854775807;omega⟩
 have bm:=ZI S0;clear S0 c0 ai;go_loopw [4] (λiv wr=>∃t:Nat,t<=n/\iv=(t:Int)/\CP B w r p gd n cd o sp ds {P with gone:=false,Za3:= -1} Ds bl w [.int .i64 o0,.int .i64 o1,.int .i64 o2,.int .i64 o3,ev,.slice ka kl.length kc,.slice ta tl.length tc] ka kl ta tl t wr) (λiv _=>n- (intOf iv).toNat)
 .exact⟨0,Qw,rfl,bm.o⟩
 obtain⟨t,cw,rfl,C⟩:=hrel;have c1:=C.room.c1;by_cases O:t<n
 .have cu:(t:Int)<(n:Int):=by omega
  obtain⟨gh,v,J,bg,aj⟩:=C.Za6 O;have cd:wr.cell? ⟨gd,t,none⟩=some (.pointer (some ⟨ds t,0,none⟩)):=C.Zax.cell (by rw[Za (by rw[Bx];exact O)];exact Bw _ _ _ O);have t5:=C.ZaG.c5;have t6:=C.ZaG.c6;obtain⟨a,cap,k1,k2,k3⟩:=C.keep.get t;obtain⟨q1,q2⟩:=C.ZbJ.get t;have af:=Z3k p (ds t) gh v _ _ 800 a cap (kl.getD t []) (tl.getD t 0) wr C.pw J bg (k3 gh aj);have ag:=λ(w':Qs)=>C.next (w':=w') O J
  obtain⟨kk,bf⟩:=ZK (kl.getD t []);obtain⟨tt,bj⟩:=ZK (tl.getD t 0);obtain⟨U,ak⟩:=ZK kl.length;obtain⟨Z,aq⟩:=ZK tl.length;rw[bf] at k1 k2 af ag;rw[bj] at q1 q2 af ag;rw[ak] at t5 k1 k2;rw[aq] at t6 q1 q2;have hz:B<=wr:=Zq hB C.fr.size;have M:=ZP af ag aj (H.8 t O) hz;clear C J bg aj k3 af ag bf bj ak aq hz;rcases Zeb t U with hk9|hk9
  case' inl=>(obtain⟨kb,ko,rfl,cy⟩:=k1 hk9;have cj:(t:Int)<(U:Int):=Qw)
  case' inr=>(obtain⟨rfl,rfl,bz⟩:=k2 hk9;rw[bz] at M;have cj:¬ (t:Int)<(U:Int):=Qw)
  all_goals clear k1 k2
  all_goals rcases Zeb t Z with ht9|ht9
  all_goals first|(obtain⟨tb,de,rfl,cz⟩:=q1 ht9;have cr:(t:Int)<(Z:Int):=Qw)|(obtain rfl:=q2 ht9;have cr:¬ (t:Int)<(Z:Int):=Qw)
  all_goals clear q1 q2
  all_goals
   go_wp2_with (go_at_call 53;refine M.1.mono ?_;rintro e w2 ⟨rfl,au,az⟩;have R2:=ZI (M.2.1 _ au az M.2.2.1 M.2.2.2.1 M.2.2.2.2);clear au az);go_roundw
   .exact⟨t+1,Qw,QC,R2.o⟩
   simp[intOf];omega
 .obtain rfl:t=n:=by omega
  have HS:=ZI C;clear C;go_wp2_with fail;go_end0;exact⟨rfl,HS.o.at_,HS.o.pw,HS.o.fr⟩
end
section
open Go.RowKit Go.ChangeShapes Go.WideShapes Go.Deep
variable{a:Option Addr}{cap len:Nat}{p:List MemPlace}
def IM{w:Qs}{x:Addr}{v:Qt}(h:w.cell? (x.add 0)=some v):∃b o,x=⟨b,o,none⟩/\b<w.heap.size/\∀i,x.add i=⟨b,o+i,none⟩:=by
 obtain⟨b,o,spot⟩:=x;have C:spot=none:=by simpa[Addr.add] using Zg8 h
 subst C;have ea:∀i,(⟨b,o,none⟩:Addr).add i=⟨b,o+i,none⟩:=λi=>by unfold Addr.add;split<;>simp_all
 rw[ea] at h;exact⟨b,o,rfl,Gw h,ea⟩
section
variable{H:Type}{enc:Qu×Qt->H}{W:Qs}
def Vq{fuel:Nat}{y:DataW H×List MemPlace}(O:DataW.trod enc prog W 0 (λ_=>true) true fuel 37 [.slice a len cap]=some y):∃l:Qn,len=l.length/\∀j (h:j<l.length),∃b o,a=some ⟨b,o,none⟩/\b<W.heap.size/\W.cell? ⟨b,o+j,none⟩=some (.bool l[j]):=by
 rcases open_bools underlying37 underlying4 Qy O with ⟨C,_⟩|⟨x,l,c,B,C,_,hl,_,_,F⟩
 .simp at C;obtain⟨rfl,rfl,rfl⟩:=C;exact⟨[],rfl,λi hi=>by simp at hi⟩
 .simp at C;obtain⟨rfl,rfl,rfl⟩:=C;refine⟨(List.range len).map B,Qx,λi hi=> ?_⟩;have U:i<len:=by simpa using hi
  obtain⟨b,o,rfl,J,M⟩:=IM (F 0 Qw);have hc:=F i Qw;rw[M] at hc;exact⟨b,o,rfl,J,by rw[hc];simp⟩
def Vr{d:DataW H}(h:DataW.Trod enc prog W 0 (λ_=>true) true 45 (.slice a len cap) d p):∃Z:List Qn,len=Z.length/\Ba W W a Z:=by
 obtain⟨fuel,hf⟩:=h;rcases open_slice1 underlying45 Qy hf with ⟨F,_⟩|⟨x,l,c,m,n,U,D,Pl,F,_,hl,hm,ah,_,hi⟩
 .simp[Value.cells] at F;obtain⟨rfl,rfl,rfl⟩:=F;exact⟨[],rfl,λi hi=>by simp at hi⟩
 .simp[Value.cells] at F;obtain⟨rfl,rfl,rfl⟩:=F;simp at ah;have hex:∀i,i<len->∃y:Qm×Nat×Qn,U i=.slice y.1 y.2.2.length y.2.1/\∀j (h:j<y.2.2.length),∃b o,y.1=some ⟨b,o,none⟩/\b<W.heap.size/\W.cell? ⟨b,o+j,none⟩=some (.bool y.2.2[j]):=by
   intro i ag;obtain⟨_,M⟩:=hi i Qw;obtain⟨A,L,C,hv⟩:∃A L C,U i=.slice A L C:=by
    rcases open_slice underlying37 M with ⟨F,_⟩|⟨x,l,c,m,n,D,Pl,F,_⟩
    .simp_all
    .simp_all
   rw[hv] at M;obtain⟨l,rfl,J⟩:=Vq M;exact⟨(A,C,l),hv,J⟩
  obtain⟨f,af⟩:=choose_lt (α:=Qm×Nat×Qn) hex;refine⟨(List.range len).map λi=>(f i).2.2,Qx,λi ag=> ?_⟩;have ae:i<len:=QB;have e0:((List.range len).map λi=>(f i).2.2)[i]=(f i).2.2:=Qx;obtain⟨J,h2⟩:=af i ae;obtain⟨b,o,rfl,h3,h4⟩:=IM (hi 0 Qw).1;have O:=(hi i Qw).1;rw[h4,J] at O;refine⟨b,o,(f i).1,(f i).2.1,rfl,h3,by rw[e0];exact O,?_⟩;rw[e0];exact h2
def Z7n{d:DataW H}(h:DataW.Trod enc prog W 0 (λ_=>true) true 46 (.slice a len cap) d p):∃l:List Int,len=l.length/\Bc W W a l:=by
 obtain⟨fuel,Z⟩:=h;rcases open_ints underlying46 underlying3 Qy Z with ⟨C,_⟩|⟨x,l,c,M,C,_,hl,hm,hlen,_,F,ae⟩
 .simp[Value.cells] at C;obtain⟨rfl,rfl,rfl⟩:=C;exact⟨[],rfl,λi hi=>by simp at hi⟩
 .simp[Value.cells] at C;obtain⟨rfl,rfl,rfl⟩:=C;simp only[Zgj] at hlen;refine⟨M.take len,by simp[hlen];omega,λi hi=> ?_⟩;have J:i<M.length:=by simp at hi;omega
  obtain⟨b,o,rfl,O,U⟩:=IM (F 0 Qw);have hc:=F i J;rw[U] at hc;refine⟨b,o,rfl,O,?_⟩;rw[hc];simp[Z7,Z8 J]
end
end
section
open Go.RowKit Go.Shelf
variable{B:Nat}{w:World}
def Wq(V:Ev)(i:Nat)(key:Bs):Int:=match V.Ms i with
 |none=>if(V.Ds i).dead then 11 else 15
 |some S=>if V.P.gone then 10 else match stR (V.Ds i).reads S.dir (nmD key) with
  |none=>13
  |some none=>14
  |some (some _)=>0
def AK(w:Qs)(B:Nat)(c:Int)(v:Qt):Prop:=QK w B c v/\(c=13->∃b,v=.iface 139 (b:Nat)/\w.cell? ⟨b,1,none⟩=(1:Int))
def AK.of{c:Int}{v:Qt}(h:QK w B c v)(hc:c≠13):AK w B c v:=⟨h,λe=>absurd e hc⟩
def EAt.dsk{G:Eg}{V:Ev}{bl:Qj}(h:EAt B w G V bl){i:Nat}(hi:i<G.n):w.cell? ⟨G.xs i,0,none⟩=some (.pointer (some ⟨G.ds i,0,none⟩))/\∃L,PD B w G.p (G.ds i) 800 V.P (V.Ds i) L:=by
 obtain⟨Ls,Os,rfl,h⟩:=h;refine⟨?_,_,h.pd i hi⟩;have C:=h.at_ i hi;cases hM:V.Ms i with
 |none=>rw[hM] at C;obtain⟨sv,lf,inn,_,F,_⟩:=C;exact F.c0
 |some S=>rw[hM] at C;obtain⟨s,j,_,F,_⟩:=C;exact F.c0
def Kj(B:Nat)(w:Qs)(G:Eg)(V:Ev)(bl:Qj)(K:List Bs)(E i:Nat)(key v:Bs)(h:EAt B w G V bl)(ht:Ty w)(dp:0<B)(hi:i<G.n)(dt:1<=key.length)(cu:key.length<=200)(hv:v.length<=200)(cz:1<=V.k)(dq:V.k+V.m=G.n)(cn:Ch K E V G.n key v)(bz:1<=WT V key v G.n):Calls prog 45 #[G.s,(i:Int),key] w λe w'=>∃ev,e=.returned ev/\AK w' w (Wq V i key) ev/\QH B G bl V w w':=by
 have hn:=h.nle;have c4:=h.Zaa.c4;have c2:=h.Zaa.c2;have cw:=Ts bz;have hm:(decide (1<=(str key).size)&&decide ((str key).size<=200))=true:=by rw[QW];simp;omega
 have aj:=It B w G V bl key h cu cn.runs;rw[cw] at aj;have H:=ZY h aj ht dp;cases hM:V.Ms i with
 |none=>
  have bu:Wq V i key=if(V.Ds i).dead then 11 else 15:=by unfold Wq;rw[hM]
  rw[bu];clear cw aj bu;cases hd:(V.Ds i).dead
  all_goals
   have U:=ZM hM hd;clear hM hd;go_enter func45,ntmps45;go_wp2_with (first|(go_at_call 66;refine(BO _ _).mono ?_;rw[hm];rintro e w1 ⟨rfl,rfl⟩)|(go_at_call 67;refine H.2.mono ?_;rintro e w2 ⟨rfl,M,e2,g2,f2⟩;have C:=ZN e2 g2 f2;have bf:=e2.Zaa.c2;have bg:=e2.Zak hi;have x0:=(e2.dsk hi).1;clear e2 g2 f2 c2 c4)|(go_at_call 22;obtain⟨L,ah⟩:=(C.1.dsk hi).2;obtain⟨bh,v9, -,ag⟩:=ah.dk;refine(Cr _ _ bh v9 _ _ ag).mono ?_;rw[U.2];rintro e w4 ⟨rfl,rfl⟩;clear ag x0 ah)|(go_at_call 34;refine(Cv B _ G V M i C.1 hi U.1).mono ?_;rintro e w5 ⟨rfl,dh⟩;have O:=ZI (QH.trans C.o dh);clear dh bf bg)|(go_at_call 31;refine(Ff _ _ Qz _).mono ?_;rintro e w9 ⟨b9,rfl,aw, -,au⟩;have R9:=ZM aw au;clear aw au));go_ret
  .exact⟨_,rfl,AK.of (R9.1.base (by obtain⟨_,_,_,hf⟩:=O.o;exact hf.size)) Qz,O.o.after R9.2⟩
  .exact⟨_,rfl,AK.of (R9.1.base C.2.2.size) Qz,QH.after ⟨M,C.o⟩ R9.2⟩
 |some S=>
  have hb:=cn.b i hi S hM;have hT:=cn.t i hi S hM;have cj:(nmD key).length<=1000000:=by simp[nmD];omega
  have af:=Bg key Qw;have bu:Wq V i key=if V.P.gone then 10 else match stR (V.Ds i).reads S.dir (nmD key) with
   |none=>13
   |some none=>14
   |some (some _)=>0:=by unfold Wq;rw[hM]
  rw[bu];have ay:=cn.runs i hi S hM;have U:=ZP hM hb hT af ay;clear hM hb hT cw aj bu af ay;cases hg:V.P.gone
  rotate_left
  .have Z:=ZI hg;clear hg;go_enter func45,ntmps45;go_wp2_with (first|(go_at_call 66;refine(BO _ _).mono ?_;rw[hm];rintro e w1 ⟨rfl,rfl⟩)|(go_at_call 67;refine H.2.mono ?_;rintro e w2 ⟨rfl,M,e2,g2,f2⟩;have C:=ZN e2 g2 f2;have bf:=e2.Zaa.c2;have bg:=e2.Zak hi;obtain⟨s,ae,az,hd,L,ah⟩:=e2.mem hi U.1;have x0:=ae.c0;have F:=ZY ae az hd ah;clear e2 g2 f2 ae az hd ah c2 c4)|(go_at_call 22;obtain⟨bh,v9, -,ag⟩:=F.4.dk;refine(Cr _ _ bh v9 _ _ ag).mono ?_;rw[F.3];rintro e w4 ⟨rfl,rfl⟩;clear ag x0)|(go_at_call 34;refine(BP B _ G V M i C.1 hi S U.1).mono ?_;rintro e w5 ⟨rfl,ak⟩;have O:=ZI ak;clear ak bf bg)|(go_at_call 35;have t2:=(QH.ty (w:=w) ⟨M,C.o⟩ H.1 H.3 H.4).below O.o;refine(O7 B _ G V M (C.1.after O.o) t2).mono ?_;rw[Z.o];rintro e w6 ⟨cy,rfl,ai,aq⟩;obtain⟨b6,rfl⟩:=(ai.split.resolve_left (λh=>absurd h.1 Qz)).2;have R6:=ZM ai (O.o.trans (aq.mono O.o.size));clear ai aq t2));go_ret;exact⟨_,rfl,AK.of (R6.1.base (Zq C.2.2.size O.o.size)) Qz,QH.after ⟨M,C.o⟩ R6.2⟩
  .obtain⟨T,hT⟩:=ZK (stR (V.Ds i).reads S.dir (nmD key));rw[hT];cases bm:S.dir.get (nmD key) with
   |none=>
    have dm:T=none:=by rw[<-hT,stR,bm];rfl
    subst dm;have Z:=ZM bm hg;clear bm hT;go_enter func45,ntmps45;go_wp2_with (first|(go_at_call 66;refine(BO _ _).mono ?_;rw[hm];rintro e w1 ⟨rfl,rfl⟩)|(go_at_call 67;refine H.2.mono ?_;rintro e w2 ⟨rfl,M,e2,g2,f2⟩;have C:=ZN e2 g2 f2;have bf:=e2.Zaa.c2;have bg:=e2.Zak hi;obtain⟨s,ae,az,hd,L,ah⟩:=e2.mem hi U.1;have x0:=ae.c0;have F:=ZY ae az hd ah;clear e2 g2 f2 ae az hd ah c2 c4)|(go_at_call 22;obtain⟨bh,v9, -,ag⟩:=F.4.dk;refine(Cr _ _ bh v9 _ _ ag).mono ?_;rw[F.3];rintro e w4 ⟨rfl,rfl⟩;clear ag x0)|(go_at_call 34;refine(BP B _ G V M i C.1 hi S U.1).mono ?_;rintro e w5 ⟨rfl,ak⟩;have O:=ZI ak;clear ak bf bg)|(go_at_call 35;refine(GH B _ G V M (C.1.after O.o) Z.2).mono ?_;rintro e w6 ⟨cy,rfl,ai,aq⟩;obtain rfl:=ai.zero;have J:=O.o.trans (aq.mono O.o.size);have cr:=(C.1.after J).Zaa.c2;have ct:=(C.1.after J).Zak hi;have x1:=(F.1.after J).c1;have af:=U.2.2.2.1;have R6:=ZI J;clear ai aq J)|(go_at_call 97;refine(G6 s (G.ds i) S (nmD key) _ (F.2.after R6.o) cj Z.1).mono ?_;rintro e7 w7 ⟨b7,rfl, -,J⟩;have R7:=ZI (R6.o.trans (J.mono R6.o.size));clear J cr ct x1 af)|(go_at_call 31;refine(Ff _ _ Qz _).mono ?_;rintro e w9 ⟨b9,rfl,aw,dj,au⟩;have R9:=ZN aw au dj;clear aw au dj));go_ret;exact⟨_,rfl,⟨R9.1.base (Zq C.2.2.size R7.o.size),λ_=>⟨b9,rfl,R9.2.2.c1⟩⟩,QH.after (QH.after ⟨M,C.o⟩ R7.o) R9.2.1⟩
   |some en=>
    obtain⟨de,df⟩:=U.2.2.2.2 _ _ bm;have Z:=ZP bm hg de df hT;clear bm de df;rcases U.2.2.1 with h9|h9|h9
    .rw[stR,Z.1] at h9;cases h9
    all_goals
     rw[hT] at h9;subst h9;clear hT;go_enter func45,ntmps45;go_wp2_with (first|(go_at_call 66;refine(BO _ _).mono ?_;rw[hm];rintro e w1 ⟨rfl,rfl⟩)|(go_at_call 67;refine H.2.mono ?_;rintro e w2 ⟨rfl,M,e2,g2,f2⟩;have C:=ZN e2 g2 f2;have bf:=e2.Zaa.c2;have bg:=e2.Zak hi;obtain⟨s,ae,az,hd,L,ah⟩:=e2.mem hi U.1;have x0:=ae.c0;have F:=ZY ae az hd ah;clear e2 g2 f2 ae az hd ah c2 c4)|(go_at_call 22;obtain⟨bh,v9, -,ag⟩:=F.4.dk;refine(Cr _ _ bh v9 _ _ ag).mono ?_;rw[F.3];rintro e w4 ⟨rfl,rfl⟩;clear ag x0)|(go_at_call 34;refine(BP B _ G V M i C.1 hi S U.1).mono ?_;rintro e w5 ⟨rfl,ak⟩;have O:=ZI ak;clear ak bf bg)|(go_at_call 35;refine(GH B _ G V M (C.1.after O.o) Z.2.1).mono ?_;rintro e w6 ⟨cy,rfl,ai,aq⟩;obtain rfl:=ai.zero;have J:=O.o.trans (aq.mono O.o.size);have cr:=(C.1.after J).Zaa.c2;have ct:=(C.1.after J).Zak hi;have x1:=(F.1.after J).c1;have af:=U.2.2.2.1;have R6:=ZI J;clear ai aq J)|(go_at_call 97;refine(Et s (G.ds i) S (nmD key) en _ (F.2.after R6.o) cj Z.1 Z.2.2.1 (by have:=Z.2.2.2.1;omega)).mono ?_;rintro e7 w7 ⟨v7,rfl, -,J⟩;have R7:=ZI (R6.o.trans (J.mono R6.o.size));clear J cr ct x1 af)|(go_at_call 100;have bj:=C.1.after R7.o;first|(refine(LI G.s G.ms (G.xs i) s V.k V.m i G.cap G.n key v _ cz Qw hi dq.symm hv cu bj.Zaa.c0 bj.Zaa.c2 (bj.Zak hi) ((F.1.after R7.o).c1) (FC (F.4.after R7.o) (F.2.after R7.o) U.2.1 Z.2.1 F.3 cj (by simp[nmD];omega) (DE (m:=V.m) (i:=i) (key:=key) cz hv).2 Z.2.2.2.2)).mono ?_;rintro e8 w8 ⟨rfl,bq⟩;have R8:=ZI (R7.o.trans (bq.mono R7.o.size));clear bq bj)|(refine(RQ G.s G.ms (G.xs i) s i G.cap G.n key _ _ hi cu bj.Zaa.c2 (bj.Zak hi) ((F.1.after R7.o).c1) (Lp (F.4.after R7.o) (F.2.after R7.o) U.2.1 Z.2.1 F.3 cj (Zy Z.2.2.2.2))).mono ?_;rintro e8 w8 ⟨b8,rfl, -,bq⟩;have R8:=ZI (R7.o.trans (bq.mono R7.o.size));clear bq bj))|(go_at_call 31;refine(Ff _ _ Qz _).mono ?_;rintro e w9 ⟨b9,rfl,aw, -,au⟩;have R9:=ZM aw au;clear aw au));go_ret
    .exact⟨_,rfl,AK.of (R9.1.base (Zq C.2.2.size R8.o.size)) Qz,QH.after (QH.after ⟨M,C.o⟩ R8.o) R9.2⟩
    .exact⟨_,rfl,AK.of (QK.nil _ _) Qz,QH.after ⟨M,C.o⟩ R8.o⟩
end
section
open Go.RowKit Go.Shelf
def Z7e{w w':Qs}{g cap:Nat}{x:Qq}{r:List Qq}{sp:Qk}(h:Row w g 9 (QR (x::r)++sp))(hc:r.length+1<=cap)(hb:Below w w w'):Yd w' (if cap=1 then some ⟨g,0,none⟩ else some ⟨g,1,none⟩) r/\∀a o,(if cap=1 then some (⟨g,0,none⟩:Addr) else some ⟨g,1,none⟩)=some ⟨a,o,none⟩->a<w'.heap.size:=by
 have C:g<w':=Zp h.lt hb.size;refine⟨λj F=> ?_,λa o e=> ?_⟩
 .rw[Zw Qw];refine⟨g,1,rfl,((h.after hb).cell (j:=1+j) ?_)⟩;rw[Za (by simp[So];omega),Zfk];simp[QR,F]
 .split at e<;>(cases e;exact C)
def Z5d(b i g:Nat)(γ:Int)(sv:Qt)(w:Qs)(c3:w.cell? ⟨b,3,none⟩=(g:Int))(Z:g<=1000000000)(F:γ≠g)(J:γ≠g-1∨γ<0):Calls prog 64 #[b,(i:Int),sv,.int .i64 γ] w λe w'=>e=.returned (.tuple #[false,.nilIface])/\Below w w w':=by
 have e1:(γ==(g:Int))=false:=by rw[Zeh];exact F
 have e2:IntKind.i64.wrap ((g:Int)-1)=(g:Int)-1:=Zr _ Qw;by_cases C:γ=g-1
 .have O:γ<0:=J.resolve_left (λh=>h C);have U:decide (γ<0)=true:=by simpa using O
  have M:(γ !=(g:Int)-1)=false:=by simp[C]
  clear F J C;go_enter func64,ntmps64;go_wp2;go_quiet (fail);go_wp2;go_ret2;exact⟨rfl,YE (Zu _ _) _⟩
 .have M:(γ !=(g:Int)-1)=true:=by simp[C]
  clear F J C;go_enter func64,ntmps64;go_wp2;go_quiet (fail);go_wp2;go_ret2;exact⟨rfl,YE (Zu _ _) _⟩
def Z5c(b s i g:Nat)(gone:List Bs)(w:Qs)(bq:g+1<=1000000000)(bu:gone.length<=1000)(c3:w.cell? ⟨b,3,none⟩=((g+1:Nat):Int))(U:∀x:Qs,(x.cell? ⟨b,3,none⟩=((g+1:Nat):Int)/\Below w w x)->Calls prog 63 #[b,s,.string ⟨#[110]⟩,(i:Int)] x λe Z=>e=.returned ((g+1:Nat):Int)/\Below x x Z)(ag:∀x:Qs,Below w w x->Calls prog 110 #[s,.string ⟨#[116]⟩,.string ⟨#[116]⟩] x λe Z=>∃a cap,e=.returned (.tuple #[.slice a (gone.length+1) cap,.nilIface])/\Z.ownsRow x 9 1 (.slice a (gone.length+1) cap) (gone.length+1) (QR ((QI (g+1)::gone).map str))/\Below x x Z){R:Qt->Qs->Prop}(ae:∀ (x:Qs) (gv:Qt),Below w w x->(∃a cap,gv=.slice a gone.length cap/\Yd x a (gone.map str)/\∀g o,a=some ⟨g,o,none⟩->g<x.heap.size)->Calls prog 41 #[s,gv] x λe w'=>∃ev,e=.returned ev/\R ev w'):Calls prog 64 #[b,(i:Int),s,(g:Int)] w λe w'=>∃ev,e=.returned (.tuple #[true,ev])/\R ev w':=by
 have aj:Ww (s32 (g+1)).data.toList=g+1:=by have h9:=Hy (g+1) [];rw[Zdg] at h9;have e9:(s32 (g+1)).data.toList=QI (g+1):=rfl;rw[e9,h9];omega
 have ak:(s32 (g+1)).size=4:=J9 (g+1);have bf:decide ((g:Int)=((g+1:Nat):Int))=false:=by rw[Zfg];omega
 have bg:IntKind.i64.wrap (((g+1:Nat):Int)-1)=(g:Int):=by rw[Zr _ Qw];omega
 have cn:decide ((g:Int)<0)=false:=Qx;obtain⟨q,hq⟩:∃q:Int,((g+1:Nat):Int)=q:=⟨_,rfl⟩;have aw:((g:Int)==((g+1:Nat):Int))=false:=by rw[Zeh];omega
 simp only[hq] at c3 U bf bg aw;have U:=ZI U;have ag:=ZI ag;have ae:=ZI ae;have HQ:=ZX hq aj ak;clear hq aj ak;go_enter func64,ntmps64;have h:∀A C:Qs,(A.cell? ⟨b,3,none⟩=(q:Int)/\Below w w A)->Below A A C->(C.cell? ⟨b,3,none⟩=(q:Int)/\Below w w C):=by rintro A C ⟨M,O⟩ hb;exact⟨(hb.cell (Z9 A _ M)).trans M,O.trans (hb.mono O.size)⟩
 have hs0:=h w w.drew ⟨c3,Zu _ _⟩ ((Zu _ _).drew);have F:=ZI h;clear h;go_wp2;go_region_held3 (λx=>x.cell? ⟨b,3,none⟩=(q:Int)/\Below w w x) (first|exact hs0|(exact F.o _ _ (by assumption) ((Zu _ _).alloc (Zt _) _))|(exact F.o _ _ (by assumption) (by assumption)))
  (first|(go_at_call 63;refine(U.o _ (by assumption)).mono ?_;rintro e w8 ⟨rfl,bh⟩))
 rename_i hHeld;obtain⟨h3,J⟩:=hHeld;clear hs0 F;go_wp2_with (go_at_call 110;refine(ag.o _ J).mono ?_;rintro e w1 ⟨a,cap,rfl,ah,af⟩;obtain⟨gl,au,sp,hv,az,ay,bm,hr⟩:=Xa ah Qw;injection hv with hv1 hv2 aq;subst hv1;have S9:gone.length+1<=cap:=(by cases aq;exact ay);have S1:=ZX hr (J.trans (af.mono J.size)) ah;have d3:w1.cell? ⟨b,3,none⟩=(q:Int):=(af.cell (Z9 _ _ h3)).trans h3;clear ah af hr aq);have d0:w1.cell? gl=some (.string (s32 (g+1))):=S1.1.c0;have h:∀A C:Qs,(A.cell? ⟨b,3,none⟩=(q:Int)/\A.cell? gl=some (.string (s32 (g+1)))/\Below w1 w1 A)->Below A A C->(C.cell? ⟨b,3,none⟩=(q:Int)/\C.cell? gl=some (.string (s32 (g+1)))/\Below w1 w1 C):=by rintro A C ⟨M,h1,O⟩ hb;exact⟨(hb.cell (Z9 A _ M)).trans M,(hb.cell (Z9 A _ h1)).trans h1,O.trans (hb.mono O.size)⟩
 have hs0:=h w1 w1.drew ⟨d3,d0,Zu _ _⟩ ((Zu _ _).drew);have F:=ZI h;have bz:¬ ((gone.length:Int)+1<1):=Qw;have cj:(0:Int)<((gone.length+1:Nat):Int):=Qw;clear h h3 J;go_wp2;go_region_held3 (λx=>x.cell? ⟨b,3,none⟩=(q:Int)/\x.cell? gl=some (.string (s32 (g+1)))/\Below w1 w1 x) (first|exact hs0|(exact F.o _ _ (by assumption) ((Zu _ _).alloc (Zt _) _))|(exact F.o _ _ (by assumption) (by assumption)))
  (first|(go_at_call 111;refine(Ks (s32 (g+1)) HQ.3 _).mono ?_;rw[HQ.2,HQ.1];rintro e w9 ⟨rfl,bj⟩))
 rename_i hHeld;obtain⟨-, -,J⟩:=hHeld;have ai:=ZI J;clear J hs0 F;go_wp2_with (go_at_call 41;obtain⟨x1,x2⟩:=Z7e (r:=gone.map str) S1.1 (by simpa using S9) ai.o;refine(ae.o _ _ (S1.2.trans (ai.o.mono S1.2.size)) ⟨_,_,rfl,x1,x2⟩).mono ?_;rintro e w' ⟨ev,rfl,hR⟩;have HR:=ZI hR;clear hR x1 x2)
 all_goals go_ret2
 all_goals exact⟨ev,rfl,HR.o⟩
