/- Part 10: lemmas. -/
import Derived.Test.YthppfllkocphbaaGreatDoorV05
import Derived.Test.YthppfllkocphbaaGreatDoorV08
namespace Go.Proofs.YthppfllkocphbaaGreatDoor
set_option linter.all false
set_option maxHeartbeats 25600000
set_option maxRecDepth 100000
open Tryz Go.RowKit
open Go renaming World->Qs,Value->Qt,TypeId->Qu,Ending->Qv
open Go.Shelf
variable{i n:Nat}
attribute [local go_sem] ZgX
def KW(n:Nat)(h:n<=4294967295)(w:Qs):Calls prog 183 #[(n:Int)] w λe w'=>e=.returned (.string (s32 n))/\Below w w w':=by go_enter func183,ntmps183;go_wp2_with (go_at_call 125;go_fit (LG n h _);rintro e w' ⟨rfl,hb⟩);go_ret;simp_all
def Ir(g:Nat)(c:Nat)(l:List Bs)(sp:Qk)(w:Qs)(h:Row w g 9 (QS (l.map str)++sp))(J:(Y8 l).length<=60000):Calls prog 184 #[.slice g l.length c] w λe w'=>e=.returned (.string (str (Al l)))/\Below w w w':=by
 have O:(str (Y8 l)).size<=100000000:=by rw[QW];omega
 go_enter func184,ntmps184;go_wp2_with (first|(go_at_call 126;go_fit (Fq g c l sp _ h J);rintro e w1 ⟨rfl,C⟩;have S1:=ZI C;clear C)|(go_at_call 239;go_fit (Z7t (str (Y8 l)) _ O);rintro e w2 ⟨rfl,F⟩;have M:=ZI (S1.o.trans (F.mono S1.o.size));clear F));go_ret;exact⟨rfl,M.o⟩
def Z2L(n:Nat)(h:n<=10000)(w:Qs):Calls prog 219 #[(n:Int)] w λe w'=>e=.returned ((36+n+32*YU n:Nat):Int)/\w=w':=by go_enter func219,ntmps219;go_wp2;go_ret;exact⟨A7 (by unfold YU;omega),rfl⟩
def NP(n:Nat)(w:Qs):Calls prog 185 #[(n:Int)] w λe w'=>e=.returned (.func (.func 240) #[] #[.pointer w.heap.size])/\w'=w.alloc (.cells #[(n:Int)] 3):=by go_enter func185,ntmps185;go_wp2;go_ret;simp
abbrev Bk(n:Nat):={i:Nat // i<YU n}
def bAt(i:Nat):Nat:=200*i
def bSe(i:Nat):Nat:=36+232*i
def bSz(n i:Nat):Nat:=min 200 (n-200*i)
def E5(n:Nat)(i:Bk n):Array Qt:= #[.int .i64 (i.1:Int),.agg #[(bAt i.1:Int),(bSe i.1:Int),(bSz n i.1:Int)]]
def GD(h:i<YU n):200*i<n:=by unfold YU at h;omega
def VP(h:¬i<YU n):n<=200*i:=by unfold YU at h;omega
def NO(n Bn:Nat)(len:Nat)(w:Qs)(hb:Row w Bn 3 [(len:Int)])(hl:len<=20000)(hn:1<=n):Nl 278 n prog 240 #[Bn] (E5 len) W5 (λxs=>xs.map (·.1)=List.range (YU len)) (YU len) w:=λl J W hW hJ bq hY h0=>by
 refine callsIn_of_wp func240 rfl trivial ?_ rfl;simp only[ntmps240,Zex,Ze,Zes,Nat.reduceAdd,Nat.reduceSub,Zgb,Zgc,Zgz,Zgk,Ze3,Zef];have bu:=hb.after hW;have bj:J [] (W.alloc (.cells #[(0:Int),(36:Int),(0:Int)] 278)):=hJ [] W _ none h0 (World.grownBy_alloc W _ none) Qx;have ct:=Z2 W 278 [.int .i64 0,.int .i64 36,.int .i64 0];have bz:=bu.alloc (.cells #[(0:Int),(36:Int),(0:Int)] 278);have HB:=ZN bj ct bz;have az:=ZI bq;have HY:=ZI hY;clear hb bu bj ct bz hJ bq hY h0;gi_wp2;obtain⟨b0,aw⟩:=ZK W.heap.size;rw[aw] at HB⊢;generalize W.alloc (.cells #[(0:Int),(36:Int),(0:Int)] 278)=W1 at*
 gi_loopw [4] (λiv wr=>∃ (i:Nat) (pre:List (Bk len)) (sz:Nat),i<=YU len/\iv=(i:Int)/\pre.map (·.1)=List.range i/\Row wr b0 278 [((min (200*i) len:Nat):Int),((36+(min (200*i) len+32*i):Nat):Int),(sz:Int)]/\Row wr Bn 3 [(len:Int)]/\J pre wr) (λiv wr=>YU len- (intOf iv).toNat)
 .exact⟨0,[],0,Qw,rfl,rfl,by simpa using HB.2.1,HB.2.2,HB.1⟩
 obtain⟨i,pre,sz,hi,rfl,af,h,U,hj⟩:=hrel;by_cases M:i<YU len
 .have cu:=GD M;have bg:min (200*i) len=200*i:=ZeN (ZeK cu);rw[bg] at h;obtain⟨at_,ah⟩:=ZK (200*i);obtain⟨Z,ay⟩:=ZK (36+(200*i+32*i));rw[ay,ah] at h;have ae:pre.length=i:=by have:=ZF List.length af;simpa using this
  obtain⟨z,hz⟩:=ZK (min 200 (len-200*i));have df:min (200:Int) ((len:Int)- (at_:Int))=(z:Int):=Qw;have de:=Zr ((len:Int)- (at_:Int)) Qw;have ai:decide ((at_:Int)<(len:Int))=true:=Zem Qw;have c0:=h.c0;have c1:=h.c1;have c2:=h.c2;have f2:=h.free (j:=2) Qx;have n0:=U.c0;have ag:=h.set 2 (.int .i64 (z:Int));have bh:Bn≠b0:=Row.ne U h Qz;have ak:=U.other (p:=⟨b0,2,none⟩) bh (.int .i64 (z:Int));have cn:=az.o pre wr ⟨b0,2,none⟩ (.int .i64 (z:Int)) _ hj (ZeX aw) h;obtain⟨fn,tmps,assign,body,hy,hR⟩:=HY.o pre ⟨i,M⟩ _ cn (by rw[ae];exact M);unfold E5 at hy;rw[show bSz len (⟨i,M⟩:Bk len).1=z from hz,show bSe (⟨i,M⟩:Bk len).1=Z from by rw[<-ay];show 36+232*i=_;omega,show bAt (⟨i,M⟩:Bk len).1=at_ from ah] at hy;have y0:=ag.c0;have y1:=ag.c1;have y2:=ag.c2;have F:=ZQ ag ak af ae ah ay;clear h U hj cn ag ak af ae ay;gi_wp2;refine hR.mono ?_;rintro e W3 ⟨rfl,bm,bf⟩;have C:=bf _ _ _ Qz Qz F.1;have aq:=bf _ _ _ Qz Qz F.2.1;have dw:=C.c0;have z31:=C.c1;have z32:=C.c2;have dh:=C.free (j:=0) Qx;have dj:=C.free (j:=1) Qx;obtain⟨a2,dm⟩:=ZK (at_+z);obtain⟨z2,dt⟩:=ZK (z+32);obtain⟨O,cy⟩:=ZK (Z+z2);have aj:=(C.set 0 (.int .i64 (a2:Int))).set 1 (.int .i64 (O:Int));have au:=(aq.other (p:=⟨b0,0,none⟩) bh (.int .i64 (a2:Int))).other (p:=⟨b0,1,none⟩) bh (.int .i64 (O:Int));have cr:=az.o _ _ ⟨b0,1,none⟩ (.int .i64 (O:Int)) _ (az.o _ W3 ⟨b0,0,none⟩ (.int .i64 (a2:Int)) _ bm (ZeX aw) C) (ZeX aw) (C.set 0 (.int .i64 (a2:Int)));have H4:=ZX aj au cr;have s1:(at_:Int)+(z:Int)=(a2:Int):=Qw;have s2:(z:Int)+32=(z2:Int):=Qw;have s3:(Z:Int)+(z2:Int)=(O:Int):=Qw;have du:z<=200:=Qw;have dp:at_<=20000:=by have:=F.2.2.2.2.1;omega
  have dq:i<=20000:=Qw;have cz:Z<=30000:=by have:=F.2.2.2.2.2;omega
  clear C aq bm aj au cr bf hy hR c0 c1 c2 f2 n0 y0 y1 y2 ai de df;gi_wp2;go_roundw
  .obtain⟨q1,q2,q3,q4,q5,q6⟩:=F.o;refine⟨i+1,pre++[⟨i,M⟩],z,Qw,QC,by rw[Zo,q3,ZdX];rfl,?_,H4.2,H4.3⟩;have h9:=H4.1;have e1:min (200*(i+1)) len=a2:=Qw;have e2:36+(min (200*(i+1)) len+32*(i+1))=O:=Qw;rw[e2,e1];exact h9
  simp[intOf];omega
 .have cw:=VP M;have bg:min (200*i) len=len:=ZgL cw;rw[bg] at h;have c0:=h.c0;have n0:=U.c0;have ai:decide ((len:Int)<(len:Int))=false:=ZC Qw;have cj:i=YU len:=Qw;have F:=ZN af hj cj;clear h U hj af cj;gi_wp2;go_end0;exact⟨⟨_,rfl⟩,pre,F.1.trans (ZF List.range F.2.2),F.2.1⟩
variable{a b:World}
def NC(w w':Qs):Prop:=∀ (k:Nat) (o:Obj),w.heap[k]? =some o->o.isCells=false->w'.heap[k]? =some o
def NC.set{w:Qs}{b j:Nat}{cs:Array Qt}{e:Qu}{fr:Nat×Nat}{v:Qt}(hb:w.heap[b]? =some (.cells cs e fr)):NC w (w.setCell ⟨b,j,none⟩ v):=λk o h J=>by
 rw[ZfJ w ⟨b,j,none⟩ v k (λF=>by
  have C:k=b:=F;subst C;rw[hb] at h;cases h
  simp[Obj.isCells] at J)]
 omega
def NC.trans{c:Qs}(h:NC a b)(k:NC b c):NC a c:=λi o hi C=>k i o (h i o hi C) C
def NC.below(h:Below a a b):NC a b:=λi o hi C=>(h.block i (ZdE.1 hi).1).trans hi
def VB(B b:Nat)(bs:Qk)(w:Qs)(h:Lib.IsBuilder 258 5 B b bs w):Calls prog 229 #[b] w λe w'=>e=.returned (.tuple #[])/\(Lib.BuilderAt 258 5 B b (.pointer b) bs w'/\Below B w w'/\W5 w w'/\NC w w'):=by
 rcases h with h|h
 .go_fit (K4 b w h.cell0 h.shape h.frozen0);rintro e w' ⟨rfl,rfl⟩;refine⟨rfl,h.used _,(Zu B w).setCell (p:=⟨b,0,none⟩) h.1 _,λg J l M U C=>C.other (λe=>M ?_) _,λk o F O=> ?_⟩
  .have⟨_,v,hb,_⟩:=h;exact Xr C (by rw[e];exact Row.mk (l:=[_,_]) hb)
  .have⟨_,v,hb,_⟩:=h;exact NC.set hb k o F O
 .go_fit (K5 b w h.cell0);rintro e w' ⟨rfl,rfl⟩;exact⟨rfl,h,Zu B _,λg J l _ _ C=>C,λk o F _=>F⟩
def Z00(B b:Nat)(bs:Qk)(s:Qq)(w:Qs)(h:Lib.IsBuilder 258 5 B b bs w)(hlen:bs.length+s.size<=140737488355328)(az:B<=w):Calls prog 164 #[b,.string s] w λe w'=>e=.returned (.tuple #[(s.size:Int),.nilIface])/\(Lib.BuilderAt 258 5 B b (.pointer b) (bs++Lib.strCells s) w'/\Below B w w'/\W5 w w'/\NC w w'):=by
 have⟨i0,hi,au,aw,ay⟩:=ZE Be;go_enter func164,ntmps164;go_wp2_with (go_at_call 229;refine(VB B b bs _ h).mono ?_);rintro e w1 ⟨rfl,O,af,Z⟩;have ah:=ZI Z.1;have ai:=ZI Z.2;clear Z;have⟨hB,v,ag,M,aq⟩:=O;have:w1.cell? b=b:=by rw[ZeQ ag];rfl
 have:w1.cell? ⟨b,1,none⟩=some v:=by rw[ZeQ ag];rfl
 go_wp2_with (at_builtin;refine ZeV _ rfl _ _ 75 9 rfl B 5 i0 underlying75 underlying9 hi au aw ay _ _ _ rfl M s rfl ?c3 ?c4 ?c5 ?_)
 case c3=>unfold maxLen;omega
 case c4=>omega
 case c5=>have:=af.size;omega
 intro v' w2 ae J _;have ak:b<w1:=QA;have C:w2.heap[b]? =some (.cells #[b,v] 258 (0,0)):=by rw[J.block b ak (λe=>aq e.symm)];omega
 have:w2.cell? b=b:=by rw[ZeQ C];rfl
 have:w2.cell? ⟨b,1,none⟩=some v:=by rw[ZeQ C];rfl
 have:w2.frozen? ⟨b,1,none⟩=false:=Zgo C 1;obtain⟨ao,n',cap,rfl⟩:∃ao n' cap,v'=.slice ao n' cap:=by
  rcases ae.2 with ⟨hv,_⟩|⟨g,cap,cur,hv,_⟩
  .simp_all
  .simp_all
 go_wp2;go_ret2;refine⟨rfl,?_,?_,?_,?_⟩
 .exact Zgx (T:=258) (e:=5) hB C (bs':=bs++Lib.strCells s) (by simpa[Zgi] using ae) Qx
 .exact(af.grown J Qw (λk hk=>(M.lt k hk).1)).setCell (p:=⟨b,1,none⟩) hB _
 .intro g et l O h2 hr;have F:=ah.o g et l O h2 hr;have U:Row w2 g et l:=Ez F J (DC F M h2);exact U.other (λe=>O (Xr U (by rw[e];exact Row.mk (l:=[_,_]) C))) _
 .intro k o hk ho;have F:=ai.o k o hk ho;have aj:k<w1:=QA
  have U:w2.heap[k]? =some o:=(J.block k aj (λe=>by
   rcases M.2 with ⟨hv,_⟩|⟨g,cap,cur,hv,_,hh,_⟩
   .rw[hv] at e;cases e
   .rw[hv] at e;simp[Value.ownBlock,ZdC] at e;subst e;rw[hh] at F;cases F
    simp[Obj.isCells] at ho)).trans F
  exact NC.set C k o U ho
def NV(B b:Nat)(l:Ql)(s:Qq)(w:Qs)(h:Bld w B b l)(hlen:l.length+s.size<=140737488355328)(C:B<=w):Calls prog 164 #[b,.string s] w λe w'=>e=.returned (.tuple #[(s.size:Int),.nilIface])/\Bld w' B b (l++s.data.toList)/\Below B w w'/\W5 w w'/\NC w w':=by
 go_fit (Z00 B b _ s w h (by simpa[Lib.byteCells] using hlen) C);rintro e w' ⟨rfl,hw,hb,F⟩;refine⟨rfl,Zy ?_,hb,F⟩;have:Lib.byteCells l++Lib.strCells s=Lib.byteCells (l++s.data.toList):=by simp[Lib.byteCells,Lib.strCells]
 simp_all
def NT(B b:Nat)(l:Ql)(w:Qs)(h:Bld w B b l)(J:B<=w):Calls prog 165 #[b] w λe w'=>e=.returned (.string ⟨l.toArray⟩)/\Below B w w'/\(∀ (k:Nat) (o:Obj),w.heap[k]? =some o->k≠b->o.isCells=false->w'.heap[k]? =some o):=by go_fit (Any.Builder_String_any_k Tryz.lays169 Tryz.Builder_Extra_169 B b l w (Lib.IsBuilderF.of h) J);rintro e w' ⟨he,_,hb,U⟩;exact⟨he,hb,λk o M O F=>U k o M (λC=>O (ZdZ C)) (λc Z C=>by rw[C] at F;simp[Obj.isCells] at F)⟩
variable{P:Program}{Q:Exit->Act->World->Prop}{l:Nat}{ops:Array Oper}
def Z8A{md:Region.Mode}(O:∀ (i:Nat) (o:Oper),ops[i]? =some o->∀c,o.op≠.defer c):∀ (fuel:Nat) (J:Array Bool) (a:Act) (w:Qs),wpAnyIn Fence.wide n P md ops Q fuel J a w->wpAnyIn (Fence.wide.inRound l) n P md ops Q fuel J a w:=by
 intro fuel
 induction fuel with
 |zero=>intro J a w h;exact h
 |succ fuel ih=>
  intro J a w h;refine⟨h.1,λi hi=> ?_⟩;have hh:=h.2 i hi;unfold wpOpIn at hh⊢;cases M:ops[i]? with
  |none=>rw[M] at hh;exact ih _ _ _ hh
  |some o=>
   rw[M] at hh;simp only at hh⊢;split
   .rename_i hw;rw[Zx hw] at hh;refine⟨hh.1,?_⟩;have C:=hh.2;rw[Oper.semAt_eq _ _ _ (O i o M)] at C⊢;generalize (execOp a.eval o).run P w=r at*
    cases r with
    |ok x w'=>
     cases x<;>simp[Oper.uponIn] at C⊢<;>
      first
       |exact ih _ _ _ C
       |exact⟨C.1,CallsIn.mono (CallsIn.inRound l C.2) (λe U he=>by cases e<;>first|exact ih _ _ _ he|exact he)⟩
       |exact⟨C.1,RowsIn.mono (F:=Fence.wide.inRound l) C.2 (λ_ _ he=>ih _ _ _ he)⟩
       |exact⟨C.1,RoundIn.mono (F:=Fence.wide.inRound l) C.2 (λe U he=>by cases e<;>first|exact ih _ _ _ he|exact he)⟩
    |halt x w'=>cases x<;>simp[Oper.uponIn] at C⊢<;>exact C
   .simp_all
def Hy(o:Oper):Bool:=match o.op with
 |.defer _=>false
 |_=>true
def Z4o(h:ops.all Hy=true):∀ (i:Nat) (o:Oper),ops[i]? =some o->∀c,o.op≠.defer c:=by intro i o F c hc;have C:=Array.all_eq_true.1 h i (ZdE.1 F).1;rw[(ZdE.1 F).2] at C;unfold Hy at C;simp_all
def Sv{id:Nat}{a:Act}{w:Qs}(hm:P.follows .mixedOrders=true)(C:ops.all Hy=true)(h:wpAnyIn Fence.wide n P .any ops Q ops.size (Array.replicate ops.size false) a w.drew):(Code.region id ops true).wpIn (Fence.wide.inRound l) n P Q a w:=wpIn_region_any hm (Z8A (Z4o C) _ _ _ _ h)
variable{w:World}
def Z61{row:String}{args:Array Qt}{R:Qt->Qs->Prop}(h:Rows P row args w R):RowsIn Fence.wide n P row args w R:=λc cs _=>let ⟨v,w',r,s⟩:=h c cs;⟨v,w',r,stepsIn_wide.2 s⟩
def Z8B{md:Region.Mode}(hl:¬LetsOut Q):∀ (fuel:Nat) (F:Array Bool) (a:Act) (w:Qs),wpAny P md ops Q fuel F a w->wpAnyIn Fence.wide n P md ops Q fuel F a w:=by
 intro fuel
 induction fuel with
 |zero=>intro F a w h;exact h
 |succ fuel ih=>
  intro F a w h;refine⟨h.1,λi hi=> ?_⟩;have hh:=h.2 i hi;unfold wpOp at hh;unfold wpOpIn;cases J:ops[i]? with
  |none=>rw[J] at hh;exact ih _ _ _ hh
  |some o=>
   rw[J] at hh;simp only at hh⊢;split
   .rename_i hw;rw[Zx hw] at hh;have C:=hh.resolve_right (λh=>hl h.2);refine⟨λ_ _=>trivial,?_⟩;have e0:o.semAt (Fence.wide).round a.eval=execOp a.eval o:=rfl;rw[e0];unfold Oper.wp at C;generalize (execOp a.eval o).run P w=r at*
    cases r with
    |ok x w'=>
     cases x<;>simp[Oper.upon] at C<;>simp[Oper.uponIn]<;>
      first
       |exact ih _ _ _ C
       |exact⟨λh=>(Bool.noConfusion h),ZfF.2 (Calls.mono C (λe M he=>by cases e<;>first|exact ih _ _ _ he|exact he))⟩
       |exact⟨λh=>(Bool.noConfusion h),Z61 (Rows.mono C (λ_ _ he=>ih _ _ _ he))⟩
    |halt x w'=>cases x<;>simp[Oper.upon] at C<;>simp[Oper.uponIn]<;>exact C
   .rename_i hw;rw[Zw hw] at hh;exact⟨λ_ _=>trivial,ih _ _ _ hh⟩
def Z5E{S:Qs->Prop}{id:Nat}{a:Act}(hl:¬LetsOut Q)(hm:P.follows .mixedOrders=true)(C:ops.all Hy=true)(F:S w.drew)(h:S w.drew->wpAnyH P .any ops Q S ops.size (Array.replicate ops.size false) a w.drew):(Code.region id ops true).wpIn (Fence.wide.inRound l) n P Q a w:=Sv hm C (Z8B hl _ _ _ _ (wpAny_of_held _ _ _ _ (h F)))
variable{W:World}{b6 bb bn bt:Nat}{n name text:ByteArray}{out:List UInt8}
attribute [local go_sem] ZgX
def Row.nc{h:Qs}{row:Option Nat}{g:Nat}{e:Qu}{l:Qk}(C:Row W g e l)(J:W.grownBy h row)(M:∀r,row=some r->∃o:Obj,W.heap[r]? =some o/\o.isCells=false):Row h g e l:=
 Ez C J (λF=>by
  have⟨o,O,hc⟩:=M g F;have⟨f,hh,_⟩:=C;rw[O] at hh;cases hh
  simp[Obj.isCells] at hc)
def Bld.Zc6{w':Qs}{B b:Nat}{l:Ql}(h:Bld w B b l){L:Qj}(M:Fr L w w')(J:∀i∈L,∀cs e fr,w.heap[i]? =some (.cells cs e fr)->e≠258/\e≠5):Bld w' B b l:=by
 have k:∀p,Lib.BuilderAt 258 5 B b p (Lib.byteCells l) w->Lib.BuilderAt 258 5 B b p (Lib.byteCells l) w':=by
  rintro p ⟨hB,v,hb,F,U⟩;have O:b<w:=(ZdE.1 hb).1;refine⟨hB,v,(M.block b O (λhm=>(J b hm _ _ _ hb).1 rfl)).trans hb,Xy F M (λg C hm=> ?_),U⟩;rcases F.2 with ⟨hv,_⟩|⟨Z,cap,cur,hv,_,hh,_⟩
  .rw[hv] at C;cases C
  .rw[hv] at C;simp[Value.ownBlock,ZdC] at C;subst C;exact(J _ hm _ _ _ hh).2 rfl
 exact h.imp (k _) (k _)
structure SlS(w:Qs)(bn bt b6 bb:Nat)(name text n:Qq)(out:Ql)(W:Qs):Prop where
 rn:Row W bn 9 [.string name]
 rt:Row W bt 9 [.string text]
 r6:Row W b6 9 [.string n]
 bld:Bld W bb bb out
 bel:Below w w W
 lo:w<=bb
 hi:bb<W
def SlS.after(h:SlS w bn bt b6 bb name text n out W){C:Qs}(hb:Below W W C):SlS w bn bt b6 bb name text n out C:=⟨h.rn.after hb,h.rt.after hb,h.r6.after hb,h.bld.after hb,h.bel.trans (hb.mono h.bel.size),h.lo,Zp h.hi hb.size⟩
def SlS.wrote(h:SlS w bn bt b6 bb name text n out W){C:Qs}{J:Ql}(hw:Bld C bb bb J)(hb:Below bb W C)(F:W5 W C):SlS w bn bt b6 bb name text n J C:=⟨F _ _ _ Qz Qz h.rn,F _ _ _ Qz Qz h.rt,F _ _ _ Qz Qz h.r6,hw,h.bel.trans (hb.mono h.lo),h.lo,Zp h.hi hb.size⟩
def SlS.own{α:Type}{F:α->List UInt8}{B:Nat}(hB:w<=B):OwnFrom B (λ(s:α) W=>SlS w bn bt b6 bb name text n (F s) W):=λs A C row hs h O=>by
 have J:∀r,row=some r->∃o:Obj,A.heap[r]? =some o/\o.isCells=false:=λr e=>(O r e).2;have M:Fr row.toList A C:=⟨h.os,h.tape,h.output,h.size,λk U hm=>h.block k U (λe=>hm (by rw[<-e];simp))⟩;refine⟨hs.rn.nc h J,hs.rt.nc h J,hs.r6.nc h J,hs.bld.Zc6 M (λi hi cs e fr hh=> ?_),hs.bel.trans (M.below hs.bel.size (λi hi=> ?_)),hs.lo,Zp hs.hi h.size⟩
 .cases row with
  |none=>simp at hi
  |some r=>simp[Zf6,Z6] at hi;subst hi;have⟨o,Z,hc⟩:=J i rfl;rw[Z] at hh;cases hh;simp[Obj.isCells] at hc
 .cases row with
  |none=>simp at hi
  |some r=>simp[Zf6,Z6] at hi;subst hi;exact Zq hB (O i rfl).1
def Zal{α:Type}{F:α->List UInt8}{B:Nat}(hB:w<=B):AbT 278 B (λ(s:α) W=>SlS w bn bt b6 bb name text n (F s) W):=λs A c v l hs hc J=>by
 have C:∀{g:Nat} {e:Qu} {l':Qk},e≠278->Row A g e l'->g≠c.block:=λhe M O=>by subst O;exact he (Xr M J)
 have U:Fr [c.block] A (A.setCell c v):=(Fr.refl _ _).setCell (Zv Qx) v;refine⟨hs.rn.other (C Qz hs.rn) v,hs.rt.other (C Qz hs.rt) v,hs.r6.other (C Qz hs.r6) v,hs.bld.Zc6 U (λi hi cs e fr hh=> ?_),hs.bel.setCell (Zq hB hc) v,hs.lo,by simpa[World.setCell] using hs.hi⟩;rw[Z6] at hi;subst hi;have⟨f,h,_⟩:=J;rw[hh] at h;simp[ZdC,Obj.cells.injEq] at h;rw[h.2.1];exact⟨Qz,Qz⟩
def MH{K:Act->Qs->Prop}:∀e a w,Exit.then K (λ_ _ _=>False) e a w->Exit.then K Q e a w:=by intro e a w h;cases e<;>first|exact h|exact h.elim
def I2(Q:Exit->Act->Qs->Prop):Exit->Act->Qs->Prop
 |.normal,a,w=>Q .normal a w
 |_,_,_=>False
def RO:∀e a w,I2 Q e a w->Q e a w:=by intro e a w h;cases e<;>first|exact h|exact h.elim
def W5.refl(w:Qs):W5 w w:=λ_ _ _ _ _ h=>h
def W5.trans{c:Qs}(h:W5 a b)(k:W5 b c):W5 a c:=λg e l C F J=>k g e l C F (h g e l C F J)
def W5.below(h:Below a a b):W5 a b:=λg e l F J C=>C.after h
def W5.put(W:Qs)(l:Nat)(o o':Obj)(h:W.heap[l]? =some o)(hc:o.isCells=false):W5 W (W.putObj l o'):=λg e l' J M F=>F.nc (grownBy_putObj' W l o') (λr C=>by cases C;exact⟨o,h,hc⟩)
structure BdS(w:Qs)(bn bt b6 bb:Nat)(name text n:Qq)(out:Ql)(W wr:Qs):Prop where
 sl:SlS w bn bt b6 bb name text n out wr
 kp:W5 W wr
 nc:NC W wr
 sz:W<=wr.heap.size
def BdS.after{wr:Qs}(h:BdS w bn bt b6 bb name text n out W wr){w':Qs}(hb:Below wr wr w'):BdS w bn bt b6 bb name text n out W w':=⟨h.sl.after hb,h.kp.trans (W5.below hb),h.nc.trans (NC.below hb),Zq h.sz hb.size⟩
def Z1L{n:Nat}(name text:Ql)(pre:List (Bk n)):(pre.flatMap λi=>Xk name text i.1).length<=232*pre.length:=by
 induction pre with
 |nil=>simp
 |cons x r ih=>
  rw[Zm,Zb,Ze];have:(Xk name text x.1).length<=232:=by unfold Xk;rw[Zb,Df,DP];omega
  omega
def Z6D(name text:Bs)(w:Qs)(hn:name.length<=220)(ht:text.length<=9000):Calls prog 127 #[name,text] w λe w'=>e=.returned (.tuple #[.string (str (WW name text)),.nilIface])/\Below w w w':=by
 have eh:(str name).size=name.length:=QW name;have eo:(str text).size=text.length:=QW text;obtain⟨N,hN⟩:=ZK (str name);obtain⟨T,hT⟩:=ZK (str text);rw[hN] at eh;rw[hT] at eo;obtain⟨len,hlen⟩:=ZK text.length;rw[hlen] at eo ht;obtain⟨nl,dh⟩:=ZK name.length;rw[dh] at eh hn;have g1:decide ((220:Int)<(nl:Int))=false:=ZC Qw;have g2:decide ((10000:Int)<(len:Int))=false:=ZC Qw;have M:=ZY hN hT hlen dh;rw[hN,hT];clear hN hT hlen dh;refine(ZfF (n:=9)).1 ?_;refine callsIn_of_wp_marks func127 rfl trivial ?_ rfl;simp only[ntmps127,Zex,Ze,Zes,Nat.reduceAdd,Nat.reduceSub,Zgb,Zgc,Zgz,Zgk,Ze3,Zef];refine Zhb.2 ?_;go_wp2_with (go_at_call 183;refine(KW len Qw _).mono ?_;rintro e w3 ⟨rfl,az⟩);have de:Below w w w3:=(((Zu w w).alloc (Zt _) _).alloc Qx _).trans (az.mono (by simp;omega));have fm:w.heap.size+2<=w3.heap.size:=by have:=az.size;simpa using this
 obtain⟨b6,bf⟩:=ZK w3.heap.size;obtain⟨bn,bg⟩:=ZK w.heap.size;have S5:SlS w bn (bn+1) b6 (b6+1) N T (s32 len) [] ((w3.alloc (.cells #[.string (s32 len)] 9)).alloc (.cells #[.pointer none,()] 258)):=by have hA:Below w3 w3 ((w3.alloc (.cells #[.string (s32 len)] 9)).alloc (.cells #[.pointer none,()] 258)):=((Zu _ w3).alloc (Zt _) _).alloc Qx _;have r1:=((Z2 w 9 [.string N]).alloc (.cells #[.string T] 9)).after az;have r2:=(Z2 (w.alloc (.cells #[.string N] 9)) 9 [.string T]).after az;have r3:=(Z2 w3 9 [.string (s32 len)]).alloc (.cells #[.pointer none,()] 258);have r4:=Z9D (w3.alloc (.cells #[.string (s32 len)] 9));rw[show(w3.alloc (.cells #[.string (s32 len)] 9)).heap.size=b6+1 from by simp[bf]] at r4;rw[bf] at r3;rw[bg] at r1;rw[show(w.alloc (.cells #[.string N] 9)).heap.size=bn+1 from by simp[bg]] at r2;exact⟨r1.after hA,r2.after hA,r3,r4,de.trans (hA.mono de.size),Qw,by simp;omega⟩
 have ct:=ZX S5 bg bf;rw[bg,bf];generalize ((w3.alloc (.cells #[.string (s32 len)] 9)).alloc (.cells #[.pointer none,()] 258))=w5 at*
 clear az de fm S5 bg bf;obtain⟨sm,cj⟩:=ZK (Al [name,QI len]);have ah:sm.length=32:=by rw[<-cj];exact DP _
 obtain⟨H,hH⟩:=ZK (s32 len++str sm);have du:H.data.toList=Js name text:=by rw[<-hH,data_append,Ig,Yp,<-cj];unfold Js;rw[M.3]
 have dw:H.size=36:=by rw[<-hH,Zep,Jh,QW,ah]
 have fg:∀W,(Op.stringOp .add (s32 len) (str sm)).run prog W=.ok (.string H) W:=λW=>by rw[<-hH];exact ZdO W _ _ (by rw[Jh,QW,ah];omega)
 have HH:=ZZ cj ah hH du dw;clear cj ah hH du dw;go_cut [] from 22 to 29 (λwx=>SlS w bn (bn+1) b6 (b6+1) N T (s32 len) (Js name text) wx)
 case first=>
  have cu:=ZI (ct.1.after ((Zu w5 w5).drew));have s6:w5.drew.cell? b6=some (.string (s32 len))/\w5.drew.cell? bn=some (.string N):=⟨cu.o.r6.c0,cu.o.rn.c0⟩;have c6:=s6.1;have c2:=s6.2;have dq:w5.cell? b6=some (.string (s32 len)):=c6;have dp:w5.cell? bn=some (.string N):=c2;have l6:b6<w5:=ct.1.r6.lt;have l2:bn<w5:=ct.1.rn.lt;refine Zh8 MH ?_;go_region_with
   (first|(go_at_call 184;refine(Ir _ 2 [name,QI len] [] _ (by have J:=Z2 w5.drew 9 [.string N,.string (s32 len)];rw[<-M.1] at J⊢;exact J) (by rw[Xo,YR,YR];have:=M.4;simp[Yy,Wl];omega)).mono ?_;rw[HH.1];rintro e w8 ⟨rfl,ak⟩;have au:=ZI (cu.o.after (((Zu w5.drew.heap.size w5.drew).alloc (Zt _) _).trans (ak.mono Qx)));have c68:w8.cell? b6=some (.string (s32 len)):=au.o.r6.c0;have s8:w8.cell? b6=some (.string (s32 len))/\w8.cell? bn=some (.string N):=⟨au.o.r6.c0,au.o.rn.c0⟩;clear ak)|(go_at_call 164;refine(NU (b6+1) (b6+1) [] H _ au.o.bld (by rw[HH.5];simp) (ZeK au.o.hi)).mono ?_;rintro e w9 ⟨rfl,er,Z,bj⟩;have cw:=ZI (au.o.wrote er Z bj);have s9:w9.cell? b6=some (.string (s32 len))/\w9.cell? bn=some (.string N):=⟨cw.o.r6.c0,cw.o.rn.c0⟩;clear er Z bj))
  all_goals go_wp2_with fail
  all_goals go_meet
  all_goals (have J:=cw.o;rw[HH.4] at J;exact J)
 have HS:=ZI hcut;have c3:=hcut.rt.c0;clear hcut;go_wp2_with (go_at_call 185;refine(NP len _).mono ?_;rintro e w6 ⟨rfl,fq⟩);have cy:=ZI (HS.o.after ((Zu wc wc).alloc (Zt _) (.cells #[(len:Int)] 3)));have ek:=Z2 wc 3 [.int .i64 (len:Int)];obtain⟨bl,fe⟩:=ZK wc.heap.size;rw[fe] at ek⊢;generalize wc.alloc (.cells #[(len:Int)] 3)=w7 at*
 have hle:w<=w7.heap.size:=cy.o.bel.size
 refine Zhb.1 (Sh (T:=278) (n:=9) Qz (gf:=240) (lb:= #[.pointer bl]) rfl (enters_of func240 Qy rfl)
  (encs:=E5 len) (Kp:=W5) (NO 8 bl len w7 ek Qw Qz) (λh k=>h.trans k) (λW l o o' _ h1 h2 _=>W5.put W l o o' h1 h2) (Zu _ _) (λ_=>rfl)
  (λpre W=>SlS w bn (bn+1) b6 (b6+1) N T (s32 len) (Js name text++pre.flatMap λi=>Xk name text i.1) W)
  (SlS.own (F:=λpre:List (Bk len)=>Js name text++pre.flatMap λi=>Xk name text i.1) hle) (Zal (F:=λpre:List (Bk len)=>Js name text++pre.flatMap λi=>Xk name text i.1) hle) (by simpa using cy.o)
  (λx a' W=>∃bx,Row W bx 278 [(bAt x.1:Int),(bSe x.1:Int),(bSz len x.1:Int)]/\a'={tmps:= #[.string N,.string T,.pointer bn,.pointer (some ⟨bn+1,0,none⟩),.string ⟨#[]⟩,.nilIface,.pointer b6,.pointer (some ⟨b6+1,0,none⟩),.int .i64 (x.1:Int),.pointer (bx:Nat),undef,.string N,.int .i64 (nl:Int),.bool false,.bool false,.string T,.int .i64 (len:Int),.bool false,.bool false,undef,.string T,.int .i64 (len:Int),u22,u23,u24,u25,u26,u27,u28,u29,.string T,.int .i64 (len:Int),.func (.func 240) #[] #[.pointer bl],.int .i64 (x.1:Int),.agg #[(bAt x.1:Int),(bSe x.1:Int),(bSz len x.1:Int)],undef,undef,undef,undef,undef,undef,undef,undef,undef,undef,undef,undef,undef,undef,undef,undef,undef,undef,undef,undef],defers:=[]})
  (λx a' _ X Y row hs hg hr=>by obtain⟨bx,h1,h2⟩:=hs;exact⟨bx,h1.nc hg (λr e=>(hr r e).2),h2⟩)
  ?assign ?body ?done)
 case assign=>rintro l pre x W K hi hK;simp only[E5];gi_wp2;exact hK _ _ ((KeepsOthers.alloc _ _).from _) (W5.below ((Zu _ W).alloc (Zt _) _)) (hi.after ((Zu _ W).alloc (Zt _) _)) ⟨W.heap.size,Z2 W _ [_,_,_],rfl⟩
 case body=>
  rintro l pre x a' W hl hi ⟨bx,df,rfl⟩ hlt;obtain⟨i,ef⟩:=x;have fi:=Z1L name text pre;have fc:YU len<=46:=by unfold YU;omega
  have dm:Js name text++(pre++[(⟨i,ef⟩:Bk len)]).flatMap (λi=>Xk name text i.1)=(Js name text++pre.flatMap λi=>Xk name text i.1)++Xk name text i:=by rw[ZdY,<-Zd];simp
  have dj:(Js name text++pre.flatMap λi=>Xk name text i.1).length<=20000:=by rw[Zb,Ti];omega
  obtain⟨out,aq⟩:=ZK (Js name text++pre.flatMap λi=>Xk name text i.1);rw[aq] at hi dm dj;have fa:=GD ef;obtain⟨at_,af⟩:=ZK (bAt i);obtain⟨z,hz⟩:=ZK (bSz len i);obtain⟨O,fh⟩:=ZK (at_+z);have aj:200*i=at_:=af;have eu:min 200 (len-200*i)=z:=hz;have q1:O<=len:=Qw;have q2:at_<=O:=Qw;have q3:(O:Int)<=(len:Int):=Qw;have q4:(at_:Int)<=(O:Int):=Qw;have q5:(at_:Int)+(z:Int)=(O:Int):=Qw;have q6:at_<=20000:=Qw;have q7:z<=200:=Qw;obtain⟨C,dy⟩:=ZK (T.extract at_ O);have cz:C.data.toList=YP text i:=by
   rw[<-dy,<-M.2,Zet,Yp];unfold YP;rw[aj,show O-at_=z from Qw,<-eu,aj,<-M.3];rcases Nat.le_total 200 (text.length-at_) with J|J
   .rw[ZeN J]
   .rw[ZgL J,Zi (by rw[Zek];omega),Zi (by rw[Zek];omega)]
  have ez:C.size<=200:=by rw[<-dy,ZdU];omega
  have dz:str (YP text i)=C:=by rw[<-cz];exact MA C
  obtain⟨bq,ag⟩:=ZK (Al [name,QI len,QI i,YP text i]);have ae:bq.length=32:=by rw[<-ag];exact DP _
  obtain⟨Hi,bz⟩:=ZK (C++str bq);have aw:out++Hi.data.toList=out++Xk name text i:=by rw[<-bz,data_append,cz,Yp,<-ag];unfold Xk;rw[M.3]
  have ay:Hi.size<=232:=by rw[<-bz,Zep,QW,ae];omega
  have ee:∀W,(Op.stringOp .add C (str bq)).run prog W=.ok (.string Hi) W:=λW=>by rw[<-bz];exact ZdO W _ _ (by rw[QW,ae];omega)
  have fp:i<=100:=Qw;have bm:(Y8 [name,QI len,QI i,YP text i]).length<=60000:=by rw[Xo,YR,YR,YR,YR,Df];have:=M.4;simp[Yy,Wl];omega
  have ai:∀W:Qs,Row (W.alloc (.cells #[.string N,.string (s32 len),.string (s32 i),.string C] 9)) W.heap.size 9 (QS ([name,QI len,QI i,YP text i].map str)++[]):=λW=>by have J:=Z2 W 9 [.string N,.string (s32 len),.string (s32 i),.string C];rw[<-dz,<-M.1] at J⊢;exact J
  have y0:=df.c0;have y2:=df.c2;rw[af] at y0;rw[hz] at y2;have t0:=hi.rt.c0;have B0:BdS w bn (bn+1) b6 (b6+1) N T (s32 len) out W W.drew:=⟨hi.after ((Zu W.heap.size W).drew),W5.below ((Zu W.heap.size W).drew),NC.below ((Zu W.heap.size W).drew),Zt _⟩;have dp:W.cell? bn=some (.string N):=hi.rn.c0;have dq:W.cell? b6=some (.string (s32 len)):=hi.r6.c0;have c2:W.drew.cell? bn=some (.string N):=dp;have c6:W.drew.cell? b6=some (.string (s32 len)):=dq;have cn:=ZI B0;have HO:=Q1 aq dm dj aw ay ag ai;have ey:=ZI bm;have fj:prog.follows .mixedOrders=true:=Qy;rw[af,hz];clear fi dm dj aq fa af hz fh aj eu cz dz ag ae bz aw ay df B0 hi ai bm fc ez;gi_wp2;refine wpIn_mono (Q:=I2 _) ?_ RO;refine Sv fj Qy ?_;refine wpAnyIn_take (i:=0) (v:=.string C) rfl rfl Qy Qy Qy (λ_ _ _ h=>h) ⟨Zv ⟨by rfl,by intro w;go_simp;try with_reducible rfl⟩,λ_=>rfl⟩ ?_;refine wpAnyIn_take (i:=3) (v:=.int .i64 (i:Int)) rfl rfl Qy Qy Qy (λ_ _ _ h=>h) ⟨Zv ⟨by rfl,by intro w;go_simp;try with_reducible rfl⟩,λ_=>rfl⟩ ?_;refine wpAnyIn_take (i:=5) (v:=.string C) rfl rfl Qy Qy Qy (λ_ _ _ h=>h) ⟨Zv ⟨by rfl,by intro w;go_simp;try with_reducible rfl⟩,λ_=>rfl⟩ ?_;refine wpAnyIn_ready (rs:=[1,2,4]) Qy Qx (AllReadyIn.cons rfl (λK hK=> ?ta1) (AllReadyIn.cons rfl (λK hK=> ?ta2) (AllReadyIn.cons rfl (λK hK=> ?ta4) AllReadyIn.nil)))
  case' ta1=>go_simp;refine hK _ _ ?_;clear hK K;refine wpAnyIn_ready (rs:=[2,4]) Qy Qx (AllReadyIn.cons rfl (λK hK=> ?tp) (AllReadyIn.cons rfl (λK hK=> ?tx1) AllReadyIn.nil))
  case' ta2=>go_simp;refine hK _ _ ?_;clear hK K;refine wpAnyIn_ready (rs:=[1,4]) Qy Qx (AllReadyIn.cons rfl (λK hK=> ?tq) (AllReadyIn.cons rfl (λK hK=> ?tx2) AllReadyIn.nil))
  case' tp=>go_simp;refine hK _ _ ?_;clear hK K;refine wpAnyIn_ready (rs:=[4]) Qy Qx (AllReadyIn.cons rfl (λK hK=> ?_) AllReadyIn.nil)
  case' tq=>go_simp;refine hK _ _ ?_;clear hK K;refine wpAnyIn_ready (rs:=[4]) Qy Qx (AllReadyIn.cons rfl (λK hK=> ?_) AllReadyIn.nil)
  case' ta4|tx1|tx2|tp|tq=>go_simp;refine⟨trivial,?_⟩;gi_at_call 183;refine(ZfF.2 (KW i Qw _)).mono ?_;rintro e w8 ⟨rfl,ak⟩;have fo:w8.cell? bn=some (.string N):=((cn.o.after ak).sl.rn).c0;have c68:w8.cell? b6=some (.string (s32 len)):=((cn.o.after ak).sl.r6).c0;have ew:=ZI (cn.o.after ak);clear ak;go_simp;refine hK _ _ ?_;clear hK K
  case' ta4=>refine wpAnyIn_ready (rs:=[1,2]) Qy Qx (AllReadyIn.cons rfl (λK hK=> ?tx3) (AllReadyIn.cons rfl (λK hK=> ?tx4) AllReadyIn.nil))
  case' tx3|tx4=>go_simp;refine hK _ _ ?_;clear hK K
  case' tx1=>refine wpAnyIn_ready (rs:=[2]) Qy Qx (AllReadyIn.cons rfl (λK hK=> ?_) AllReadyIn.nil)
  case' tx3=>refine wpAnyIn_ready (rs:=[2]) Qy Qx (AllReadyIn.cons rfl (λK hK=> ?_) AllReadyIn.nil)
  case' tx2=>refine wpAnyIn_ready (rs:=[1]) Qy Qx (AllReadyIn.cons rfl (λK hK=> ?_) AllReadyIn.nil)
  case' tx4=>refine wpAnyIn_ready (rs:=[1]) Qy Qx (AllReadyIn.cons rfl (λK hK=> ?_) AllReadyIn.nil)
  case' tx1|tx2|tx3|tx4=>go_simp;refine hK _ _ ?_;clear hK K
  all_goals
   refine wpAnyIn_ready (rs:=[6]) Qy Qx (AllReadyIn.cons rfl (λK hK=> ?_) AllReadyIn.nil);go_simp;refine hK _ _ ?_;clear hK K;refine wpAnyIn_ready (rs:=[7]) Qy Qx ?_;refine AllReadyIn.cons rfl (λK hK=> ?_) AllReadyIn.nil;go_simp;refine⟨trivial,?_⟩;gi_at_call 184;refine(ZfF.2 (Ir _ 4 [name,QI len,QI i,YP text i] [] _ (HO.7 w8) ey.o)).mono ?_;rw[HO.6];rintro e w9 ⟨rfl,Z⟩;have U:=ZI (ew.o.after (((Zu w8 w8).alloc (Zt _) _).trans (Z.mono Qx)));clear Z;go_simp;refine hK _ _ ?_;clear hK K;refine wpAnyIn_take (i:=8) (v:=.string Hi) rfl rfl Qy Qy Qy (λ_ _ _ h=>h) ⟨Zv ⟨by rfl,by intro w;go_simp;try with_reducible rfl⟩,λ_=>rfl⟩ ?_;refine wpAnyIn_ready (rs:=[9]) Qy Qx ?_;refine AllReadyIn.cons rfl (λK hK=> ?_) AllReadyIn.nil;go_simp;refine⟨trivial,?_⟩;gi_at_call 164;refine(ZfF.2 (NV (b6+1) (b6+1) out Hi _ U.o.sl.bld (by have h1:=HO.3;have h2:=HO.5;omega) (ZeK U.o.sl.hi))).mono ?_;rintro e ft ⟨rfl,hw,hb,hk,hn⟩;have bu:=ZY (U.o.sl.wrote hw hb hk) (U.o.kp.trans hk) (U.o.nc.trans hn) (Zq U.o.sz hb.size);clear hw hb hk hn;go_simp;refine hK _ _ ?_;clear hK K;refine wpAnyIn_done Qy ?_ _;gi_wp2;exact⟨⟨bu.4,λk o _ hk ho=>bu.3 k o hk ho⟩,bu.2,by show SlS _ _ _ _ _ _ _ _ _ _;rw[HO.2,<-HO.4];exact bu.1⟩
 case done=>
  rintro D xs W hD hS hi hK;have bh:(Js name text++xs.flatMap λi=>Xk name text i.1)=WW name text:=by unfold WW AI;rw[M.3,<-hS,ZgP]
  rw[bh] at hi;have HI:=ZI hi;have dt:D≠b6+1:=by have:=cy.o.hi;omega
  have cr:=ZX dt hD hle;clear hi bh dt hD;go_wp2_with (go_at_call 165;refine(NT (b6+1) (b6+1) _ _ HI.o.bld (ZeK HI.o.hi)).mono ?_;rintro e w9 ⟨rfl,Z,bj⟩;have dx:=bj D _ hK cr.1 rfl;have U:=ZI (HI.o.bel.trans (Z.mono HI.o.lo));clear Z bj hK);refine⟨Qx,.inl ⟨_,_,rfl,run_takeDeferred dx,?_⟩⟩;refine⟨_,results_tmp2 rfl _ _ _,rfl,U.o.trans (belowK_b (w:=w) (Zt _) _ D _ _ (Zq cr.3 cr.2) dx rfl rfl)⟩
variable{b4 b5 bs g:Nat}{e:TypeId}{l:List Value}{sealed:ByteArray}
attribute [local go_sem] ZgX
structure WB(w:Qs)(bn bs b4 b5 b6:Nat)(name sealed n:Qq)(W:Qs):Prop where
 rn:Row W bn 9 [.string name]
 rs:Row W bs 9 [.string sealed]
 r4:Row W b4 9 [.string ⟨#[]⟩]
 r5:Row W b5 31 [.nilIface]
 r6:Row W b6 9 [.string n]
 bel:Below w w W
 ge4:w<=b4
 ge5:w<=b5
def WB.after(h:WB w bn bs b4 b5 b6 name sealed n W){C:Qs}(hb:Below W W C):WB w bn bs b4 b5 b6 name sealed n C:=⟨h.rn.after hb,h.rs.after hb,h.r4.after hb,h.r5.after hb,h.r6.after hb,h.bel.trans (hb.mono h.bel.size),h.ge4,h.ge5⟩
def WB.alloc(h:WB w bn bs b4 b5 b6 name sealed n W)(o:Obj):WB w bn bs b4 b5 b6 name sealed n (W.alloc o):=h.after ((Zu _ W).alloc (Zt _) _)
def WB.drew(h:WB w bn bs b4 b5 b6 name sealed n W):WB w bn bs b4 b5 b6 name sealed n W.drew:=h.after ((Zu _ W).drew)
def WB.c2(h:WB w bn bs b4 b5 b6 name sealed n W):W.cell? bn=some (.string name):=h.rn.c0
def WB.c3(h:WB w bn bs b4 b5 b6 name sealed n W):W.cell? bs=some (.string sealed):=h.rs.c0
def WB.c6(h:WB w bn bs b4 b5 b6 name sealed n W):W.cell? b6=some (.string n):=h.r6.c0
def WB.wrote(h:WB w bn bs b4 b5 b6 name sealed n W){F:Qs}{bb:Nat}(J:w<=bb)(hb:Below bb W F)(C:W5 W F):WB w bn bs b4 b5 b6 name sealed n F:=⟨C _ _ _ Qz Qz h.rn,C _ _ _ Qz Qz h.rs,C _ _ _ Qz Qz h.r4,C _ _ _ Qz Qz h.r5,C _ _ _ Qz Qz h.r6,h.bel.trans (hb.mono J),h.ge4,h.ge5⟩
structure XD(w:Qs)(bn bs b4 b5 b6 bb:Nat)(name sealed n:Qq)(out:Ql)(W:Qs):Prop where
 op:WB w bn bs b4 b5 b6 name sealed n W
 bld:Bld W bb bb out
 lo:w<=bb
 hi:bb<W
def XD.after(h:XD w bn bs b4 b5 b6 bb name sealed n out W){C:Qs}(hb:Below W W C):XD w bn bs b4 b5 b6 bb name sealed n out C:=⟨h.op.after hb,h.bld.after hb,h.lo,Zp h.hi hb.size⟩
def XD.alloc(h:XD w bn bs b4 b5 b6 bb name sealed n out W)(o:Obj):XD w bn bs b4 b5 b6 bb name sealed n out (W.alloc o):=h.after ((Zu _ W).alloc (Zt _) _)
def XD.wrote(h:XD w bn bs b4 b5 b6 bb name sealed n out W){C:Qs}{F:Ql}(hw:Bld C bb bb F)(hb:Below bb W C)(J:W5 W C):XD w bn bs b4 b5 b6 bb name sealed n F C:=⟨h.op.wrote h.lo hb J,hw,h.lo,Zp h.hi hb.size⟩
def XD.own{α:Type}{F:α->List UInt8}{B:Nat}(hB:w<=B):OwnFrom B (λ(s:α) W=>XD w bn bs b4 b5 b6 bb name sealed n (F s) W):=λs A C row hs h U=>by
 have M:∀r,row=some r->∃o:Obj,A.heap[r]? =some o/\o.isCells=false:=λr e=>(U r e).2;have O:Fr row.toList A C:=⟨h.os,h.tape,h.output,h.size,λk Z hm=>h.block k Z (λe=>hm (by rw[<-e];simp))⟩;have J:=hs.op;refine⟨⟨J.rn.nc h M,J.rs.nc h M,J.r4.nc h M,J.r5.nc h M,J.r6.nc h M,J.bel.trans (O.below J.bel.size (λi hi=> ?_)),J.ge4,J.ge5⟩,hs.bld.Zc6 O (λi hi cs e fr hh=> ?_),hs.lo,Zp hs.hi h.size⟩
 .cases row with
  |none=>simp at hi
  |some r=>simp[Zf6,Z6] at hi;subst hi;exact Zq hB (U i rfl).1
 .cases row with
  |none=>simp at hi
  |some r=>simp[Zf6,Z6] at hi;subst hi;have⟨o,J,hc⟩:=M i rfl;rw[J] at hh;cases hh;simp[Obj.isCells] at hc
def Zaj{α:Type}{F:α->List UInt8}{B:Nat}(hB:w<=B):AbT 278 B (λ(s:α) W=>XD w bn bs b4 b5 b6 bb name sealed n (F s) W):=λs A c v l hs hc M=>by
 have C:∀{g:Nat} {e:Qu} {l':Qk},e≠278->Row A g e l'->g≠c.block:=λhe O U=>by subst U;exact he (Xr O M)
 have Z:Fr [c.block] A (A.setCell c v):=(Fr.refl _ _).setCell (Zv Qx) v;have h:=hs.op;refine⟨⟨h.rn.other (C Qz h.rn) v,h.rs.other (C Qz h.rs) v,h.r4.other (C Qz h.r4) v,h.r5.other (C Qz h.r5) v,h.r6.other (C Qz h.r6) v,h.bel.setCell (Zq hB hc) v,h.ge4,h.ge5⟩,hs.bld.Zc6 Z (λi hi cs e fr hh=> ?_),hs.lo,by simpa[World.setCell] using hs.hi⟩;rw[Z6] at hi;subst hi;have⟨f,J,_⟩:=M;rw[hh] at J;simp[ZdC,Obj.cells.injEq] at J;rw[J.2.1];exact⟨Qz,Qz⟩
structure DY(w:Qs)(bn bs b4 b5 b6 bb:Nat)(name sealed n:Qq)(out:Ql)(W wr:Qs):Prop where
 sl:XD w bn bs b4 b5 b6 bb name sealed n out wr
 kp:W5 W wr
 nc:NC W wr
 sz:W<=wr.heap.size
def DY.after{wr:Qs}(h:DY w bn bs b4 b5 b6 bb name sealed n out W wr){w':Qs}(hb:Below wr wr w'):DY w bn bs b4 b5 b6 bb name sealed n out W w':=⟨h.sl.after hb,h.kp.trans (W5.below hb),h.nc.trans (NC.below hb),Zq h.sz hb.size⟩
def Z1J(text:Ql)(k:Nat):(List.range k).flatMap (YP text)=text.take (200*k):=by
 induction k with
 |zero=>simp
 |succ k ih=>rw[ZdX,ZdY,ih,VQ];simp
def Z1I(text:Ql):(List.range (YU text.length)).flatMap (YP text)=text:=by rw[Z1J];exact Zi (by unfold YU;omega)
def Z1K{n:Nat}(text:Ql)(pre:List (Bk n)):(pre.flatMap λi=>YP text i.1).length<=200*pre.length:=by
 induction pre with
 |nil=>simp
 |cons x r ih=>rw[Zm,Zb,Ze,Df];omega
def GT(a b c:Ql)(i j:Nat)(hi:a.length=i)(F:i+b.length=j):(str (a++(b++c))).extract i j=str b:=by
 have C:((str (a++(b++c))).extract i j).data.toList=b:=by rw[Zet,Yp,<-hi,Zfm];have:j-a.length=b.length:=Qw;rw[this];exact Zgr
 have h:=MA ((str (a++(b++c))).extract i j);rw[C] at h;exact h.symm
def Z6G(name t:Ql):(str (WW name t)).extract 0 4=s32 t.length:=by
 have e:WW name t=[]++(QI t.length++(Al [name,QI t.length]++(List.range (YU t.length)).flatMap (Xk name t))):=by unfold WW AI Js;simp[Zd]
 rw[e];exact GT _ _ _ 0 4 rfl (by simp[Wl])
def Z6H(name t:Ql):(str (WW name t)).extract 4 36=str (Al [name,QI t.length]):=by
 have e:WW name t=QI t.length++(Al [name,QI t.length]++(List.range (YU t.length)).flatMap (Xk name t)):=by unfold WW AI Js;simp[Zd]
 rw[e];exact GT _ _ _ 4 36 rfl (by rw[DP])
def Z6F(name t:Ql)(k:Nat)(h:k<YU t.length)(z:Nat)(F:bSz t.length k=z):(str (WW name t)).extract (bSe k) (bSe k+z)=str (YP t k)/\(str (WW name t)).extract (bSe k+z) (bSe k+z+32)=str (Al [name,QI t.length,QI k,YP t k]):=by
 have⟨r,C⟩:=Z6E name t k h;have hl:(AI name t k).length=bSe k:=by rw[Tj name t k (ZeK h)];have:=GD h;unfold bSe;omega
 have hb:(YP t k).length=z:=by rw[Df];exact F
 refine⟨?_,?_⟩
 .rw[C];exact GT _ _ _ _ _ hl (by rw[hb])
 .rw[C,<-Zd];exact GT _ _ _ _ _ (by rw[Zb,hl,hb]) (by rw[DP])
def Sj(s:Qq)(hs:s.size=4):(Wz s.data.toList:Int)=(s[0].toNat:Int)*16777216+(s[1].toNat:Int)*65536+(s[2].toNat:Int)*256+(s[3].toNat:Int):=by
 have g:∀i (h:i<s.size),s.data.toList.getD i 0=s[i]:=by
  intro i h;have C:i<s.data.toList.length:=by simpa using h
  rw[Z7,Z8 C];exact Hb s i h C
 unfold Wz;rw[g 0 Qw,g 1 Qw,g 2 Qw,g 3 Qw];omega
def Z7S(n:Nat)(h:n<4294967296)(s:Qq)(he:s32 n=s)(hs:s.size=4):(n:Int)=(s[0].toNat:Int)*16777216+(s[1].toNat:Int)*65536+(s[2].toNat:Int)*256+(s[3].toNat:Int):=by rw[<-Sj s hs,<-he,Ig];have g:=B5 n h [];rw[ZdJ] at g;rw[g]
def Zag(w:Qs)(N T n:Qq):WB w w (w.heap.size+1) (w.heap.size+1+1) (w.heap.size+1+1+1) (w.heap.size+1+1+1+1) N T n (((((w.alloc (.cells #[.string N] 9)).alloc (.cells #[.string T] 9)).alloc (.cells #[.string ⟨#[]⟩] 9)).alloc (.cells #[.nilIface] 31)).alloc (.cells #[.string n] 9)):=by have F:=((((Z2 w 9 [.string N]).alloc (.cells #[.string T] 9)).alloc (.cells #[.string ⟨#[]⟩] 9)).alloc (.cells #[.nilIface] 31)).alloc (.cells #[.string n] 9);have h:=(((Z2 (w.alloc (.cells #[.string N] 9)) 9 [.string T]).alloc (.cells #[.string ⟨#[]⟩] 9)).alloc (.cells #[.nilIface] 31)).alloc (.cells #[.string n] 9);have C:=((Z2 ((w.alloc (.cells #[.string N] 9)).alloc (.cells #[.string T] 9)) 9 [.string ⟨#[]⟩]).alloc (.cells #[.nilIface] 31)).alloc (.cells #[.string n] 9);have r4:=(Z2 (((w.alloc (.cells #[.string N] 9)).alloc (.cells #[.string T] 9)).alloc (.cells #[.string ⟨#[]⟩] 9)) 31 [.nilIface]).alloc (.cells #[.string n] 9);have r5:=Z2 ((((w.alloc (.cells #[.string N] 9)).alloc (.cells #[.string T] 9)).alloc (.cells #[.string ⟨#[]⟩] 9)).alloc (.cells #[.nilIface] 31)) 9 [.string n];have z:∀ (W:Qs) (o:Obj),(W.alloc o).heap.size=W.heap.size+1:=λW o=>Qx;simp only[z] at h C r4 r5;refine⟨F,h,C,r4,r5,(((((Zu _ w).alloc (Zt _) _).alloc (by simp only[z];omega) _).alloc (by simp only[z];omega) _).alloc (by simp only[z];omega) _).alloc (by simp only[z];omega) _,Qw,Qw⟩
def Z09{p:Addr}{v:Qt}(h:W.cell? p=some v)(o:Obj):(W.alloc o).cell? p=some v:=by rw[World.cell?_alloc_some W p o (by rw[h];rfl)];exact h
def Row.Zco{C:Qs}{B:Nat}(h:Row W g e l)(hb:Below B W C)(J:g<B):Row C g e l:=by have⟨f,hh,F⟩:=h;exact⟨f,(hb.block g J).trans hh,F⟩
def Row.ZcF(h:Row W g e l)(j:Nat)(v:Qt):NC W (W.setCell ⟨g,j,none⟩ v):=by have⟨f,hh,C⟩:=h;exact NC.set hh
def Z4y{a:Act}(h:Q .normal a w):I2 Q .normal a w:=h
theorem Z4D(name text:Bs)(w:Qs)(hn:name.length<=220)(ht:text.length<=9000):Calls prog 158 #[name,.string (str (WW name text))] w λe w'=>e=.returned (.tuple #[text,.nilIface])/\Below w w w':=by
 have ig:(str name).size=name.length:=QW name;have fu:(str (WW name text)).size=36+text.length+32*YU text.length:=by rw[QW,CS]
 have dp:=Z6G name text;have ew:=Z6H name text;have⟨N,hN⟩:=ZK (str name);have⟨T,hT⟩:=ZK (str (WW name text));have⟨len,hlen⟩:=ZK text.length;have⟨nl,dh⟩:=ZK name.length;have⟨tl,bu⟩:=ZK (36+len+32*YU len);have⟨sm,dj⟩:=ZK (Al [name,QI len]);rw[hN,dh] at ig;rw[dh] at hn;rw[hlen] at dp ew ht fu;rw[dj] at ew;rw[hT,bu] at fu;rw[hT] at dp ew;have df:YU len<=46:=by unfold YU;omega
 have⟨J,bj⟩:=ZK (s32 len);have dy:J.size=4:=by rw[<-bj];exact Jh len
 have HR:=ZI (Z7S len Qw J bj dy);have⟨e1,e2,e3,e4,e5,e6,e7,e8,e9,gj⟩:=I3 J[0].toNat J[1].toNat J[2].toNat J[3].toNat J[0].toNat_lt J[1].toNat_lt J[2].toNat_lt J[3].toNat_lt;have i0:0<J.size:=Qw;have i1:(1:Int)<(J.size:Int):=Qw;have i2:(2:Int)<(J.size:Int):=Qw;have i3:(3:Int)<(J.size:Int):=Qw;rw[bj] at dp;have:decide ((220:Int)<(nl:Int))=false:=ZC Qw;have:decide ((10000:Int)<(len:Int))=false:=ZC Qw;have:decide ((tl:Int)<(36:Int))=false:=ZC Qw;have:(4:Int)<=(tl:Int):=Qw;have:(36:Int)<=(tl:Int):=Qw;have fw:∀W,Calls prog 219 #[(len:Int)] W λe w'=>e=.returned (tl:Int)/\W=w':=λW=>by have Z:=Z2L len Qw W;rw[bu] at Z;exact Z
 have aq:∀W:Qs,Row (W.alloc (.cells #[.string N,.string J] 9)) W.heap.size 9 (QS ([name,QI len].map str)++[]):=λW=>by have Z:=Z2 W 9 [.string N,.string J];rw[<-hN,<-bj] at Z⊢;exact Z
 have au:∀W:Qs,Calls prog 184 #[.slice (some ⟨W.heap.size,0,none⟩) 2 2] (W.alloc (.cells #[.string N,.string J] 9)).drew λe w'=>e=.returned sm/\Below (W.alloc (.cells #[.string N,.string J] 9)).drew.heap.size (W.alloc (.cells #[.string N,.string J] 9)).drew w':=λW=>by have Z:=Ir W.heap.size 2 [name,QI len] [] _ ((aq W).after (Zu _ _).drew) (by rw[Xo,YR,YR];simp[Yy,Wl];omega);rw[dj] at Z;exact Z
 have HZ:=ZM fw au;clear fw aq au;have HX:=Q3 hN hT hlen dh bu dj bj df;rw[hN,hT];clear hN hT hlen dh bu dj df bj;refine(ZfF (n:=9)).1 ?_;refine callsIn_of_wp_marks func158 rfl trivial ?_ rfl;simp[ntmps158,Zex,Ze,Zes,Nat.reduceAdd,Nat.reduceSub,Zgb,Zgc,Zgz,Zgk,Ze3,Zef];refine Zhb.2 ?_;go_wp2;have S5:=Zag w N T J;have⟨bn,fp⟩:=ZK w.heap.size;rw[fp] at S5⊢;generalize (((((w.alloc (.cells #[.string N] 9)).alloc (.cells #[.string T] 9)).alloc (.cells #[.string ⟨#[]⟩] 9)).alloc (.cells #[.nilIface] 31)).alloc (.cells #[.string J] 9))=w5 at*
 have⟨b3,fh⟩:=ZK (bn+1);have⟨b4,fi⟩:=ZK (b3+1);have⟨b5,fj⟩:=ZK (b4+1);have⟨b6,fm⟩:=ZK (b5+1);rw[fh,fi,fj,fm] at S5⊢;have c6:=S5.c6;have ey:=ZI S5;clear S5 fh fi fj fm fp;refine Zh8 MH ?_;go_quiet (fail);have eh:=HR.o;simp[Int.cast_ofNat_Int] at eh;rw[<-eh];clear eh;have du:=ZI (ey.o.after (YE (Zu _ _) nq));clear ey c6;generalize w5.drewN nq=w6 at*
 clear e1 e2 e3 e4 e5 e6 e7 e8 e9 gj i0 i1 i2 i3 dp HR;go_wp2;have o6:=du.o.drew;have k2:=o6.c2;have k3:=o6.c3;have k6:=o6.c6;refine Zh8 MH ?_;go_region_held3 (λx=>WB w bn b3 b4 b5 b6 N T J x/\x.cell? bn=some (.string N)/\x.cell? b3=some (.string T)/\x.cell? b6=some (.string J)) (refine⟨?_,?_,?_,?_⟩<;>first|assumption|exact WB.alloc (by assumption) _|exact Z09 (by assumption) _)
  (first|(go_at_call 219;go_fit (HZ.1 _);rintro e w8 ⟨rfl,rfl⟩)|(go_at_call 184;go_fit (HZ.2 _);rintro e w8 ⟨rfl,cn⟩;have o8:=WB.after (WB.drew (WB.alloc du.o _)) cn;have q2:=o8.c2;have q3:=o8.c3;have q6:=o8.c6;clear cn))
 rename_i hHeld;have o9:WB w bn b3 b4 b5 b6 N T J w8:=o8;have B8:XD w bn b3 b4 b5 b6 w8 N T J [] (w8.alloc (.cells #[.pointer none,()] 258)):=⟨o9.alloc _,Z9D w8,o9.bel.size,Qx⟩;have dq:=ZI B8;have HL:=ZM o9.r4.lt o9.r5.lt;clear o6 k2 k3 k6 hHeld o8 q2 q3 q6 du o9 B8 HZ;generalize (J[0].toNat:Int)=z0 at*
 generalize (J[1].toNat:Int)=z1 at*
 generalize (J[2].toNat:Int)=z2 at*
 generalize (J[3].toNat:Int)=z3 at*
 go_wp2_with (go_at_call 185;go_fit (NP len _);rintro e wy ⟨rfl,iq⟩);have cz:=ZI (dq.o.alloc (.cells #[(len:Int)] 3));have ek:=Z2 (w8.alloc (.cells #[.pointer none,()] 258)) 3 [.int .i64 (len:Int)];rw[show(w8.alloc (.cells #[.pointer none,()] 258)).heap.size=w8.heap.size+1 from Qx] at ek;have⟨bb,de⟩:=ZK w8.heap.size;have⟨bl,fo⟩:=ZK (bb+1);rw[de,fo] at ek;rw[de] at cz dq HL;rw[de];simp[fo];generalize ((w8.alloc (.cells #[.pointer none,()] 258)).alloc (.cells #[(len:Int)] 3))=w7 at*
 clear dq de;have hle:w<=w7.heap.size:=cz.o.op.bel.size
 refine Zhb.1 (Sh (T:=278) (n:=9) Qz (gf:=240) (lb:= #[.pointer bl]) rfl (enters_of func240 Qy rfl)
  (encs:=E5 len) (Kp:=W5) (NO 8 bl len w7 ek Qw Qz) (λh k=>h.trans k) (λW l o o' _ h1 h2 _=>W5.put W l o o' h1 h2) (Zu _ _) (λ_=>rfl)
  (λpre W=>XD w bn b3 b4 b5 b6 bb N T J (pre.flatMap λi=>YP text i.1) W)
  (XD.own (F:=λpre:List (Bk len)=>pre.flatMap λi=>YP text i.1) hle) (Zaj (F:=λpre:List (Bk len)=>pre.flatMap λi=>YP text i.1) hle) (by simpa using cz.o)
  (λx a' W=>∃bx,Row W bx 278 [(bAt x.1:Int),(bSe x.1:Int),(bSz len x.1:Int)]/\a'={tmps:= #[.string N,.string T,.pointer bn,.pointer b3,.pointer b4,.pointer b5,.pointer b6,.int .i64 (len:Int),.pointer bb,.int .i64 (x.1:Int),.pointer (bx:Nat),undef,.string N,.int .i64 (nl:Int),.bool false,undef,.string T,.int .i64 (tl:Int),.bool false,undef,.string T,.string J,.string J,.int .u8 z0,.int .i64 z0,.int .i64 (z0*16777216),.string J,.int .u8 z1,.int .i64 z1,.int .i64 (z1*65536),.int .i64 (z0*16777216+z1*65536),.string J,.int .u8 z2,.int .i64 z2,.int .i64 (z2*256),.int .i64 (z0*16777216+z1*65536+z2*256),.string J,.int .u8 z3,.int .i64 z3,.int .i64 (len:Int),.int .i64 (len:Int),.bool false,.bool false,.string T,.int .i64 (tl:Int),.int .i64 (len:Int),.int .i64 (tl:Int),.bool false,.bool false,.bool false,.string T,.string (str sm),.string N,.string J,.slice (some ⟨w6,0,none⟩) 2 2,.string (str sm),.bool false,.bool false,undef,.int .i64 (len:Int),.func (.func 240) #[] #[.pointer bl],.int .i64 (x.1:Int),.agg #[(bAt x.1:Int),(bSe x.1:Int),(bSz len x.1:Int)],undef,undef,undef,undef,undef,undef,undef,undef,undef,undef,undef,undef,undef,undef,undef,undef,undef,undef,undef,undef,undef,undef,undef,undef,undef,undef,undef,undef,undef,undef,undef,undef,undef,undef,undef,undef],defers:=[]})
  (λx a' _ X Y row hs hg hr=>by have⟨bx,h1,h2⟩:=hs;exact⟨bx,h1.nc hg (λr e=>(hr r e).2),h2⟩)
  ?assign ?body ?done)
 case assign=>rintro l pre x W K hi hK;simp[E5];gi_wp2;exact hK _ _ ((KeepsOthers.alloc _ _).from _) (W5.below ((Zu _ W).alloc (Zt _) _)) (hi.after ((Zu _ W).alloc (Zt _) _)) ⟨W.heap.size,Z2 W _ [_,_,_],rfl⟩
 case body=>
  rintro l pre x a' W hl hi ⟨bx,bm,rfl⟩ hlt;have⟨i,dz⟩:=x;have ic:=Z1K text pre;have df:YU len<=46:=HX.8;have bu:36+len+32*YU len=tl:=HX.5;have eu:(pre++[(⟨i,dz⟩:Bk len)]).flatMap (λi=>YP text i.1)=(pre.flatMap λi=>YP text i.1)++YP text i:=by rw[ZdY];simp
  have ef:(pre.flatMap λi=>YP text i.1).length<=20000:=Qw;have⟨out,bf⟩:=ZK (pre.flatMap λi=>YP text i.1);rw[bf] at hi eu ef;have ib:=GD dz;have⟨at_,ay⟩:=ZK (bAt i);have⟨se,cu⟩:=ZK (bSe i);have⟨z,hz⟩:=ZK (bSz len i);have⟨e1,fq⟩:=ZK (se+z);have⟨e2,ft⟩:=ZK (e1+32);have er:36+232*i=se:=cu;have ij:min 200 (len-200*i)=z:=hz;have:e2<=tl:=Qw;have q3:(e2:Int)<=(tl:Int):=Qw;have:(e1:Int)<=(tl:Int):=Qw;have:(se:Int)<=(e1:Int):=Qw;have:(e1:Int)<=(e2:Int):=Qw;have:(se:Int)+(z:Int)=(e1:Int):=Qw;have:(e1:Int)+32=(e2:Int):=Qw;have q6:se<=20000:=Qw;have:z<=200:=Qw;have:e1<=20200:=Qw;have:=Zr (e1:Int) Qw;have:=Zr (e2:Int) Qw;have hx:=Z6F name text i (by rw[HX.3];exact dz) z (by rw[HX.3];exact hz);rw[HX.2,cu,fq,ft,HX.3] at hx;have⟨Si,cj⟩:=ZK (str (YP text i));have⟨dm,bg⟩:=ZK (Al [name,QI len,QI i,YP text i]);rw[cj,bg] at hx;have:=hx.1;have:=hx.2;have fe:Si.data.toList=YP text i:=by rw[<-cj,Yp]
  have fg:Si.size<=200:=by rw[<-cj,QW,Df];omega
  have:i<=100:=Qw;have ct:(Y8 [name,QI len,QI i,YP text i]).length<=60000:=by rw[Xo,YR,YR,YR,YR,Df];have:=HX.4;simp[Yy,Wl];omega
  have aw:∀W:Qs,Calls prog 184 #[.slice (some ⟨W.heap.size,0,none⟩) 4 4] (W.alloc (.cells #[.string N,.string J,.string (s32 i),.string Si] 9)) λe w'=>e=.returned dm/\Below (W.alloc (.cells #[.string N,.string J,.string (s32 i),.string Si] 9)).heap.size (W.alloc (.cells #[.string N,.string J,.string (s32 i),.string Si] 9)) w':=λW=>by
   have eo:Row (W.alloc (.cells #[.string N,.string J,.string (s32 i),.string Si] 9)) W.heap.size 9 (QS ([name,QI len,QI i,YP text i].map str)++[]):=by have Z:=Z2 W 9 [.string N,.string J,.string (s32 i),.string Si];rw[<-cj,<-HX.1,<-HX.7] at Z⊢;exact Z
   have Z:=Ir W.heap.size 4 [name,QI len,QI i,YP text i] [] _ eo ct;rw[bg] at Z;exact Z
  rw[ay,cu,hz] at bm;have bq:∀A C:Qs,(DY w bn b3 b4 b5 b6 bb N T J out W A/\A.cell? b3=some (.string T)/\A.cell? ⟨bx,1,none⟩=(se:Int)/\A.cell? ⟨bx,2,none⟩=(z:Int)/\A.cell? bn=some (.string N)/\A.cell? b6=some (.string J))->Below A A C->
    (DY w bn b3 b4 b5 b6 bb N T J out W C/\C.cell? b3=some (.string T)/\C.cell? ⟨bx,1,none⟩=(se:Int)/\C.cell? ⟨bx,2,none⟩=(z:Int)/\C.cell? bn=some (.string N)/\C.cell? b6=some (.string J)):=by
   rintro A C ⟨h0,h1,h2,h3,h4,h5⟩ hb;have k:∀ (p:Addr) (v:Qt),A.cell? p=some v->C.cell? p=some v:=λp v h=>(hb.cell (Z9 A p h)).trans h;exact⟨h0.after hb,k _ _ h1,k _ _ h2,k _ _ h3,k _ _ h4,k _ _ h5⟩
  have hs0:=bq W W.drew ⟨⟨hi,W5.refl _,NC.below (Zu _ _),Zt _⟩,hi.op.c3,bm.c1,bm.c2,hi.op.c2,hi.op.c6⟩ ((Zu _ _).drew);have U:=ZI hs0;have HK:=ZI bq;have fy:=ZI aw;have HO:=ZZ bf eu ef fe fg;have:=hi.op.c3;have y1:=bm.c1;have:=bm.c2;have ie:prog.follows .mixedOrders=true:=Qy;rw[ay,cu,hz];clear ic eu ef bf ib ay cu hz fq ft er ij hx cj bg fe fg ct aw bm bq hs0 hi df bu;gi_wp2;refine wpIn_mono (Q:=I2 _) ?_ RO;refine Z5E (S:=λx=>DY w bn b3 b4 b5 b6 bb N T J out W x/\x.cell? b3=some (.string T)/\x.cell? ⟨bx,1,none⟩=(se:Int)/\x.cell? ⟨bx,2,none⟩=(z:Int)/\x.cell? bn=some (.string N)/\x.cell? b6=some (.string J)) (λ⟨_,_,h⟩=>h) ie Qy U.o (λik=> ?_);refine wpAnyH_take (i:=0) (v:=.string T) rfl Qy Qy Qy (λ_ _ _ h=>h) (Zv ⟨by rfl,by intro W9 O;have⟨M,ae,af,ag,ah,ai⟩:=O;clear M;go_simp;try with_reducible rfl⟩) U.o ?_
  try simp[Act.put,ZdF,ZdL,ZdN]
  refine wpAnyH_take (i:=1) (v:=.pointer (some ⟨bx,1,none⟩)) rfl Qy Qy Qy (λ_ _ _ h=>h) (Zv ⟨by rfl,by intro W9 O;have⟨M,ae,af,ag,ah,ai⟩:=O;clear M;go_simp;try with_reducible rfl⟩) U.o ?_
  try simp[Act.put,ZdF,ZdL,ZdN]
  refine wpAnyH_take (i:=2) (v:=.int .i64 (se:Int)) rfl Qy Qy Qy (λ_ _ _ h=>h) (Zv ⟨by rfl,by intro W9 O;have⟨M,ae,af,ag,ah,ai⟩:=O;clear M;go_simp;try with_reducible rfl⟩) U.o ?_
  try simp[Act.put,ZdF,ZdL,ZdN]
  refine wpAnyH_take (i:=3) (v:=.pointer (some ⟨bx,2,none⟩)) rfl Qy Qy Qy (λ_ _ _ h=>h) (Zv ⟨by rfl,by intro W9 O;have⟨M,ae,af,ag,ah,ai⟩:=O;clear M;go_simp;try with_reducible rfl⟩) U.o ?_
  try simp[Act.put,ZdF,ZdL,ZdN]
  refine wpAnyH_take (i:=4) (v:=.int .i64 (z:Int)) rfl Qy Qy Qy (λ_ _ _ h=>h) (Zv ⟨by rfl,by intro W9 O;have⟨M,ae,af,ag,ah,ai⟩:=O;clear M;go_simp;try with_reducible rfl⟩) U.o ?_
  try simp[Act.put,ZdF,ZdL,ZdN]
  refine wpAnyH_take (i:=5) (v:=.int .i64 (e1:Int)) rfl Qy Qy Qy (λ_ _ _ h=>h) (Zv ⟨by rfl,by intro W9 O;have⟨M,ae,af,ag,ah,ai⟩:=O;clear M;go_simp;try with_reducible rfl⟩) U.o ?_
  try simp[Act.put,ZdF,ZdL,ZdN]
  refine wpAnyH_take (i:=6) (v:=.pointer (some ⟨bx,1,none⟩)) rfl Qy Qy Qy (λ_ _ _ h=>h) (Zv ⟨by rfl,by intro W9 O;have⟨M,ae,af,ag,ah,ai⟩:=O;clear M;go_simp;try with_reducible rfl⟩) U.o ?_
  try simp[Act.put,ZdF,ZdL,ZdN]
  refine wpAnyH_take (i:=7) (v:=.int .i64 (se:Int)) rfl Qy Qy Qy (λ_ _ _ h=>h) (Zv ⟨by rfl,by intro W9 O;have⟨M,ae,af,ag,ah,ai⟩:=O;clear M;go_simp;try with_reducible rfl⟩) U.o ?_
  try simp[Act.put,ZdF,ZdL,ZdN]
  refine wpAnyH_take (i:=8) (v:=.pointer (some ⟨bx,2,none⟩)) rfl Qy Qy Qy (λ_ _ _ h=>h) (Zv ⟨by rfl,by intro W9 O;have⟨M,ae,af,ag,ah,ai⟩:=O;clear M;go_simp;try with_reducible rfl⟩) U.o ?_
  try simp[Act.put,ZdF,ZdL,ZdN]
  refine wpAnyH_take (i:=9) (v:=.int .i64 (z:Int)) rfl Qy Qy Qy (λ_ _ _ h=>h) (Zv ⟨by rfl,by intro W9 O;have⟨M,ae,af,ag,ah,ai⟩:=O;clear M;go_simp;try with_reducible rfl⟩) U.o ?_
  try simp[Act.put,ZdF,ZdL,ZdN]
  refine wpAnyH_take (i:=10) (v:=.int .i64 (e1:Int)) rfl Qy Qy Qy (λ_ _ _ h=>h) (Zv ⟨by rfl,by intro W9 O;have⟨M,ae,af,ag,ah,ai⟩:=O;clear M;go_simp;try with_reducible rfl⟩) U.o ?_
  try simp[Act.put,ZdF,ZdL,ZdN]
  refine wpAnyH_take (i:=11) (v:=.int .i64 (e2:Int)) rfl Qy Qy Qy (λ_ _ _ h=>h) (Zv ⟨by rfl,by intro W9 O;have⟨M,ae,af,ag,ah,ai⟩:=O;clear M;go_simp;try with_reducible rfl⟩) U.o ?_
  try simp[Act.put,ZdF,ZdL,ZdN]
  refine wpAnyH_take (i:=12) (v:=.string (str dm)) rfl Qy Qy Qy (λ_ _ _ h=>h) (Zv ⟨by rfl,by intro W9 O;have⟨M,ae,af,ag,ah,ai⟩:=O;clear M;go_simp;try with_reducible rfl⟩) U.o ?_
  try simp[Act.put,ZdF,ZdL,ZdN]
  refine wpAnyH_take (i:=13) (v:=.string N) rfl Qy Qy Qy (λ_ _ _ h=>h) (Zv ⟨by rfl,by intro W9 O;have⟨M,ae,af,ag,ah,ai⟩:=O;clear M;go_simp;try with_reducible rfl⟩) U.o ?_
  try simp[Act.put,ZdF,ZdL,ZdN]
  refine wpAnyH_take (i:=14) (v:=.string J) rfl Qy Qy Qy (λ_ _ _ h=>h) (Zv ⟨by rfl,by intro W9 O;have⟨M,ae,af,ag,ah,ai⟩:=O;clear M;go_simp;try with_reducible rfl⟩) U.o ?_
  try simp[Act.put,ZdF,ZdL,ZdN]
  refine wpAnyH_take (i:=15) (v:=.int .i64 (i:Int)) rfl Qy Qy Qy (λ_ _ _ h=>h) (Zv ⟨by rfl,by intro W9 O;have⟨M,ae,af,ag,ah,ai⟩:=O;clear M;go_simp;try with_reducible rfl⟩) U.o ?_
  try simp[Act.put,ZdF,ZdL,ZdN]
  refine wpAnyH_take (i:=17) (v:=.string Si) rfl Qy Qy Qy (λ_ _ _ h=>h) (Zv ⟨by rfl,by intro W9 O;have⟨M,ae,af,ag,ah,ai⟩:=O;clear M;go_simp;try with_reducible rfl⟩) U.o ?_
  try simp[Act.put,ZdF,ZdL,ZdN]
  refine wpAnyH_ready (rs:=[16]) Qy Qx ?_;refine AllReadyH.cons rfl (λK hK=> ?_) AllReadyH.nil;go_simp;go_at_call 183;go_fit (KW i Qw _);rintro e w8 ⟨rfl,cn⟩;have ez:=ZI (HK.o W.drew w8 U.o cn);clear cn;refine hK.out _ _ ez.o (λbh=> ?_);clear hK K bh
  try simp[Act.put,ZdF,ZdL,ZdN]
  refine wpAnyH_ready (rs:=[18]) Qy Qx ?_;refine AllReadyH.cons rfl (λK hK=> ?_) AllReadyH.nil;go_simp;have bz:=ZI (HK.o w8 _ ez.o ((Zu w8 w8).alloc (Zt _) (.cells #[.string N,.string J,.string (s32 i),.string Si] 9)));refine hK.out _ _ bz.o (λbh=> ?_);clear hK K bh
  try simp[Act.put,ZdF,ZdL,ZdN]
  refine wpAnyH_ready (rs:=[19]) Qy Qx ?_;refine AllReadyH.cons rfl (λK hK=> ?_) AllReadyH.nil;go_simp;go_at_call 184;go_fit (fy.o w8);rintro e w9 ⟨rfl,az⟩;have dw:=ZI (HK.o _ w9 bz.o az);clear az;refine hK.out _ _ dw.o (λbh=> ?_);clear hK K bh
  try simp[Act.put,ZdF,ZdL,ZdN]
  refine wpAnyH_ready (rs:=[20]) Qy Qx ?_;refine AllReadyH.cons rfl (λK hK=> ?_) AllReadyH.nil;go_simp;refine hK.out _ _ dw.o (λbh=> ?_);clear hK K bh
  try simp[Act.put,ZdF,ZdL,ZdN]
  refine wpAnyH_done Qy ?_ _;refine Z4y ?_;have ak:=ZI dw.1;gi_wp2_with (refine⟨trivial,?_⟩;gi_at_call 164;refine(CallsIn.inRound l (ZfF.2 (NV bb bb out Si _ ak.o.sl.bld (by have h1:=HO.3;have h2:=HO.5;omega) (ZeK ak.o.sl.hi)))).mono ?_;rintro e ix ⟨rfl,hw,hb,hk,hn⟩;have cw:=ZY (ak.o.sl.wrote hw hb hk) (ak.o.kp.trans hk) (ak.o.nc.trans hn) (Zq ak.o.sz hb.size);clear hw hb hk hn);exact⟨⟨cw.4,λk o _ hk ho=>cw.3 k o hk ho⟩,cw.2,by show XD _ _ _ _ _ _ _ _ _ _ _ _;rw[HO.2,<-HO.4];exact cw.1⟩
 case done=>
  rintro D xs W hD hS hi hK;have cr:(xs.flatMap λi=>YP text i.1)=text:=by have Z:=Z1I text;rw[HX.3,<-hS,ZgP] at Z;exact Z
  rw[cr] at hi;have HI:=ZI hi;have fa:D≠bb:=by have:=cz.o.hi;omega
  have dt:=ZX fa hD hle;clear hi cr fa hD;go_wp2_with (go_at_call 165;go_fit (NT bb bb _ _ HI.o.bld (ZeK HI.o.hi));rintro e w9 ⟨rfl,az,bq⟩;have fc:=bq D _ hK dt.1 rfl;have ak:=ZI (HI.o.op.bel.trans (az.mono HI.o.lo));have R4:=HI.o.op.r4.Zco az HL.1;have R5:=HI.o.op.r5.Zco az HL.2;have:=R4.c0;have:=R4.free (j:=0) Qx;have:=R5.c0;have:=R5.free (j:=0) Qx;have ee:=Row.ne R4 R5 Qz;have cy:=ZM R4 R5;have fx:=ZI fc;clear az bq hK R4 R5 fc);have gy:=((cy.1.set 0 (.string ⟨text.toArray⟩)).other (p:=⟨b5,0,none⟩) (λh=>ee h) .nilIface);have ia:=(cy.2.other (p:=⟨b4,0,none⟩) (λh=>ee h.symm) (.string ⟨text.toArray⟩)).set 0 .nilIface;have aj:=(cy.2.other (p:=⟨b4,0,none⟩) (λh=>ee h.symm) (.string ⟨text.toArray⟩)).ZcF 0 .nilIface D _ (cy.1.ZcF 0 (.string ⟨text.toArray⟩) D _ fx.o rfl) rfl;have dx:=(ak.o.setCell (p:=⟨b4,0,none⟩) HI.o.op.ge4 (.string ⟨text.toArray⟩)).setCell (p:=⟨b5,0,none⟩) HI.o.op.ge5 .nilIface;generalize ((w9.setCell b4 (.string ⟨text.toArray⟩)).setCell b5 .nilIface)=wE at*
  have y0:∀o,(wE.putObj D o).cell? b4=some (.string ⟨text.toArray⟩):=λo=>(W5.put wE D _ o aj rfl _ _ _ Qz Qz gy).c0;have y1:∀o,(wE.putObj D o).cell? b5=some .nilIface:=λo=>(W5.put wE D _ o aj rfl _ _ _ Qz Qz ia).c0;refine⟨Qx,.inl ⟨_,_,rfl,run_takeDeferred aj,?_⟩⟩;refine⟨.tuple #[.string ⟨text.toArray⟩,.nilIface],?_,rfl,dx.trans (belowK_b (w:=w) (Zt _) _ D _ _ (Zq dt.3 dt.2) aj rfl rfl)⟩;simp[results,Tryz.results158,go_sem,y0,y1]
