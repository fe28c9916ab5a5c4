/- Part 19: lemmas about what the program computes. -/
import Derived.Test.YthppfllkocphbaaGreatDoorY07
import Derived.Test.YthppfllkocphbaaGreatDoorY09
import Derived.Test.YthppfllkocphbaaGreatDoorY17
namespace Go.Proofs.YthppfllkocphbaaGreatDoor
set_option linter.unusedVariables false
set_option linter.unusedSimpArgs false
set_option maxHeartbeats 25600000
set_option maxRecDepth 100000
open Tryz Go.RowKit
section
open Go.Shelf
variable{i n:Nat}
attribute [local go_sem] Oper.semAt_some
theorem Ic(n:Nat)(h:n<=4294967295)(w:World):Calls prog 183 #[.int .i64 n] w λe w'=>e=.returned (.string (s32 n))/\Below w.heap.size w w':=by go_enter func183,ntmps183;go_wp2_with (go_at_call 125;refine(NV n h _).mono ?_;rintro e w' ⟨rfl,C⟩);go_ret;simp_all
theorem EJ(g:Nat)(c:Nat)(l:List Bs)(sp:List Value)(w:World)(h:Row w g 9 (Z7 (l.map str)++sp))(J:(Zz l).length<=60000):Calls prog 184 #[.slice (some ⟨g,0,none⟩) l.length c] w λe w'=>e=.returned (.string (str (B5 l)))/\Below w.heap.size w w':=by
 have O:(str (Zz l)).size<=100000000:=by rw[Z5];omega
 go_enter func184,ntmps184;go_wp2_with (first|(go_at_call 126;refine(Bu g c l sp _ h J).mono ?_;rintro e w1 ⟨rfl,C⟩;have S1:=Z5F C;clear C)|(go_at_call 239;refine(Uh (str (Zz l)) _ O).mono ?_;rintro e w2 ⟨rfl,F⟩;have M:=Z5F (S1.out.trans (F.mono S1.out.size));clear F));go_ret;exact⟨rfl,M.out⟩
theorem Vo(n:Nat)(h:n<=10000)(w:World):Calls prog 219 #[.int .i64 n] w λe w'=>e=.returned (.int .i64 ((36+n+32*Y0 n:Nat):Int))/\w=w':=by go_enter func219,ntmps219;go_wp2;go_ret;exact⟨Wm (by unfold Y0;omega),rfl⟩
theorem IE(n:Nat)(w:World):Calls prog 185 #[.int .i64 n] w λe w'=>e=.returned (.func (.func 240) #[] #[.pointer (some ⟨w.heap.size,0,none⟩)])/\w'=w.alloc (.cells #[.int .i64 n] 3):=by go_enter func185,ntmps185;go_wp2;go_ret;simp
abbrev Bk(n:Nat):={i:Nat // i<Y0 n}
def bAt(i:Nat):Nat:=200*i
def bSe(i:Nat):Nat:=36+232*i
def bSz(n i:Nat):Nat:=min 200 (n-200*i)
def KR(n:Nat)(i:Bk n):Array Value:= #[.int .i64 (i.1:Int),.agg #[.int .i64 (bAt i.1:Int),.int .i64 (bSe i.1:Int),.int .i64 (bSz n i.1:Int)]]
theorem ID(h:i<Y0 n):200*i<n:=by unfold Y0 at h;omega
theorem Z4k(h:¬i<Y0 n):n<=200*i:=by unfold Y0 at h;omega
theorem GN(n Bn:Nat)(len:Nat)(w:World)(hb:Row w Bn 3 [.int .i64 (len:Int)])(hl:len<=20000)(hn:1<=n):Z4h 278 n prog 240 #[.pointer (some ⟨Bn,0,none⟩)] (KR len) QH (λxs=>xs.map (·.1)=List.range (Y0 len)) (Y0 len) w:=λl J W hW hJ bh hY h0=>by
 refine callsIn_of_wp func240 rfl trivial ?_ rfl;simp only[ntmps240,List.size_toArray,Z5h,List.length_nil,Nat.reduceAdd,Nat.reduceSub,Array.replicate_succ,Array.replicate_zero,List.push_toArray,List.append_toArray,List.nil_append,List.cons_append];have bj:=hb.after hW;have bf:J [] (W.alloc (.cells #[.int .i64 0,.int .i64 36,.int .i64 0] 278)):=hJ [] W _ none h0 (World.grownBy_alloc W _ none) (by simp);have cj:=Row.new W 278 [.int .i64 0,.int .i64 36,.int .i64 0];have bm:=bj.alloc (.cells #[.int .i64 0,.int .i64 36,.int .i64 0] 278);have HB:=Z5K bf cj bm;have az:=Z5F bh;have HY:=Z5F hY;clear hb bj bf cj bm hJ bh hY h0;gi_wp2;obtain⟨b0,au⟩:=Z5H W.heap.size;rw[au] at HB⊢;generalize W.alloc (.cells #[.int .i64 0,.int .i64 36,.int .i64 0] 278)=W1 at*
 gi_loopw [4] (λiv wr=>∃ (i:Nat) (pre:List (Bk len)) (sz:Nat),i<=Y0 len/\iv=.int .i64 (i:Int)/\pre.map (·.1)=List.range i/\Row wr b0 278 [.int .i64 ((min (200*i) len:Nat):Int),.int .i64 ((36+(min (200*i) len+32*i):Nat):Int),.int .i64 (sz:Int)]/\Row wr Bn 3 [.int .i64 (len:Int)]/\J pre wr) (λiv wr=>Y0 len- (intOf iv).toNat)
 case atStart=>exact⟨0,[],0,by omega,rfl,rfl,by simpa using HB.out.2.1,HB.out.2.2,HB.out.1⟩
 case round=>
  obtain⟨i,pre,sz,hi,rfl,af,h,U,hj⟩:=hrel;by_cases M:i<Y0 len
  .have cn:=ID M;have b8:min (200*i) len=200*i:=Nat.min_eq_left (Nat.le_of_lt cn);rw[b8] at h;obtain⟨at_,ah⟩:=Z5H (200*i);obtain⟨Z,aw⟩:=Z5H (36+(200*i+32*i));rw[aw,ah] at h;have ae:pre.length=i:=by have:=congrArg List.length af;simpa using this
   obtain⟨z,hz⟩:=Z5H (min 200 (len-200*i));have cz:min (200:Int) ((len:Int)- (at_:Int))=(z:Int):=(by omega);have cw:=Z5x ((len:Int)- (at_:Int)) (by omega);have ai:decide ((at_:Int)<(len:Int))=true:=decide_eq_true (by omega);have c0:=h.cell (j:=0) rfl;have c1:=h.cell (j:=1) rfl;have c2:=h.cell (j:=2) rfl;have f2:=h.free (j:=2) (by simp);have n0:=U.cell (j:=0) rfl;have ag:=h.set 2 (.int .i64 (z:Int));have b9:Bn≠b0:=Row.ne U h (by decide);have ak:=U.other (p:=⟨b0,2,none⟩) b9 (.int .i64 (z:Int));have bu:=az.out pre wr ⟨b0,2,none⟩ (.int .i64 (z:Int)) _ hj (Nat.le_of_eq au) h;obtain⟨fn,tmps,assign,body,hy,hR⟩:=HY.out pre ⟨i,M⟩ _ bu (by rw[ae];exact M);unfold KR at hy;rw[show bSz len (⟨i,M⟩:Bk len).1=z from hz,show bSe (⟨i,M⟩:Bk len).1=Z from by rw[<-aw];show 36+232*i=_;omega,show bAt (⟨i,M⟩:Bk len).1=at_ from ah] at hy;have y0:=ag.cell (j:=0) rfl;have y1:=ag.cell (j:=1) rfl;have y2:=ag.cell (j:=2) rfl;have F:=Z5N ag ak af ae ah aw;clear h U hj bu ag ak af ae aw;gi_wp2;refine hR.mono ?_;rintro e W3 ⟨rfl,bg,b7⟩;have C:=b7 _ _ _ (by decide) (by decide) F.out.1;have al:=b7 _ _ _ (by decide) (by decide) F.out.2.1;have dq:=C.cell (j:=0) rfl;have z31:=C.cell (j:=1) rfl;have z32:=C.cell (j:=2) rfl;have dc:=C.free (j:=0) (by simp);have de:=C.free (j:=1) (by simp);obtain⟨a2,df⟩:=Z5H (at_+z);obtain⟨z2,dm⟩:=Z5H (z+32);obtain⟨O,ct⟩:=Z5H (Z+z2);have aj:=(C.set 0 (.int .i64 (a2:Int))).set 1 (.int .i64 (O:Int));have aq:=(al.other (p:=⟨b0,0,none⟩) b9 (.int .i64 (a2:Int))).other (p:=⟨b0,1,none⟩) b9 (.int .i64 (O:Int));have bz:=az.out _ _ ⟨b0,1,none⟩ (.int .i64 (O:Int)) _ (az.out _ W3 ⟨b0,0,none⟩ (.int .i64 (a2:Int)) _ bg (Nat.le_of_eq au) C) (Nat.le_of_eq au) (C.set 0 (.int .i64 (a2:Int)));have H4:=Z5K aj aq bz;have s1:(at_:Int)+(z:Int)=(a2:Int):=(by omega);have s2:(z:Int)+32=(z2:Int):=(by omega);have s3:(Z:Int)+(z2:Int)=(O:Int):=(by omega);have dp:z<=200:=(by omega);have dh:at_<=20000:=by have:=F.out.2.2.2.2.1;omega
   have dj:i<=20000:=(by omega);have cu:Z<=30000:=by have:=F.out.2.2.2.2.2;omega
   clear C al bg aj aq bz b7 hy hR c0 c1 c2 f2 n0 y0 y1 y2 ai cw cz;gi_wp2;go_roundw
   case measure=>simp[intOf];omega
   case rel=>obtain⟨q1,q2,q3,q4,q5,q6⟩:=F.out;refine⟨i+1,pre++[⟨i,M⟩],z,by omega,by go_num,by rw[Z5u,q3,List.range_succ];rfl,?_,H4.out.2.1,H4.out.2.2⟩;have h9:=H4.out.1;have e1:min (200*(i+1)) len=a2:=(by omega);have e2:36+(min (200*(i+1)) len+32*(i+1))=O:=(by omega);rw[e2,e1];exact h9
  .have cr:=Z4k M;have b8:min (200*i) len=len:=Nat.min_eq_right cr;rw[b8] at h;have c0:=h.cell (j:=0) rfl;have n0:=U.cell (j:=0) rfl;have ai:decide ((len:Int)<(len:Int))=false:=decide_eq_false (by omega);have bq:i=Y0 len:=(by omega);have F:=Z5K af hj bq;clear h U hj af bq;gi_wp2;go_end0;exact⟨⟨_,rfl⟩,pre,F.out.1.trans (congrArg List.range F.out.2.2),F.out.2.1⟩
end
section
open Go.Shelf
variable{a b:World}
def NC(w w':World):Prop:=∀ (k:Nat) (o:Obj),w.heap[k]? =some o->o.isCells=false->w'.heap[k]? =some o
theorem NC.set{w:World}{b j:Nat}{cs:Array Value}{e:TypeId}{fr:Nat×Nat}{v:Value}(J:w.heap[b]? =some (.cells cs e fr)):NC w (w.setCell ⟨b,j,none⟩ v):=λk o h M=>by
 rw[Below.heap_setCell w ⟨b,j,none⟩ v k (λF=>by
  have C:k=b:=F;subst C;rw[J] at h;cases h
  simp[Obj.isCells] at M)]
 omega
theorem NC.trans{c:World}(h:NC a b)(k:NC b c):NC a c:=λi o hi C=>k i o (h i o hi C) C
theorem NC.below(h:Below a.heap.size a b):NC a b:=λi o hi C=>(h.block i (Z5l.1 hi).1).trans hi
theorem P8(B b:Nat)(bs:List Value)(w:World)(h:Lib.IsBuilder 258 5 B b bs w):Calls prog 229 #[.pointer (some ⟨b,0,none⟩)] w λe w'=>e=.returned (.tuple #[])/\(Lib.BuilderAt 258 5 B b (.pointer (some ⟨b,0,none⟩)) bs w'/\Below B w w'/\QH w w'/\NC w w'):=by
 rcases h with h|h
 .refine(Ca b w h.cell0 h.shape h.frozen0).mono ?_;rintro e w' ⟨rfl,rfl⟩;refine⟨rfl,h.used _,(Below.refl B w).setCell (p:=⟨b,0,none⟩) h.1 _,λg M l O Z C=>C.other (λe=>O ?_) _,λk o J U=> ?_⟩
  .obtain⟨_,v,F,_⟩:=h;exact Yz C (by rw[e];exact Row.mk (l:=[_,_]) F)
  .obtain⟨_,v,F,_⟩:=h;exact NC.set F k o J U
 .refine(De b w h.cell0).mono ?_;rintro e w' ⟨rfl,rfl⟩;exact⟨rfl,h,Below.refl B _,λg M l _ _ C=>C,λk o J _=>J⟩
theorem Pd(B b:Nat)(bs:List Value)(s:ByteArray)(w:World)(h:Lib.IsBuilder 258 5 B b bs w)(hlen:bs.length+s.size<=140737488355328)(az:B<=w.heap.size):Calls prog 164 #[.pointer (some ⟨b,0,none⟩),.string s] w λe w'=>e=.returned (.tuple #[.int .i64 s.size,.nilIface])/\(Lib.BuilderAt 258 5 B b (.pointer (some ⟨b,0,none⟩)) (bs++Lib.strCells s) w'/\Below B w w'/\QH w w'/\NC w w'):=by
 obtain⟨i0,hi,aq,au,aw⟩:=info_parts Xw;go_enter func164,ntmps164;go_wp2_with (go_at_call 229;refine(P8 B b bs _ h).mono ?_);rintro e w1 ⟨rfl,O,af,Z⟩;have ah:=Z5F Z.1;have ai:=Z5F Z.2;clear Z;obtain⟨hB,v,ag,M,al⟩:=O;have c0:w1.cell? ⟨b,0,none⟩=some (.pointer (some ⟨b,0,none⟩)):=by rw[Lib.cell_of_heap ag];rfl
 have c1:w1.cell? ⟨b,1,none⟩=some v:=by rw[Lib.cell_of_heap ag];rfl
 go_wp2_with (at_builtin;refine Lib.wpList_append_own_string _ rfl _ _ 75 9 rfl B 5 i0 underlying75 underlying9 hi aq au aw _ _ _ rfl M s rfl ?c3 ?c4 ?c5 ?_)
 case c3=>unfold maxLen;omega
 case c4=>omega
 case c5=>have:=af.size;omega
 intro v' w2 ae J _;have ak:b<w1.heap.size:=by grind
 have C:w2.heap[b]? =some (.cells #[.pointer (some ⟨b,0,none⟩),v] 258 (0,0)):=by rw[J.block b ak (λe=>al e.symm)];omega
 have d0:w2.cell? ⟨b,0,none⟩=some (.pointer (some ⟨b,0,none⟩)):=by rw[Lib.cell_of_heap C];rfl
 have d1:w2.cell? ⟨b,1,none⟩=some v:=by rw[Lib.cell_of_heap C];rfl
 have f1:w2.frozen? ⟨b,1,none⟩=false:=Lib.frozen_of_heap C 1;obtain⟨ao,n',cap,rfl⟩:∃ao n' cap,v'=.slice ao n' cap:=by
  rcases ae.2 with ⟨hv,_⟩|⟨g,cap,cur,hv,_⟩
  .simp_all
  .simp_all
 go_wp2;go_ret2;refine⟨rfl,?_,?_,?_,?_⟩
 .exact Lib.BuilderAt.put (T:=258) (e:=5) hB C (bs':=bs++Lib.strCells s) (by simpa[Lib.strCells_length] using ae) (by simp)
 .exact(af.grown J (by omega) (λk hk=>(M.lt k hk).1)).setCell (p:=⟨b,1,none⟩) hB _
 .intro g et l O h2 hr;have F:=ah.out g et l O h2 hr;have U:Row w2 g et l:=Ae F J (XD F M h2);exact U.other (λe=>O (Yz U (by rw[e];exact Row.mk (l:=[_,_]) C))) _
 .intro k o hk ho;have F:=ai.out k o hk ho;have aj:k<w1.heap.size:=by grind
  have U:w2.heap[k]? =some o:=(J.block k aj (λe=>by
   rcases M.2 with ⟨hv,_⟩|⟨g,cap,cur,hv,_,hh,_⟩
   .rw[hv] at e;cases e
   .rw[hv] at e;simp only[Value.ownBlock,Z5e] at e;subst e;rw[hh] at F;cases F
    simp[Obj.isCells] at ho)).trans F
  exact NC.set C k o U ho
theorem GP(B b:Nat)(l:List UInt8)(s:ByteArray)(w:World)(h:Bld w B b l)(hlen:l.length+s.size<=140737488355328)(C:B<=w.heap.size):Calls prog 164 #[.pointer (some ⟨b,0,none⟩),.string s] w λe w'=>e=.returned (.tuple #[.int .i64 s.size,.nilIface])/\Bld w' B b (l++s.data.toList)/\Below B w w'/\QH w w'/\NC w w':=by
 refine(Pd B b _ s w h (by simpa[Lib.byteCells] using hlen) C).mono ?_;rintro e w' ⟨rfl,hw,F,J⟩;refine⟨rfl,Or.inr ?_,F,J⟩;have:Lib.byteCells l++Lib.strCells s=Lib.byteCells (l++s.data.toList):=by simp[Lib.byteCells,Lib.strCells]
 simp_all
theorem Fm(B b:Nat)(l:List UInt8)(w:World)(h:Bld w B b l)(J:B<=w.heap.size):Calls prog 165 #[.pointer (some ⟨b,0,none⟩)] w λe w'=>e=.returned (.string ⟨l.toArray⟩)/\Below B w w'/\(∀ (k:Nat) (o:Obj),w.heap[k]? =some o->k≠b->o.isCells=false->w'.heap[k]? =some o):=by refine(Any.Builder_String_any_k Tryz.lays169 Tryz.Builder_Extra_169 B b l w (Lib.IsBuilderF.of h) J).mono ?_;rintro e w' ⟨he,_,U,Z⟩;exact⟨he,U,λk o M O F=>Z k o M (λC=>O (Option.some.inj C)) (λc fz C=>by rw[C] at F;simp[Obj.isCells] at F)⟩
end
section
open Go.Shelf
variable{P:Program}{Q:Exit->Act->World->Prop}{l n:Nat}{ops:Array Oper}
theorem MB{md:Region.Mode}(O:∀ (i:Nat) (o:Oper),ops[i]? =some o->∀c,o.op≠.defer c):∀ (fuel:Nat) (J:Array Bool) (a:Act) (w:World),wpAnyIn Fence.wide n P md ops Q fuel J a w->wpAnyIn (Fence.wide.inRound l) n P md ops Q fuel J a w:=by
 intro fuel
 induction fuel with
 |zero=>intro J a w h;exact h
 |succ fuel ih=>
  intro J a w h;refine⟨h.1,λi hi=> ?_⟩;have hh:=h.2 i hi;unfold wpOpIn at hh⊢;cases M:ops[i]? with
  |none=>rw[M] at hh;exact ih _ _ _ hh
  |some o=>
   rw[M] at hh;simp only at hh⊢;split
   .rename_i hw;rw[if_pos hw] at hh;refine⟨hh.1,?_⟩;have C:=hh.2;rw[Oper.semAt_eq _ _ _ (O i o M)] at C⊢;generalize (execOp a.eval o).run P w=r at*
    cases r with
    |ok x w'=>
     cases x<;>simp[Oper.uponIn] at C⊢<;>
      first
       |exact ih _ _ _ C
       |exact⟨C.1,CallsIn.mono (CallsIn.inRound l C.2) (λe U he=>by cases e<;>first|exact ih _ _ _ he|exact he)⟩
       |exact⟨C.1,RowsIn.mono (F:=Fence.wide.inRound l) C.2 (λ_ _ he=>ih _ _ _ he)⟩
       |exact⟨C.1,RoundIn.mono (F:=Fence.wide.inRound l) C.2 (λe U he=>by cases e<;>first|exact ih _ _ _ he|exact he)⟩
    |halt x w'=>cases x<;>simp[Oper.uponIn] at C⊢<;>exact C
   .simp_all
def Gw(o:Oper):Bool:=match o.op with
 |.defer _=>false
 |_=>true
theorem PM(h:ops.all Gw=true):∀ (i:Nat) (o:Oper),ops[i]? =some o->∀c,o.op≠.defer c:=by intro i o F c hc;have C:=Array.all_eq_true.1 h i (Z5l.1 F).1;rw[(Z5l.1 F).2] at C;unfold Gw at C;simp_all
theorem FU{id:Nat}{a:Act}{w:World}(hm:P.follows .mixedOrders=true)(C:ops.all Gw=true)(h:wpAnyIn Fence.wide n P .any ops Q ops.size (Array.replicate ops.size false) a w.drew):(Code.region id ops true).wpIn (Fence.wide.inRound l) n P Q a w:=wpIn_region_any hm (MB (PM C) _ _ _ _ h)
end
section
open Go.Shelf
variable{P:Program}{Q:Exit->Act->World->Prop}{n:Nat}{ops:Array Oper}{w:World}
theorem VY{row:String}{args:Array Value}{R:Value->World->Prop}(h:Rows P row args w R):RowsIn Fence.wide n P row args w R:=λc cs _=>let ⟨v,w',r,s⟩:=h c cs;⟨v,w',r,stepsIn_wide.2 s⟩
theorem OQ{md:Region.Mode}(hl:¬LetsOut Q):∀ (fuel:Nat) (F:Array Bool) (a:Act) (w:World),wpAny P md ops Q fuel F a w->wpAnyIn Fence.wide n P md ops Q fuel F a w:=by
 intro fuel
 induction fuel with
 |zero=>intro F a w h;exact h
 |succ fuel ih=>
  intro F a w h;refine⟨h.1,λi hi=> ?_⟩;have hh:=h.2 i hi;unfold wpOp at hh;unfold wpOpIn;cases J:ops[i]? with
  |none=>rw[J] at hh;exact ih _ _ _ hh
  |some o=>
   rw[J] at hh;simp only at hh⊢;split
   .rename_i hw;rw[if_pos hw] at hh;have C:=hh.resolve_right (λh=>hl h.2);refine⟨λ_ _=>trivial,?_⟩;have e0:o.semAt (Fence.wide).round a.eval=execOp a.eval o:=rfl;rw[e0];unfold Oper.wp at C;generalize (execOp a.eval o).run P w=r at*
    cases r with
    |ok x w'=>
     cases x<;>simp[Oper.upon] at C<;>simp[Oper.uponIn]<;>
      first
       |exact ih _ _ _ C
       |exact⟨λh=>(Bool.noConfusion h),callsIn_wide.2 (Calls.mono C (λe M he=>by cases e<;>first|exact ih _ _ _ he|exact he))⟩
       |exact⟨λh=>(Bool.noConfusion h),VY (Rows.mono C (λ_ _ he=>ih _ _ _ he))⟩
    |halt x w'=>cases x<;>simp[Oper.upon] at C<;>simp[Oper.uponIn]<;>exact C
   .rename_i hw;rw[if_neg hw] at hh;exact⟨λ_ _=>trivial,ih _ _ _ hh⟩
theorem GH{l:Nat}{S:World->Prop}{id:Nat}{a:Act}(hl:¬LetsOut Q)(hm:P.follows .mixedOrders=true)(C:ops.all Gw=true)(F:S w.drew)(h:S w.drew->wpAnyH P .any ops Q S ops.size (Array.replicate ops.size false) a w.drew):(Code.region id ops true).wpIn (Fence.wide.inRound l) n P Q a w:=FU hm C (OQ hl _ _ _ _ (wpAny_of_held _ _ _ _ (h F)))
end
section
open Go.Shelf
attribute [local go_sem] Oper.semAt_some
theorem Row.nc{W h:World}{row:Option Nat}{g:Nat}{e:TypeId}{l:List Value}(C:Row W g e l)(J:W.grownBy h row)(M:∀r,row=some r->∃o:Obj,W.heap[r]? =some o/\o.isCells=false):Row h g e l:=
 Ae C J (λF=>by
  obtain⟨o,O,hc⟩:=M g F;obtain⟨f,hh,_⟩:=C;rw[O] at hh;cases hh
  simp[Obj.isCells] at hc)
theorem Bld.keepB{w w':World}{B b:Nat}{l:List UInt8}(h:Bld w B b l){L:List Nat}(O:Fr L w w')(M:∀i∈L,∀cs e fr,w.heap[i]? =some (.cells cs e fr)->e≠258/\e≠5):Bld w' B b l:=by
 have k:∀p,Lib.BuilderAt 258 5 B b p (Lib.byteCells l) w->Lib.BuilderAt 258 5 B b p (Lib.byteCells l) w':=by
  rintro p ⟨hB,v,F,J,Z⟩;have U:b<w.heap.size:=(Z5l.1 F).1;refine⟨hB,v,(O.block b U (λhm=>(M b hm _ _ _ F).1 rfl)).trans F,Qa J O (λg C hm=> ?_),Z⟩;rcases J.2 with ⟨hv,_⟩|⟨g',cap,cur,hv,_,hh,_⟩
  .rw[hv] at C;cases C
  .rw[hv] at C;simp only[Value.ownBlock,Z5e] at C;subst C;exact(M _ hm _ _ _ hh).2 rfl
 exact h.imp (k _) (k _)
structure SlS(w:World)(bn bt b6 bb:Nat)(name text n:ByteArray)(out:List UInt8)(W:World):Prop where
 rn:Row W bn 9 [.string name]
 rt:Row W bt 9 [.string text]
 r6:Row W b6 9 [.string n]
 bld:Bld W bb bb out
 bel:Below w.heap.size w W
 lo:w.heap.size<=bb
 hi:bb<W.heap.size
section
variable{w:World}{bn bt b6 bb:Nat}{name text n:ByteArray}{out:List UInt8}{W:World}
theorem SlS.after(h:SlS w bn bt b6 bb name text n out W){F:World}(C:Below W.heap.size W F):SlS w bn bt b6 bb name text n out F:=⟨h.rn.after C,h.rt.after C,h.r6.after C,h.bld.after C,h.bel.trans (C.mono h.bel.size),h.lo,Z5v h.hi C.size⟩
theorem SlS.wrote(h:SlS w bn bt b6 bb name text n out W){C:World}{J:List UInt8}(hw:Bld C bb bb J)(M:Below bb W C)(F:QH W C):SlS w bn bt b6 bb name text n J C:=⟨F _ _ _ (by decide) (by decide) h.rn,F _ _ _ (by decide) (by decide) h.rt,F _ _ _ (by decide) (by decide) h.r6,hw,h.bel.trans (M.mono h.lo),h.lo,Z5v h.hi M.size⟩
theorem SlS.own{α:Type}{F:α->List UInt8}{B:Nat}(hB:w.heap.size<=B):OwnFrom B (λ(s:α) W=>SlS w bn bt b6 bb name text n (F s) W):=λs A C row hs h O=>by
 have J:∀r,row=some r->∃o:Obj,A.heap[r]? =some o/\o.isCells=false:=λr e=>(O r e).2;have M:Fr row.toList A C:=⟨h.os,h.tape,h.output,h.size,λk U hm=>h.block k U (λe=>hm (by rw[<-e];simp))⟩;refine⟨hs.rn.nc h J,hs.rt.nc h J,hs.r6.nc h J,hs.bld.keepB M (λi hi cs e fr hh=> ?_),hs.bel.trans (M.below hs.bel.size (λi hi=> ?_)),hs.lo,Z5v hs.hi h.size⟩
 .cases row with
  |none=>simp at hi
  |some r=>simp only[Option.toList_some,Z58] at hi;subst hi;obtain⟨o,Z,hc⟩:=J i rfl;rw[Z] at hh;cases hh;simp[Obj.isCells] at hc
 .cases row with
  |none=>simp at hi
  |some r=>simp only[Option.toList_some,Z58] at hi;subst hi;exact Z5w hB (O i rfl).1
theorem SlS.abT{α:Type}{F:α->List UInt8}{B:Nat}(hB:w.heap.size<=B):AbT 278 B (λ(s:α) W=>SlS w bn bt b6 bb name text n (F s) W):=λs A c v l hs hc J=>by
 have C:∀{g:Nat} {e:TypeId} {l':List Value},e≠278->Row A g e l'->g≠c.block:=λhe M O=>by subst O;exact he (Yz M J)
 have U:Fr [c.block] A (A.setCell c v):=(Fr.refl _ _).setCell (Or.inl (by simp)) v;refine⟨hs.rn.other (C (by decide) hs.rn) v,hs.rt.other (C (by decide) hs.rt) v,hs.r6.other (C (by decide) hs.r6) v,hs.bld.keepB U (λi hi cs e fr hh=> ?_),hs.bel.setCell (Z5w hB hc) v,hs.lo,by simpa[World.setCell] using hs.hi⟩;rw[Z58] at hi;subst hi;obtain⟨f,h,_⟩:=J;rw[hh] at h;simp only[Z5e,Obj.cells.injEq] at h;rw[h.2.1];exact⟨by decide,by decide⟩
end
theorem G9{K:Act->World->Prop}{Q:Exit->Act->World->Prop}:∀e a w,Exit.then K (λ_ _ _=>False) e a w->Exit.then K Q e a w:=by intro e a w h;cases e<;>first|exact h|exact h.elim
def MF(Q:Exit->Act->World->Prop):Exit->Act->World->Prop
 |.normal,a,w=>Q .normal a w
 |_,_,_=>False
theorem M5{Q:Exit->Act->World->Prop}:∀e a w,MF Q e a w->Q e a w:=by intro e a w h;cases e<;>first|exact h|exact h.elim
theorem QH.refl(w:World):QH w w:=λ_ _ _ _ _ h=>h
theorem QH.trans{a b c:World}(h:QH a b)(k:QH b c):QH a c:=λg e l C F J=>k g e l C F (h g e l C F J)
theorem QH.below{a b:World}(h:Below a.heap.size a b):QH a b:=λg e l F J C=>C.after h
theorem QH.put(W:World)(l:Nat)(o o':Obj)(h:W.heap[l]? =some o)(hc:o.isCells=false):QH W (W.putObj l o'):=λg e l' J M F=>F.nc (grownBy_putObj' W l o') (λr C=>by cases C;exact⟨o,h,hc⟩)
structure BdS(w:World)(bn bt b6 bb:Nat)(name text n:ByteArray)(out:List UInt8)(W wr:World):Prop where
 sl:SlS w bn bt b6 bb name text n out wr
 kp:QH W wr
 nc:NC W wr
 sz:W.heap.size<=wr.heap.size
theorem BdS.after{w:World}{bn bt b6 bb:Nat}{name text n:ByteArray}{out:List UInt8}{W wr:World}(h:BdS w bn bt b6 bb name text n out W wr){w':World}(C:Below wr.heap.size wr w'):BdS w bn bt b6 bb name text n out W w':=⟨h.sl.after C,h.kp.trans (QH.below C),h.nc.trans (NC.below C),Z5w h.sz C.size⟩
theorem Nh{n:Nat}(name text:List UInt8)(pre:List (Bk n)):(pre.flatMap λi=>Xf name text i.1).length<=232*pre.length:=by
 induction pre with
 |nil=>simp
 |cons x r ih=>
  rw[Z5s,Z5d,Z5h];have h:(Xf name text x.1).length<=232:=by unfold Xf;rw[Z5d,Xg,Xj];omega
  omega
theorem Z27(name text:Bs)(w:World)(hn:name.length<=220)(ht:text.length<=9000):Calls prog 127 #[.string (str name),.string (str text)] w λe w'=>e=.returned (.tuple #[.string (str (Yo name text)),.nilIface])/\Below w.heap.size w w':=by
 have dz:(str name).size=name.length:=Z5 name;have ef:(str text).size=text.length:=Z5 text;obtain⟨N,hN⟩:=Z5H (str name);obtain⟨T,hT⟩:=Z5H (str text);rw[hN] at dz;rw[hT] at ef;obtain⟨len,hlen⟩:=Z5H text.length;rw[hlen] at ef ht;obtain⟨nl,dc⟩:=Z5H name.length;rw[dc] at dz hn;have g1:decide ((220:Int)<(nl:Int))=false:=decide_eq_false (by omega);have g2:decide ((10000:Int)<(len:Int))=false:=decide_eq_false (by omega);have M:=Z5L hN hT hlen dc;rw[hN,hT];clear hN hT hlen dc;refine(callsIn_wide (n:=9)).1 ?_;refine callsIn_of_wp_marks func127 rfl trivial ?_ rfl;simp only[ntmps127,List.size_toArray,Z5h,List.length_nil,Nat.reduceAdd,Nat.reduceSub,Array.replicate_succ,Array.replicate_zero,List.push_toArray,List.append_toArray,List.nil_append,List.cons_append];refine wpIn_wide.2 ?_;go_wp2_with (go_at_call 183;refine(Ic len (by omega) _).mono ?_;rintro e w3 ⟨rfl,az⟩);have cw:Below w.heap.size w w3:=(((Below.refl w.heap.size w).alloc Z5D _).alloc (by simp) _).trans (az.mono (by simp;omega));have fg:w.heap.size+2<=w3.heap.size:=by have:=az.size;simpa using this
 obtain⟨b6,b7⟩:=Z5H w3.heap.size;obtain⟨bn,b8⟩:=Z5H w.heap.size;have S5:SlS w bn (bn+1) b6 (b6+1) N T (s32 len) [] ((w3.alloc (.cells #[.string (s32 len)] 9)).alloc (.cells #[.pointer none,.slice none 0 0] 258)):=by have hA:Below w3.heap.size w3 ((w3.alloc (.cells #[.string (s32 len)] 9)).alloc (.cells #[.pointer none,.slice none 0 0] 258)):=((Below.refl _ w3).alloc Z5D _).alloc (by simp) _;have r1:=((Row.new w 9 [.string N]).alloc (.cells #[.string T] 9)).after az;have r2:=(Row.new (w.alloc (.cells #[.string N] 9)) 9 [.string T]).after az;have r3:=(Row.new w3 9 [.string (s32 len)]).alloc (.cells #[.pointer none,.slice none 0 0] 258);have r4:=Bld.new (w3.alloc (.cells #[.string (s32 len)] 9));rw[show(w3.alloc (.cells #[.string (s32 len)] 9)).heap.size=b6+1 from by simp[b7]] at r4;rw[b7] at r3;rw[b8] at r1;rw[show(w.alloc (.cells #[.string N] 9)).heap.size=bn+1 from by simp[b8]] at r2;exact⟨r1.after hA,r2.after hA,r3,r4,cw.trans (hA.mono cw.size),by omega,by simp;omega⟩
 have cj:=Z5K S5 b8 b7;rw[b8,b7];generalize ((w3.alloc (.cells #[.string (s32 len)] 9)).alloc (.cells #[.pointer none,.slice none 0 0] 258))=w5 at*
 clear az cw fg S5 b8 b7;obtain⟨sm,bq⟩:=Z5H (B5 [name,Z4 len]);have ah:sm.length=32:=by rw[<-bq];exact Xj _
 obtain⟨H,hH⟩:=Z5H (s32 len++str sm);have dp:H.data.toList=Xm name text:=by rw[<-hH,data_append,Ey,Zn,<-bq];unfold Xm;rw[M.out.2.2.1]
 have dq:H.size=36:=by rw[<-hH,ByteArray.size_append,Y3,Z5,ah]
 have fa:∀W,(Op.stringOp .add (s32 len) (str sm)).run prog W=.ok (.string H) W:=λW=>by rw[<-hH];exact run_string_add_sum W _ _ (by rw[Y3,Z5,ah];omega)
 have HH:=Z5M bq ah hH dp dq;clear bq ah hH dp dq;go_cut [] from 22 to 29 (λwx=>SlS w bn (bn+1) b6 (b6+1) N T (s32 len) (Xm name text) wx)
 case first=>
  have cn:=Z5F (cj.out.1.after ((Below.refl w5.heap.size w5).drew));have s6:w5.drew.cell? ⟨b6,0,none⟩=some (.string (s32 len))/\w5.drew.cell? ⟨bn,0,none⟩=some (.string N):=⟨cn.out.r6.cell (j:=0) rfl,cn.out.rn.cell (j:=0) rfl⟩;have c6:=s6.1;have c2:=s6.2;have dj:w5.cell? ⟨b6,0,none⟩=some (.string (s32 len)):=c6;have dh:w5.cell? ⟨bn,0,none⟩=some (.string N):=c2;have l6:b6<w5.heap.size:=cj.out.1.r6.lt;have l2:bn<w5.heap.size:=cj.out.1.rn.lt;refine Code.wp_mono G9 ?_;go_region_with
   (first|(go_at_call 184;refine(EJ _ 2 [name,Z4 len] [] _ (by have J:=Row.new w5.drew 9 [.string N,.string (s32 len)];rw[<-M.out.1] at J⊢;exact J) (by rw[ZN,Zc,Zc];have:=M.out.2.2.2;simp[Zy,Zw];omega)).mono ?_;rw[HH.out.1];rintro e w8 ⟨rfl,ak⟩;have aq:=Z5F (cn.out.after (((Below.refl w5.drew.heap.size w5.drew).alloc Z5D _).trans (ak.mono (by simp))));have c68:w8.cell? ⟨b6,0,none⟩=some (.string (s32 len)):=aq.out.r6.cell (j:=0) rfl;have s8:w8.cell? ⟨b6,0,none⟩=some (.string (s32 len))/\w8.cell? ⟨bn,0,none⟩=some (.string N):=⟨aq.out.r6.cell (j:=0) rfl,aq.out.rn.cell (j:=0) rfl⟩;clear ak)|(go_at_call 164;refine(GO (b6+1) (b6+1) [] H _ aq.out.bld (by rw[HH.out.2.2.2.2];simp) (Nat.le_of_lt aq.out.hi)).mono ?_;rintro e w9 ⟨rfl,eh,Z,bf⟩;have cr:=Z5F (aq.out.wrote eh Z bf);have s9:w9.cell? ⟨b6,0,none⟩=some (.string (s32 len))/\w9.cell? ⟨bn,0,none⟩=some (.string N):=⟨cr.out.r6.cell (j:=0) rfl,cr.out.rn.cell (j:=0) rfl⟩;clear eh Z bf))
  all_goals go_wp2_with fail
  all_goals go_meet
  all_goals (have J:=cr.out;rw[HH.out.2.2.2.1] at J;exact J)
 have HS:=Z5F hcut;have c3:=hcut.rt.cell (j:=0) rfl;clear hcut;go_wp2_with (go_at_call 185;refine(IE len _).mono ?_;rintro e w6 ⟨rfl,fj⟩);have ct:=Z5F (HS.out.after ((Below.refl wc.heap.size wc).alloc Z5D (.cells #[.int .i64 (len:Int)] 3)));have ee:=Row.new wc 3 [.int .i64 (len:Int)];obtain⟨bl,ez⟩:=Z5H wc.heap.size;rw[ez] at ee⊢;generalize wc.alloc (.cells #[.int .i64 (len:Int)] 3)=w7 at*
 have hle:w.heap.size<=w7.heap.size:=ct.out.bel.size
 refine wpIn_wide.1 (Hd (T:=278) (n:=9) (by decide) (gf:=240) (lb:= #[.pointer (some ⟨bl,0,none⟩)]) rfl (enters_of func240 (by kernel_rfl) rfl)
  (encs:=KR len) (Kp:=QH) (GN 8 bl len w7 ee (by omega) (by decide)) (λh k=>h.trans k) (λW l o o' _ h1 h2 _=>QH.put W l o o' h1 h2) Z5E (λ_=>rfl)
  (λpre W=>SlS w bn (bn+1) b6 (b6+1) N T (s32 len) (Xm name text++pre.flatMap λi=>Xf name text i.1) W)
  (SlS.own (F:=λpre:List (Bk len)=>Xm name text++pre.flatMap λi=>Xf name text i.1) hle) (SlS.abT (F:=λpre:List (Bk len)=>Xm name text++pre.flatMap λi=>Xf name text i.1) hle) (by simpa using ct.out)
  (λx a' W=>∃bx,Row W bx 278 [.int .i64 (bAt x.1:Int),.int .i64 (bSe x.1:Int),.int .i64 (bSz len x.1:Int)]/\a'={tmps:= #[.string N,.string T,.pointer (some ⟨bn,0,none⟩),.pointer (some ⟨bn+1,0,none⟩),.string ⟨#[]⟩,.nilIface,.pointer (some ⟨b6,0,none⟩),.pointer (some ⟨b6+1,0,none⟩),.int .i64 (x.1:Int),.pointer (some ⟨bx,0,none⟩),undef,.string N,.int .i64 (nl:Int),.bool false,.bool false,.string T,.int .i64 (len:Int),.bool false,.bool false,undef,.string T,.int .i64 (len:Int),u22,u23,u24,u25,u26,u27,u28,u29,.string T,.int .i64 (len:Int),.func (.func 240) #[] #[.pointer (some ⟨bl,0,none⟩)],.int .i64 (x.1:Int),.agg #[.int .i64 (bAt x.1:Int),.int .i64 (bSe x.1:Int),.int .i64 (bSz len x.1:Int)],undef,undef,undef,undef,undef,undef,undef,undef,undef,undef,undef,undef,undef,undef,undef,undef,undef,undef,undef,undef],defers:=[]})
  (λx a' _ X Y row hs hg hr=>by obtain⟨bx,h1,h2⟩:=hs;exact⟨bx,h1.nc hg (λr e=>(hr r e).2),h2⟩)
  ?assign ?body ?done)
 case assign=>rintro l pre x W K hi hK;simp only[KR];gi_wp2;exact hK _ _ ((KeepsOthers.alloc _ _).from _) (QH.below ((Below.refl _ W).alloc Z5D _)) (hi.after ((Below.refl _ W).alloc Z5D _)) ⟨W.heap.size,Row.new W _ [_,_,_],rfl⟩
 case body=>
  rintro l pre x a' W hl hi ⟨bx,cz,rfl⟩ hlt;obtain⟨i,dy⟩:=x;have fe:=Nh name text pre;have ey:Y0 len<=46:=by unfold Y0;omega
  have df:Xm name text++(pre++[(⟨i,dy⟩:Bk len)]).flatMap (λi=>Xf name text i.1)=(Xm name text++pre.flatMap λi=>Xf name text i.1)++Xf name text i:=by rw[List.flatMap_append,<-Z5g];simp
  have de:(Xm name text++pre.flatMap λi=>Xf name text i.1).length<=20000:=by rw[Z5d,G0];omega
  obtain⟨out,al⟩:=Z5H (Xm name text++pre.flatMap λi=>Xf name text i.1);rw[al] at hi df de;have ew:=ID dy;obtain⟨at_,af⟩:=Z5H (bAt i);obtain⟨z,hz⟩:=Z5H (bSz len i);obtain⟨O,fc⟩:=Z5H (at_+z);have aj:200*i=at_:=af;have ek:min 200 (len-200*i)=z:=hz;have q1:O<=len:=by omega
  have q2:at_<=O:=by omega
  have q3:(O:Int)<=(len:Int):=by omega
  have q4:(at_:Int)<=(O:Int):=by omega
  have q5:(at_:Int)+(z:Int)=(O:Int):=by omega
  have q6:at_<=20000:=by omega
  have q7:z<=200:=by omega
  obtain⟨C,du⟩:=Z5H (T.extract at_ O);have cu:C.data.toList=QX text i:=by
   rw[<-du,<-M.out.2.1,Lib.extract_data,Zn];unfold QX;rw[aj,show O-at_=z from by omega,<-ek,aj,<-M.out.2.2.1];rcases Nat.le_total 200 (text.length-at_) with J|J
   .rw[Nat.min_eq_left J]
   .rw[Nat.min_eq_right J,Z5o (by rw[List.length_drop];omega),Z5o (by rw[List.length_drop];omega)]
  have eu:C.size<=200:=by rw[<-du,ByteArray.size_extract];omega
  have dw:str (QX text i)=C:=by rw[<-cu];exact OI C
  obtain⟨bh,ag⟩:=Z5H (B5 [name,Z4 len,Z4 i,QX text i]);have ae:bh.length=32:=by rw[<-ag];exact Xj _
  obtain⟨Hi,bm⟩:=Z5H (C++str bh);have au:out++Hi.data.toList=out++Xf name text i:=by rw[<-bm,data_append,cu,Zn,<-ag];unfold Xf;rw[M.out.2.2.1]
  have aw:Hi.size<=232:=by rw[<-bm,ByteArray.size_append,Z5,ae];omega
  have dx:∀W,(Op.stringOp .add C (str bh)).run prog W=.ok (.string Hi) W:=λW=>by rw[<-bm];exact run_string_add_sum W _ _ (by rw[Z5,ae];omega)
  have fi:i<=100:=by omega
  have bg:(Zz [name,Z4 len,Z4 i,QX text i]).length<=60000:=by rw[ZN,Zc,Zc,Zc,Zc,Xg];have:=M.out.2.2.2;simp[Zy,Zw];omega
  have ai:∀W:World,Row (W.alloc (.cells #[.string N,.string (s32 len),.string (s32 i),.string C] 9)) W.heap.size 9 (Z7 ([name,Z4 len,Z4 i,QX text i].map str)++[]):=λW=>by have J:=Row.new W 9 [.string N,.string (s32 len),.string (s32 i),.string C];rw[<-dw,<-M.out.1] at J⊢;exact J
  have y0:=cz.cell (j:=0) rfl;have y2:=cz.cell (j:=2) rfl;rw[af] at y0;rw[hz] at y2;have t0:=hi.rt.cell (j:=0) rfl;have B0:BdS w bn (bn+1) b6 (b6+1) N T (s32 len) out W W.drew:=⟨hi.after ((Below.refl W.heap.size W).drew),QH.below ((Below.refl W.heap.size W).drew),NC.below ((Below.refl W.heap.size W).drew),Z5D⟩;have dh:W.cell? ⟨bn,0,none⟩=some (.string N):=hi.rn.cell (j:=0) rfl;have dj:W.cell? ⟨b6,0,none⟩=some (.string (s32 len)):=hi.r6.cell (j:=0) rfl;have c2:W.drew.cell? ⟨bn,0,none⟩=some (.string N):=dh;have c6:W.drew.cell? ⟨b6,0,none⟩=some (.string (s32 len)):=dj;have bu:=Z5F B0;have HO:=Z5O al df de au aw ag ai;have er:=Z5F bg;have ff:prog.follows .mixedOrders=true:=by kernel_rfl
  rw[af,hz];clear fe df de al ew af hz fc aj ek cu dw ag ae bm au aw cz B0 hi ai bg ey eu;gi_wp2;refine wpIn_mono (Q:=MF _) ?_ M5;refine FU ff (by kernel_rfl) ?_;refine wpAnyIn_take (i:=0) (v:=.string C) rfl rfl (by kernel_rfl) (by kernel_rfl) (by kernel_rfl) (λ_ _ _ h=>h) ⟨Or.inl ⟨by rfl,by intro w;go_simp;try with_reducible rfl⟩,λ_=>rfl⟩ ?_;refine wpAnyIn_take (i:=3) (v:=.int .i64 (i:Int)) rfl rfl (by kernel_rfl) (by kernel_rfl) (by kernel_rfl) (λ_ _ _ h=>h) ⟨Or.inl ⟨by rfl,by intro w;go_simp;try with_reducible rfl⟩,λ_=>rfl⟩ ?_;refine wpAnyIn_take (i:=5) (v:=.string C) rfl rfl (by kernel_rfl) (by kernel_rfl) (by kernel_rfl) (λ_ _ _ h=>h) ⟨Or.inl ⟨by rfl,by intro w;go_simp;try with_reducible rfl⟩,λ_=>rfl⟩ ?_;refine wpAnyIn_ready (rs:=[1,2,4]) (by kernel_rfl) (by simp) (AllReadyIn.cons rfl (λK hK=> ?ta1) (AllReadyIn.cons rfl (λK hK=> ?ta2) (AllReadyIn.cons rfl (λK hK=> ?ta4) AllReadyIn.nil)))
  case' ta1=>go_simp;refine hK _ _ ?_;clear hK K;refine wpAnyIn_ready (rs:=[2,4]) (by kernel_rfl) (by simp) (AllReadyIn.cons rfl (λK hK=> ?tp) (AllReadyIn.cons rfl (λK hK=> ?tx1) AllReadyIn.nil))
  case' ta2=>go_simp;refine hK _ _ ?_;clear hK K;refine wpAnyIn_ready (rs:=[1,4]) (by kernel_rfl) (by simp) (AllReadyIn.cons rfl (λK hK=> ?tq) (AllReadyIn.cons rfl (λK hK=> ?tx2) AllReadyIn.nil))
  case' tp=>go_simp;refine hK _ _ ?_;clear hK K;refine wpAnyIn_ready (rs:=[4]) (by kernel_rfl) (by simp) (AllReadyIn.cons rfl (λK hK=> ?_) AllReadyIn.nil)
  case' tq=>go_simp;refine hK _ _ ?_;clear hK K;refine wpAnyIn_ready (rs:=[4]) (by kernel_rfl) (by simp) (AllReadyIn.cons rfl (λK hK=> ?_) AllReadyIn.nil)
  case' ta4|tx1|tx2|tp|tq=>go_simp;refine⟨trivial,?_⟩;gi_at_call 183;refine(callsIn_wide.2 (Ic i (by omega) _)).mono ?_;rintro e w8 ⟨rfl,ak⟩;have fh:w8.cell? ⟨bn,0,none⟩=some (.string N):=((bu.out.after ak).sl.rn).cell (j:=0) rfl;have c68:w8.cell? ⟨b6,0,none⟩=some (.string (s32 len)):=((bu.out.after ak).sl.r6).cell (j:=0) rfl;have eo:=Z5F (bu.out.after ak);clear ak;go_simp;refine hK _ _ ?_;clear hK K
  case' ta4=>refine wpAnyIn_ready (rs:=[1,2]) (by kernel_rfl) (by simp) (AllReadyIn.cons rfl (λK hK=> ?tx3) (AllReadyIn.cons rfl (λK hK=> ?tx4) AllReadyIn.nil))
  case' tx3|tx4=>go_simp;refine hK _ _ ?_;clear hK K
  case' tx1=>refine wpAnyIn_ready (rs:=[2]) (by kernel_rfl) (by simp) (AllReadyIn.cons rfl (λK hK=> ?_) AllReadyIn.nil)
  case' tx3=>refine wpAnyIn_ready (rs:=[2]) (by kernel_rfl) (by simp) (AllReadyIn.cons rfl (λK hK=> ?_) AllReadyIn.nil)
  case' tx2=>refine wpAnyIn_ready (rs:=[1]) (by kernel_rfl) (by simp) (AllReadyIn.cons rfl (λK hK=> ?_) AllReadyIn.nil)
  case' tx4=>refine wpAnyIn_ready (rs:=[1]) (by kernel_rfl) (by simp) (AllReadyIn.cons rfl (λK hK=> ?_) AllReadyIn.nil)
  case' tx1|tx2|tx3|tx4=>go_simp;refine hK _ _ ?_;clear hK K
  all_goals
   refine wpAnyIn_ready (rs:=[6]) (by kernel_rfl) (by simp) (AllReadyIn.cons rfl (λK hK=> ?_) AllReadyIn.nil);go_simp;refine hK _ _ ?_;clear hK K;refine wpAnyIn_ready (rs:=[7]) (by kernel_rfl) (by simp) ?_;refine AllReadyIn.cons rfl (λK hK=> ?_) AllReadyIn.nil;go_simp;refine⟨trivial,?_⟩;gi_at_call 184;refine(callsIn_wide.2 (EJ _ 4 [name,Z4 len,Z4 i,QX text i] [] _ (HO.out.2.2.2.2.2.2 w8) er.out)).mono ?_;rw[HO.out.2.2.2.2.2.1];rintro e w9 ⟨rfl,Z⟩;have U:=Z5F (eo.out.after (((Below.refl w8.heap.size w8).alloc Z5D _).trans (Z.mono (by simp))));clear Z;go_simp;refine hK _ _ ?_;clear hK K;refine wpAnyIn_take (i:=8) (v:=.string Hi) rfl rfl (by kernel_rfl) (by kernel_rfl) (by kernel_rfl) (λ_ _ _ h=>h) ⟨Or.inl ⟨by rfl,by intro w;go_simp;try with_reducible rfl⟩,λ_=>rfl⟩ ?_;refine wpAnyIn_ready (rs:=[9]) (by kernel_rfl) (by simp) ?_;refine AllReadyIn.cons rfl (λK hK=> ?_) AllReadyIn.nil;go_simp;refine⟨trivial,?_⟩;gi_at_call 164;refine(callsIn_wide.2 (GP (b6+1) (b6+1) out Hi _ U.out.sl.bld (by have h1:=HO.out.2.2.1;have h2:=HO.out.2.2.2.2.1;omega) (Nat.le_of_lt U.out.sl.hi))).mono ?_;rintro e fm ⟨rfl,hw,hb,hk,hn⟩;have bj:=Z5L (U.out.sl.wrote hw hb hk) (U.out.kp.trans hk) (U.out.nc.trans hn) (Z5w U.out.sz hb.size);clear hw hb hk hn;go_simp;refine hK _ _ ?_;clear hK K;refine wpAnyIn_done (by kernel_rfl) ?_ _;gi_wp2;exact⟨⟨bj.out.2.2.2,λk o _ hk ho=>bj.out.2.2.1 k o hk ho⟩,bj.out.2.1,by show SlS _ _ _ _ _ _ _ _ _ _;rw[HO.out.2.1,<-HO.out.2.2.2.1];exact bj.out.1⟩
 case done=>
  rintro D xs W hD hS hi hK;have b9:(Xm name text++xs.flatMap λi=>Xf name text i.1)=Yo name text:=by unfold Yo XQ;rw[M.out.2.2.1,<-hS,List.flatMap_map]
  rw[b9] at hi;have HI:=Z5F hi;have dm:D≠b6+1:=by have:=ct.out.hi;omega
  have bz:=Z5K dm hD hle;clear hi b9 dm hD;go_wp2_with (go_at_call 165;refine(Fm (b6+1) (b6+1) _ _ HI.out.bld (Nat.le_of_lt HI.out.hi)).mono ?_;rintro e w9 ⟨rfl,Z,bf⟩;have dt:=bf D _ hK bz.out.1 rfl;have U:=Z5F (HI.out.bel.trans (Z.mono HI.out.lo));clear Z bf hK);refine⟨by simp,.inl ⟨_,_,rfl,run_takeDeferred dt,?_⟩⟩;refine⟨_,results_tmp2 rfl _ _ _,rfl,U.out.trans (belowK_b (w:=w) Z5D _ D _ _ (Z5w bz.out.2.2 bz.out.2.1) dt rfl rfl)⟩
