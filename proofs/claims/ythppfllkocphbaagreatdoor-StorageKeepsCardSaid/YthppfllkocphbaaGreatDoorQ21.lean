/-
  Part 22 of the proof: lemmas about what the program computes.
-/
import Derived.Test.YthppfllkocphbaaGreatDoorQ37
import Derived.Test.YthppfllkocphbaaGreatDoorQ40
namespace Go.Proofs.YthppfllkocphbaaGreatDoor
set_option linter.unusedVariables false
set_option linter.unusedSimpArgs false
set_option maxHeartbeats 25600000
set_option maxRecDepth 100000
open Tryz
section
open Go.RowKit Go.Shelf
variable{i n:Nat}
attribute [local go_sem] Oper.semAt_some
theorem JY(n:Nat)(hn:n<=4294967295)(w:World):
  Calls prog 183 #[.int .i64 n] w fun e w'=>e=.returned (.string (s32 n))/\Below w.heap.size w w':=by
 go_enter func183,ntmps183
 go_wp2_with (go_at_call 125;refine(Z9t n hn _).mono ?_;rintro e w' ⟨rfl,hb⟩)
 go_ret
 exact⟨rfl,hb⟩
theorem XI(g:Nat)(c:Nat)(l:List Bs)(sp:List Value)(w:World)(h:Row w g 9 (Z6 (l.map str)++sp))(ag:(Zv l).length<=60000):
  Calls prog 184 #[.slice (some ⟨g,0,none⟩) l.length c] w fun e w'=>e=.returned (.string (str (Z0O l)))/\Below w.heap.size w w':=by
 have hd:(str (Zv l)).size<=100000000:=by rw[Z5];omega
 go_enter func184,ntmps184
 go_wp2_with (first
  |(go_at_call 126;refine(Z18 g c l sp _ h ag).mono ?_;rintro e w1 ⟨rfl,ae⟩;have S1:=Zka ae;clear ae)
  |(go_at_call 239;refine(Zdd (str (Zv l)) _ hd).mono ?_;rintro e w2 ⟨rfl,af⟩;have S2:=Zka (S1.out.trans (af.mono S1.out.size));clear af))
 go_ret
 exact⟨rfl,S2.out⟩
theorem Ze9(n:Nat)(hn:n<=10000)(w:World):
  Calls prog 219 #[.int .i64 n] w fun e w'=>e=.returned (.int .i64 ((36+n+32*QX n:Nat):Int))/\w=w':=by
 go_enter func219,ntmps219
 go_wp2
 go_ret
 exact⟨YP (by unfold QX;omega),rfl⟩
theorem Z6p(n:Nat)(w:World):
  Calls prog 185 #[.int .i64 n] w fun e w'=>e=.returned (.func (.func 240) #[] #[.pointer (some ⟨w.heap.size,0,none⟩)])/\w'=w.alloc (.cells #[.int .i64 n] 3):=by
 go_enter func185,ntmps185
 go_wp2
 go_ret
 exact⟨rfl,rfl⟩
abbrev Bk(n:Nat):={i:Nat // i<QX n}
def bAt(i:Nat):Nat:=200*i
def bSe(i:Nat):Nat:=36+232*i
def bSz(n i:Nat):Nat:=min 200 (n-200*i)
def Z79(n:Nat)(i:Bk n):Array Value:= #[.int .i64 (i.1:Int),.agg #[.int .i64 (bAt i.1:Int),.int .i64 (bSe i.1:Int),.int .i64 (bSz n i.1:Int)]]
theorem Z6o(h:i<QX n):200*i<n:=by unfold QX at h;omega
theorem ZiK(h:¬i<QX n):n<=200*i:=by unfold QX at h;omega
theorem Z5r(n Bn:Nat)(len:Nat)(w:World)(hb:Row w Bn 3 [.int .i64 (len:Int)])(hl:len<=20000)(hn:1<=n):
  ZiH 278 n prog 240 #[.pointer (some ⟨Bn,0,none⟩)] (Z79 len) QG (fun xs=>xs.map (·.1)=List.range (QX len)) (QX len) w:=fun l J W hW hJ bz hY h0=>by
 refine callsIn_of_wp func240 rfl trivial ?_ rfl
 simp only[ntmps240,List.size_toArray,ZjM,List.length_nil,Nat.reduceAdd,Nat.reduceSub,Array.replicate_succ,Array.replicate_zero,List.push_toArray,List.append_toArray,List.nil_append,List.cons_append]
 have cj:=hb.after hW
 have bq:J [] (W.alloc (.cells #[.int .i64 0,.int .i64 36,.int .i64 0] 278)):=hJ [] W _ none h0 (World.grownBy_alloc W _ none) (by simp)
 have cw:=Row.new W 278 [.int .i64 0,.int .i64 36,.int .i64 0]
 have cn:=cj.alloc (.cells #[.int .i64 0,.int .i64 36,.int .i64 0] 278)
 have HB:=Zka (Zkb bq (Zkb cw cn))
 have bg:=Zka bz
 have HY:=Zka hY
 clear hb cj bq cw cn hJ bz hY h0
 gi_wp2
 obtain⟨b0,b9⟩:∃b0,W.heap.size=b0:=⟨_,rfl⟩
 rw[b9] at HB⊢
 generalize W.alloc (.cells #[.int .i64 0,.int .i64 36,.int .i64 0] 278)=W1 at*
 gi_loopw [4] (fun iv wr=>∃ (i:Nat) (pre:List (Bk len)) (sz:Nat),i<=QX len/\iv=.int .i64 (i:Int)/\pre.map (·.1)=List.range i/\Row wr b0 278 [.int .i64 ((min (200*i) len:Nat):Int),.int .i64 ((36+(min (200*i) len+32*i):Nat):Int),.int .i64 (sz:Int)]/\Row wr Bn 3 [.int .i64 (len:Int)]/\J pre wr) (fun iv wr=>QX len- (intOf iv).toNat)
 case atStart=>exact⟨0,[],0,by omega,rfl,rfl,by simpa using HB.out.2.1,HB.out.2.2,HB.out.1⟩
 case round=>
  obtain⟨i,pre,sz,hi,rfl,ah,af,aq,hj⟩:=hrel
  by_cases aj:i<QX len
  ·have cy:=Z6o aj
   have bj:min (200*i) len=200*i:=Nat.min_eq_left (Nat.le_of_lt cy)
   rw[bj] at af
   obtain⟨at_,ak⟩:∃at_,200*i=at_:=⟨_,rfl⟩
   obtain⟨se,bf⟩:∃se,36+(200*i+32*i)=se:=⟨_,rfl⟩
   rw[bf,ak] at af
   have ag:pre.length=i:=by have:=congrArg List.length ah;simpa using this
   obtain⟨z,hz⟩:∃z,min 200 (len-200*i)=z:=⟨_,rfl⟩
   have dh:min (200:Int) ((len:Int)- (at_:Int))=(z:Int):=by omega
   have df:=Zk2 ((len:Int)- (at_:Int)) (by omega)
   have au:decide ((at_:Int)<(len:Int))=true:=decide_eq_true (by omega)
   have c0:=af.cell (j:=0) rfl
   have c1:=af.cell (j:=1) rfl
   have c2:=af.cell (j:=2) rfl
   have f2:=af.free (j:=2) (by simp)
   have n0:=aq.cell (j:=0) rfl
   have ai:=af.set 2 (.int .i64 (z:Int))
   have bm:Bn≠b0:=Row.ne aq af (by decide)
   have ax:=aq.other (p:=⟨b0,2,none⟩) bm (.int .i64 (z:Int))
   have ct:=bg.out pre wr ⟨b0,2,none⟩ (.int .i64 (z:Int)) _ hj (Nat.le_of_eq b9) af
   obtain⟨fn,tmps,assign,body,hy,hR⟩:=HY.out pre ⟨i,aj⟩ _ ct (by rw[ag];exact aj)
   unfold Z79 at hy
   rw[show bSz len (⟨i,aj⟩:Bk len).1=z from hz,show bSe (⟨i,aj⟩:Bk len).1=se from by rw[<-bf];show 36+232*i=_;omega,show bAt (⟨i,aj⟩:Bk len).1=at_ from ak] at hy
   have y0:=ai.cell (j:=0) rfl
   have y1:=ai.cell (j:=1) rfl
   have y2:=ai.cell (j:=2) rfl
   have H2:=Zka (Zkb ai (Zkb ax (Zkb ah (Zkb ag (Zkb ak bf)))))
   clear af aq hj ct ai ax ah ag bf
   gi_wp2
   refine hR.mono ?_
   rintro e W3 ⟨rfl,bu,bh⟩
   have ae:=bh _ _ _ (by decide) (by decide) H2.out.1
   have ay:=bh _ _ _ (by decide) (by decide) H2.out.2.1
   have dw:=ae.cell (j:=0) rfl
   have z31:=ae.cell (j:=1) rfl
   have z32:=ae.cell (j:=2) rfl
   have dj:=ae.free (j:=0) (by simp)
   have dm:=ae.free (j:=1) (by simp)
   obtain⟨a2,dp⟩:∃a2,at_+z=a2:=⟨_,rfl⟩
   obtain⟨z2,dt⟩:∃z2,z+32=z2:=⟨_,rfl⟩
   obtain⟨al,dc⟩:∃al,se+z2=al:=⟨_,rfl⟩
   have aw:=(ae.set 0 (.int .i64 (a2:Int))).set 1 (.int .i64 (al:Int))
   have az:=(ay.other (p:=⟨b0,0,none⟩) bm (.int .i64 (a2:Int))).other (p:=⟨b0,1,none⟩) bm (.int .i64 (al:Int))
   have cu:=bg.out _ _ ⟨b0,1,none⟩ (.int .i64 (al:Int)) _ (bg.out _ W3 ⟨b0,0,none⟩ (.int .i64 (a2:Int)) _ bu (Nat.le_of_eq b9) ae) (Nat.le_of_eq b9) (ae.set 0 (.int .i64 (a2:Int)))
   have H4:=Zka (Zkb aw (Zkb az cu))
   have s1:(at_:Int)+(z:Int)=(a2:Int):=by omega
   have s2:(z:Int)+32=(z2:Int):=by omega
   have s3:(se:Int)+(z2:Int)=(al:Int):=by omega
   have du:z<=200:=by omega
   have dq:at_<=20000:=by have:=H2.out.2.2.2.2.1;omega
   have dr:i<=20000:=by omega
   have de:se<=30000:=by have:=H2.out.2.2.2.2.2;omega
   clear ae ay bu aw az cu bh hy hR c0 c1 c2 f2 n0 y0 y1 y2 au df dh
   gi_wp2
   go_roundw
   case measure=>simp[intOf];omega
   case rel=>
    obtain⟨q1,q2,q3,q4,q5,q6⟩:=H2.out
    refine⟨i+1,pre++[⟨i,aj⟩],z,by omega,by go_num,by rw[ZjZ,q3,List.range_succ];rfl,?_,H4.out.2.1,H4.out.2.2⟩
    have h9:=H4.out.1
    have e1:min (200*(i+1)) len=a2:=by omega
    have e2:36+(min (200*(i+1)) len+32*(i+1))=al:=by omega
    rw[e2,e1]
    exact h9
  ·have cz:=ZiK aj
   have bj:min (200*i) len=len:=Nat.min_eq_right cz
   rw[bj] at af
   have c0:=af.cell (j:=0) rfl
   have n0:=aq.cell (j:=0) rfl
   have au:decide ((len:Int)<(len:Int))=false:=decide_eq_false (by omega)
   have cr:i=QX len:=by omega
   have H2:=Zka (Zkb ah (Zkb hj cr))
   clear af aq hj ah cr
   gi_wp2
   go_end0
   exact⟨⟨_,rfl⟩,pre,H2.out.1.trans (congrArg List.range H2.out.2.2),H2.out.2.1⟩
end
section
open Go.RowKit Go.Shelf
variable{a b:World}
def NC(w w':World):Prop:=∀ (k:Nat) (o:Obj),w.heap[k]? =some o->o.isCells=false->w'.heap[k]? =some o
theorem NC.set{w:World}{b j:Nat}{cs:Array Value}{e:TypeId}{fr:Nat×Nat}{v:Value}(hb:w.heap[b]? =some (.cells cs e fr)):NC w (w.setCell ⟨b,j,none⟩ v):=fun k o hk ho=>by
 rw[Below.heap_setCell w ⟨b,j,none⟩ v k (fun e9=>by
  have e8:k=b:=e9
  subst e8
  rw[hb] at hk
  cases hk
  simp[Obj.isCells] at ho)]
 exact hk
theorem NC.trans{c:World}(h:NC a b)(k:NC b c):NC a c:=fun i o hi ho=>k i o (h i o hi ho) ho
theorem NC.below(h:Below a.heap.size a b):NC a b:=fun i o hi ho=>(h.block i (ZjQ.1 hi).1).trans hi
theorem Zam(B b:Nat)(bs:List Value)(w:World)(h:Lib.IsBuilder 258 5 B b bs w):
  Calls prog 229 #[.pointer (some ⟨b,0,none⟩)] w fun e w'=>e=.returned (.tuple #[])/\(Lib.BuilderAt 258 5 B b (.pointer (some ⟨b,0,none⟩)) bs w'/\Below B w w'/\QG w w'/\NC w w'):=by
 rcases h with h|h
 ·refine(Z1H b w h.cell0 h.shape h.frozen0).mono ?_
  rintro e w' ⟨rfl,rfl⟩
  refine⟨rfl,h.used _,(Below.refl B w).setCell (p:=⟨b,0,none⟩) h.1 _,fun g et l h1 h2 hr=>hr.other (fun e=>h1 ?_) _,fun k o hk ho=> ?_⟩
  ·obtain⟨_,v,hb,_⟩:=h
   exact Yf hr (by rw[e];exact Row.mk (l:=[_,_]) hb)
  ·obtain⟨_,v,hb,_⟩:=h
   exact NC.set hb k o hk ho
 ·refine(Z2o b w h.cell0).mono ?_
  rintro e w' ⟨rfl,rfl⟩
  exact⟨rfl,h,Below.refl B _,fun g et l _ _ hr=>hr,fun k o hk _=>hk⟩
theorem Zar(B b:Nat)(bs:List Value)(s:ByteArray)(w:World)(h:Lib.IsBuilder 258 5 B b bs w)(hlen:bs.length+s.size<=140737488355328)(bf:B<=w.heap.size):
  Calls prog 164 #[.pointer (some ⟨b,0,none⟩),.string s] w fun e w'=>e=.returned (.tuple #[.int .i64 s.size,.nilIface])/\(Lib.BuilderAt 258 5 B b (.pointer (some ⟨b,0,none⟩)) (bs++Lib.strCells s) w'/\Below B w w'/\QG w w'/\NC w w'):=by
 obtain⟨i0,hi,ay,az,b9⟩:=info_parts Xw
 go_enter func164,ntmps164
 go_wp2_with (go_at_call 229;refine(Zam B b bs _ h).mono ?_)
 rintro e w1 ⟨rfl,h1,aj,ak⟩
 have al:=Zka ak.1
 have aq:=Zka ak.2
 clear ak
 obtain⟨hB,v,ai,af,ax⟩:=h1
 have c0:w1.cell? ⟨b,0,none⟩=some (.pointer (some ⟨b,0,none⟩)):=by rw[Lib.cell_of_heap ai];rfl
 have c1:w1.cell? ⟨b,1,none⟩=some v:=by rw[Lib.cell_of_heap ai];rfl
 go_wp2_with (at_builtin;refine Lib.wpList_append_own_string _ rfl _ _ 75 9 rfl B 5 i0 underlying75 underlying9 hi ay az b9 _ _ _ rfl af s rfl ?c3 ?c4 ?c5 ?_)
 case c3=>unfold maxLen;omega
 case c4=>omega
 case c5=>have:=aj.size;omega
 intro v' w2 ag ae _
 have aw:b<w1.heap.size:=by
  rcases Nat.lt_or_ge b w1.heap.size with h'|h'
  ·exact h'
  ·simp[Array.getElem?_eq_none h'] at ai
 have ah:w2.heap[b]? =some (.cells #[.pointer (some ⟨b,0,none⟩),v] 258 (0,0)):=by
  rw[ae.block b aw (fun e=>ax e.symm)]
  exact ai
 have d0:w2.cell? ⟨b,0,none⟩=some (.pointer (some ⟨b,0,none⟩)):=by rw[Lib.cell_of_heap ah];rfl
 have d1:w2.cell? ⟨b,1,none⟩=some v:=by rw[Lib.cell_of_heap ah];rfl
 have f1:w2.frozen? ⟨b,1,none⟩=false:=Lib.frozen_of_heap ah 1
 obtain⟨ao,n',cap,rfl⟩:∃ao n' cap,v'=.slice ao n' cap:=by
  rcases ag.2 with ⟨hv,_⟩|⟨g,cap,cur,hv,_⟩
  ·exact⟨_,_,_,hv⟩
  ·exact⟨_,_,_,hv⟩
 go_wp2
 go_ret2
 refine⟨rfl,?_,?_,?_,?_⟩
 ·exact Lib.BuilderAt.put (T:=258) (e:=5) hB ah (bs':=bs++Lib.strCells s) (by simpa[Lib.strCells_length] using ag) (by decide)
 ·exact(aj.grown ae (by have:=aj.size;omega) (fun k hk=>(af.lt k hk).1)).setCell (p:=⟨b,1,none⟩) hB _
 ·intro g et l h1 h2 hr
  have r1:=al.out g et l h1 h2 hr
  have r2:Row w2 g et l:=Jk r1 ae (Ws r1 af h2)
  exact r2.other (fun e=>h1 (Yf r2 (by rw[e];exact Row.mk (l:=[_,_]) ah))) _
 ·intro k o hk ho
  have r1:=aq.out k o hk ho
  have au:k<w1.heap.size:=(ZjQ.1 r1).1
  have r2:w2.heap[k]? =some o:=(ae.block k au (fun e=>by
   rcases af.2 with ⟨hv,_⟩|⟨g,cap,cur,hv,_,hh,_⟩
   ·rw[hv] at e;cases e
   ·rw[hv] at e
    simp only[Value.ownBlock,ZjJ] at e
    subst e
    rw[hh] at r1
    cases r1
    simp[Obj.isCells] at ho)).trans r1
  exact NC.set ah k o r2 ho
theorem Xf(B b:Nat)(l:List UInt8)(s:ByteArray)(w:World)(h:Bld w B b l)(hlen:l.length+s.size<=140737488355328)(ae:B<=w.heap.size):
  Calls prog 164 #[.pointer (some ⟨b,0,none⟩),.string s] w fun e w'=>e=.returned (.tuple #[.int .i64 s.size,.nilIface])/\Bld w' B b (l++s.data.toList)/\Below B w w'/\QG w w'/\NC w w':=by
 refine(Zar B b _ s w h (by simpa[Lib.byteCells] using hlen) ae).mono ?_
 rintro e w' ⟨rfl,hw,hb,hk⟩
 refine⟨rfl,Or.inr ?_,hb,hk⟩
 have:Lib.byteCells l++Lib.strCells s=Lib.byteCells (l++s.data.toList):=by
  simp[Lib.byteCells,Lib.strCells]
 rw[<-this]
 exact hw
theorem Z49(B b:Nat)(l:List UInt8)(w:World)(h:Bld w B b l)(ae:B<=w.heap.size):
  Calls prog 165 #[.pointer (some ⟨b,0,none⟩)] w fun e w'=>e=.returned (.string ⟨l.toArray⟩)/\Below B w w'/\(∀ (k:Nat) (o:Obj),w.heap[k]? =some o->k≠b->o.isCells=false->w'.heap[k]? =some o):=by
 refine(Any.Builder_String_any_k Tryz.lays169 Tryz.Builder_Extra_169 B b l w (Lib.IsBuilderF.of h) ae).mono ?_
 rintro e w' ⟨he,_,hb,hk⟩
 exact⟨he,hb,fun k o h1 h2 h3=>hk k o h1 (fun e9=>h2 (Option.some.inj e9)) (fun c fz e9=>by rw[e9] at h3;simp[Obj.isCells] at h3)⟩
end
section
open Go.RowKit Go.Shelf
variable{P:Program}{Q:Exit->Act->World->Prop}{l n:Nat}{ops:Array Oper}
theorem Z8o{md:Region.Mode}(af:∀ (i:Nat) (o:Oper),ops[i]? =some o->∀c,o.op≠.defer c):
  ∀ (fuel:Nat) (ae:Array Bool) (a:Act) (w:World),wpAnyIn Fence.wide n P md ops Q fuel ae a w->wpAnyIn (Fence.wide.inRound l) n P md ops Q fuel ae a w:=by
 intro fuel
 induction fuel with
 |zero=>intro ae a w h;exact h
 |succ fuel ih=>
  intro ae a w h
  refine⟨h.1,fun i hi=> ?_⟩
  have hh:=h.2 i hi
  unfold wpOpIn at hh⊢
  cases ho:ops[i]? with
  |none=>rw[ho] at hh;exact ih _ _ _ hh
  |some o=>
   rw[ho] at hh
   simp only at hh⊢
   split
   ·rename_i hw
    rw[if_pos hw] at hh
    unfold Oper.wpIn at hh⊢
    refine⟨hh.1,?_⟩
    have h2:=hh.2
    rw[Oper.semAt_eq _ _ _ (af i o ho)] at h2⊢
    generalize (execOp a.eval o).run P w=r at*
    cases r with
    |ok x w'=>
     cases x<;>simp only[Oper.uponIn] at h2⊢<;>
      first
       |exact ih _ _ _ h2
       |exact⟨h2.1,CallsIn.mono (CallsIn.inRound l h2.2) (fun e ag he=>by cases e<;>first|exact ih _ _ _ he|exact he)⟩
       |exact⟨h2.1,RowsIn.mono (F:=Fence.wide.inRound l) h2.2 (fun _ _ he=>ih _ _ _ he)⟩
       |exact⟨h2.1,RoundIn.mono (F:=Fence.wide.inRound l) h2.2 (fun e ag he=>by cases e<;>first|exact ih _ _ _ he|exact he)⟩
    |halt x w'=>cases x<;>simp only[Oper.uponIn] at h2⊢<;>exact h2
   ·rename_i hw
    rw[if_neg hw] at hh
    exact⟨hh.1,ih _ _ _ hh.2⟩
def Z5d(o:Oper):Bool:=match o.op with
 |.defer _=>false
 |_=>true
theorem ZaT(h:ops.all Z5d=true):∀ (i:Nat) (o:Oper),ops[i]? =some o->∀c,o.op≠.defer c:=by
 intro i o ho c hc
 have h1:=Array.all_eq_true.1 h i (ZjQ.1 ho).1
 rw[(ZjQ.1 ho).2] at h1
 unfold Z5d at h1
 rw[hc] at h1
 cases h1
theorem Z4L{id:Nat}{a:Act}{w:World}(hm:P.follows .mixedOrders=true)(ae:ops.all Z5d=true)
  (h:wpAnyIn Fence.wide n P .any ops Q ops.size (Array.replicate ops.size false) a w.drew):(Code.region id ops true).wpIn (Fence.wide.inRound l) n P Q a w:=
 wpIn_region_any hm (Z8o (ZaT ae) _ _ _ _ h)
end
section
open Go.RowKit Go.Shelf
variable{P:Program}{Q:Exit->Act->World->Prop}{n:Nat}{ops:Array Oper}{w:World}
theorem ZeC{row:String}{args:Array Value}{R:Value->World->Prop}(h:Rows P row args w R):RowsIn Fence.wide n P row args w R:=
 fun c cs _=>let ⟨v,w',r,s⟩:=h c cs;⟨v,w',r,stepsIn_wide.2 s⟩
theorem Zaa{md:Region.Mode}(hl:¬LetsOut Q):
  ∀ (fuel:Nat) (ae:Array Bool) (a:Act) (w:World),wpAny P md ops Q fuel ae a w->wpAnyIn Fence.wide n P md ops Q fuel ae a w:=by
 intro fuel
 induction fuel with
 |zero=>intro ae a w h;exact h
 |succ fuel ih=>
  intro ae a w h
  refine⟨h.1,fun i hi=> ?_⟩
  have hh:=h.2 i hi
  unfold wpOp at hh
  unfold wpOpIn
  cases ho:ops[i]? with
  |none=>rw[ho] at hh;exact ih _ _ _ hh
  |some o=>
   rw[ho] at hh
   simp only at hh⊢
   split
   ·rename_i hw
    rw[if_pos hw] at hh
    have h2:=hh.resolve_right (fun h=>hl h.2)
    unfold Oper.wpIn
    refine⟨fun _ _=>trivial,?_⟩
    have e0:o.semAt (Fence.wide).round a.eval=execOp a.eval o:=rfl
    rw[e0]
    unfold Oper.wp at h2
    generalize (execOp a.eval o).run P w=r at*
    cases r with
    |ok x w'=>
     cases x<;>simp only[Oper.upon] at h2<;>simp only[Oper.uponIn]<;>
      first
       |exact ih _ _ _ h2
       |exact⟨fun h=>(Bool.noConfusion h),callsIn_wide.2 (Calls.mono h2 (fun e af he=>by cases e<;>first|exact ih _ _ _ he|exact he))⟩
       |exact⟨fun h=>(Bool.noConfusion h),ZeC (Rows.mono h2 (fun _ _ he=>ih _ _ _ he))⟩
    |halt x w'=>cases x<;>simp only[Oper.upon] at h2<;>simp only[Oper.uponIn]<;>exact h2
   ·rename_i hw
    rw[if_neg hw] at hh
    exact⟨fun _ _=>trivial,ih _ _ _ hh⟩
theorem Z5m{l:Nat}{S:World->Prop}{id:Nat}{a:Act}(hl:¬LetsOut Q)(hm:P.follows .mixedOrders=true)(ae:ops.all Z5d=true)
  (hS:S w.drew) (h:S w.drew->wpAnyH P .any ops Q S ops.size (Array.replicate ops.size false) a w.drew):(Code.region id ops true).wpIn (Fence.wide.inRound l) n P Q a w:=
 Z4L hm ae (Zaa hl _ _ _ _ (wpAny_of_held _ _ _ _ (h hS)))
end
section
open Go.RowKit Go.Shelf
variable{Q:Exit->Act->World->Prop}{a b:World}
attribute [local go_sem] Oper.semAt_some
theorem Row.nc{W W':World}{row:Option Nat}{g:Nat}{e:TypeId}{l:List Value}(hr:Row W g e l)(hg:W.grownBy W' row)(hn:∀r,row=some r->∃o:Obj,W.heap[r]? =some o/\o.isCells=false):Row W' g e l:=
 Jk hr hg (fun e9=>by
  obtain⟨o,ho,hc⟩:=hn g e9
  obtain⟨f,hh,_⟩:=hr
  rw[ho] at hh
  cases hh
  simp[Obj.isCells] at hc)
theorem Bld.keepB{w w':World}{B b:Nat}{l:List UInt8}(h:Bld w B b l){L:List Nat}(hf:Fr L w w')(hL:∀i∈L,∀cs e fr,w.heap[i]? =some (.cells cs e fr)->e≠258/\e≠5):Bld w' B b l:=by
 have k:∀p,Lib.BuilderAt 258 5 B b p (Lib.byteCells l) w->Lib.BuilderAt 258 5 B b p (Lib.byteCells l) w':=by
  rintro p ⟨hB,v,hb,ae,ag⟩
  have af:b<w.heap.size:=(ZjQ.1 hb).1
  refine⟨hB,v,(hf.block b af (fun hm=>(hL b hm _ _ _ hb).1 rfl)).trans hb,ZZ ae hf (fun g hg hm=> ?_),ag⟩
  rcases ae.2 with ⟨hv,_⟩|⟨g',cap,cur,hv,_,hh,_⟩
  ·rw[hv] at hg;cases hg
  ·rw[hv] at hg
   simp only[Value.ownBlock,ZjJ] at hg
   subst hg
   exact(hL _ hm _ _ _ hh).2 rfl
 exact h.imp (k _) (k _)
structure SlS(w:World)(bn bt b6 bb:Nat)(name text n:ByteArray)(out:List UInt8)(W:World):Prop where
 rn:Row W bn 9 [.string name]
 rt:Row W bt 9 [.string text]
 r6:Row W b6 9 [.string n]
 bld:Bld W bb bb out
 bel:Below w.heap.size w W
 lo:w.heap.size<=bb
 hi:bb<W.heap.size
section
variable{w:World}{bn bt b6 bb:Nat}{name text n:ByteArray}{out:List UInt8}{W:World}
theorem SlS.after(h:SlS w bn bt b6 bb name text n out W){W':World}(hb:Below W.heap.size W W'):SlS w bn bt b6 bb name text n out W':=
 ⟨h.rn.after hb,h.rt.after hb,h.r6.after hb,h.bld.after hb,h.bel.trans (hb.mono h.bel.size),h.lo,Zk0 h.hi hb.size⟩
theorem SlS.wrote(h:SlS w bn bt b6 bb name text n out W){W':World}{ae:List UInt8}(hw:Bld W' bb bb ae)(hb:Below bb W W')(hk:QG W W'):SlS w bn bt b6 bb name text n ae W':=
 ⟨hk _ _ _ (by decide) (by decide) h.rn,hk _ _ _ (by decide) (by decide) h.rt,hk _ _ _ (by decide) (by decide) h.r6,hw,h.bel.trans (hb.mono h.lo),h.lo,Zk0 h.hi hb.size⟩
theorem SlS.own{α:Type}{F:α->List UInt8}{B:Nat}(hB:w.heap.size<=B):OwnFrom B (fun(s:α) W=>SlS w bn bt b6 bb name text n (F s) W):=fun s A C row hs hg hr=>by
 have hn:∀r,row=some r->∃o:Obj,A.heap[r]? =some o/\o.isCells=false:=fun r e=>(hr r e).2
 have hf:Fr row.toList A C:=⟨hg.os,hg.tape,hg.output,hg.size,fun k hk hm=>hg.block k hk (fun e=>hm (by rw[<-e];simp))⟩
 refine⟨hs.rn.nc hg hn,hs.rt.nc hg hn,hs.r6.nc hg hn,hs.bld.keepB hf (fun i hi cs e fr hh=> ?_),hs.bel.trans (hf.below hs.bel.size (fun i hi=> ?_)),hs.lo,Zk0 hs.hi hg.size⟩
 ·cases row with
  |none=>simp at hi
  |some r=>
   simp only[Option.toList_some,ZjD] at hi
   subst hi
   obtain⟨o,ho,hc⟩:=hn i rfl
   rw[ho] at hh
   cases hh
   simp[Obj.isCells] at hc
 ·cases row with
  |none=>simp at hi
  |some r=>
   simp only[Option.toList_some,ZjD] at hi
   subst hi
   exact Zk1 hB (hr i rfl).1
theorem SlS.abT{α:Type}{F:α->List UInt8}{B:Nat}(hB:w.heap.size<=B):AbT 278 B (fun(s:α) W=>SlS w bn bt b6 bb name text n (F s) W):=fun s A c v l hs hc hr=>by
 have af:∀{g:Nat} {e:TypeId} {l':List Value},e≠278->Row A g e l'->g≠c.block:=fun he h1 h2=>by
  subst h2;exact he (Yf h1 hr)
 have hf:Fr [c.block] A (A.setCell c v):=(Fr.refl _ _).setCell (Or.inl (by simp)) v
 refine⟨hs.rn.other (af (by decide) hs.rn) v,hs.rt.other (af (by decide) hs.rt) v,hs.r6.other (af (by decide) hs.r6) v,hs.bld.keepB hf (fun i hi cs e fr hh=> ?_),hs.bel.setCell (Zk1 hB hc) v,hs.lo,by simpa[World.setCell] using hs.hi⟩
 rw[ZjD] at hi
 subst hi
 obtain⟨f,ae,_⟩:=hr
 rw[hh] at ae
 simp only[ZjJ,Obj.cells.injEq] at ae
 rw[ae.2.1]
 exact⟨by decide,by decide⟩
end
theorem Z4Y{K:Act->World->Prop}:∀e a w,Exit.then K (fun _ _ _=>False) e a w->Exit.then K Q e a w:=by
 intro e a w h
 cases e<;>first|exact h|exact h.elim
def Z8u(Q:Exit->Act->World->Prop):Exit->Act->World->Prop
 |.normal,a,w=>Q .normal a w
 |_,_,_=>False
theorem Z7Y:∀e a w,Z8u Q e a w->Q e a w:=by
 intro e a w h
 cases e<;>first|exact h|exact h.elim
theorem QG.refl(w:World):QG w w:=fun _ _ _ _ _ h=>h
theorem QG.trans{c:World}(h:QG a b)(k:QG b c):QG a c:=fun g e l h1 h2 hr=>k g e l h1 h2 (h g e l h1 h2 hr)
theorem QG.below(h:Below a.heap.size a b):QG a b:=fun g e l h1 h2 hr=>hr.after h
theorem QG.put(W:World)(l:Nat)(o o':Obj)(h:W.heap[l]? =some o)(hc:o.isCells=false):QG W (W.putObj l o'):=fun g e l' h1 h2 hr=>hr.nc (grownBy_putObj' W l o') (fun r e9=>by cases e9;exact⟨o,h,hc⟩)
structure BdS(w:World)(bn bt b6 bb:Nat)(name text n:ByteArray)(out:List UInt8)(W wr:World):Prop where
 sl:SlS w bn bt b6 bb name text n out wr
 kp:QG W wr
 nc:NC W wr
 sz:W.heap.size<=wr.heap.size
theorem BdS.after{w:World}{bn bt b6 bb:Nat}{name text n:ByteArray}{out:List UInt8}{W wr:World}(h:BdS w bn bt b6 bb name text n out W wr){w':World}(hb:Below wr.heap.size wr w'):BdS w bn bt b6 bb name text n out W w':=
 ⟨h.sl.after hb,h.kp.trans (QG.below hb),h.nc.trans (NC.below hb),Zk1 h.sz hb.size⟩
theorem Z8X{n:Nat}(name text:List UInt8)(pre:List (Bk n)):(pre.flatMap fun i=>Xd name text i.1).length<=232*pre.length:=by
 induction pre with
 |nil=>simp
 |cons x r ih=>
  rw[ZjX,ZjI,ZjM]
  have h1:(Xd name text x.1).length<=232:=by
   unfold Xd
   rw[ZjI,Xe,Xj];omega
  omega
theorem Zgw(name text:Bs)(w:World)(hn:name.length<=220)(ht:text.length<=9000):
  Calls prog 127 #[.string (str name),.string (str text)] w fun e w'=>e=.returned (.tuple #[.string (str (Yq name text)),.nilIface])/\Below w.heap.size w w':=by
 have ek:(str name).size=name.length:=Z5 name
 have er:(str text).size=text.length:=Z5 text
 obtain⟨N,hN⟩:∃N,str name=N:=⟨_,rfl⟩
 obtain⟨T,hT⟩:∃T,str text=T:=⟨_,rfl⟩
 rw[hN] at ek
 rw[hT] at er
 obtain⟨len,hlen⟩:∃len,text.length=len:=⟨_,rfl⟩
 rw[hlen] at er ht
 obtain⟨nl,dm⟩:∃nl,name.length=nl:=⟨_,rfl⟩
 rw[dm] at ek hn
 have g1:decide ((220:Int)<(nl:Int))=false:=decide_eq_false (by omega)
 have g2:decide ((10000:Int)<(len:Int))=false:=decide_eq_false (by omega)
 have HX:=Zka (Zkb hN (Zkb hT (Zkb hlen dm)))
 rw[hN,hT]
 clear hN hT hlen dm
 refine(callsIn_wide (n:=9)).1 ?_
 refine callsIn_of_wp_marks func127 rfl trivial ?_ rfl
 simp only[ntmps127,List.size_toArray,ZjM,List.length_nil,Nat.reduceAdd,Nat.reduceSub,Array.replicate_succ,Array.replicate_zero,List.push_toArray,List.append_toArray,List.nil_append,List.cons_append]
 refine wpIn_wide.2 ?_
 go_wp2_with (go_at_call 183;refine(JY len (by omega) _).mono ?_;rintro e w3 ⟨rfl,bh⟩)
 have dh:Below w.heap.size w w3:=(((Below.refl w.heap.size w).alloc Zk8 _).alloc (by simp) _).trans (bh.mono (by simp;omega))
 have fi:w.heap.size+2<=w3.heap.size:=by have:=bh.size;simpa using this
 obtain⟨b6,bj⟩:∃b6,w3.heap.size=b6:=⟨_,rfl⟩
 obtain⟨bn,bm⟩:∃bn,w.heap.size=bn:=⟨_,rfl⟩
 have S5:SlS w bn (bn+1) b6 (b6+1) N T (s32 len) [] ((w3.alloc (.cells #[.string (s32 len)] 9)).alloc (.cells #[.pointer none,.slice none 0 0] 258)):=by
  have hA:Below w3.heap.size w3 ((w3.alloc (.cells #[.string (s32 len)] 9)).alloc (.cells #[.pointer none,.slice none 0 0] 258)):=((Below.refl _ w3).alloc Zk8 _).alloc (by simp) _
  have r1:=((Row.new w 9 [.string N]).alloc (.cells #[.string T] 9)).after bh
  have r2:=(Row.new (w.alloc (.cells #[.string N] 9)) 9 [.string T]).after bh
  have r3:=(Row.new w3 9 [.string (s32 len)]).alloc (.cells #[.pointer none,.slice none 0 0] 258)
  have r4:=Bld.new (w3.alloc (.cells #[.string (s32 len)] 9))
  rw[show(w3.alloc (.cells #[.string (s32 len)] 9)).heap.size=b6+1 from by simp[bj]] at r4
  rw[bj] at r3
  rw[bm] at r1
  rw[show(w.alloc (.cells #[.string N] 9)).heap.size=bn+1 from by simp[bm]] at r2
  exact⟨r1.after hA,r2.after hA,r3,r4,dh.trans (hA.mono dh.size),by omega,by simp;omega⟩
 have cy:=Zka (Zkb S5 (Zkb bm bj))
 rw[bm,bj]
 generalize ((w3.alloc (.cells #[.string (s32 len)] 9)).alloc (.cells #[.pointer none,.slice none 0 0] 258))=w5 at*
 clear bh dh fi S5 bm bj
 obtain⟨sm,cu⟩:∃sm,Z0O [name,Z4 len]=sm:=⟨_,rfl⟩
 have au:sm.length=32:=by rw[<-cu];exact Xj _
 obtain⟨H,hH⟩:∃H,s32 len++str sm=H:=⟨_,rfl⟩
 have dw:H.data.toList=Xn name text:=by
  rw[<-hH,data_append,Z20,Ze,<-cu]
  unfold Xn
  rw[HX.out.2.2.1]
 have dx:H.size=36:=by rw[<-hH,ByteArray.size_append,Qa,Z5,au]
 have fe:∀W,(Op.stringOp .add (s32 len) (str sm)).run prog W=.ok (.string H) W:=fun W=>by rw[<-hH];exact run_string_add_sum W _ _ (by rw[Qa,Z5,au];omega)
 have HH:=Zka (Zkb cu (Zkb au (Zkb hH (Zkb dw dx))))
 clear cu au hH dw dx
 go_cut [] from 22 to 29 (fun wx=>SlS w bn (bn+1) b6 (b6+1) N T (s32 len) (Xn name text) wx)
 case first=>
  have cz:=Zka (cy.out.1.after ((Below.refl w5.heap.size w5).drew))
  have s6:w5.drew.cell? ⟨b6,0,none⟩=some (.string (s32 len))/\w5.drew.cell? ⟨bn,0,none⟩=some (.string N):=⟨cz.out.r6.cell (j:=0) rfl,cz.out.rn.cell (j:=0) rfl⟩
  have c6:=s6.1
  have c2:=s6.2
  have dt:w5.cell? ⟨b6,0,none⟩=some (.string (s32 len)):=c6
  have dr:w5.cell? ⟨bn,0,none⟩=some (.string N):=c2
  have l6:b6<w5.heap.size:=cy.out.1.r6.lt
  have l2:bn<w5.heap.size:=cy.out.1.rn.lt
  refine Code.wp_mono Z4Y ?_
  go_region_with
   (first
    |(go_at_call 184;refine(XI _ 2 [name,Z4 len] [] _ (by have h9:=Row.new w5.drew 9 [.string N,.string (s32 len)];rw[<-HX.out.1] at h9⊢;exact h9) (by rw[ZF,Zc,Zc];have:=HX.out.2.2.2;simp[Zt,Zq];omega)).mono ?_;rw[HH.out.1];rintro e w8 ⟨rfl,ag⟩;have b9:=Zka (cz.out.after (((Below.refl w5.drew.heap.size w5.drew).alloc Zk8 _).trans (ag.mono (by simp))));have c68:w8.cell? ⟨b6,0,none⟩=some (.string (s32 len)):=b9.out.r6.cell (j:=0) rfl;have s8:w8.cell? ⟨b6,0,none⟩=some (.string (s32 len))/\w8.cell? ⟨bn,0,none⟩=some (.string N):=⟨b9.out.r6.cell (j:=0) rfl,b9.out.rn.cell (j:=0) rfl⟩;clear ag)
    |(go_at_call 164;refine(Z5s (b6+1) (b6+1) [] H _ b9.out.bld (by rw[HH.out.2.2.2.2];simp) (Nat.le_of_lt b9.out.hi)).mono ?_;rintro e w9 ⟨rfl,eu,ah,bu⟩;have dc:=Zka (b9.out.wrote eu ah bu);have s9:w9.cell? ⟨b6,0,none⟩=some (.string (s32 len))/\w9.cell? ⟨bn,0,none⟩=some (.string N):=⟨dc.out.r6.cell (j:=0) rfl,dc.out.rn.cell (j:=0) rfl⟩;clear eu ah bu))
  all_goals go_wp2_with fail
  all_goals go_meet
  all_goals (have h9:=dc.out;rw[HH.out.2.2.2.1] at h9;exact h9)
 have HS:=Zka hcut
 have c3:=hcut.rt.cell (j:=0) rfl
 clear hcut
 go_wp2_with (go_at_call 185;refine(Z6p len _).mono ?_;rintro e w6 ⟨rfl,fm⟩)
 have de:=Zka (HS.out.after ((Below.refl wc.heap.size wc).alloc Zk8 (.cells #[.int .i64 (len:Int)] 3)))
 have eo:=Row.new wc 3 [.int .i64 (len:Int)]
 obtain⟨bl,fc⟩:∃bl,wc.heap.size=bl:=⟨_,rfl⟩
 rw[fc] at eo⊢
 generalize wc.alloc (.cells #[.int .i64 (len:Int)] 3)=w7 at*
 have hle:w.heap.size<=w7.heap.size:=de.out.bel.size
 refine wpIn_wide.1 (Z5D (T:=278) (n:=9) (by decide) (gf:=240) (lb:= #[.pointer (some ⟨bl,0,none⟩)]) rfl (enters_of func240 (by kernel_rfl) rfl)
  (encs:=Z79 len) (Kp:=QG) (Z5r 8 bl len w7 eo (by omega) (by decide)) (fun h k=>h.trans k) (fun W l o o' _ h1 h2 _=>QG.put W l o o' h1 h2) Zk9 (fun _=>rfl)
  (fun pre W=>SlS w bn (bn+1) b6 (b6+1) N T (s32 len) (Xn name text++pre.flatMap fun i=>Xd name text i.1) W)
  (SlS.own (F:=fun pre:List (Bk len)=>Xn name text++pre.flatMap fun i=>Xd name text i.1) hle) (SlS.abT (F:=fun pre:List (Bk len)=>Xn name text++pre.flatMap fun i=>Xd name text i.1) hle) (by simpa using de.out)
  (fun x a' W=>∃bx,Row W bx 278 [.int .i64 (bAt x.1:Int),.int .i64 (bSe x.1:Int),.int .i64 (bSz len x.1:Int)]/\a'={tmps:= #[.string N,.string T,.pointer (some ⟨bn,0,none⟩),.pointer (some ⟨bn+1,0,none⟩),.string ⟨#[]⟩,.nilIface,.pointer (some ⟨b6,0,none⟩),.pointer (some ⟨b6+1,0,none⟩),.int .i64 (x.1:Int),.pointer (some ⟨bx,0,none⟩),undef,.string N,.int .i64 (nl:Int),.bool false,.bool false,.string T,.int .i64 (len:Int),.bool false,.bool false,undef,.string T,.int .i64 (len:Int),u22,u23,u24,u25,u26,u27,u28,u29,.string T,.int .i64 (len:Int),.func (.func 240) #[] #[.pointer (some ⟨bl,0,none⟩)],.int .i64 (x.1:Int),.agg #[.int .i64 (bAt x.1:Int),.int .i64 (bSe x.1:Int),.int .i64 (bSz len x.1:Int)],undef,undef,undef,undef,undef,undef,undef,undef,undef,undef,undef,undef,undef,undef,undef,undef,undef,undef,undef,undef],defers:=[]})
  (fun x a' _ X Y row hs hg hr=>by obtain⟨bx,h1,h2⟩:=hs;exact⟨bx,h1.nc hg (fun r e=>(hr r e).2),h2⟩)
  ?assign ?body ?done)
 case assign=>
  rintro l pre x W K hi hK
  simp only[Z79]
  gi_wp2
  exact hK _ _ ((KeepsOthers.alloc _ _).from _) (QG.below ((Below.refl _ W).alloc Zk8 _)) (hi.after ((Below.refl _ W).alloc Zk8 _)) ⟨W.heap.size,Row.new W _ [_,_,_],rfl⟩
 case body=>
  rintro l pre x a' W hl hi ⟨bx,dj,rfl⟩ hlt
  obtain⟨i,eh⟩:=x
  have fg:=Z8X name text pre
  have fa:QX len<=46:=by unfold QX;omega
  have dq:Xn name text++(pre++[(⟨i,eh⟩:Bk len)]).flatMap (fun i=>Xd name text i.1)=(Xn name text++pre.flatMap fun i=>Xd name text i.1)++Xd name text i:=by
   rw[List.flatMap_append,<-ZjL];simp
  have dp:(Xn name text++pre.flatMap fun i=>Xd name text i.1).length<=20000:=by rw[ZjI,Z4S];omega
  obtain⟨out,ay⟩:∃out,(Xn name text++pre.flatMap fun i=>Xd name text i.1)=out:=⟨_,rfl⟩
  rw[ay] at hi dq dp
  have ez:=Z6o eh
  obtain⟨at_,al⟩:∃at_,bAt i=at_:=⟨_,rfl⟩
  obtain⟨z,hz⟩:∃z,bSz len i=z:=⟨_,rfl⟩
  obtain⟨e_,ff⟩:∃e_,at_+z=e_:=⟨_,rfl⟩
  have ax:200*i=at_:=al
  have ew:min 200 (len-200*i)=z:=hz
  have q1:e_<=len:=by omega
  have q2:at_<=e_:=by omega
  have q3:(e_:Int)<=(len:Int):=by omega
  have q4:(at_:Int)<=(e_:Int):=by omega
  have q5:(at_:Int)+(z:Int)=(e_:Int):=by omega
  have q6:at_<=20000:=by omega
  have q7:z<=200:=by omega
  obtain⟨Si,dz⟩:∃Si,T.extract at_ e_=Si:=⟨_,rfl⟩
  have df:Si.data.toList=QL text i:=by
   rw[<-dz,<-HX.out.2.1,Lib.extract_data,Ze]
   unfold QL
   rw[ax,show e_-at_=z from by omega,<-ew,ax,<-HX.out.2.2.1]
   rcases Nat.le_total 200 (text.length-at_) with h9|h9
   ·rw[Nat.min_eq_left h9]
   ·rw[Nat.min_eq_right h9,ZjT (by rw[List.length_drop];omega),ZjT (by rw[List.length_drop];omega)]
  have ey:Si.size<=200:=by rw[<-dz,ByteArray.size_extract];omega
  have ee:str (QL text i)=Si:=by rw[<-df];exact Z6N Si
  obtain⟨cj,aq⟩:∃cj,Z0O [name,Z4 len,Z4 i,QL text i]=cj:=⟨_,rfl⟩
  have aj:cj.length=32:=by rw[<-aq];exact Xj _
  obtain⟨Hi,ct⟩:∃Hi,Si++str cj=Hi:=⟨_,rfl⟩
  have bf:out++Hi.data.toList=out++Xd name text i:=by
   rw[<-ct,data_append,df,Ze,<-aq]
   unfold Xd
   rw[HX.out.2.2.1]
  have bg:Hi.size<=232:=by rw[<-ct,ByteArray.size_append,Z5,aj];omega
  have ef:∀W,(Op.stringOp .add Si (str cj)).run prog W=.ok (.string Hi) W:=fun W=>by rw[<-ct];exact run_string_add_sum W _ _ (by rw[Z5,aj];omega)
  have fj:i<=100:=by omega
  have bz:(Zv [name,Z4 len,Z4 i,QL text i]).length<=60000:=by
   rw[ZF,Zc,Zc,Zc,Zc,Xe]
   have:=HX.out.2.2.2
   simp[Zt,Zq]
   omega
  have aw:∀W:World,Row (W.alloc (.cells #[.string N,.string (s32 len),.string (s32 i),.string Si] 9)) W.heap.size 9 (Z6 ([name,Z4 len,Z4 i,QL text i].map str)++[]):=fun W=>by
   have h9:=Row.new W 9 [.string N,.string (s32 len),.string (s32 i),.string Si]
   rw[<-ee,<-HX.out.1] at h9⊢
   exact h9
  have y0:=dj.cell (j:=0) rfl
  have y2:=dj.cell (j:=2) rfl
  rw[al] at y0
  rw[hz] at y2
  have t0:=hi.rt.cell (j:=0) rfl
  have B0:BdS w bn (bn+1) b6 (b6+1) N T (s32 len) out W W.drew:=⟨hi.after ((Below.refl W.heap.size W).drew),QG.below ((Below.refl W.heap.size W).drew),NC.below ((Below.refl W.heap.size W).drew),Zk8⟩
  have dr:W.cell? ⟨bn,0,none⟩=some (.string N):=hi.rn.cell (j:=0) rfl
  have dt:W.cell? ⟨b6,0,none⟩=some (.string (s32 len)):=hi.r6.cell (j:=0) rfl
  have c2:W.drew.cell? ⟨bn,0,none⟩=some (.string N):=dr
  have c6:W.drew.cell? ⟨b6,0,none⟩=some (.string (s32 len)):=dt
  have ai:=Zka B0
  have HO:=Zka (Zkb ay (Zkb dq (Zkb dp (Zkb bf (Zkb bg (Zkb aq aw))))))
  have az:=Zka bz
  have fh:prog.follows .mixedOrders=true:=by kernel_rfl
  rw[al,hz]
  clear fg dq dp ay ez al hz ff ax ew df ee aq aj ct bf bg dj B0 hi aw bz fa ey
  gi_wp2
  refine wpIn_mono (Q:=Z8u _) ?_ Z7Y
  refine Z4L fh (by kernel_rfl) ?_
  refine wpAnyIn_take (i:=0) (v:=.string Si) rfl rfl (by kernel_rfl) (by kernel_rfl) (by kernel_rfl) (fun _ _ _ h=>h) ⟨Or.inl ⟨by rfl,by intro w;go_simp;try with_reducible rfl⟩,fun _=>rfl⟩ ?_
  refine wpAnyIn_take (i:=3) (v:=.int .i64 (i:Int)) rfl rfl (by kernel_rfl) (by kernel_rfl) (by kernel_rfl) (fun _ _ _ h=>h) ⟨Or.inl ⟨by rfl,by intro w;go_simp;try with_reducible rfl⟩,fun _=>rfl⟩ ?_
  refine wpAnyIn_take (i:=5) (v:=.string Si) rfl rfl (by kernel_rfl) (by kernel_rfl) (by kernel_rfl) (fun _ _ _ h=>h) ⟨Or.inl ⟨by rfl,by intro w;go_simp;try with_reducible rfl⟩,fun _=>rfl⟩ ?_
  refine wpAnyIn_ready (rs:=[1,2,4]) (by kernel_rfl) (by simp) ?_
  refine AllReadyIn.cons rfl (fun K hK=> ?_) (AllReadyIn.cons rfl (fun K hK=> ?_) (AllReadyIn.cons rfl (fun K hK=> ?_) AllReadyIn.nil))
  ·go_simp
   refine hK _ _ ?_
   clear hK K
   refine wpAnyIn_ready (rs:=[2,4]) (by kernel_rfl) (by simp) ?_
   refine AllReadyIn.cons rfl (fun K hK=> ?_) (AllReadyIn.cons rfl (fun K hK=> ?_) AllReadyIn.nil)
   ·go_simp
    refine hK _ _ ?_
    clear hK K
    refine wpAnyIn_ready (rs:=[4]) (by kernel_rfl) (by simp) ?_
    refine AllReadyIn.cons rfl (fun K hK=> ?_) AllReadyIn.nil
    ·go_simp
     refine⟨trivial,?_⟩
     gi_at_call 183
     refine(callsIn_wide.2 (JY i (by omega) _)).mono ?_
     rintro e w8 ⟨rfl,ag⟩
     have cr:w8.cell? ⟨bn,0,none⟩=some (.string N):=((ai.out.after ag).sl.rn).cell (j:=0) rfl
     have c68:w8.cell? ⟨b6,0,none⟩=some (.string (s32 len)):=((ai.out.after ag).sl.r6).cell (j:=0) rfl
     have ak:=Zka (ai.out.after ag)
     clear ag
     go_simp
     refine hK _ _ ?_
     clear hK K
     refine wpAnyIn_ready (rs:=[6]) (by kernel_rfl) (by simp) ?_
     refine AllReadyIn.cons rfl (fun K hK=> ?_) AllReadyIn.nil
     go_simp
     refine hK _ _ ?_
     clear hK K
     refine wpAnyIn_ready (rs:=[7]) (by kernel_rfl) (by simp) ?_
     refine AllReadyIn.cons rfl (fun K hK=> ?_) AllReadyIn.nil
     go_simp
     refine⟨trivial,?_⟩
     gi_at_call 184
     refine(callsIn_wide.2 (XI _ 4 [name,Z4 len,Z4 i,QL text i] [] _ (HO.out.2.2.2.2.2.2 w8) az.out)).mono ?_
     rw[HO.out.2.2.2.2.2.1]
     rintro e w9 ⟨rfl,ah⟩
     have ae:=Zka (ak.out.after (((Below.refl w8.heap.size w8).alloc Zk8 _).trans (ah.mono (by simp))))
     clear ah
     go_simp
     refine hK _ _ ?_
     clear hK K
     refine wpAnyIn_take (i:=8) (v:=.string Hi) rfl rfl (by kernel_rfl) (by kernel_rfl) (by kernel_rfl) (fun _ _ _ h=>h) ⟨Or.inl ⟨by rfl,by intro w;go_simp;try with_reducible rfl⟩,fun _=>rfl⟩ ?_
     refine wpAnyIn_ready (rs:=[9]) (by kernel_rfl) (by simp) ?_
     refine AllReadyIn.cons rfl (fun K hK=> ?_) AllReadyIn.nil
     go_simp
     refine⟨trivial,?_⟩
     gi_at_call 164
     refine(callsIn_wide.2 (Xf (b6+1) (b6+1) out Hi _ ae.out.sl.bld (by have h1:=HO.out.2.2.1;have h2:=HO.out.2.2.2.2.1;omega) (Nat.le_of_lt ae.out.sl.hi))).mono ?_
     rintro e cn ⟨rfl,hw,hb,hk,hn⟩
     have af:=Zka (Zkb (ae.out.sl.wrote hw hb hk) (Zkb (ae.out.kp.trans hk) (Zkb (ae.out.nc.trans hn) (Zk1 ae.out.sz hb.size))))
     clear hw hb hk hn
     go_simp
     refine hK _ _ ?_
     clear hK K
     refine wpAnyIn_done (by kernel_rfl) ?_ _
     gi_wp2
     exact⟨⟨af.out.2.2.2,fun k o _ hk ho=>af.out.2.2.1 k o hk ho⟩,af.out.2.1,by show SlS _ _ _ _ _ _ _ _ _ _;rw[HO.out.2.1,<-HO.out.2.2.2.1];exact af.out.1⟩
   ·go_simp
    refine⟨trivial,?_⟩
    gi_at_call 183
    refine(callsIn_wide.2 (JY i (by omega) _)).mono ?_
    rintro e w8 ⟨rfl,ag⟩
    have cr:w8.cell? ⟨bn,0,none⟩=some (.string N):=((ai.out.after ag).sl.rn).cell (j:=0) rfl
    have c68:w8.cell? ⟨b6,0,none⟩=some (.string (s32 len)):=((ai.out.after ag).sl.r6).cell (j:=0) rfl
    have ak:=Zka (ai.out.after ag)
    clear ag
    go_simp
    refine hK _ _ ?_
    clear hK K
    refine wpAnyIn_ready (rs:=[2]) (by kernel_rfl) (by simp) ?_
    refine AllReadyIn.cons rfl (fun K hK=> ?_) AllReadyIn.nil
    ·go_simp
     refine hK _ _ ?_
     clear hK K
     refine wpAnyIn_ready (rs:=[6]) (by kernel_rfl) (by simp) ?_
     refine AllReadyIn.cons rfl (fun K hK=> ?_) AllReadyIn.nil
     go_simp
     refine hK _ _ ?_
     clear hK K
     refine wpAnyIn_ready (rs:=[7]) (by kernel_rfl) (by simp) ?_
     refine AllReadyIn.cons rfl (fun K hK=> ?_) AllReadyIn.nil
     go_simp
     refine⟨trivial,?_⟩
     gi_at_call 184
     refine(callsIn_wide.2 (XI _ 4 [name,Z4 len,Z4 i,QL text i] [] _ (HO.out.2.2.2.2.2.2 w8) az.out)).mono ?_
     rw[HO.out.2.2.2.2.2.1]
     rintro e w9 ⟨rfl,ah⟩
     have ae:=Zka (ak.out.after (((Below.refl w8.heap.size w8).alloc Zk8 _).trans (ah.mono (by simp))))
     clear ah
     go_simp
     refine hK _ _ ?_
     clear hK K
     refine wpAnyIn_take (i:=8) (v:=.string Hi) rfl rfl (by kernel_rfl) (by kernel_rfl) (by kernel_rfl) (fun _ _ _ h=>h) ⟨Or.inl ⟨by rfl,by intro w;go_simp;try with_reducible rfl⟩,fun _=>rfl⟩ ?_
     refine wpAnyIn_ready (rs:=[9]) (by kernel_rfl) (by simp) ?_
     refine AllReadyIn.cons rfl (fun K hK=> ?_) AllReadyIn.nil
     go_simp
     refine⟨trivial,?_⟩
     gi_at_call 164
     refine(callsIn_wide.2 (Xf (b6+1) (b6+1) out Hi _ ae.out.sl.bld (by have h1:=HO.out.2.2.1;have h2:=HO.out.2.2.2.2.1;omega) (Nat.le_of_lt ae.out.sl.hi))).mono ?_
     rintro e cn ⟨rfl,hw,hb,hk,hn⟩
     have af:=Zka (Zkb (ae.out.sl.wrote hw hb hk) (Zkb (ae.out.kp.trans hk) (Zkb (ae.out.nc.trans hn) (Zk1 ae.out.sz hb.size))))
     clear hw hb hk hn
     go_simp
     refine hK _ _ ?_
     clear hK K
     refine wpAnyIn_done (by kernel_rfl) ?_ _
     gi_wp2
     exact⟨⟨af.out.2.2.2,fun k o _ hk ho=>af.out.2.2.1 k o hk ho⟩,af.out.2.1,by show SlS _ _ _ _ _ _ _ _ _ _;rw[HO.out.2.1,<-HO.out.2.2.2.1];exact af.out.1⟩
  ·go_simp
   refine hK _ _ ?_
   clear hK K
   refine wpAnyIn_ready (rs:=[1,4]) (by kernel_rfl) (by simp) ?_
   refine AllReadyIn.cons rfl (fun K hK=> ?_) (AllReadyIn.cons rfl (fun K hK=> ?_) AllReadyIn.nil)
   ·go_simp
    refine hK _ _ ?_
    clear hK K
    refine wpAnyIn_ready (rs:=[4]) (by kernel_rfl) (by simp) ?_
    refine AllReadyIn.cons rfl (fun K hK=> ?_) AllReadyIn.nil
    ·go_simp
     refine⟨trivial,?_⟩
     gi_at_call 183
     refine(callsIn_wide.2 (JY i (by omega) _)).mono ?_
     rintro e w8 ⟨rfl,ag⟩
     have cr:w8.cell? ⟨bn,0,none⟩=some (.string N):=((ai.out.after ag).sl.rn).cell (j:=0) rfl
     have c68:w8.cell? ⟨b6,0,none⟩=some (.string (s32 len)):=((ai.out.after ag).sl.r6).cell (j:=0) rfl
     have ak:=Zka (ai.out.after ag)
     clear ag
     go_simp
     refine hK _ _ ?_
     clear hK K
     refine wpAnyIn_ready (rs:=[6]) (by kernel_rfl) (by simp) ?_
     refine AllReadyIn.cons rfl (fun K hK=> ?_) AllReadyIn.nil
     go_simp
     refine hK _ _ ?_
     clear hK K
     refine wpAnyIn_ready (rs:=[7]) (by kernel_rfl) (by simp) ?_
     refine AllReadyIn.cons rfl (fun K hK=> ?_) AllReadyIn.nil
     go_simp
     refine⟨trivial,?_⟩
     gi_at_call 184
     refine(callsIn_wide.2 (XI _ 4 [name,Z4 len,Z4 i,QL text i] [] _ (HO.out.2.2.2.2.2.2 w8) az.out)).mono ?_
     rw[HO.out.2.2.2.2.2.1]
     rintro e w9 ⟨rfl,ah⟩
     have ae:=Zka (ak.out.after (((Below.refl w8.heap.size w8).alloc Zk8 _).trans (ah.mono (by simp))))
     clear ah
     go_simp
     refine hK _ _ ?_
     clear hK K
     refine wpAnyIn_take (i:=8) (v:=.string Hi) rfl rfl (by kernel_rfl) (by kernel_rfl) (by kernel_rfl) (fun _ _ _ h=>h) ⟨Or.inl ⟨by rfl,by intro w;go_simp;try with_reducible rfl⟩,fun _=>rfl⟩ ?_
     refine wpAnyIn_ready (rs:=[9]) (by kernel_rfl) (by simp) ?_
     refine AllReadyIn.cons rfl (fun K hK=> ?_) AllReadyIn.nil
     go_simp
     refine⟨trivial,?_⟩
     gi_at_call 164
     refine(callsIn_wide.2 (Xf (b6+1) (b6+1) out Hi _ ae.out.sl.bld (by have h1:=HO.out.2.2.1;have h2:=HO.out.2.2.2.2.1;omega) (Nat.le_of_lt ae.out.sl.hi))).mono ?_
     rintro e cn ⟨rfl,hw,hb,hk,hn⟩
     have af:=Zka (Zkb (ae.out.sl.wrote hw hb hk) (Zkb (ae.out.kp.trans hk) (Zkb (ae.out.nc.trans hn) (Zk1 ae.out.sz hb.size))))
     clear hw hb hk hn
     go_simp
     refine hK _ _ ?_
     clear hK K
     refine wpAnyIn_done (by kernel_rfl) ?_ _
     gi_wp2
     exact⟨⟨af.out.2.2.2,fun k o _ hk ho=>af.out.2.2.1 k o hk ho⟩,af.out.2.1,by show SlS _ _ _ _ _ _ _ _ _ _;rw[HO.out.2.1,<-HO.out.2.2.2.1];exact af.out.1⟩
   ·go_simp
    refine⟨trivial,?_⟩
    gi_at_call 183
    refine(callsIn_wide.2 (JY i (by omega) _)).mono ?_
    rintro e w8 ⟨rfl,ag⟩
    have cr:w8.cell? ⟨bn,0,none⟩=some (.string N):=((ai.out.after ag).sl.rn).cell (j:=0) rfl
    have c68:w8.cell? ⟨b6,0,none⟩=some (.string (s32 len)):=((ai.out.after ag).sl.r6).cell (j:=0) rfl
    have ak:=Zka (ai.out.after ag)
    clear ag
    go_simp
    refine hK _ _ ?_
    clear hK K
    refine wpAnyIn_ready (rs:=[1]) (by kernel_rfl) (by simp) ?_
    refine AllReadyIn.cons rfl (fun K hK=> ?_) AllReadyIn.nil
    ·go_simp
     refine hK _ _ ?_
     clear hK K
     refine wpAnyIn_ready (rs:=[6]) (by kernel_rfl) (by simp) ?_
     refine AllReadyIn.cons rfl (fun K hK=> ?_) AllReadyIn.nil
     go_simp
     refine hK _ _ ?_
     clear hK K
     refine wpAnyIn_ready (rs:=[7]) (by kernel_rfl) (by simp) ?_
     refine AllReadyIn.cons rfl (fun K hK=> ?_) AllReadyIn.nil
     go_simp
     refine⟨trivial,?_⟩
     gi_at_call 184
     refine(callsIn_wide.2 (XI _ 4 [name,Z4 len,Z4 i,QL text i] [] _ (HO.out.2.2.2.2.2.2 w8) az.out)).mono ?_
     rw[HO.out.2.2.2.2.2.1]
     rintro e w9 ⟨rfl,ah⟩
     have ae:=Zka (ak.out.after (((Below.refl w8.heap.size w8).alloc Zk8 _).trans (ah.mono (by simp))))
     clear ah
     go_simp
     refine hK _ _ ?_
     clear hK K
     refine wpAnyIn_take (i:=8) (v:=.string Hi) rfl rfl (by kernel_rfl) (by kernel_rfl) (by kernel_rfl) (fun _ _ _ h=>h) ⟨Or.inl ⟨by rfl,by intro w;go_simp;try with_reducible rfl⟩,fun _=>rfl⟩ ?_
     refine wpAnyIn_ready (rs:=[9]) (by kernel_rfl) (by simp) ?_
     refine AllReadyIn.cons rfl (fun K hK=> ?_) AllReadyIn.nil
     go_simp
     refine⟨trivial,?_⟩
     gi_at_call 164
     refine(callsIn_wide.2 (Xf (b6+1) (b6+1) out Hi _ ae.out.sl.bld (by have h1:=HO.out.2.2.1;have h2:=HO.out.2.2.2.2.1;omega) (Nat.le_of_lt ae.out.sl.hi))).mono ?_
     rintro e cn ⟨rfl,hw,hb,hk,hn⟩
     have af:=Zka (Zkb (ae.out.sl.wrote hw hb hk) (Zkb (ae.out.kp.trans hk) (Zkb (ae.out.nc.trans hn) (Zk1 ae.out.sz hb.size))))
     clear hw hb hk hn
     go_simp
     refine hK _ _ ?_
     clear hK K
     refine wpAnyIn_done (by kernel_rfl) ?_ _
     gi_wp2
     exact⟨⟨af.out.2.2.2,fun k o _ hk ho=>af.out.2.2.1 k o hk ho⟩,af.out.2.1,by show SlS _ _ _ _ _ _ _ _ _ _;rw[HO.out.2.1,<-HO.out.2.2.2.1];exact af.out.1⟩
  ·go_simp
   refine⟨trivial,?_⟩
   gi_at_call 183
   refine(callsIn_wide.2 (JY i (by omega) _)).mono ?_
   rintro e w8 ⟨rfl,ag⟩
   have cr:w8.cell? ⟨bn,0,none⟩=some (.string N):=((ai.out.after ag).sl.rn).cell (j:=0) rfl
   have c68:w8.cell? ⟨b6,0,none⟩=some (.string (s32 len)):=((ai.out.after ag).sl.r6).cell (j:=0) rfl
   have ak:=Zka (ai.out.after ag)
   clear ag
   go_simp
   refine hK _ _ ?_
   clear hK K
   refine wpAnyIn_ready (rs:=[1,2]) (by kernel_rfl) (by simp) ?_
   refine AllReadyIn.cons rfl (fun K hK=> ?_) (AllReadyIn.cons rfl (fun K hK=> ?_) AllReadyIn.nil)
   ·go_simp
    refine hK _ _ ?_
    clear hK K
    refine wpAnyIn_ready (rs:=[2]) (by kernel_rfl) (by simp) ?_
    refine AllReadyIn.cons rfl (fun K hK=> ?_) AllReadyIn.nil
    ·go_simp
     refine hK _ _ ?_
     clear hK K
     refine wpAnyIn_ready (rs:=[6]) (by kernel_rfl) (by simp) ?_
     refine AllReadyIn.cons rfl (fun K hK=> ?_) AllReadyIn.nil
     go_simp
     refine hK _ _ ?_
     clear hK K
     refine wpAnyIn_ready (rs:=[7]) (by kernel_rfl) (by simp) ?_
     refine AllReadyIn.cons rfl (fun K hK=> ?_) AllReadyIn.nil
     go_simp
     refine⟨trivial,?_⟩
     gi_at_call 184
     refine(callsIn_wide.2 (XI _ 4 [name,Z4 len,Z4 i,QL text i] [] _ (HO.out.2.2.2.2.2.2 w8) az.out)).mono ?_
     rw[HO.out.2.2.2.2.2.1]
     rintro e w9 ⟨rfl,ah⟩
     have ae:=Zka (ak.out.after (((Below.refl w8.heap.size w8).alloc Zk8 _).trans (ah.mono (by simp))))
     clear ah
     go_simp
     refine hK _ _ ?_
     clear hK K
     refine wpAnyIn_take (i:=8) (v:=.string Hi) rfl rfl (by kernel_rfl) (by kernel_rfl) (by kernel_rfl) (fun _ _ _ h=>h) ⟨Or.inl ⟨by rfl,by intro w;go_simp;try with_reducible rfl⟩,fun _=>rfl⟩ ?_
     refine wpAnyIn_ready (rs:=[9]) (by kernel_rfl) (by simp) ?_
     refine AllReadyIn.cons rfl (fun K hK=> ?_) AllReadyIn.nil
     go_simp
     refine⟨trivial,?_⟩
     gi_at_call 164
     refine(callsIn_wide.2 (Xf (b6+1) (b6+1) out Hi _ ae.out.sl.bld (by have h1:=HO.out.2.2.1;have h2:=HO.out.2.2.2.2.1;omega) (Nat.le_of_lt ae.out.sl.hi))).mono ?_
     rintro e cn ⟨rfl,hw,hb,hk,hn⟩
     have af:=Zka (Zkb (ae.out.sl.wrote hw hb hk) (Zkb (ae.out.kp.trans hk) (Zkb (ae.out.nc.trans hn) (Zk1 ae.out.sz hb.size))))
     clear hw hb hk hn
     go_simp
     refine hK _ _ ?_
     clear hK K
     refine wpAnyIn_done (by kernel_rfl) ?_ _
     gi_wp2
     exact⟨⟨af.out.2.2.2,fun k o _ hk ho=>af.out.2.2.1 k o hk ho⟩,af.out.2.1,by show SlS _ _ _ _ _ _ _ _ _ _;rw[HO.out.2.1,<-HO.out.2.2.2.1];exact af.out.1⟩
   ·go_simp
    refine hK _ _ ?_
    clear hK K
    refine wpAnyIn_ready (rs:=[1]) (by kernel_rfl) (by simp) ?_
    refine AllReadyIn.cons rfl (fun K hK=> ?_) AllReadyIn.nil
    ·go_simp
     refine hK _ _ ?_
     clear hK K
     refine wpAnyIn_ready (rs:=[6]) (by kernel_rfl) (by simp) ?_
     refine AllReadyIn.cons rfl (fun K hK=> ?_) AllReadyIn.nil
     go_simp
     refine hK _ _ ?_
     clear hK K
     refine wpAnyIn_ready (rs:=[7]) (by kernel_rfl) (by simp) ?_
     refine AllReadyIn.cons rfl (fun K hK=> ?_) AllReadyIn.nil
     go_simp
     refine⟨trivial,?_⟩
     gi_at_call 184
     refine(callsIn_wide.2 (XI _ 4 [name,Z4 len,Z4 i,QL text i] [] _ (HO.out.2.2.2.2.2.2 w8) az.out)).mono ?_
     rw[HO.out.2.2.2.2.2.1]
     rintro e w9 ⟨rfl,ah⟩
     have ae:=Zka (ak.out.after (((Below.refl w8.heap.size w8).alloc Zk8 _).trans (ah.mono (by simp))))
     clear ah
     go_simp
     refine hK _ _ ?_
     clear hK K
     refine wpAnyIn_take (i:=8) (v:=.string Hi) rfl rfl (by kernel_rfl) (by kernel_rfl) (by kernel_rfl) (fun _ _ _ h=>h) ⟨Or.inl ⟨by rfl,by intro w;go_simp;try with_reducible rfl⟩,fun _=>rfl⟩ ?_
     refine wpAnyIn_ready (rs:=[9]) (by kernel_rfl) (by simp) ?_
     refine AllReadyIn.cons rfl (fun K hK=> ?_) AllReadyIn.nil
     go_simp
     refine⟨trivial,?_⟩
     gi_at_call 164
     refine(callsIn_wide.2 (Xf (b6+1) (b6+1) out Hi _ ae.out.sl.bld (by have h1:=HO.out.2.2.1;have h2:=HO.out.2.2.2.2.1;omega) (Nat.le_of_lt ae.out.sl.hi))).mono ?_
     rintro e cn ⟨rfl,hw,hb,hk,hn⟩
     have af:=Zka (Zkb (ae.out.sl.wrote hw hb hk) (Zkb (ae.out.kp.trans hk) (Zkb (ae.out.nc.trans hn) (Zk1 ae.out.sz hb.size))))
     clear hw hb hk hn
     go_simp
     refine hK _ _ ?_
     clear hK K
     refine wpAnyIn_done (by kernel_rfl) ?_ _
     gi_wp2
     exact⟨⟨af.out.2.2.2,fun k o _ hk ho=>af.out.2.2.1 k o hk ho⟩,af.out.2.1,by show SlS _ _ _ _ _ _ _ _ _ _;rw[HO.out.2.1,<-HO.out.2.2.2.1];exact af.out.1⟩
 case done=>
  rintro D xs W hD hS hi hK
  have bq:(Xn name text++xs.flatMap fun i=>Xd name text i.1)=Yq name text:=by
   unfold Yq Xs
   rw[HX.out.2.2.1,<-hS,List.flatMap_map]
  rw[bq] at hi
  have HI:=Zka hi
  have du:D≠b6+1:=by have:=de.out.hi;omega
  have cw:=Zka (Zkb du (Zkb hD hle))
  clear hi bq du hD
  go_wp2_with (go_at_call 165;refine(Z49 (b6+1) (b6+1) _ _ HI.out.bld (Nat.le_of_lt HI.out.hi)).mono ?_;rintro e w9 ⟨rfl,ah,bu⟩;have dy:=bu D _ hK cw.out.1 rfl;have ae:=Zka (HI.out.bel.trans (ah.mono HI.out.lo));clear ah bu hK)
  refine⟨by simp,.inl ⟨_,_,rfl,run_takeDeferred dy,?_⟩⟩
  refine⟨_,results_tmp2 rfl _ _ _,rfl,ae.out.trans (belowK_b (w:=w) Zk8 _ D _ _ (Zk1 cw.out.2.2 cw.out.2.1) dy rfl rfl)⟩
end
end Go.Proofs.YthppfllkocphbaaGreatDoor
