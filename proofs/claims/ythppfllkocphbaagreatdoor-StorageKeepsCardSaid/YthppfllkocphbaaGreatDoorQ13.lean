/-
  Part 14 of the proof: lemmas about what the program computes.
-/
import Derived.WideMake
import Derived.RangeFuncNested
import Derived.RangeFuncBound
import Derived.RangeFuncCalls
import Derived.RangeFuncLeaves
import Derived.Shelf.Abstract
import Derived.Shelf.RegionOpen
import Derived.OwnWalkIn
import Derived.TacticsInMore
import Derived.LoopNIn
import Derived.LoopIn
import Derived.Test.YthppfllkocphbaaGreatDoorQ12
namespace Go.Proofs.YthppfllkocphbaaGreatDoor
set_option linter.unusedVariables false
set_option linter.unusedSimpArgs false
set_option maxHeartbeats 25600000
set_option maxRecDepth 100000
open Tryz
section
open Go.RowKit Go.Maps Go.WideMaps
variable{w:World}
theorem Zb6(s:ByteArray)(hs:4<=s.size)(w:World):
  Calls prog 218 #[.string s] w fun e w'=>e=.returned (.int .i64 (YI s.data.toList:Int))/\∃q,w'=w.drewN q:=by
 have i0:0<s.size:=by omega
 have i1:(1:Int)<(s.size:Int):=by omega
 have i2:(2:Int)<(s.size:Int):=by omega
 have i3:(3:Int)<(s.size:Int):=by omega
 have hr:(YI s.data.toList:Int)=(s[0].toNat:Int)*16777216+(s[1].toNat:Int)*65536+(s[2].toNat:Int)*256+(s[3].toNat:Int):=by
  have g:∀i (h:i<s.size),s.data.toList.getD i 0=s[i]:=by
   intro i h
   have h2:i<s.data.toList.length:=by simpa using h
   rw[ZjE,ZjF h2]
   exact Xq s i h h2
  unfold YI
  rw[g 0 (by omega),g 1 (by omega),g 2 (by omega),g 3 (by omega)]
  omega
 rw[hr]
 obtain⟨e1,e2,e3,e4,e5,e6,e7,e8,e9,ae⟩:=Z3t s[0].toNat s[1].toNat s[2].toNat s[3].toNat s[0].toNat_lt s[1].toNat_lt s[2].toNat_lt s[3].toNat_lt
 clear hr
 go_enter func218,ntmps218
 go_wp2
 go_quiet (fail)
 go_wp2
 go_ret
 exact⟨Z04 (Xy (by omega)),_,rfl⟩
theorem Z85(s:ByteArray)(hs:4<=s.size)(w:World):
  Calls prog 218 #[.string s] w fun e w'=>e=.returned (.int .i64 (YI s.data.toList:Int))/\Below w.heap.size w w':=
 (Zb6 s hs w).mono fun _ _ ⟨he,q,hw⟩=>⟨he,by rw[hw];exact Zp Zk9 q⟩
structure Yg(w:World)(s d:Nat)(S:Sto):Prop where
 mem:∃j b uv,Row w s 157 [.pointer (some ⟨d,0,none⟩),.pointer (some ⟨j,0,none⟩),.int .i64 S.half,.map (some b),uv,.bool false]/\JAt w j d S.j/\Zy w b S.dir.length S.dir/\JA w uv S.used
theorem Z1u(B p d:Nat)(P:Pw)(D:Dk)(L:List Nat)(w:World)(h:PD B w p d 800 P D L):
  Calls prog 107 #[.pointer (some ⟨d,0,none⟩)] w fun e w'=>∃s b,e=.returned (.tuple #[.pointer (some ⟨s,0,none⟩),.nilIface])/\Row w' s 157 [.pointer (some ⟨d,0,none⟩),.pointer none,.int .i64 100,.map (some b),.slice none 0 0,.bool false]/\Zy w' b 0 []/\w.heap.size<=s/\w.heap.size<=b/\Below w.heap.size w w':=by
 obtain⟨gh,v,_,hd⟩:=h.dk
 have hl:=h.ok.len
 have mk:=fun W=>run_makeMap_plain (P:=prog) W 155
 go_enter func107,ntmps107
 go_wp2_with (go_at_call 138;refine(Yt p d gh v D 800 _ hd hl (by omega)).mono ?_;rintro e w' ⟨rfl,rfl⟩)
 go_ret2
 have hm:=Zz.made w
 have ae:Below w.heap.size w (w.alloc (.map #[] 0)):=(Below.refl _ w).alloc Zk8 _
 have e4:max (4:Int) 100=100:=by decide
 rw[e4]
 have hz:(w.alloc (.map #[] 0)).heap.size=w.heap.size+1:=by simp
 have hr:=Row.new (w.alloc (.map #[] 0)) 157 [.pointer (some ⟨d,0,none⟩),.pointer none,.int .i64 100,.map (some w.heap.size),.slice none 0 0,.bool false]
 rw[hz] at hr
 refine⟨_,w.heap.size,rfl,hr,?_,by simp,Zk8,ae.alloc (by simp) _⟩
 exact⟨fun _=>none,hm.after (Zk9.alloc Zk8 _),fun _ _=>rfl,fun k e h=>by cases h⟩
def Zds(w:World)(v:Value)(rs:List (Nat×Nat)):Prop:=∃a cap,v=.slice a rs.length cap/\Z48 w a rs.length rs
theorem Z61:(prog.info? 197).map (fun i=>(i.zero,i.size,i.bytes))=some (some (.agg #[.int .i64 0,.int .i64 0]),2,16):=by kernel_rfl
theorem Z03{base:Nat}{e:TypeId}{v:Value}{n:Nat}{xs:List Value}(h:w.ownsRow base e 2 v n xs)(hn:v≠.slice none 0 0):∃g cap sp,v=.slice (some ⟨g,0,none⟩) n cap/\base<=g/\n<=cap/\cap<=maxLen/\Row w g e (xs++sp):=by
 rcases h.2 with ⟨h0,_⟩|⟨g,cap,cur,hv,hb,hh,ae,af,ah,ag⟩
 ·exact absurd h0 hn
 ·refine⟨g,cap,cur.toList.drop (n*2),hv,hb,ae,af,Row.mk ?_⟩
  rw[<-ag,Zk4]
  simpa using hh
theorem ZcU(rs:List (Nat×Nat)):∀u∈Qt rs,u.oneCell'=true:=by
 intro u hu
 unfold Qt at hu
 obtain⟨r,_,hu⟩:=List.mem_flatMap.1 hu
 simp only[ZjV,Zk3,or_false] at hu
 rcases hu with rfl|rfl<;>rfl
theorem Zbl(g cap:Nat)(rs:List (Nat×Nat))(sp:List Value)(w:World)(h:Row w g 197 (Qt rs++sp))(hn:rs.length<=1000000):
  Calls prog 142 #[.slice (some ⟨g,0,none⟩) rs.length cap] w fun e w'=>∃v,e=.returned v/\Zds w' v rs/\Below w.heap.size w w':=by
 obtain⟨i0,hi,ah,ai,aj⟩:=info_parts Z61
 have HR:=Zka h
 have al:=h.lt
 have hq:∀W,(binOp .eql 162 (.slice (some ⟨g,0,none⟩) rs.length cap) (.slice none 0 0)).run prog W=.ok (.bool false) W:=fun W=>by
  simp only[binOp]
  simp[run_equal_slice_nil W 162 197 (some ⟨g,0,none⟩) rs.length cap underlying162]
 clear h
 go_enter func142,ntmps142
 go_wp2_with (at_builtin;refine wpList_append_own _ rfl (.tmp 5) (.tmp 6) 162 rfl w.heap.size 197 i0 _ 2 16 underlying162 hi ah ai aj rfl (by omega) _ 0 [] rfl ⟨rfl,Or.inr ⟨w.heap.size,0,#[],rfl,Zk8,heap_alloc_new w _,Zk8,by simp[maxLen],rfl,rfl⟩⟩ ⟨g,0,none⟩ rs.length cap (Qt rs) rfl (by rw[YE];omega) (fun j u hj=> ?_) (fun u hu=> ?_) (by unfold maxLen;omega) (by omega) (by simp) ?_)
 ·have h1:=HR.out.after ((Below.refl _ w).alloc Zk8 (.cells #[] 197))
  have ag:=(List.getElem?_eq_some_iff.1 hj).1
  rw[show(⟨g,0,none⟩:Addr).add j=⟨g,j,none⟩ from by unfold Addr.add;split<;>simp_all]
  exact h1.cell (by rw[ZjH ag];exact hj)
 ·exact ZcU rs u hu
 ·intro v' w' h1 h2 h3
  have af:v'≠.slice none 0 0:=h3
  have hb:Below w.heap.size w w':=Fr.nil_below ((((Fr.refl [] w).alloc _).grown h2 (fun k hk=>by simp only[Value.ownBlock,ZjJ] at hk;subst hk;exact Or.inr Zk8)))
  obtain⟨g',ae,ak,hv,_,_,_,hr⟩:=Z03 h1 af
  clear h1 h2 h3 af
  subst hv
  go_wp2
  go_ret
  exact⟨_,rfl,⟨some ⟨g',0,none⟩,ae,rfl,rfl,Or.inr ⟨g',ak,rfl,hr⟩⟩,hb⟩
theorem Z07(w:World):(zeroValue 164).run prog w=.ok (.agg #[.int .i64 0,.int .u32 0,.slice none 0 0]) w:=by kernel_rfl
theorem Yg.after{w':World}{s d:Nat}{S:Sto}(h:Yg w s d S)(hb:Below w.heap.size w w'):Yg w' s d S:=by
 obtain⟨j,b,uv,h1,h2,h3,g,hv,h4⟩:=h
 exact⟨j,b,uv,h1.after hb,h2.after hb,h3.after hb,g,hv,h4.after hb⟩
theorem Z12(s d:Nat)(S:Sto)(name:Bs)(e:Ent)(w:World)(h:Yg w s d S)(hn:name.length<=1000000)(hg:S.dir.get name=some e)(ai:e.runs≠[])(aj:e.runs.length<=1000000):
  Calls prog 97 #[.pointer (some ⟨s,0,none⟩),.string (str name)] w fun r w'=>∃v,r=.returned (.tuple #[v,.nilIface])/\Zds w' v e.runs/\Below w.heap.size w w':=by
 obtain⟨j,b,uv,h1,h2,⟨fv,m1,m2,m3⟩,h4⟩:=h
 obtain⟨v,hv,a,len,cap,rfl,⟨hlen,hr⟩, -⟩:=m3 name e hg
 subst hlen
 have ah:=m1.look_some (t:=155) (e:=164) underlying155 (Z07 w) (show name.length<=maxLen by unfold maxLen;omega) hv
 obtain⟨g,sp,rfl,ae⟩:∃g sp,a=some ⟨g,0,none⟩/\Row w g 197 (Qt e.runs++sp):=by
  rcases hr with h0|h0
  ·exact absurd h0 ai
  ·exact h0
 have c3:=h1.cell (j:=3) rfl
 have c5:=h1.cell (j:=5) rfl
 have al:=h1.lt
 have ak:=Zka ae
 clear h1 h2 m1 m2 m3 h4 ae hr hv hg ai
 go_enter func97,ntmps97
 have ag:Below w.heap.size w (w.alloc (.cells #[.int .i64 (e.size:Int),.int .u32 (e.sum:Int),.slice (some ⟨g,0,none⟩) e.runs.length cap] 164)):=(Below.refl _ w).alloc Zk8 _
 have af:=Zka ag
 clear ag
 go_wp2_with (go_at_call 142;refine(Zbl g cap e.runs sp _ (ak.out.after af.out) aj).mono ?_;rintro r w' ⟨v,rfl,hv,hb⟩)
 go_ret2
 exact⟨_,rfl,hv,af.out.trans (hb.mono af.out.size)⟩
theorem Z11(s d:Nat)(S:Sto)(name:Bs)(w:World)(h:Yg w s d S)(hn:name.length<=1000000)(hg:S.dir.get name=none):
  Calls prog 97 #[.pointer (some ⟨s,0,none⟩),.string (str name)] w fun r w'=>∃b,r=.returned (.tuple #[.slice none 0 0,.iface 139 (.pointer (some ⟨b,0,none⟩))])/\Zu w' w.heap.size 13 (.iface 139 (.pointer (some ⟨b,0,none⟩)))/\Below w.heap.size w w':=by
 obtain⟨j,b,uv,h1,h2,⟨fv,m1,m2,m3⟩,h4⟩:=h
 have ag:=m1.look_none (t:=155) (e:=164) underlying155 (Z07 w) (show name.length<=maxLen by unfold maxLen;omega) (m2 name hg)
 have c3:=h1.cell (j:=3) rfl
 have c5:=h1.cell (j:=5) rfl
 clear h1 h2 m1 m2 m3 h4 hg
 go_enter func97,ntmps97
 have af:Below w.heap.size w (w.alloc (.cells #[.int .i64 0,.int .u32 0,.slice none 0 0] 164)):=(Below.refl _ w).alloc Zk8 _
 have ae:=Zka af
 clear af
 go_wp2_with (go_at_call 83;refine(Z3B 13 0 (by decide) _).mono ?_;rintro r w' ⟨bb,rfl,hv,hb⟩)
 go_ret2
 exact⟨_,rfl,hv.base (by simp),ae.out.trans (hb.mono ae.out.size)⟩
end
section
open Go.RowKit
def QG(w w':World):Prop:=∀g et l,et≠258->et≠5->Row w g et l->Row w' g et l
theorem Zal(B b:Nat)(bs:List Value)(w:World)(h:Lib.IsBuilder 258 5 B b bs w):
  Calls prog 229 #[.pointer (some ⟨b,0,none⟩)] w fun e w'=>e=.returned (.tuple #[])/\(Lib.BuilderAt 258 5 B b (.pointer (some ⟨b,0,none⟩)) bs w'/\Below B w w'/\QG w w'):=by
 rcases h with h|h
 ·refine(Z1H b w h.cell0 h.shape h.frozen0).mono ?_
  rintro e w' ⟨rfl,rfl⟩
  refine⟨rfl,h.used _,(Below.refl B w).setCell (p:=⟨b,0,none⟩) h.1 _,fun g et l h1 h2 hr=>hr.other (fun e=>h1 ?_) _⟩
  obtain⟨_,v,hb,_⟩:=h
  exact Yf hr (by rw[e];exact Row.mk (l:=[_,_]) hb)
 ·refine(Z2o b w h.cell0).mono ?_
  rintro e w' ⟨rfl,rfl⟩
  exact⟨rfl,h,Below.refl B _,fun g et l _ _ hr=>hr⟩
theorem Zaq(B b:Nat)(bs:List Value)(s:ByteArray)(w:World)(h:Lib.IsBuilder 258 5 B b bs w)(hlen:bs.length+s.size<=140737488355328)(az:B<=w.heap.size):
  Calls prog 164 #[.pointer (some ⟨b,0,none⟩),.string s] w fun e w'=>e=.returned (.tuple #[.int .i64 s.size,.nilIface])/\(Lib.BuilderAt 258 5 B b (.pointer (some ⟨b,0,none⟩)) (bs++Lib.strCells s) w'/\Below B w w'/\QG w w'):=by
 obtain⟨i0,hi,aw,ax,ay⟩:=info_parts Xw
 go_enter func164,ntmps164
 go_wp2_with (go_at_call 229;refine(Zal B b bs _ h).mono ?_)
 rintro e w1 ⟨rfl,h1,aj,ak⟩
 have al:=Zka ak
 clear ak
 obtain⟨hB,v,ai,ag,au⟩:=h1
 have c0:w1.cell? ⟨b,0,none⟩=some (.pointer (some ⟨b,0,none⟩)):=by rw[Lib.cell_of_heap ai];rfl
 have c1:w1.cell? ⟨b,1,none⟩=some v:=by rw[Lib.cell_of_heap ai];rfl
 go_wp2_with (at_builtin;refine Lib.wpList_append_own_string _ rfl _ _ 75 9 rfl B 5 i0 underlying75 underlying9 hi aw ax ay _ _ _ rfl ag s rfl ?c3 ?c4 ?c5 ?_)
 case c3=>unfold maxLen;omega
 case c4=>omega
 case c5=>have:=aj.size;omega
 intro v' w2 af ae _
 have aq:b<w1.heap.size:=by
  rcases Nat.lt_or_ge b w1.heap.size with h'|h'
  ·exact h'
  ·simp[Array.getElem?_eq_none h'] at ai
 have ah:w2.heap[b]? =some (.cells #[.pointer (some ⟨b,0,none⟩),v] 258 (0,0)):=by
  rw[ae.block b aq (fun e=>au e.symm)]
  exact ai
 have d0:w2.cell? ⟨b,0,none⟩=some (.pointer (some ⟨b,0,none⟩)):=by rw[Lib.cell_of_heap ah];rfl
 have d1:w2.cell? ⟨b,1,none⟩=some v:=by rw[Lib.cell_of_heap ah];rfl
 have f1:w2.frozen? ⟨b,1,none⟩=false:=Lib.frozen_of_heap ah 1
 obtain⟨ao,n',cap,rfl⟩:∃ao n' cap,v'=.slice ao n' cap:=by
  rcases af.2 with ⟨hv,_⟩|⟨g,cap,cur,hv,_⟩
  ·exact⟨_,_,_,hv⟩
  ·exact⟨_,_,_,hv⟩
 go_wp2
 go_ret2
 refine⟨rfl,?_,?_,?_⟩
 ·exact Lib.BuilderAt.put (T:=258) (e:=5) hB ah (bs':=bs++Lib.strCells s) (by simpa[Lib.strCells_length] using af) (by decide)
 ·exact(aj.grown ae (by have:=aj.size;omega) (fun k hk=>(ag.lt k hk).1)).setCell (p:=⟨b,1,none⟩) hB _
 ·intro g et l h1 h2 hr
  have r1:=al.out g et l h1 h2 hr
  have r2:Row w2 g et l:=Jk r1 ae (Ws r1 ag h2)
  exact r2.other (fun e=>h1 (Yf r2 (by rw[e];exact Row.mk ah))) _
theorem Z5s(B b:Nat)(l:List UInt8)(s:ByteArray)(w:World)(h:Bld w B b l)(hlen:l.length+s.size<=140737488355328)(ae:B<=w.heap.size):
  Calls prog 164 #[.pointer (some ⟨b,0,none⟩),.string s] w fun e w'=>e=.returned (.tuple #[.int .i64 s.size,.nilIface])/\Bld w' B b (l++s.data.toList)/\Below B w w'/\QG w w':=by
 refine(Zaq B b _ s w h (by simpa[Lib.byteCells] using hlen) ae).mono ?_
 rintro e w' ⟨rfl,hw,hb,hk⟩
 refine⟨rfl,Or.inr ?_,hb,hk⟩
 have:Lib.byteCells l++Lib.strCells s=Lib.byteCells (l++s.data.toList):=by
  simp[Lib.byteCells,Lib.strCells]
 rw[<-this]
 exact hw
def AbT{β:Type}(T:TypeId)(B:Nat)(J:β->World->Prop):Prop:=∀s W a v l,J s W->B<=a.block->Row W a.block T l->J s (W.setCell a v)
def ZiH{α:Type}(T:TypeId)(n:Nat)(P:Program)(g:Nat)(lb:Array Value)(encs:α->Array Value)(Kp:World->World->Prop)(S:List α->Prop)(N:Nat)(w:World):Prop:=
 ∀ (l:Nat) (J:List α->World->Prop) (W:World),Below w.heap.size w W->AbidesFrom W.heap.size J->AbT T W.heap.size J->
   (∀pre x W1,J pre W1->pre.length<N->YieldAt Fence.wide (n-1) P l (encs x) W1 fun e W'=>e=.returned (.bool true)/\J (pre++[x]) W'/\Kp W1 W')->
   J [] W->CallsIn Fence.wide n P g (#[.func (.yield l) #[] #[]]++lb) W fun e W'=>(∃v,e=.returned v)/\∃xs,S xs/\J xs W'
def ZiO{α:Type}(B:Nat)(Kp:World->World->Prop)(I:List α->World->Prop)(xs:List α)(W:World):Exit->Act->World->Prop
 |.normal,_,W'=>KeepsFrom B W W'/\Kp W W'/\I xs W'
 |_,_,_=>False
theorem Z5D{α:Type}{T:TypeId}{n:Nat}{P:Program}{g:Operand}{ps:Array Tmp}{assign body:Code}{Q:Exit->Act->World->Prop}{a:Act}{w:World}
  (h1:1<=n) {gf:Nat} {lb:Array Value} (hg:a.eval g=.func (.func gf) #[] lb) (eg:∀args w,(callFunc gf args).run P w=.ok (.enter gf args) w)
  {encs:α->Array Value} {Kp:World->World->Prop} {S:List α->Prop} {N:Nat} {w0:World} (ay:ZiH T (n-1) P gf lb encs Kp S N w0)
  (aw:∀{A B C:World},Kp A B->Kp B C->Kp A C) (az:∀ (W:World) (l:Nat) (o o':Obj),w.heap.size<=l->W.heap[l]? =some o->o.isCells=false->o.isWalk=false->Kp W (W.putObj l o')) (b9:Below w0.heap.size w0 w) (cz:∀x,(encs x).size=ps.size)
  (I:List α->World->Prop) (hI:OwnFrom w.heap.size I) (bq:AbT T w.heap.size I) (h0:I [] w) (Ax:α->Act->World->Prop) (bj:∀x a',OwnFrom w.heap.size (fun(_:Unit) W=>Ax x a' W))
  (af:∀ (l:Nat) (pre:List α) (x:α) (W:World) (K:Act->World->Prop),I pre W->(∀a' W',KeepsFrom w.heap.size W W'->Kp W W'->I pre W'->Ax x a' W'->K a' W')->
   assign.wpIn (Fence.wide.inRound l) (n-1-1) P (Exit.then K (fun _ _ _=>False)) {tmps:=(ps.zip (encs x)).foldl (fun t (p,v)=>t.setIfInBounds p v) a.tmps,defers:=[]} W)
  (aj:∀ (l:Nat) (pre:List α) (x:α) (a':Act) (W:World),w.heap.size<=l->I pre W->Ax x a' W->pre.length<N->body.wpIn (Fence.wide.inRound l) (n-1-1) P (ZiO w.heap.size Kp I (pre++[x]) W) a' W)
  (ak:∀ (D:Nat) (xs:List α) (W:World),w.heap.size<=D->S xs->I xs W->W.heap[D]? =some (.deferred (some []))->Q .normal {a with defers:={target:=.collected D,args:= #[]}::a.defers} W):
  (Code.rangeFunc g ps assign body).wpIn Fence.wide n P Q a w:=by
 refine wpIn_rangeFunc ?_
 intro fn cr
 rw[show Fence.wide.round=none from rfl]
 obtain⟨rec,ae⟩:∃rec:LoopState->Option Code->Loop,rec=fun st pe=>{state:=st,pending:=pe,fn,tmps:=a.tmps,params:=ps,assign,body,defers:=w.heap.size}:=⟨_,rfl⟩
 obtain⟨W1,ah⟩:∃W1,(w.alloc (.deferred (some []))).alloc (.loop (rec .ready none))=W1:=⟨_,rfl⟩
 have bz:W1.heap[w.heap.size+1]? =some (.loop (rec .ready none)):=by
  rw[<-ah];have:=World.alloc_heap_new (w.alloc (.deferred (some []))) (.loop (rec .ready none));rwa[World.size_alloc] at this
 have bu:W1.heap[w.heap.size]? =some (.deferred (some [])):=by
  rw[<-ah];exact(Below.heap_alloc _ _ _ (by simp)).trans (World.alloc_heap_new w _)
 have bm:I [] W1:=by rw[<-ah];exact hI.alloc _ (hI.alloc _ h0)
 have cn:Below w0.heap.size w0 W1:=by
  rw[<-ah];exact b9.trans ((((Below.refl _ w).alloc Zk8 _).alloc (by simp) _).mono b9.size)
 refine⟨w.heap.size+1,[{target:=.collected w.heap.size,args:= #[]}],W1,{target:=.fn (.func gf) lb,args:= #[.func (.yield (w.heap.size+1)) #[] #[]]},W1,gf,
  #[.func (.yield (w.heap.size+1)) #[] #[]]++lb,W1,?_,?_,?_,?_,fun _=>h1,?_⟩
 ·rw[<-ah,ae];exact run_enterLoop_outer _ _ _ _ _
 ·simp only[resolve,hg]
  simp[go_sem]
 ·intro f' de;trivial
 ·simp[invoke,go_sem,eg]
 ·have cy:∀{A B:World} {row:Option Nat},(∀r,row=some r->W1.heap.size<=r/\∃o:Obj,A.heap[r]? =some o/\o.isWalk=true)->(∀r,row=some r->w.heap.size<=r/\∃o:Obj,A.heap[r]? =some o/\o.isCells=false):=
   fun hr r e=>by obtain⟨hB,o,ho,hw⟩:=hr r e;exact⟨by rw[<-ah] at hB;simp at hB;omega,o,ho,Obj.not_cells_of_walk hw⟩
  have aq:∀{W:World} {b:Nat} {o:Obj} {c:Addr} {v:Value} {l:List Value},W.heap[b]? =some o->o.isCells=false->Row W c.block T l->(W.setCell c v).heap[b]? =some o:=fun{W b o c v l} hb ho hr=>by
   rw[Below.heap_setCell W c v b (fun e=>by
    subst e
    obtain⟨f,al,_⟩:=hr
    rw[al] at hb
    cases hb
    simp[Obj.isCells] at ho)]
   exact hb
  refine(ay (w.heap.size+1)
   (fun pre W=>I pre W/\W.heap[w.heap.size+1]? =some (.loop (rec .ready none))/\W.heap[w.heap.size]? =some (.deferred (some [])))
   W1 cn
   (fun s A B row hs al hr=>⟨hI s A B row hs.1 al (cy (B:=B) hr),(grownBy_keeps al (fun r e=>(hr r e).2) hs.2.1 rfl).trans hs.2.1,(grownBy_keeps al (fun r e=>(hr r e).2) hs.2.2 rfl).trans hs.2.2⟩)
   (fun s W c v l hs hB hr=>⟨bq s W c v l hs.1 (Zk1 (by rw[<-ah];simp;omega) hB) hr,aq hs.2.1 rfl hr,aq hs.2.2 rfl hr⟩)
   ?_ ⟨bm,bz,bu⟩).mono ?_
  ·rintro pre x W ⟨hi,hl,hk⟩ hlen
   have bh:w.heap.size+1<W.heap.size:=(ZjQ.1 hl).1
   have hy:=run_yield (P:=P) (args:=encs x) hl (by rw[ae];exact cz x)
   rw[ae] at hy
   refine⟨fn,_,assign,body,hy,roundIn_of_wpIn cr (af _ pre x W _ hi ?_)⟩
   clear hy
   intro a' Wa ag ai bf cj
   replace hl:=ag.same _ _ (by omega) hl rfl
   replace hk:=ag.same _ _ Zk8 hk rfl
   replace bh:w.heap.size+1<Wa.heap.size:=(ZjQ.1 hl).1
   replace hi:=bf
   clear bf
   revert ai ag
   generalize W=Wb
   intro ag ai
   obtain⟨W,rfl⟩:∃W,W=Wa:=⟨_,rfl⟩
   refine⟨_,run_beginRound hl (by rw[ae]),?_⟩
   have cw:(W.putObj (w.heap.size+1) (.loop {rec .ready none with state:=.busy})).heap[w.heap.size+1]? =some (.loop {rec .ready none with state:=.busy}):=World.putObj_heap_same bh
   have cu:(W.putObj (w.heap.size+1) (.loop {rec .ready none with state:=.busy})).heap[w.heap.size]? =some (.deferred (some [])):=(World.putObj_heap_other (by omega)).trans hk
   have dc:Kp W (W.putObj (w.heap.size+1) (.loop {rec .ready none with state:=.busy})):=az _ _ _ _ (by omega) hl rfl rfl
   refine wpIn_mono (aj _ pre x a' _ (by omega) (hI.putObj _ hi (by omega) hl rfl) ((bj x a').putObj (s:=()) _ cj (by omega) hl rfl) hlen) ?_
   rintro e a3 W3 hp
   cases e with
   |normal=>
    obtain⟨bg,ax,ct⟩:=hp
    have au:=bg.same _ _ (by omega) cw rfl
    have hr:=run_endRound (P:=P) none au
    rw[ae] at hr
    refine⟨_,_,hr,rfl,⟨hI.putObj _ ct (by omega) au rfl,?_,?_⟩,aw ai (aw (aw dc ax) (az _ _ _ _ (by omega) au rfl rfl))⟩
    ·rw[ae];exact World.putObj_heap_same (ZjQ.1 au).1
    ·exact(World.putObj_heap_other (by omega)).trans (bg.same _ _ Zk8 cu rfl)
   |ret=>exact hp.elim
   |exit id=>exact hp.elim
   |goto t=>exact hp.elim
   |panic ch=>exact hp.elim
   |outgrown=>exact hp.elim
  ·rintro e W2 ⟨⟨v,rfl⟩,xs,hS,hi,hl,hk⟩
   exact⟨none,_,by have:=run_endLoop (P:=P) hl (by rw[ae];simp);rw[ae] at this;exact this,ak _ xs _ Zk8 hS (hI.putObj _ hi (by omega) hl rfl) ((World.putObj_heap_other (by omega)).trans hk)⟩
end
end Go.Proofs.YthppfllkocphbaaGreatDoor
