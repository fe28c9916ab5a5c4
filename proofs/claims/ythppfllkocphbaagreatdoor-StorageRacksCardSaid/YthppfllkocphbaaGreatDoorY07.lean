/- Part 8: lemmas about what the program computes. -/
import Derived.RangeFuncNested
import Derived.RangeFuncBound
import Derived.RangeFuncCalls
import Derived.RangeFuncLeaves
import Derived.Shelf.Abstract
import Derived.Shelf.RegionOpen
import Derived.OwnWalkIn
import Derived.TacticsInMore
import Derived.LoopNIn
import Derived.LoopIn
import Derived.Test.YthppfllkocphbaaGreatDoorY06
namespace Go.Proofs.YthppfllkocphbaaGreatDoor
set_option linter.unusedVariables false
set_option linter.unusedSimpArgs false
set_option maxHeartbeats 25600000
set_option maxRecDepth 100000
open Tryz Go.RowKit
def AbT{β:Type}(T:TypeId)(B:Nat)(J:β->World->Prop):Prop:=∀s W a v l,J s W->B<=a.block->Row W a.block T l->J s (W.setCell a v)
def Z4h{α:Type}(T:TypeId)(n:Nat)(P:Program)(g:Nat)(lb:Array Value)(encs:α->Array Value)(Kp:World->World->Prop)(S:List α->Prop)(N:Nat)(w:World):Prop:=
 ∀ (l:Nat) (J:List α->World->Prop) (W:World),Below w.heap.size w W->AbidesFrom W.heap.size J->AbT T W.heap.size J->
   (∀pre x W1,J pre W1->pre.length<N->YieldAt Fence.wide (n-1) P l (encs x) W1 λe W'=>e=.returned (.bool true)/\J (pre++[x]) W'/\Kp W1 W')->
   J [] W->CallsIn Fence.wide n P g (#[.func (.yield l) #[] #[]]++lb) W λe W'=>(∃v,e=.returned v)/\∃xs,S xs/\J xs W'
def Z4q{α:Type}(B:Nat)(Kp:World->World->Prop)(I:List α->World->Prop)(xs:List α)(W:World):Exit->Act->World->Prop
 |.normal,_,W'=>KeepsFrom B W W'/\Kp W W'/\I xs W'
 |_,_,_=>False
theorem Hd{α:Type}{T:TypeId}{n:Nat}{P:Program}{g:Operand}{ps:Array Tmp}{assign body:Code}{Q:Exit->Act->World->Prop}{a:Act}{w:World}(h1:1<=n){gf:Nat}{lb:Array Value}(hg:a.eval g=.func (.func gf) #[] lb)(eg:∀args w,(callFunc gf args).run P w=.ok (.enter gf args) w){encs:α->Array Value}{Kp:World->World->Prop}{S:List α->Prop}{N:Nat}{w0:World}(aw:Z4h T (n-1) P gf lb encs Kp S N w0)(aq:∀{A B C:World},Kp A B->Kp B C->Kp A C)(az:∀ (W:World) (l:Nat) (o o':Obj),w.heap.size<=l->W.heap[l]? =some o->o.isCells=false->o.isWalk=false->Kp W (W.putObj l o'))(b7:Below w0.heap.size w0 w)(dc:∀x,(encs x).size=ps.size)(I:List α->World->Prop)(O:OwnFrom w.heap.size I)(bh:AbT T w.heap.size I)(h0:I [] w)(Ax:α->Act->World->Prop)(bf:∀x J,OwnFrom w.heap.size (λ(_:Unit) W=>Ax x J W))(ae:∀ (l:Nat) (pre:List α) (x:α) (W:World) (K:Act->World->Prop),I pre W->(∀J W',KeepsFrom w.heap.size W W'->Kp W W'->I pre W'->Ax x J W'->K J W')-> assign.wpIn (Fence.wide.inRound l) (n-1-1) P (Exit.then K (λ_ _ _=>False)) {tmps:=(ps.zip (encs x)).foldl (λt (p,v)=>t.setIfInBounds p v) a.tmps,defers:=[]} W)(ai:∀ (l:Nat) (pre:List α) (x:α) (J:Act) (W:World),w.heap.size<=l->I pre W->Ax x J W->pre.length<N->body.wpIn (Fence.wide.inRound l) (n-1-1) P (Z4q w.heap.size Kp I (pre++[x]) W) J W)(aj:∀ (D:Nat) (xs:List α) (W:World),w.heap.size<=D->S xs->I xs W->W.heap[D]? =some (.deferred (some []))->Q .normal {a with defers:={target:=.collected D,args:= #[]}::a.defers} W):(Code.rangeFunc g ps assign body).wpIn Fence.wide n P Q a w:=by
 refine wpIn_rangeFunc ?_;intro fn bz;obtain⟨rec,ag⟩:∃rec:LoopState->Option Code->Loop,rec=λst pe=>{state:=st,pending:=pe,fn,tmps:=a.tmps,params:=ps,assign,body,defers:=w.heap.size}:=⟨_,rfl⟩;obtain⟨F,M⟩:=Z5H ((w.alloc (.deferred (some []))).alloc (.loop (rec .ready none)));have bm:F.heap[w.heap.size+1]? =some (.loop (rec .ready none)):=by rw[<-M];have:=World.alloc_heap_new (w.alloc (.deferred (some []))) (.loop (rec .ready none));rwa[World.size_alloc] at this
 have bj:F.heap[w.heap.size]? =some (.deferred (some [])):=by rw[<-M];exact(Below.heap_alloc _ _ _ (by simp)).trans (World.alloc_heap_new w _)
 have bg:I [] F:=by rw[<-M];exact O.alloc _ (O.alloc _ h0)
 have bu:Below w0.heap.size w0 F:=by rw[<-M];exact b7.trans ((((Below.refl _ w).alloc Z5D _).alloc (by simp) _).mono b7.size)
 refine⟨w.heap.size+1,[{target:=.collected w.heap.size,args:= #[]}],F,{target:=.fn (.func gf) lb,args:= #[.func (.yield (w.heap.size+1)) #[] #[]]},F,gf,
  #[.func (.yield (w.heap.size+1)) #[] #[]]++lb,F,?_,?_,?_,?_,λ_=>h1,?_⟩
 .rw[<-M,ag];exact run_enterLoop_outer _ _ _ _ _
 .simp[resolve,hg];simp[go_sem]
 .intro f' cz;trivial
 .simp[invoke,eg]
 .have cu:∀{A B:World} {row:Option Nat},(∀r,row=some r->F.heap.size<=r/\∃o:Obj,A.heap[r]? =some o/\o.isWalk=true)->(∀r,row=some r->w.heap.size<=r/\∃o:Obj,A.heap[r]? =some o/\o.isCells=false):=
   λh r e=>by obtain⟨hB,o,ho,hw⟩:=h r e;exact⟨by rw[<-M] at hB;simp at hB;omega,o,ho,Obj.not_cells_of_walk hw⟩
  have ak:∀{W:World} {b:Nat} {o:Obj} {c:Addr} {v:Value} {l:List Value},W.heap[b]? =some o->o.isCells=false->Row W c.block T l->(W.setCell c v).heap[b]? =some o:=fun{W b o c v l} hb ho h=>by
   rw[Below.heap_setCell W c v b (λe=>by
    subst e;obtain⟨f,Z,_⟩:=h;rw[Z] at hb;cases hb
    simp[Obj.isCells] at ho)]
   exact hb
  refine(aw (w.heap.size+1)
   (λpre W=>I pre W/\W.heap[w.heap.size+1]? =some (.loop (rec .ready none))/\W.heap[w.heap.size]? =some (.deferred (some [])))
   F bu
   (λs A B row hs Z h=>⟨O s A B row hs.1 Z (cu (B:=B) h),(grownBy_keeps Z (λr e=>(h r e).2) hs.2.1 rfl).trans hs.2.1,(grownBy_keeps Z (λr e=>(h r e).2) hs.2.2 rfl).trans hs.2.2⟩)
   (λs W c v l hs hB h=>⟨bh s W c v l hs.1 (Z5w (by grind) hB) h,ak hs.2.1 rfl h,ak hs.2.2 rfl h⟩)
   ?_ ⟨bg,bm,bj⟩).mono ?_
  .rintro pre x W ⟨hi,hl,hk⟩ hlen;have b9:w.heap.size+1<W.heap.size:=(by grind);have hy:=run_yield (P:=P) (args:=encs x) hl (by simp_all);rw[ag] at hy;refine⟨fn,_,assign,body,hy,roundIn_of_wpIn bz (ae _ pre x W _ hi ?_)⟩;intro J Wa af ah cn bq;replace hl:=af.same _ _ (by omega) hl rfl;replace hk:=af.same _ _ Z5D hk rfl;replace b9:w.heap.size+1<Wa.heap.size:=(Z5l.1 hl).1;replace hi:=cn;revert ah af;intro af ah;obtain⟨W,rfl⟩:=Z5I Wa;refine⟨_,run_beginRound hl (by grind),?_⟩;have ct:(W.putObj (w.heap.size+1) (.loop {rec .ready none with state:=.busy})).heap[w.heap.size+1]? =some (.loop {rec .ready none with state:=.busy}):=World.putObj_heap_same b9;have cr:(W.putObj (w.heap.size+1) (.loop {rec .ready none with state:=.busy})).heap[w.heap.size]? =some (.deferred (some [])):=(World.putObj_heap_other (by omega)).trans hk;have cw:Kp W (W.putObj (w.heap.size+1) (.loop {rec .ready none with state:=.busy})):=az _ _ _ _ (by omega) hl rfl rfl;refine wpIn_mono (ai _ pre x J _ (by omega) (O.putObj _ hi (by omega) hl rfl) ((bf x J).putObj (s:=()) _ bq (by omega) hl rfl) hlen) ?_;rintro e a3 W3 U;cases e with
   |normal=>
    obtain⟨b8,au,cj⟩:=U;have al:=b8.same _ _ (by omega) ct rfl;have h:=run_endRound (P:=P) none al;refine⟨_,_,h,rfl,⟨O.putObj _ cj (by omega) al rfl,?_,?_⟩,aq ah (aq (aq cw au) (az _ _ _ _ (by omega) al rfl rfl))⟩
    .rw[ag];exact World.putObj_heap_same (Z5l.1 al).1
    .exact(World.putObj_heap_other (by omega)).trans (b8.same _ _ Z5D cr rfl)
   |ret=>exact U.elim
   |exit id=>exact U.elim
   |goto t=>exact U.elim
   |panic ch=>exact U.elim
   |outgrown=>exact U.elim
  .rintro e W2 ⟨⟨v,rfl⟩,xs,hS,hi,hl,hk⟩;exact⟨none,_,by have:=run_endLoop (P:=P) hl (by simp_all);rw[ag] at this;exact this,aj _ xs _ Z5D hS (O.putObj _ hi (by omega) hl rfl) ((World.putObj_heap_other (by omega)).trans hk)⟩
