/-
  Part 3 of the proof: lemmas about what the program computes.
-/
import Derived.StillTactics
import Derived.Laws.Pointers
import Derived.Deep.RegionLaw
import Derived.StillTailTactics
import Derived.Lib.SliceRun
import Derived.Laws.BitsAllLaws
import Derived.Laws.Strings3
import Derived.IntWalk
import Derived.Deep.QuietTactic
import Derived.BigQuiet
import Derived.Test.YthppfllkocphbaaGreatDoorQ01
namespace Go.Proofs.YthppfllkocphbaaGreatDoor
set_option linter.unusedVariables false
set_option linter.unusedSimpArgs false
set_option maxHeartbeats 25600000
set_option maxRecDepth 100000
open Tryz
section
open Go.RowKit
variable{D:Dk}{P:Pw}{d gh p:Nat}{v:Value}{w:World}
structure Sep(p d gh:Nat)(v:Value):Prop where
 pd:d≠p
 pg:gh≠p
 pv:v.ownBlock≠some p
 dg:d≠gh
 dv:v.ownBlock≠some d
 gv:v.ownBlock≠some gh
theorem sep(hp:Zo w p P)(h:Zr w p d gh v D):Sep p d gh v:=
 ⟨h.top.ne hp (by decide),h.bytes.row.ne hp (by decide),Row.ne_own hp h.late (by decide),h.top.ne h.bytes.row (by decide),h.top.ne_own h.late (by decide),h.bytes.row.ne_own h.late (by decide)⟩
def ZE(v:Value):List Nat:=match v.ownBlock with|some g=>[g]|none=>[]
theorem ZG{g:Nat}:g∈ZE v↔v.ownBlock=some g:=by
 unfold ZE
 cases h:v.ownBlock with
 |none=>simp
 |some x=>simp;exact eq_comm
theorem Zr.power{w':World}(hp:Zo w p P)(h:Zr w p d gh v D)(hf:Fr [p] w w'):Zr w' p d gh v D:=by
 have s:=sep hp h
 exact h.fr hf (by simpa using s.pd) (by simpa using s.pg) (fun g hg=>by
  have:=s.pv
  simp only[ZjD]
  rintro rfl
  exact this hg)
theorem Zdl(p d gh:Nat)(v:Value)(P:Pw)(D:Dk)(n:Nat)(a:Int)(s:ByteArray)(w:World)(hp:Zo w p P)(h:Zr w p d gh v D)(ok:D.ok n)(hr:rdy P D a≠0):
  Calls prog 190 #[.pointer (some ⟨d,0,none⟩),.int .i64 a,.string s] w fun e w'=>∃b,e=.returned (.iface 139 (.pointer (some ⟨b,0,none⟩)))/\w.heap.size<=b/\Wh w' b (rdy P D a)/\Below w.heap.size w w':=by
 have H:=Zka h
 have HP:=Zka hp
 have OK:=Zka ok
 have HR:=Zka hr
 clear h hp ok hr
 go_enter func190,ntmps190
 go_wp2_with (go_at_call 118;refine(Z4I p d gh _ P D n _ _ HP.out H.out OK.out.len OK.out.n2 HR.out).mono ?_;rintro e w' ⟨b,rfl,ae,af,ag⟩)
 go_ret
 exact⟨b,rfl,ae,af,ag⟩
theorem Zdm(p d gh:Nat)(v:Value)(P:Pw)(D:Dk)(n:Nat)(a:Int)(s:ByteArray)(w:World)(hp:Zo w p P)(h:Zr w p d gh v D)(ok:D.ok n)(hr:rdy P D a=0)(hs:s.size≠64):
  Calls prog 190 #[.pointer (some ⟨d,0,none⟩),.int .i64 a,.string s] w fun e w'=>∃b,e=.returned (.iface 139 (.pointer (some ⟨b,0,none⟩)))/\w.heap.size<=b/\Wh w' b 1/\Below w.heap.size w w':=by
 have H:=Zka h
 have HP:=Zka hp
 have OK:=Zka ok
 have HR:=Zka hr
 have hb:((s.size:Int) !=64)=true:=by rw[bne_iff_ne];omega
 clear h hp ok hr hs
 go_enter func190,ntmps190
 go_wp2_with (first|(go_at_call 118;refine(Jh p d gh _ P D n _ _ HP.out H.out OK.out.len OK.out.n2 HR.out).mono ?_;rintro e w' ⟨rfl,rfl⟩)|(go_at_call 46;refine(QW _ _).mono ?_;rintro e w' ⟨b,rfl,ae,af,ag⟩))
 go_ret
 exact⟨b,rfl,ae,af,ag⟩
theorem Zdn(p d gh:Nat)(v:Value)(P:Pw)(D:Dk)(n:Nat)(a:Int)(s:ByteArray)(w:World)(hp:Zo w p P)(pok:P.ok)(h:Zr w p d gh v D)(ok:D.ok n)(hr:rdy P D a=0)(hs:s.size=64)(hc:P.can=false):
  Calls prog 190 #[.pointer (some ⟨d,0,none⟩),.int .i64 a,.string s] w fun e w'=>∃b,e=.returned (.iface 139 (.pointer (some ⟨b,0,none⟩)))/\w.heap.size<=b/\Wh w' b 10/\Zo w' p P.act/\Zr w' p d gh v D/\Fr [p] w w':=by
 have H:=Zka h
 have HP:=Zka hp
 have OK:=Zka ok
 have HR:=Zka hr
 have hb:((s.size:Int) !=64)=false:=by rw[hs];rfl
 have c0:=h.top.cell (j:=0) rfl
 clear h hp ok hr hs
 go_enter func190,ntmps190
 go_wp2_with (first|(go_at_call 118;refine(Jh p d gh _ P D n _ _ HP.out H.out OK.out.len OK.out.n2 HR.out).mono ?_;rintro e w' ⟨rfl,rfl⟩)|(go_at_call 243;refine(Z2A p P _ HP.out pok).mono ?_;rw[hc];rintro e w1 ⟨rfl,ai,af⟩)|(go_at_call 46;refine(QW _ _).mono ?_;rintro e w' ⟨b,rfl,ag,ah,ae⟩))
 go_ret
 have hf:Fr [p] w _:=af.trans (Fr.of_below (L:=[]) ae) (by simp)
 exact⟨b,rfl,Zk1 af.size ag,ah,Zo.fr ai (Fr.of_below (L:=[]) ae) (by simp),Zr.power HP.out H.out hf,hf⟩
theorem Zeh:(prog.info? 194).map (fun i=>(i.zero,i.size,i.bytes))=some (some (.agg #[.int .i64 0,.string ⟨#[]⟩]),2,24):=by kernel_rfl
theorem Zbi(l:List (Nat×ByteArray))(a:Nat)(s:ByteArray):XQ (l++[(a,s)])=XQ l++[.int .i64 (a:Int),.string s]:=by
 induction l with
 |nil=>rfl
 |cons x l ih=>simp[XQ,ih]
theorem Zf1{Q:Pw}{a:Nat}{s:ByteArray}{w1 w2 w3:World}{o:Obj}{gg cap:Nat}(ax:Zo w p P)(aj:Fr [p] w w1)(ak:Zo w1 p Q)(ai:Zr w1 p d gh v D)
  (af:Below w1.heap.size w1.drew w2) (ah:w3.ownsRow 0 194 2 (.slice (some ⟨gg,0,none⟩) (D.wait.length+1) cap) (D.wait.length+1) (XQ D.wait++[.int .i64 (a:Int),.string s]))
  (ae:(w2.alloc o).grownBy w3 v.ownBlock) (ag:v.ownBlock=some gg∨gg=w2.heap.size+1):
  Zo (w3.setCell ⟨d,2,none⟩ (.slice (some ⟨gg,0,none⟩) (D.wait.length+1) cap)) p Q/\
  Zr (w3.setCell ⟨d,2,none⟩ (.slice (some ⟨gg,0,none⟩) (D.wait.length+1) cap)) p d gh (.slice (some ⟨gg,0,none⟩) (D.wait.length+1) cap) {D with wait:=D.wait++[(a,s)]}/\
  Fr (p::d::ZE v) w (w3.setCell ⟨d,2,none⟩ (.slice (some ⟨gg,0,none⟩) (D.wait.length+1) cap))/\
  ((Value.slice (some ⟨gg,0,none⟩) (D.wait.length+1) cap).ownBlock=v.ownBlock∨∀g,(Value.slice (some ⟨gg,0,none⟩) (D.wait.length+1) cap).ownBlock=some g->w.heap.size<=g):=by
 have s1:=sep ak ai
 have ay:=ai.top.lt
 have az:w1.heap.size<=w2.heap.size:=af.size
 have f2:Fr [] w1 w2:=⟨af.os,af.tape,af.output,af.size,fun k hk _=>af.block k hk⟩
 have f3:Fr (ZE v) w1 w3:=((f2.alloc o).mono (by simp)).grown ae (fun k hk=>Or.inl (ZG.2 hk))
 have f4:Fr (d::ZE v) w1 (w3.setCell ⟨d,2,none⟩ (.slice (some ⟨gg,0,none⟩) (D.wait.length+1) cap)):=(f3.mono (fun i hi _=>by simp[hi])).setCell (Or.inl (by simp)) _
 have al:gg≠d:=by
  rintro rfl
  rcases ag with h|h
  ·exact s1.dv h
  ·omega
 have aw:p∉d::ZE v:=by
  simp only[ZjV,ZG,not_or]
  exact⟨fun e=>s1.pd e.symm,s1.pv⟩
 have au:gh∉d::ZE v:=by
  simp only[ZjV,ZG,not_or]
  exact⟨fun e=>s1.dg e.symm,s1.gv⟩
 have aq:d∉ZE v:=by
  simp only[ZG];exact s1.dv
 refine⟨Zo.fr ak f4 aw,⟨?_,ai.bytes.fr f4 au,?_⟩,?_,?_⟩
 ·exact(ai.top.fr f3 aq).set 2 (.slice (some ⟨gg,0,none⟩) (D.wait.length+1) cap)
 ·have h:=ZZ ah (L:=[d]) ((Fr.refl [d] w3).setCell (p:=⟨d,2,none⟩) (Or.inl (by simp)) (.slice (some ⟨gg,0,none⟩) (D.wait.length+1) cap)) (fun g hg=>by
   simp only[Value.ownBlock,ZjJ] at hg
   subst hg
   simpa using al)
  simp only[ZjI,List.length_singleton,Zbi]
  exact h
 ·exact(aj.mono (fun i hi _=>by simp at hi;simp[hi])).trans f4 (fun i hi _=>by simp at hi⊢;exact Or.inr hi)
 ·rcases ag with h|h
  ·exact Or.inl h.symm
  ·right
   intro g hg
   simp only[Value.ownBlock,ZjJ] at hg
   have:=aj.size
   omega
theorem ZgS(p d gh:Nat)(v:Value)(P:Pw)(D:Dk)(n:Nat)(a:Nat)(s:ByteArray)(w:World)(hp:Zo w p P)(pok:P.ok)(h:Zr w p d gh v D)(ok:D.ok n)(hr:rdy P D a=0)(hs:s.size=64)(hc:P.can=true)(ay:D.wait.length<1099511627776):
  Calls prog 190 #[.pointer (some ⟨d,0,none⟩),.int .i64 a,.string s] w fun e w'=>∃v',e=.returned .nilIface/\Zo w' p P.act/\Zr w' p d gh v' {D with wait:=D.wait++[(a,s)]}/\Fr (p::d::ZE v) w w'/\(v'.ownBlock=v.ownBlock∨∀g,v'.ownBlock=some g->w.heap.size<=g):=by
 have H:=Zka h
 have HP:=Zka hp
 have OK:=Zka ok
 have HR:=Zka hr
 have bf:s.size<=140737488355328:=by omega
 have hb:((s.size:Int) !=64)=false:=by rw[hs];rfl
 have c0:=h.top.cell (j:=0) rfl
 obtain⟨i0,az,bg,bh,bj⟩:=info_parts Zeh
 clear h hp ok hr hs
 go_enter func190,ntmps190
 go_wp2_with (first|(go_at_call 118;refine(Jh p d gh _ P D n _ _ HP.out H.out OK.out.len OK.out.n2 HR.out).mono ?_;rintro e w' ⟨rfl,rfl⟩)|(go_at_call 243;refine(Z2A p P _ HP.out pok).mono ?_;rw[hc];rintro e w1 ⟨rfl,aq,al⟩))
 have ag:=Zr.power HP.out H.out al
 have s1:=sep aq ag
 have k2:w1.cell? ⟨d,2,none⟩=some v:=ag.top.cell (j:=2) rfl
 have bm:w1.frozen? ⟨d,2,none⟩=false:=ag.top.free (by simp)
 have aj:=ag.top.lt
 have au:=Zka ag
 have ax:=Zka aq
 have aw:=Zka al
 clear ag aq al
 go_region_law (first
  |(go_simp;go_at_call 216;refine(Z4b _ _ bf).mono ?_;rintro e w2 ⟨rfl,af⟩;have ai:d<w2.heap.size:=Zk0 aj af.size;have k4:w2.cell? ⟨d,2,none⟩=some v:=(af.cell (p:=⟨d,2,none⟩) aj).trans k2)
  |(refine step_append_lies _ (by rfl) _ _ _ (by rfl) 0 194 i0 _ 2 24 underlying107 az bg bh bj rfl (by omega) v D.wait.length (XQ D.wait) (by rfl) ((ZZ (w:=w1.drew) (L:=[]) au.out.late (Fr.of_below af) (by simp)).alloc _) ⟨w2.heap.size,0,none⟩ 1 1 [.int .i64 (a:Int),.string s] (by rfl) (by rfl) (World.news_of_block (cs:= #[.int .i64 (a:Int),.string s]) (t:=194) (fr:=(0,0)) (heap_alloc_new w2 _)) (by simp[Value.oneCell']) (by omega) (by unfold maxLen;omega) (by omega) (by omega) (w2.heap.size+1) (by simp) ?_;intro gg cap w3 ah ae ak b9;have k3:w3.cell? ⟨d,2,none⟩=some v:=(ae.cell_far _ (Zk0 ai (by simp)) (Ne.symm s1.dv)).trans ((((Below.refl w2.heap.size w2).alloc Zk8 _).cell (p:=⟨d,2,none⟩) ai).trans ((af.cell (p:=⟨d,2,none⟩) aj).trans k2));have bq:w3.frozen? ⟨d,2,none⟩=false:=(ae.frozen_far _ (Zk0 ai (by simp)) (Ne.symm s1.dv)).trans ((((Below.refl w2.heap.size w2).alloc Zk8 _).frozen (p:=⟨d,2,none⟩) ai).trans ((af.frozen (p:=⟨d,2,none⟩) aj).trans bm))))
 all_goals go_wp2
 all_goals go_ret
 all_goals exact⟨_,rfl,Zf1 HP.out aw.out ax.out au.out af ah ae ak⟩
end
section
open Go.RowKit
section
variable{P:Program}
theorem Z8M(l:List UInt8):Lib.byteCells l=Z3 l:=by
 unfold Z3 Lib.byteCells
 simp
def QB(l:List UInt8)(o:Nat)(s:List UInt8):List UInt8:=l.take o++s++l.drop (o+s.length)
theorem Wk(l:List UInt8)(o:Nat)(s:List UInt8)(h:o+s.length<=l.length):(QB l o s).length=l.length:=by
 simp[QB];omega
theorem Jb{ops:Array Oper}{rest:List Oper}{o:Oper}{a:Act}{w:World}{Q:Exit->Act->World->Prop}(hg:o.guard=none)(d s:Operand)(dT sT:TypeId)
  (ho:o.op=.call {callee:=.builtin .copy,args:= #[d,s],argTypes:= #[dT,sT]}) (e:TypeId) (hu:P.underlying dT=some (.slice e)) (hs:(P.info? e).map (·.size)=some 1)
  (g off n cap:Nat) (hd:a.eval d=.slice (some ⟨g,off,none⟩) n cap) (str:ByteArray) (hx:a.eval s=.string str) (l:List UInt8) (ae:ZC w g e (Z3 l)) (hle:str.size<=n) (af:off+str.size<=l.length)
  (h:ZC (w.setRow g (Z3 (QB l off str.data.toList)).toArray) g e (Z3 (QB l off str.data.toList))->wpList P ops Q rest (a.put o.dst (goInt str.size)) (w.setRow g (Z3 (QB l off str.data.toList)).toArray)):wpList P ops Q (o::rest) a w:=by
 have ag:str.data.toList.length=str.size:=by simp
 have hr:=Lib.run_copy_row_string (P:=P) w dT sT o.type e g off n cap str _ e hu hs ae hle (by simp[Zh];omega)
 have e1:((Z3 l).toArray.toList.take off++Lib.byteCells str.data.toList++(Z3 l).toArray.toList.drop (off+str.size))=Z3 (QB l off str.data.toList):=by
  rw[List.toList_toArray,Z8M,QB,XN,XN,Z0U,Z0T,ag]
 rw[e1] at hr
 refine Z3K hg ?_ (h (ae.setRow _))
 unfold execOp
 simp only[ho,resolve,invoke,builtin,Sem.run_bind,Sem.run_pure,Result.andThen_ok,List.map_toArray,ZjY,List.map_nil,hd,hx,hr]
end
def WM(has:List UInt8)(x:Nat×ByteArray):List UInt8:=QB has (x.1*64) x.2.data.toList
def Dk.flushed(D:Dk):Dk:={D with has:=D.wait.foldl WM D.has,wait:=[]}
theorem Z0Y(has:List UInt8)(x:Nat×ByteArray)(n:Nat)(h:has.length=64*n)(hx:x.1<n)(hs:x.2.size=64):(WM has x).length=64*n:=by
 have:x.2.data.toList.length=64:=by simpa using hs
 unfold WM
 rw[Wk _ _ _ (by omega),h]
theorem JV(l:List (Nat×ByteArray))(has:List UInt8)(n:Nat)(h:has.length=64*n)(hx:∀x,x∈l->x.1<n/\x.2.size=64):(l.foldl WM has).length=64*n:=by
 induction l generalizing has with
 |nil=>exact h
 |cons x l ih=>
  rw[Zk6]
  exact ih _ (Z0Y has x n h (hx x (by simp)).1 (hx x (by simp)).2) (fun y hy=>hx y (by simp[hy]))
theorem Zfu(p d gh:Nat)(v:Value)(P:Pw)(D:Dk)(n:Nat)(w:World)(hp:Zo w p P)(pok:P.ok)(h:Zr w p d gh v D)(ok:D.ok n)(hr:rdy P D 0=0)(hc:P.can=true):
  Calls prog 191 #[.pointer (some ⟨d,0,none⟩)] w fun e w'=>e=.returned .nilIface/\Zo w' p P.act/\Zr w' p d gh (.slice none 0 0) D.flushed/\Fr [p,d,gh] w w':=by
 have H:=Zka h
 have HP:=Zka hp
 have OK:=Zka ok
 have HR:=Zka hr
 have c0:=h.top.cell (j:=0) rfl
 have hv:D.wait.length=0/\v=.slice none 0 0∨∃g cap,v=.slice (some ⟨g,0,none⟩) D.wait.length cap:=by
  rcases h.late.2 with ⟨h1,h2⟩|⟨g,cap,cur,hv,_⟩
  ·exact Or.inl ⟨h2,h1⟩
  ·exact Or.inr ⟨g,cap,hv⟩
 have de:=ok.few
 clear h hp ok hr
 rcases hv with ⟨h0,rfl⟩|⟨g,cap,rfl⟩
 ·have hw:D.wait=[]:=List.length_eq_zero_iff.1 h0
  have bz:=Zka hw
  clear hw h0
  go_enter func191,ntmps191
  go_wp2_with (first|(go_at_call 118;refine(Jh p d gh _ P D n _ _ HP.out H.out OK.out.len OK.out.n2 HR.out).mono ?_;rintro e w' ⟨rfl,rfl⟩)|(go_at_call 243;refine(Z2A p P _ HP.out pok).mono ?_;rw[hc];rintro e w1 ⟨rfl,al,ak⟩;have ae:=Zr.power HP.out H.out ak;have k2:=ae.top.cell (j:=2) rfl;have dp:=ae.top.free (j:=2) (by simp)))
  refine wp_loop_rounds 1 ?_
  rw[rounds_succ]
  go_wp2
  go_ret
  have s1:=sep al ae
  have hF:Fr [d] w1 (w1.setCell ⟨d,2,none⟩ (.slice none 0 0)):=(Fr.refl [d] w1).setCell (Or.inl (by simp)) _
  have np:p∉[d]:=by simp only[ZjD];exact fun e=>s1.pd e.symm
  have ng:gh∉[d]:=by simp only[ZjD];exact fun e=>s1.dg e.symm
  refine⟨rfl,Zo.fr al hF np,?_,(ak.mono (fun i hi _=>by simp at hi;simp[hi])).trans hF (fun i hi _=>by simp at hi;simp[hi])⟩
  have e1:D.flushed=D:=by have h2:=bz.out;unfold Dk.flushed;rw[h2];rcases D with ⟨q1,q2,q3,q4⟩;simp only at h2;subst h2;rfl
  rw[e1]
  exact⟨ae.top.set 2 (.slice none 0 0),ae.bytes.fr hF ng,by rw[bz.out];exact World.ownsRow_nil _ _ _ _⟩
 ·go_enter func191,ntmps191
  go_wp2_with (first|(go_at_call 118;refine(Jh p d gh _ P D n _ _ HP.out H.out OK.out.len OK.out.n2 HR.out).mono ?_;rintro e w' ⟨rfl,rfl⟩)|(go_at_call 243;refine(Z2A p P _ HP.out pok).mono ?_;rw[hc];rintro e w1 ⟨rfl,al,ak⟩;have ae:=Zr.power HP.out H.out ak;have k2:=ae.top.cell (j:=2) rfl))
  have s1:=sep al ae
  have ct:=Zka ae
  have cz:=Zka al
  have cw:=Zka ak
  clear ae al ak
  go_loopw [23] (fun i wr=>∃k:Nat,k<=D.wait.length/\i=.int .i64 k/\Zo wr p P.act/\Zr wr p d gh (.slice (some ⟨g,0,none⟩) D.wait.length cap) {D with has:=(D.wait.take k).foldl WM D.has}/\Fr [p,d,gh] w wr) (fun i _=>D.wait.length- (intOf i).toNat)
  case atStart=>exact⟨0,by omega,rfl,cz.out,ct.out,cw.out.mono (fun i hi _=>by simp at hi;simp[hi])⟩
  case round=>
   obtain⟨k,hk,rfl,bg,af,bf⟩:=hrel
   have bq:=Zka bg
   have aw:=Zka af
   have bm:=Zka bf
   by_cases aq:k<D.wait.length
   ·have c3:wr.cell? ⟨g,k*2,none⟩=some (.int .i64 (D.wait[k].1:Int)):=XF af.late rfl (by rw[Nat.mul_comm];exact(Jw _ _ aq).1)
    have c4:wr.cell? ⟨g,k*2+1,none⟩=some (.string D.wait[k].2):=XF af.late rfl (by rw[Nat.mul_comm];exact(Jw _ _ aq).2)
    have cn:=OK.out.at_ _ (ZjW aq)
    have bh:=OK.out.size _ (ZjW aq)
    have hlen:((D.wait.take k).foldl WM D.has).length=64*n:=JV _ _ n OK.out.len (fun x hx=>⟨OK.out.at_ x (List.mem_of_mem_take hx),OK.out.size x (List.mem_of_mem_take hx)⟩)
    have bu:∀o,Zr (wr.alloc o).drew p d gh (.slice (some ⟨g,0,none⟩) D.wait.length cap) {D with has:=(D.wait.take k).foldl WM D.has}:=fun o=>af.fr (L:=[]) (((Fr.refl [] wr).alloc o).drew) (by simp) (by simp) (by simp)
    have n2:=OK.out.n2
    obtain⟨at_,az⟩:∃q,q=D.wait[k].1:=⟨_,rfl⟩
    obtain⟨str,aj⟩:∃q,q=D.wait[k].2:=⟨_,rfl⟩
    rw[<-az] at cn c3
    rw[<-aj] at bh c4
    have cu:=Zka bu
    have ah:=Zka hlen
    have cr:=Zka az
    have ax:=Zka aj
    have ay:=Zka bh
    clear bg af bf bu hlen az aj bh
    go_wp2_with fail
    have r5:=Row.new wr 194 [.int .i64 (at_:Int),.string str]
    have c5:=r5.cell (j:=0) rfl
    have c6:=r5.cell (j:=1) rfl
    have ai:=cu.out (.cells #[.int .i64 (at_:Int),.string str] 194)
    have b9:=(Fr.refl [] wr).alloc (.cells #[.int .i64 (at_:Int),.string str] 194)
    obtain⟨w2,cj⟩:∃w2,w2=wr.alloc (.cells #[.int .i64 (at_:Int),.string str] 194):=⟨_,rfl⟩
    simp only[List.toArray] at c5 c6
    rw[<-cj] at c5 c6 ai b9⊢
    have bj:=Zka ai
    have cy:=Zka b9
    clear r5 ai b9 cj
    go_still_tail 6,(by kernel_rfl)
    still_call (XJ (Xc p d gh _ _ n at_ _ bj.out ah.out n2 cn))
    repeat still_step
    refine wpStill_nil ?_
    change wpList _ _ _ _ _ w2.drew
    go_wp2_with (refine Jb rfl (.tmp 30) (.tmp 32) 75 9 rfl 5 underlying75 Xx gh (at_*64) 64 _ rfl str rfl ((D.wait.take k).foldl WM D.has) bj.out.bytes (by rw[ay.out];omega) (by rw[ay.out,ah.out];omega) ?_;intro ag)
    have dc:=Zka ag
    clear ag
    go_roundw
    case measure=>simp[intOf];omega
    case rel=>
     have hF:Fr [gh] wr (w2.drew.setRow gh (Z3 (QB ((D.wait.take k).foldl WM D.has) (at_*64) str.data.toList)).toArray):=((cy.out.mono (by simp)).drew).setRow (Or.inl (by simp)) _
     have np:p∉[gh]:=by simp only[ZjD];exact fun e=>s1.pg e.symm
     have au:(D.wait.take (k+1)).foldl WM D.has=QB ((D.wait.take k).foldl WM D.has) (at_*64) str.data.toList:=by
      rw[ZjK aq,List.foldl_append,Zk6,List.foldl_nil,WM,cr.out,ax.out]
     refine⟨k+1,by omega,by go_num,Zo.fr bq.out hF np,?_,?_⟩
     ·rw[au]
      have dm:(QB ((D.wait.take k).foldl WM D.has) (at_*64) str.data.toList).length=((D.wait.take k).foldl WM D.has).length:=Wk _ _ _ (by
       have:str.data.toList.length=64:=by simpa using ay.out
       rw[ah.out];omega)
      refine⟨?_,dc.out,ZZ aw.out.late hF (fun g' dh=>by
       have:=s1.gv
       simp only[ZjD];rintro rfl;exact this dh)⟩
      have ht:=aw.out.top.fr hF (by simpa using s1.dg)
      simp only at ht⊢
      rw[dm];exact ht
     ·exact bm.out.trans hF (fun i hi _=>by simp at hi;simp[hi])
   ·have dq:=af.top.cell (j:=2) rfl
    have dp:=af.top.free (j:=2) (by simp)
    clear bg af bf
    go_wp2
    go_ret
    have dj:k=D.wait.length:=by omega
    have hF:Fr [d] wr (wr.setCell ⟨d,2,none⟩ (.slice none 0 0)):=(Fr.refl [d] wr).setCell (Or.inl (by simp)) _
    have np:p∉[d]:=by simp only[ZjD];exact fun e=>s1.pd e.symm
    have ng:gh∉[d]:=by simp only[ZjD];exact fun e=>s1.dg e.symm
    refine⟨rfl,Zo.fr bq.out hF np,?_,bm.out.trans hF (fun i hi _=>by simp at hi;simp[hi])⟩
    have df:(D.wait.take k).foldl WM D.has=D.wait.foldl WM D.has:=by rw[dj,Zk5]
    have hd:=aw.out
    rw[df] at hd
    exact⟨hd.top.set 2 (.slice none 0 0),hd.bytes.fr hF ng,World.ownsRow_nil _ _ _ _⟩
def YK(B:Nat)(w:World)(v:Value)(c:Int):Prop:=(c=0/\v=.nilIface)∨(c≠0/\∃b,v=.iface 139 (.pointer (some ⟨b,0,none⟩))/\B<=b/\Wh w b c)
theorem YK.ok0(B:Nat)(w:World):YK B w .nilIface 0:=Or.inl ⟨rfl,rfl⟩
theorem YK.err{B:Nat}{w:World}{b:Nat}{c:Int}(hc:c≠0)(hB:B<=b)(h:Wh w b c):YK B w (.iface 139 (.pointer (some ⟨b,0,none⟩))) c:=Or.inr ⟨hc,b,rfl,hB,h⟩
def Dk.fresh(n:Nat):Dk:=⟨List.replicate (64*n) 0,[],false,0⟩
theorem Dk.fresh_ok{n:Nat}(h1:1<=n)(h2:n<=8192):(Dk.fresh n).ok n:=⟨by simp[Dk.fresh],h1,h2,by simp[Dk.fresh],by simp[Dk.fresh],by simp[Dk.fresh],by simp[Dk.fresh],by simp[Dk.fresh]⟩
theorem ZiY(p n:Nat)(w:World)(h1:1<=n)(h2:n<=8192):
  Calls prog 16 #[.pointer (some ⟨p,0,none⟩),.int .i64 (n:Int)] w fun e w'=>∃d gh,e=.returned (.tuple #[.pointer (some ⟨d,0,none⟩),.nilIface])/\w.heap.size<=d/\w.heap.size<=gh/\Zr w' p d gh (.slice none 0 0) (Dk.fresh n)/\Below w.heap.size w w':=by
 obtain⟨i0,hi,ae,af,ag⟩:=info_parts Xw
 have ah:=fun W=>WD (P:=prog) 75 5 i0 underlying75 hi ae af ag (64*n) (by omega) W
 rw[show((64*n:Nat):Int)=(n:Int)*64 from by omega] at ah
 clear hi ae af ag
 go_enter func16,ntmps16
 go_wp2
 go_ret2
 refine⟨_,w.heap.size,rfl,?_,Zk8,⟨?_,?_,World.ownsRow_nil _ _ _ _⟩,?_⟩
 ·simp
 ·have:=Row.new (w.alloc (.cells (Z3 (List.replicate (64*n) 0)).toArray 5)) 109 [.pointer (some ⟨p,0,none⟩),.slice (some ⟨w.heap.size,0,none⟩) (64*n) (64*n),.slice none 0 0,.bool false,.int .i64 0]
  simpa[Dk.fresh] using this
 ·have h1:=ZC.new w 5 (Z3 (List.replicate (64*n) 0))
  exact h1.fr ((Fr.refl [] _).alloc _) (by simp)
 ·exact(Zk9.alloc Zk8 _).alloc (by simp) _
def Dk.killed(D:Dk):Dk:={D with dead:=true,wait:=[],life:=D.life+1}
def Dk.replaced(D:Dk):Dk:=⟨List.replicate D.has.length 0,[],false,D.life+1⟩
theorem ZfQ(p d gh:Nat)(v:Value)(D:Dk)(n:Nat)(w:World)(h:Zr w p d gh v D)(ok:D.ok n):
  Calls prog 26 #[.pointer (some ⟨d,0,none⟩)] w fun e w'=>e=.returned (.tuple #[])/\Zr w' p d gh (.slice none 0 0) D.killed/\Fr [d] w w':=by
 have c2:=h.top.cell (j:=2) rfl
 have r2:=h.top.free (j:=2) (by simp)
 have c3:=h.top.cell (j:=3) rfl
 have r3:=h.top.free (j:=3) (by simp)
 have c4:=h.top.cell (j:=4) rfl
 have r4:=h.top.free (j:=4) (by simp)
 have l0:=ok.life0
 have l1:=ok.life1
 have dg:=h.top.ne h.bytes.row (by decide)
 have H:=Zka h;clear h ok
 go_enter func26,ntmps26
 go_wp2
 go_end0
 have hF:Fr [d] w (((w.setCell ⟨d,3,none⟩ (.bool true)).setCell ⟨d,2,none⟩ (.slice none 0 0)).setCell ⟨d,4,none⟩ (.int .i64 (D.life+1))):=(((Fr.refl _ _).setCell (Or.inl (by simp)) _).setCell (Or.inl (by simp)) _).setCell (Or.inl (by simp)) _
 exact⟨rfl,⟨((H.out.top.set 3 (.bool true)).set 2 (.slice none 0 0)).set 4 (.int .i64 (D.life+1)),H.out.bytes.fr hF (by simpa using fun e=>dg e.symm),World.ownsRow_nil _ _ _ _⟩,hF⟩
theorem Zcn(p d gh:Nat)(v:Value)(P:Pw)(D:Dk)(n:Nat)(w:World)(hp:Zo w p P)(h:Zr w p d gh v D)(ok:D.ok n)(hr:rdy P D 0≠0):
  Calls prog 191 #[.pointer (some ⟨d,0,none⟩)] w fun e w'=>∃b,e=.returned (.iface 139 (.pointer (some ⟨b,0,none⟩)))/\w.heap.size<=b/\Wh w' b (rdy P D 0)/\Below w.heap.size w w':=by
 have H:=Zka h
 have HP:=Zka hp
 have OK:=Zka ok
 have HR:=Zka hr
 clear h hp ok hr
 go_enter func191,ntmps191
 go_wp2_with (go_at_call 118;refine(Z4I p d gh _ P D n _ _ HP.out H.out OK.out.len OK.out.n2 HR.out).mono ?_;rintro e w' ⟨b,rfl,ae,af,ag⟩)
 go_ret
 exact⟨b,rfl,ae,af,ag⟩
theorem Zco(p d gh:Nat)(v:Value)(P:Pw)(D:Dk)(n:Nat)(w:World)(hp:Zo w p P)(pok:P.ok)(h:Zr w p d gh v D)(ok:D.ok n)(hr:rdy P D 0=0)(hc:P.can=false):
  Calls prog 191 #[.pointer (some ⟨d,0,none⟩)] w fun e w'=>∃b,e=.returned (.iface 139 (.pointer (some ⟨b,0,none⟩)))/\w.heap.size<=b/\Wh w' b 10/\Zo w' p P.act/\Zr w' p d gh v D/\Fr [p] w w':=by
 have H:=Zka h
 have HP:=Zka hp
 have OK:=Zka ok
 have HR:=Zka hr
 have c0:=h.top.cell (j:=0) rfl
 clear h hp ok hr
 go_enter func191,ntmps191
 go_wp2_with (first|(go_at_call 118;refine(Jh p d gh _ P D n _ _ HP.out H.out OK.out.len OK.out.n2 HR.out).mono ?_;rintro e w' ⟨rfl,rfl⟩)|(go_at_call 243;refine(Z2A p P _ HP.out pok).mono ?_;rw[hc];rintro e w1 ⟨rfl,ai,af⟩)|(go_at_call 46;refine(QW _ _).mono ?_;rintro e w' ⟨b,rfl,ag,ah,ae⟩))
 go_ret
 have hf:Fr [p] w _:=af.trans (Fr.of_below (L:=[]) ae) (by simp)
 exact⟨b,rfl,Zk1 af.size ag,ah,Zo.fr ai (Fr.of_below (L:=[]) ae) (by simp),Zr.power HP.out H.out hf,hf⟩
end
section
open Go.RowKit
variable{B d gh n p:Nat}{L L1 X Y:List Nat}{a c:Int}{w w' w1 w2:World}
def Z2X(p d gh:Nat)(v:Value)(P':Pw)(D':Dk)(w w':World):Prop:=
 ∃v',Zo w' p P'/\Zr w' p d gh v' D'/\Fr (p::d::gh::ZE v) w w'/\(v'.ownBlock=v.ownBlock∨∀g,v'.ownBlock=some g->w.heap.size<=g)
theorem Z2X.same{v:Value}{P:Pw}{D:Dk}(hp:Zo w p P)(h:Zr w p d gh v D)(hb:Below w.heap.size w w'):Z2X p d gh v P D w w':=by
 have hf:Fr [] w w':=Fr.of_below hb
 exact⟨v,hp.fr hf (by simp),h.fr hf (by simp) (by simp) (by simp),hf.mono (by simp),Or.inl rfl⟩
def YC(P:Pw)(D:Dk)(a:Int)(s:ByteArray):Int:=if rdy P D a=0 then(if s.size=64 then(if P.can then 0 else 10) else 1) else rdy P D a
def Xz(P:Pw)(D:Dk)(a:Int)(s:ByteArray):Pw:=if rdy P D a=0/\s.size=64 then P.act else P
def wdk(P:Pw)(D:Dk)(a:Int)(s:ByteArray):Dk:=if YC P D a s=0 then{D with wait:=D.wait++[(a.toNat,s)]} else D
def X0(P:Pw)(D:Dk):Int:=if rdy P D 0=0 then(if P.can then 0 else 10) else rdy P D 0
def JW(P:Pw)(D:Dk):Pw:=if rdy P D 0=0 then P.act else P
def fdk(P:Pw)(D:Dk):Dk:=if X0 P D=0 then D.flushed else D
theorem Z3u{P:Pw}{D:Dk}(ok:D.ok n)(h:rdy P D a=0):P.gone=false/\D.dead=false/\0<=a/\a<n:=by
 have hg:P.gone=false:=by unfold rdy at h;cases af:P.gone<;>simp[af] at h⊢
 have hd:D.dead=false:=by unfold rdy at h;rw[hg] at h;cases ae:D.dead<;>simp[ae] at h⊢
 rw[Z1W hg hd ok.len] at h
 by_cases e:a<0∨(n:Int)<=a
 ·rw[if_pos e] at h;omega
 ·exact⟨hg,hd,by omega,by omega⟩
section
variable{p d gh:Nat}{v:Value}{P:Pw}{D:Dk}{n:Nat}{w:World}
theorem Zf0(hp:Zo w p P)(pok:P.ok)(h:Zr w p d gh v D)(ok:D.ok n)(a:Int)(s:ByteArray)(ai:D.wait.length<1099511627776):
  Calls prog 190 #[.pointer (some ⟨d,0,none⟩),.int .i64 a,.string s] w fun e w'=>∃ev,e=.returned ev/\YK w.heap.size w' ev (YC P D a s)/\Z2X p d gh v (Xz P D a s) (wdk P D a s) w w':=by
 by_cases hr:rdy P D a=0
 ·obtain⟨hg,hd,al,aq⟩:=Z3u ok hr
  by_cases hs:s.size=64
  ·cases hc:P.can
   ·have e1:YC P D a s=10:=by unfold YC;rw[if_pos hr,if_pos hs,hc];rfl
    have e2:Xz P D a s=P.act:=by unfold Xz;rw[if_pos ⟨hr,hs⟩]
    have e3:wdk P D a s=D:=by unfold wdk;rw[e1];rfl
    rw[e1,e2,e3]
    refine(Zdn p d gh v P D n a s w hp pok h ok hr hs hc).mono ?_
    rintro e w' ⟨b,rfl,ae,af,ak,ah,hf⟩
    exact⟨_,rfl,YK.err (by decide) ae af,v,ak,ah,hf.mono (fun i hi _=>by simp at hi;simp[hi]),Or.inl rfl⟩
   ·have e1:YC P D a s=0:=by unfold YC;rw[if_pos hr,if_pos hs,hc];rfl
    have e2:Xz P D a s=P.act:=by unfold Xz;rw[if_pos ⟨hr,hs⟩]
    have e3:wdk P D a s={D with wait:=D.wait++[(a.toNat,s)]}:=by unfold wdk;rw[e1];rfl
    rw[e1,e2,e3]
    obtain⟨m,rfl⟩:∃m:Nat,a=(m:Int):=⟨a.toNat,by omega⟩
    refine(ZgS p d gh v P D n m s w hp pok h ok hr hs hc ai).mono ?_
    rintro e w' ⟨v',rfl,ak,ah,hf,aj⟩
    exact⟨_,rfl,YK.ok0 _ _,v',ak,ah,hf.mono (fun i hi _=>by simp only[ZjV] at hi⊢;rcases hi with h|h|h<;>simp[h]),aj⟩
  ·have e1:YC P D a s=1:=by unfold YC;rw[if_pos hr,if_neg hs]
   have e2:Xz P D a s=P:=by unfold Xz;rw[if_neg (fun h=>hs h.2)]
   have e3:wdk P D a s=D:=by unfold wdk;rw[e1];rfl
   rw[e1,e2,e3]
   refine(Zdm p d gh v P D n a s w hp h ok hr hs).mono ?_
   rintro e w' ⟨b,rfl,ae,af,ag⟩
   exact⟨_,rfl,YK.err (by decide) ae af,Z2X.same hp h ag⟩
 ·have e1:YC P D a s=rdy P D a:=by unfold YC;rw[if_neg hr]
  have e2:Xz P D a s=P:=by unfold Xz;rw[if_neg (fun h=>hr h.1)]
  have e3:wdk P D a s=D:=by unfold wdk;rw[e1,if_neg hr]
  rw[e1,e2,e3]
  refine(Zdl p d gh v P D n a s w hp h ok hr).mono ?_
  rintro e w' ⟨b,rfl,ae,af,ag⟩
  exact⟨_,rfl,YK.err hr ae af,Z2X.same hp h ag⟩
theorem Ze1(hp:Zo w p P)(pok:P.ok)(h:Zr w p d gh v D)(ok:D.ok n):
  Calls prog 191 #[.pointer (some ⟨d,0,none⟩)] w fun e w'=>∃ev,e=.returned ev/\YK w.heap.size w' ev (X0 P D)/\Z2X p d gh v (JW P D) (fdk P D) w w':=by
 by_cases hr:rdy P D 0=0
 ·cases hc:P.can
  ·have e1:X0 P D=10:=by unfold X0;rw[if_pos hr,hc];rfl
   have e2:JW P D=P.act:=by unfold JW;rw[if_pos hr]
   have e3:fdk P D=D:=by unfold fdk;rw[e1];rfl
   rw[e1,e2,e3]
   refine(Zco p d gh v P D n w hp pok h ok hr hc).mono ?_
   rintro e w' ⟨b,rfl,ae,af,ah,ag,hf⟩
   exact⟨_,rfl,YK.err (by decide) ae af,v,ah,ag,hf.mono (fun i hi _=>by simp at hi;simp[hi]),Or.inl rfl⟩
  ·have e1:X0 P D=0:=by unfold X0;rw[if_pos hr,hc];rfl
   have e2:JW P D=P.act:=by unfold JW;rw[if_pos hr]
   have e3:fdk P D=D.flushed:=by unfold fdk;rw[e1];rfl
   rw[e1,e2,e3]
   refine(Zfu p d gh v P D n w hp pok h ok hr hc).mono ?_
   rintro e w' ⟨rfl,ah,ag,hf⟩
   exact⟨_,rfl,YK.ok0 _ _,_,ah,ag,hf.mono (fun i hi _=>by simp at hi;rcases hi with h|h|h<;>simp[h]),Or.inr (by simp[Value.ownBlock])⟩
 ·have e1:X0 P D=rdy P D 0:=by unfold X0;rw[if_neg hr]
  have e2:JW P D=P:=by unfold JW;rw[if_neg hr]
  have e3:fdk P D=D:=by unfold fdk;rw[e1,if_neg hr]
  rw[e1,e2,e3]
  refine(Zcn p d gh v P D n w hp h ok hr).mono ?_
  rintro e w' ⟨b,rfl,ae,af,ai⟩
  exact⟨_,rfl,YK.err hr ae af,Z2X.same hp h ai⟩
def Z0u(P:Pw)(D:Dk)(a:Int):ByteArray:=if rdy P D a=0 then D.reads a.toNat else⟨#[]⟩
theorem Zgq(hp:Zo w p P)(h:Zr w p d gh v D)(ok:D.ok n)(a:Int):
  Calls prog 73 #[.pointer (some ⟨d,0,none⟩),.int .i64 a] w fun e w'=>∃ev,e=.returned (.tuple #[.string (Z0u P D a),ev])/\YK w.heap.size w' ev (rdy P D a)/\Below w.heap.size w w':=by
 by_cases hr:rdy P D a=0
 ·obtain⟨hg,hd,ah,ai⟩:=Z3u ok hr
  obtain⟨m,rfl⟩:∃m:Nat,a=(m:Int):=⟨a.toNat,by omega⟩
  refine(ZhX p d gh v P D n m w hp h ok hr (by omega)).mono ?_
  rintro e w' ⟨rfl,hb⟩
  refine⟨_,?_,by rw[hr];exact YK.ok0 _ _,hb⟩
  unfold Z0u;rw[if_pos hr];rfl
 ·refine(Zgr p d gh v P D n a w hp h ok hr).mono ?_
  rintro e w' ⟨b,rfl,ae,af,ag⟩
  refine⟨_,?_,YK.err hr ae af,ag⟩
  unfold Z0u;rw[if_neg hr]
end
theorem Pw.act_ok{P:Pw}(ok:P.ok):P.act.ok:=by
 unfold Pw.act
 obtain⟨f0,f1⟩:=ok
 split
 ·exact⟨f0,f1⟩
 ·refine⟨?_,?_⟩
  ·show -1<=if 0<P.fuse then P.fuse-1 else P.fuse
   split<;>omega
  ·show(if 0<P.fuse then P.fuse-1 else P.fuse)<=_
   split<;>omega
theorem Dk.wrote_ok{D:Dk}(ok:D.ok n)(a:Nat)(s:ByteArray)(ha:a<n)(hs:s.size=64)(ae:D.wait.length<1099511627776):Dk.ok {D with wait:=D.wait++[(a,s)]} n:=
 ⟨ok.len,ok.n1,ok.n2,by intro x hx;simp at hx;rcases hx with hx|rfl;exact ok.at_ x hx;exact ha,by intro x hx;simp at hx;rcases hx with hx|rfl;exact ok.size x hx;exact hs,by simp;omega,ok.life0,ok.life1⟩
theorem Dk.flushed_ok{D:Dk}(ok:D.ok n):D.flushed.ok n:=
 ⟨JV _ _ n ok.len (fun x hx=>⟨ok.at_ x hx,ok.size x hx⟩),ok.n1,ok.n2,by simp[Dk.flushed],by simp[Dk.flushed],by simp[Dk.flushed],ok.life0,ok.life1⟩
theorem ZiC{P:Pw}(ok:P.ok)(D:Dk)(a:Int)(s:ByteArray):(Xz P D a s).ok:=by
 unfold Xz;split
 ·exact Pw.act_ok ok
 ·exact ok
theorem Zht{P:Pw}(ok:P.ok)(D:Dk):(JW P D).ok:=by
 unfold JW;split
 ·exact Pw.act_ok ok
 ·exact ok
theorem Zdj{P:Pw}{D:Dk}{s:ByteArray}(h:YC P D a s=0):rdy P D a=0/\s.size=64/\P.can=true:=by
 unfold YC at h
 split at h
 ·rename_i hr
  split at h
  ·rename_i hs
   split at h
   ·rename_i hc;exact⟨hr,hs,hc⟩
   ·omega
  ·omega
 ·rename_i hr;exact absurd h hr
theorem ZeX{P:Pw}{D:Dk}(ok:D.ok n)(a:Int)(s:ByteArray)(ae:D.wait.length<1099511627776):(wdk P D a s).ok n:=by
 unfold wdk;split
 ·rename_i h
  obtain⟨hr,hs,_⟩:=Zdj h
  obtain⟨_,_,h0,h1⟩:=Z3u ok hr
  exact Dk.wrote_ok ok _ s (by omega) hs ae
 ·exact ok
theorem ZdY{P:Pw}{D:Dk}(ok:D.ok n):(fdk P D).ok n:=by
 unfold fdk;split
 ·exact Dk.flushed_ok ok
 ·exact ok
theorem YK.v{v:Value}(h:YK B w v c):Zu w B c v:=by
 rcases h with ⟨rfl,rfl⟩|⟨hc,b,rfl,hB,hr⟩
 ·exact Zu.nil _ _
 ·exact Or.inr ⟨hc,1,b,0,.nilIface,rfl,hB,hr,Or.inl rfl⟩
structure PD(B:Nat)(w:World)(p d n:Nat)(P:Pw)(D:Dk)(L:List Nat):Prop where
 pw:Zo w p P
 pok:P.ok
 dk:∃gh v,L=d::gh::ZE v/\Zr w p d gh v D
 ok:D.ok n
 bp:B<=p
 bL:∀k,k∈L->B<=k
structure Did(B:Nat)(p d n:Nat)(L X:List Nat)(P':Pw)(D':Dk)(w w':World)(L':List Nat):Prop where
 pd:PD B w' p d n P' D' L'
 fr:Fr (X++p::L) w w'
 grew:∀k,k∈L'->k∈L∨w.heap.size<=k
theorem PD.lt{P:Pw}{D:Dk}(h:PD B w p d n P D L):p<w.heap.size/\d<w.heap.size/\∀k,k∈L->k<w.heap.size:=by
 obtain⟨gh,v,rfl,hd⟩:=h.dk
 refine⟨Row.lt h.pw,Row.lt hd.top,fun k hk=> ?_⟩
 simp only[ZjV,ZG] at hk
 rcases hk with rfl|rfl|hk
 ·exact Row.lt hd.top
 ·exact Row.lt hd.bytes.row
 ·rcases hd.late.2 with ⟨hv,_⟩|⟨g',cap,cur,hv,_,hh,_⟩
  ·rw[hv] at hk;cases hk
  ·rw[hv] at hk
   simp only[Value.ownBlock,ZjJ] at hk
   subst hk
   exact(ZjQ.1 hh).1
theorem PD.row_ne{P:Pw}{D:Dk}(h:PD B w p d n P D L){g:Nat}{e:TypeId}{l:List Value}(hr:Row w g e l)
  (h1:e≠112) (h2:e≠109) (h3:e≠5) (h4:e≠194):g∉p::L:=by
 obtain⟨gh,v,rfl,hd⟩:=h.dk
 intro hm
 simp only[ZjV,ZG] at hm
 rcases hm with rfl|rfl|rfl|hm
 ·exact Row.ne hr h.pw h1 rfl
 ·exact Row.ne hr hd.top h2 rfl
 ·exact Row.ne hr hd.bytes.row h3 rfl
 ·exact Row.ne_own hr hd.late h4 hm
theorem PD.map_ne{P:Pw}{D:Dk}(h:PD B w p d n P D L){g:Nat}{es:Array MapEntry}{cl:Nat}(hr:w.heap[g]? =some (.map es cl)):g∉p::L:=by
 obtain⟨gh,v,rfl,hd⟩:=h.dk
 intro hm
 simp only[ZjV,ZG] at hm
 rcases hm with rfl|rfl|rfl|hm
 ·obtain⟨f,hg,_⟩:=h.pw;rw[hr] at hg;cases hg
 ·obtain⟨f,hg,_⟩:=hd.top;rw[hr] at hg;cases hg
 ·have:=hd.bytes;unfold ZC at this;rw[hr] at this;cases this
 ·rcases hd.late.2 with ⟨hv,_⟩|⟨g',cap,cur,hv,_,hh,_⟩
  ·rw[hv] at hm;cases hm
  ·rw[hv] at hm
   simp only[Value.ownBlock,ZjJ] at hm
   subst hm
   rw[hr] at hh;cases hh
theorem PD.fr{P:Pw}{D:Dk}(h:PD B w p d n P D L){X:List Nat}(hf:Fr X w w')(hX:∀k,k∈X->k∉p::L):PD B w' p d n P D L:=by
 obtain⟨gh,v,rfl,hd⟩:=h.dk
 refine⟨h.pw.fr hf (fun hm=>hX _ hm (by simp)),h.pok,⟨gh,v,rfl,hd.fr hf (fun hm=>hX _ hm (by simp)) (fun hm=>hX _ hm (by simp)) (fun g hg hm=>hX _ hm ?_)⟩,h.ok,h.bp,h.bL⟩
 simp[ZG,hg]
theorem PD.after{P:Pw}{D:Dk}(h:PD B w p d n P D L)(hb:Below w.heap.size w w'):PD B w' p d n P D L:=h.fr (Fr.of_below (L:=[]) hb) (by simp)
theorem Did.same{P:Pw}{D:Dk}(h:PD B w p d n P D L)(X:List Nat)(hb:Below w.heap.size w w'):Did B p d n L X P D w w' L:=
 ⟨h.after hb,Fr.of_below hb,fun k hk=>Or.inl hk⟩
theorem Did.trans{P1 P2:Pw}{D1 D2:Dk}{L2:List Nat}(h:Did B p d n L X P1 D1 w w1 L1)(k:Did B p d n L1 X P2 D2 w1 w2 L2):Did B p d n L X P2 D2 w w2 L2:=
 ⟨k.pd,h.fr.trans k.fr (fun i hi ae=>by
  simp only[ZjU,ZjV] at hi⊢
  rcases hi with hi|hi|hi
  ·exact Or.inl hi
  ·exact Or.inr (Or.inl hi)
  ·rcases h.grew i hi with hg|hg
   ·exact Or.inr (Or.inr hg)
   ·omega),fun i hi=>by
  rcases k.grew i hi with hg|hg
  ·exact h.grew i hg
  ·exact Or.inr (Zk1 h.fr.size hg)⟩
theorem Did.wider{P1:Pw}{D1:Dk}(h:Did B p d n L X P1 D1 w w1 L1)(hX:∀k,k∈X->k∈Y):Did B p d n L Y P1 D1 w w1 L1:=
 ⟨h.pd,h.fr.mono (fun i hi _=>by simp only[ZjU] at hi⊢;exact hi.imp (hX i) id),h.grew⟩
theorem Did.from{P1:Pw}{D1:Dk}{w0:World}(h:Did B p d n L X P1 D1 w w1 L1)(hb:Below w0.heap.size w0 w):Did B p d n L X P1 D1 w0 w1 L1:=
 ⟨h.pd,(Fr.of_below (L:=X++p::L) hb).trans h.fr (fun i hi _=>hi),fun i hi=>(h.grew i hi).imp id (fun hg=>Zk1 hb.size hg)⟩
theorem Did.after{P1:Pw}{D1:Dk}(h:Did B p d n L X P1 D1 w w1 L1)(hb:Below w1.heap.size w1 w2):Did B p d n L X P1 D1 w w2 L1:=
 ⟨h.pd.after hb,h.fr.trans (Fr.of_below (L:=[]) hb) (by simp),h.grew⟩
theorem Did.frame{P1:Pw}{D1:Dk}(h:Did B p d n L X P1 D1 w w1 L1)(hf:Fr Y w1 w2)(h1:∀k,k∈Y->k∉p::L1)(h2:∀k,k∈Y->k∈X∨w.heap.size<=k):Did B p d n L X P1 D1 w w2 L1:=
 ⟨h.pd.fr hf h1,h.fr.trans hf (fun i hi ae=>by
  rcases h2 i hi with h2|h2
  ·simp[h2]
  ·omega),h.grew⟩
theorem Did.row{P P1:Pw}{D D1:Dk}(h:Did B p d n L X P1 D1 w w1 L1)(h0:PD B w p d n P D L){g:Nat}{e:TypeId}{l:List Value}(hr:Row w g e l)(hX:g∉X)
  (h1:e≠112) (h2:e≠109) (h3:e≠5) (h4:e≠194):Row w1 g e l:=
 hr.fr h.fr (by simp only[ZjU,not_or];exact⟨hX,h0.row_ne hr h1 h2 h3 h4⟩)
theorem Z2X.did{v:Value}{P P':Pw}{D D':Dk}(hl:Z2X p d gh v P' D' w w')(h:PD B w p d n P D (d::gh::ZE v))(hB:B<=w.heap.size)(pok:P'.ok)(ok:D'.ok n):∃L',Did B p d n (d::gh::ZE v) [] P' D' w w' L':=by
 obtain⟨v',af,ae,hf,ho⟩:=hl
 refine⟨d::gh::ZE v',⟨af,pok,⟨gh,v',rfl,ae⟩,ok,h.bp,fun k hk=> ?_⟩,by simpa using hf,fun k hk=> ?_⟩
 ·simp only[ZjV,ZG] at hk
  rcases hk with rfl|rfl|hk
  ·exact h.bL _ (by simp)
  ·exact h.bL _ (by simp)
  ·rcases ho with e|e
   ·exact h.bL _ (by simp[ZG,<-e,hk])
   ·exact Zk1 hB (e k hk)
 ·simp only[ZjV,ZG] at hk⊢
  rcases hk with rfl|rfl|hk
  ·simp
  ·simp
  ·rcases ho with e|e
   ·left;right;right;rw[<-e];exact hk
   ·exact Or.inr (e k hk)
theorem Zu.zero{v:Value}(h:Zu w B 0 v):v=.nilIface:=by
 rcases h with ⟨_,rfl⟩|⟨h,_⟩
 ·rfl
 ·exact absurd rfl h
theorem Zu.split{v:Value}(h:Zu w B c v):(c=0/\v=.nilIface)∨(c≠0/\∃b,v=.iface 139 (.pointer (some ⟨b,0,none⟩))):=by
 rcases h with ⟨rfl,rfl⟩|⟨hc,n,hn⟩
 ·exact Or.inl ⟨rfl,rfl⟩
 ·match n,hn with
  |n+1,⟨b,_,_,hv,_⟩=>exact Or.inr ⟨hc,b,hv⟩
theorem Zu.fr{v:Value}(h:Zu w B c v){L:List Nat}(hf:Fr L w w')(hL:∀k,k∈L->k<B):Zu w' B c v:=by
 have key:∀ (n:Nat) (v:Value),WG w B c n v->WG w' B c n v:=by
  intro n
  induction n with
  |zero=>intro v h;exact h
  |succ n ih=>
   rintro v ⟨b,a,i,hv,hB,hr,hi⟩
   exact⟨b,a,i,hv,hB,hr.fr hf (fun hm=>by have:=hL b hm;omega),hi.imp id (ih i)⟩
 exact h.imp id fun⟨hc,n,hn⟩=>⟨hc,n,key n v hn⟩
def Ans(B:Nat)(c:Int)(Q:World->Prop)(e:Ending)(w':World):Prop:=∃ev,e=.returned ev/\Zu w' B c ev/\Q w'
section
variable{B p d n:Nat}{P:Pw}{D:Dk}{L:List Nat}{w:World}
theorem PD.write(h:PD B w p d n P D L)(hB:B<=w.heap.size)(a:Int)(s:ByteArray)(ae:D.wait.length<1099511627776):
  Calls prog 190 #[.pointer (some ⟨d,0,none⟩),.int .i64 a,.string s] w (Ans w.heap.size (YC P D a s) fun w'=>∃L',Did B p d n L [] (Xz P D a s) (wdk P D a s) w w' L'):=by
 obtain⟨gh,v,rfl,hd⟩:=h.dk
 refine(Zf0 h.pw h.pok hd h.ok a s ae).mono ?_
 rintro e w' ⟨ev,rfl,he,hl⟩
 exact⟨ev,rfl,he.v,hl.did h hB (ZiC h.pok D a s) (ZeX h.ok a s ae)⟩
theorem PD.flush(h:PD B w p d n P D L)(hB:B<=w.heap.size):
  Calls prog 191 #[.pointer (some ⟨d,0,none⟩)] w (Ans w.heap.size (X0 P D) fun w'=>∃L',Did B p d n L [] (JW P D) (fdk P D) w w' L'):=by
 obtain⟨gh,v,rfl,hd⟩:=h.dk
 refine(Ze1 h.pw h.pok hd h.ok).mono ?_
 rintro e w' ⟨ev,rfl,he,hl⟩
 exact⟨ev,rfl,he.v,hl.did h hB (Zht h.pok D) (ZdY h.ok)⟩
theorem PD.read(h:PD B w p d n P D L)(a:Int):
  Calls prog 73 #[.pointer (some ⟨d,0,none⟩),.int .i64 a] w fun e w'=>∃ev,e=.returned (.tuple #[.string (Z0u P D a),ev])/\Zu w' w.heap.size (rdy P D a) ev/\Below w.heap.size w w':=by
 obtain⟨gh,v,rfl,hd⟩:=h.dk
 exact(Zgq h.pw hd h.ok a).mono fun e w' ⟨ev,he,hv,hb⟩=>⟨ev,he,hv.v,hb⟩
end
inductive DOp where
 |wr (a:Nat) (s:ByteArray)
 |fl
def DOp.code(P:Pw)(D:Dk):DOp->Int
 |.wr a s=>YC P D a s
 |.fl=>X0 P D
def DOp.pow(P:Pw)(D:Dk):DOp->Pw
 |.wr a s=>Xz P D a s
 |.fl=>JW P D
def DOp.dk(P:Pw)(D:Dk):DOp->Dk
 |.wr a s=>wdk P D a s
 |.fl=>fdk P D
def Z2:List DOp->Pw->Dk->Int×Pw×Dk
 |[],P,D=>(0,P,D)
 |o::l,P,D=>if o.code P D=0 then Z2 l (o.pow P D) (o.dk P D) else(o.code P D,o.pow P D,o.dk P D)
theorem Wy(o:DOp)(l:List DOp)(P:Pw)(D:Dk):Z2 (o::l) P D=if o.code P D=0 then Z2 l (o.pow P D) (o.dk P D) else(o.code P D,o.pow P D,o.dk P D):=rfl
theorem XP(a b:List DOp)(P:Pw)(D:Dk):Z2 (a++b) P D=if(Z2 a P D).1=0 then Z2 b (Z2 a P D).2.1 (Z2 a P D).2.2 else Z2 a P D:=by
 induction a generalizing P D with
 |nil=>simp[Z2]
 |cons o l ih=>
  rw[List.cons_append,Wy]
  by_cases h:o.code P D=0
  ·rw[if_pos h,ih,show Z2 (o::l) P D=Z2 l (o.pow P D) (o.dk P D) from by rw[Wy,if_pos h]]
  ·rw[if_neg h,show Z2 (o::l) P D=(o.code P D,o.pow P D,o.dk P D) from by rw[Wy,if_neg h],if_neg h]
theorem Z0v(o:DOp)(P:Pw)(D:Dk):Z2 [o] P D=(o.code P D,o.pow P D,o.dk P D):=by
 simp only[Z2]
 by_cases h:o.code P D=0
 ·rw[if_pos h,h]
 ·rw[if_neg h]
theorem Z5G(a:List DOp)(o:DOp)(P Q:Pw)(D E:Dk)(h:Z2 a P D=(0,Q,E)):Z2 (a++[o]) P D=(o.code Q E,o.pow Q E,o.dk Q E):=by
 rw[XP,h];simp only[if_true];exact Z0v o Q E
theorem Zb1(a b:List DOp)(P Q:Pw)(D E:Dk)(c:Int)(h:Z2 a P D=(c,Q,E))(hc:c≠0):Z2 (a++b) P D=(c,Q,E):=by
 rw[XP,h];simp only[if_neg hc]
theorem Z8m(a:List DOp)(i:Nat)(P Q:Pw)(D E:Dk)(c:Int)(h:Z2 (a.take i) P D=(c,Q,E))(hc:c≠0):Z2 a P D=(c,Q,E):=by
 have:=Zb1 (a.take i) (a.drop i) P Q D E c h hc
 rwa[Zk4] at this
theorem Z4O(a b:List DOp)(P Q:Pw)(D E:Dk)(h:Z2 a P D=(0,Q,E)):Z2 (a++b) P D=Z2 b Q E:=by
 rw[XP,h];simp only[if_true]
theorem DOp.few(P:Pw)(D:Dk)(o:DOp):(o.dk P D).wait.length<=D.wait.length+1:=by
 cases o with
 |wr a s=>show(wdk P D a s).wait.length<=_;unfold wdk;split<;>simp
 |fl=>show(fdk P D).wait.length<=_;unfold fdk;split<;>simp[Dk.flushed]
theorem Z6J(l:List DOp)(P:Pw)(D:Dk):(Z2 l P D).2.2.wait.length<=D.wait.length+l.length:=by
 induction l generalizing P D with
 |nil=>simp[Z2]
 |cons o l ih=>
  have:=DOp.few P D o
  simp only[Z2,ZjM]
  split
  ·have:=ih (o.pow P D) (o.dk P D);omega
  ·show(o.dk P D).wait.length<=_;omega
def Ran(B p d n:Nat)(L X:List Nat)(l:List DOp)(P:Pw)(D:Dk)(w w':World):Prop:=∃L',Did B p d n L X (Z2 l P D).2.1 (Z2 l P D).2.2 w w' L'
theorem Ran.one{o:DOp}{P:Pw}{D:Dk}(h:∃L',Did B p d n L X (o.pow P D) (o.dk P D) w w' L'):Ran B p d n L X [o] P D w w':=by
 unfold Ran;rw[Z0v];exact h
theorem Ran.go{a b:List DOp}{P P1:Pw}{D D1:Dk}(e:Z2 a P D=(0,P1,D1))(h:Did B p d n L X P1 D1 w w1 L1)(k:Ran B p d n L1 X b P1 D1 w1 w2):Ran B p d n L X (a++b) P D w w2:=by
 unfold Ran;rw[Z4O a b P P1 D D1 e]
 obtain⟨L2,k⟩:=k
 exact⟨L2,h.trans k⟩
theorem Ran.stop{a b:List DOp}{P:Pw}{D:Dk}(hc:(Z2 a P D).1≠0)(h:Ran B p d n L X a P D w w1):Ran B p d n L X (a++b) P D w w1:=by
 unfold Ran;rw[XP,if_neg hc];exact h
theorem Ran.after{a:List DOp}{P:Pw}{D:Dk}(h:Ran B p d n L X a P D w w1)(hb:Below w1.heap.size w1 w2):Ran B p d n L X a P D w w2:=by
 obtain⟨L',h⟩:=h;exact⟨L',h.after hb⟩
theorem Z06{a b:List DOp}{P P1:Pw}{D D1:Dk}(e:Z2 a P D=(0,P1,D1)):(Z2 (a++b) P D).1=(Z2 b P1 D1).1:=by rw[Z4O a b P P1 D D1 e]
theorem Z16{a b:List DOp}{P:Pw}{D:Dk}(hc:(Z2 a P D).1≠0):(Z2 (a++b) P D).1=(Z2 a P D).1:=by rw[XP,if_neg hc]
theorem Z9A{l:List DOp}{P:Pw}{D:Dk}(h:(Z2 l P D).1=0):Z2 l P D=(0,(Z2 l P D).2.1,(Z2 l P D).2.2):=by rw[<-h]
structure Stg(B p d n:Nat)(L X:List Nat)(A:List DOp)(P:Pw)(D:Dk)(w:World)(P1:Pw)(D1:Dk)(L1:List Nat)(w1:World):Prop where
 run:Z2 A P D=(0,P1,D1)
 did:Did B p d n L X P1 D1 w w1 L1
section
variable{B p d n:Nat}{L X:List Nat}{A:List DOp}{P:Pw}{D:Dk}{w:World}{P1:Pw}{D1:Dk}{L1:List Nat}{w1:World}
theorem Stg.start(h:PD B w p d n P D L)(X:List Nat)(hb:Below w.heap.size w w1):Stg B p d n L X [] P D w P D L w1:=⟨rfl,Did.same h X hb⟩
theorem Stg.size(h:Stg B p d n L X A P D w P1 D1 L1 w1):w.heap.size<=w1.heap.size:=h.did.fr.size
theorem Stg.few(h:Stg B p d n L X A P D w P1 D1 L1 w1):D1.wait.length<=D.wait.length+A.length:=by
 have:=Z6J A P D;rw[h.run] at this;exact this
theorem Stg.after(h:Stg B p d n L X A P D w P1 D1 L1 w1){w2:World}(hb:Below w1.heap.size w1 w2):Stg B p d n L X A P D w P1 D1 L1 w2:=⟨h.run,h.did.after hb⟩
theorem Stg.frame(h:Stg B p d n L X A P D w P1 D1 L1 w1){Y:List Nat}{w2:World}(hf:Fr Y w1 w2)(h1:∀k,k∈Y->k∉p::L1)(h2:∀k,k∈Y->k∈X∨w.heap.size<=k):Stg B p d n L X A P D w P1 D1 L1 w2:=⟨h.run,h.did.frame hf h1 h2⟩
theorem Stg.next(h:Stg B p d n L X A P D w P1 D1 L1 w1){b:List DOp}{w2:World}(hc:(Z2 b P1 D1).1=0)(hr:Ran B p d n L1 [] b P1 D1 w1 w2):∃P2 D2 L2,Stg B p d n L X (A++b) P D w P2 D2 L2 w2:=by
 obtain⟨L2,hr⟩:=hr
 exact⟨_,_,L2,by rw[Z4O _ _ _ _ _ _ h.run];exact Z9A hc,h.did.trans (hr.wider (by simp))⟩
theorem Stg.fail(h:Stg B p d n L X A P D w P1 D1 L1 w1){b:List DOp}{w2:World}{ev:Value}(he:Zu w2 w1.heap.size (Z2 b P1 D1).1 ev)(hr:Ran B p d n L1 [] b P1 D1 w1 w2):
  Ans w.heap.size (Z2 (A++b) P D).1 (Ran B p d n L X (A++b) P D w) (.returned ev) w2:=by
 obtain⟨L2,hr⟩:=hr
 exact⟨ev,rfl,by rw[Z06 h.run];exact he.base h.size,Ran.go h.run h.did ⟨L2,hr.wider (by simp)⟩⟩
theorem Q9{S:Nat}{l r:List DOp}{e:Ending}(hc:(Z2 l P D).1≠0)(h:Ans S (Z2 l P D).1 (Ran B p d n L X l P D w) e w2):Ans S (Z2 (l++r) P D).1 (Ran B p d n L X (l++r) P D w) e w2:=by
 obtain⟨ev,he,hv,hr⟩:=h
 exact⟨ev,he,by rw[Z16 hc];exact hv,hr.stop hc⟩
theorem Stg.code_ne(h:Stg B p d n L X A P D w P1 D1 L1 w1){b:List DOp}(hc:(Z2 b P1 D1).1≠0):(Z2 (A++b) P D).1≠0:=by rw[Z06 h.run];exact hc
theorem Stg.ok(h:Stg B p d n L X A P D w P1 D1 L1 w1)(S:Nat):Ans S (Z2 A P D).1 (Ran B p d n L X A P D w) (.returned .nilIface) w1:=
 ⟨_,rfl,by rw[h.run];exact Zu.nil _ _,L1,by rw[h.run];exact h.did⟩
end
theorem ZN{l r:List DOp}{P:Pw}{D:Dk}(hc:(Z2 l P D).1≠0):(Z2 (l++r) P D).1≠0:=by rw[Z16 hc];exact hc
end
section
open Go.RowKit
variable{n:Nat}
theorem Dk.replaced_ok{D:Dk}(ok:D.ok n)(hl:D.life<4611686018427387904):D.replaced.ok n:=⟨by simp[Dk.replaced,ok.len],ok.n1,ok.n2,by simp[Dk.replaced],by simp[Dk.replaced],by simp[Dk.replaced],by have:=ok.life0;simp only[Dk.replaced];omega,by simp only[Dk.replaced];omega⟩
theorem Dk.killed_ok{D:Dk}(ok:D.ok n)(hl:D.life<4611686018427387904):D.killed.ok n:=⟨ok.len,ok.n1,ok.n2,by simp[Dk.killed],by simp[Dk.killed],by simp[Dk.killed],by have:=ok.life0;simp only[Dk.killed];omega,by simp only[Dk.killed];omega⟩
end
section
open Go.RowKit
theorem Z1t{P:Program}(T:TypeId)(h:P.underlying T=some .string)(s:ByteArray)(n:Nat)(hn:n<=s.size)(W:World):(Instr.slice T (.string s) none (some (.int .i64 (n:Int))) none).run P W=.ok (.string (s.extract 0 n)) W:=by
 rw[run_slice_string_to_if W T s .i64 n h,if_pos ⟨by omega,by omega⟩];simp
def sec(l:List UInt8)(a:Nat):List UInt8:=(l.drop (a*64)).take 64
theorem Z5i(l:List UInt8)(a i:Nat):(sec l a)[i]? =if i<64 then l[a*64+i]? else none:=by
 unfold sec
 rw[List.getElem?_take,List.getElem?_drop]
theorem Z3j(l:List UInt8)(o:Nat)(s:List UInt8)(i:Nat)(h:o<=l.length):(QB l o s)[i]? =if i<o then l[i]? else if i<o+s.length then s[i-o]? else l[i]?:=by
 unfold QB
 have hl:(l.take o).length=o:=by rw[ZjO];omega
 rw[ZjL]
 by_cases h1:i<o
 ·rw[if_pos h1,ZjH (by omega),List.getElem?_take,if_pos h1]
 ·rw[if_neg h1,ZjP (by omega),hl]
  by_cases h2:i<o+s.length
  ·rw[if_pos h2,ZjH (by omega)]
  ·rw[if_neg h2,ZjP (by omega),List.getElem?_drop]
   congr 1;omega
theorem Z2N(l:List UInt8)(a b:Nat)(s:List UInt8)(h:a*64<=l.length)(hs:s.length<=64)(ae:a≠b):sec (QB l (a*64) s) b=sec l b:=by
 apply List.ext_getElem?
 intro i
 rw[Z5i,Z5i]
 by_cases hi:i<64
 ·rw[if_pos hi,if_pos hi,Z3j l _ s _ h]
  by_cases h1:b*64+i<a*64
  ·rw[if_pos h1]
  ·rw[if_neg h1,if_neg (by omega)]
 ·rw[if_neg hi,if_neg hi]
theorem Z3Y(l:List UInt8)(a:Nat)(s:List UInt8)(h:a*64<=l.length)(hs:s.length<=64):sec (QB l (a*64) s) a=s++(sec l a).drop s.length:=by
 apply List.ext_getElem?
 intro i
 rw[Z5i]
 by_cases h2:i<s.length
 ·rw[ZjH h2,if_pos (by omega),Z3j l _ s _ h,if_neg (by omega),if_pos (by omega)]
  congr 1;omega
 ·rw[ZjP (by omega),List.getElem?_drop,Z5i,show s.length+(i-s.length)=i from by omega]
  by_cases hi:i<64
  ·rw[if_pos hi,if_pos hi,Z3j l _ s _ h,if_neg (by omega),if_neg (by omega)]
  ·rw[if_neg hi,if_neg hi]
theorem Z3z(l:List UInt8)(n a:Nat)(h:l.length=64*n)(ha:a<n):(sec l a).length=64:=by
 unfold sec;rw[ZjO,List.length_drop];omega
theorem Z8n(l:List UInt8)(n a:Nat)(s:List UInt8)(h:l.length=64*n)(ha:a<n)(hs:s.length=64):sec (QB l (a*64) s) a=s:=by
 rw[Z3Y l a s (by omega) (by omega),List.drop_of_length_le (by rw[Z3z l n a h ha];omega),Zk7]
theorem Z02(D:Dk)(a:Nat):D.lasts a=⟨(sec D.has a).toArray⟩:=rfl
theorem Zha(s:ByteArray):(⟨s.data.toList.toArray⟩:ByteArray)=s:=by cases s;simp
def Z0K(l:List (Nat×ByteArray))(a:Nat)(s:ByteArray):ByteArray:=l.foldl (fun s x=>if x.1=a then x.2 else s) s
theorem Z1X(D:Dk)(a:Nat):D.reads a=Z0K D.wait a (D.lasts a):=rfl
theorem Z9C(l:List (Nat×ByteArray))(a b:Nat)(s t:ByteArray):Z0K (l++[(b,t)]) a s=if b=a then t else Z0K l a s:=by
 unfold Z0K
 rw[List.foldl_append,Zk6,List.foldl_nil]
theorem ZfV(has:List UInt8)(x:Nat×ByteArray)(n a:Nat)(h:has.length=64*n)(hx:x.1<n)(hs:x.2.size=64):(⟨(sec (WM has x) a).toArray⟩:ByteArray)=if x.1=a then x.2 else⟨(sec has a).toArray⟩:=by
 have hl:x.2.data.toList.length=64:=by simpa using hs
 unfold WM
 by_cases e:x.1=a
 ·rw[if_pos e,<-e,Z8n has n x.1 _ h hx hl,Zha]
 ·rw[if_neg e,Z2N has x.1 a _ (by omega) (by omega) e]
theorem Z3Q(l:List (Nat×ByteArray))(has:List UInt8)(n a:Nat)(h:has.length=64*n)(hx:∀x,x∈l->x.1<n/\x.2.size=64):(⟨(sec (l.foldl WM has) a).toArray⟩:ByteArray)=Z0K l a ⟨(sec has a).toArray⟩:=by
 induction l generalizing has with
 |nil=>rfl
 |cons x l ih=>
  unfold Z0K
  rw[Zk6,Zk6,ih (WM has x) (Z0Y has x n h (hx x (by simp)).1 (hx x (by simp)).2) (fun y hy=>hx y (by simp[hy])),ZfV has x n a h (hx x (by simp)).1 (hx x (by simp)).2]
  rfl
@[irreducible] def uv (x:BitVec 32):Int:=(x.toNat:Int)
@[irreducible] def ub (a:Int):BitVec 32:=BitVec.ofInt 32 a
theorem QE(x:BitVec 32):uv x=(x.toNat:Int):=by unfold uv;rfl
theorem ZM(x:BitVec 32):0<=uv x:=by rw[QE];omega
theorem ZL(x:BitVec 32):uv x<4294967296:=by rw[QE];have:=x.isLt;omega
theorem Zh4(x:BitVec 32):ub (uv x)=x:=by
 rw[QE];unfold ub
 rw[BitVec.ofInt_natCast,BitVec.ofNat_toNat];simp
theorem Zji{x y:BitVec 32}(h:uv x=uv y):x=y:=by rw[<-Zh4 x,h,Zh4]
theorem Z8w{n:Nat}(h:n<4294967296):uv (BitVec.ofNat 32 n)=(n:Int):=by
 rw[QE,BitVec.toNat_ofNat];omega
theorem Wo(x y:BitVec 32):bits .xor .u32 (uv x) (uv y)=uv (x^^^y):=by
 have hx:=x.isLt
 have hy:=y.isLt
 rw[QE,QE,QE,u32_xor_nat _ _ (by omega) (by omega),BitVec.toNat_xor]
theorem Z2U(x y:BitVec 32):bits .and .u32 (uv x) (uv y)=uv (x&&&y):=by
 have hx:=x.isLt
 have hy:=y.isLt
 rw[QE,QE,QE,u32_and_nat _ _ (by omega) (by omega),BitVec.toNat_and]
theorem Zjx(x y:BitVec 32):bits .or .u32 (uv x) (uv y)=uv (x|||y):=by
 have hx:=x.isLt
 have hy:=y.isLt
 rw[QE,QE,QE,u32_or_nat _ _ (by omega) (by omega),BitVec.toNat_or]
theorem Z0z(x y:BitVec 32):(uv x+uv y)%4294967296=uv (x+y):=by
 rw[QE,QE,QE,BitVec.toNat_add];omega
theorem Z51(x:BitVec 32)(k:Nat):uv x / 2^k=uv (x>>>k):=by
 rw[QE,QE,BitVec.toNat_ushiftRight,Nat.shiftRight_eq_div_pow,Int.natCast_ediv,Int.natCast_pow];rfl
theorem Zjj(x:BitVec 32)(k:Nat):uv x*2^k%4294967296=uv (x<<<k):=by
 rw[QE,QE,BitVec.toNat_shiftLeft,Nat.shiftLeft_eq,Int.natCast_emod,Int.natCast_mul,Int.natCast_pow];rfl
theorem Zjh(x y:BitVec 32):(uv x==uv y)=(x==y):=by
 rw[Bool.eq_iff_iff];simp only[beq_iff_eq]
 exact⟨Zji,fun h=>by rw[h]⟩
theorem ZeV(x:BitVec 32):(bits .and .u32 (uv x) 1==1)=x.getLsbD 0:=by
 rw[show(1:Int)=uv 1#32 from by rw[QE];rfl,Z2U,Zjh]
 have e:x&&&1#32=BitVec.setWidth 32 (BitVec.ofBool (x.getLsbD 0)):=by
  apply BitVec.eq_of_toNat_eq
  rw[BitVec.toNat_and]
  have h1:(1#32:BitVec 32).toNat=1:=rfl
  rw[h1,Nat.and_one_is_mod,BitVec.getLsbD,Nat.testBit_zero]
  rcases Nat.mod_two_eq_zero_or_one x.toNat with h|h<;>simp[h]
 rw[e]
 cases x.getLsbD 0<;>rfl
def XO(r:BitVec 32):BitVec 32:=if r.getLsbD 0 then(r>>>1)^^^0x82F63B78#32 else r>>>1
def Xo:Nat->BitVec 32->BitVec 32
 |0,r=>r
 |n+1,r=>Xo n (XO r)
def Z15(b:UInt8):BitVec 32:=BitVec.ofNat 32 b.toNat
def Xp(r:BitVec 32)(b:UInt8):BitVec 32:=Xo 8 (r^^^Z15 b)
def XR(sum:BitVec 32)(l:List UInt8):BitVec 32:= ~~~ (l.foldl Xp (~~~ sum))
def crc(l:List UInt8):BitVec 32:=XR 0#32 l
end
section
def Z4(n:Nat):List UInt8:=[UInt8.ofNat (n / 16777216),UInt8.ofNat (n / 65536),UInt8.ofNat (n / 256),UInt8.ofNat n]
theorem Zq(n:Nat):(Z4 n).length=4:=rfl
def YI(l:List UInt8):Nat:=(l.getD 0 0).toNat*16777216+(l.getD 1 0).toNat*65536+(l.getD 2 0).toNat*256+(l.getD 3 0).toNat
theorem toNat_ofNat(n:Nat):(UInt8.ofNat n).toNat=n%256:=by simp
theorem Z4F(n:Nat)(r:List UInt8):YI (Z4 n++r)=n%4294967296:=by
 simp only[YI,Z4,List.cons_append,List.nil_append,List.getD_cons_zero,List.getD_cons_succ,toNat_ofNat]
 omega
theorem Yy(n:Nat)(h:n<4294967296)(r:List UInt8):YI (Z4 n++r)=n:=by rw[Z4F];omega
theorem ZhW(l:List UInt8):YI l<4294967296:=by
 unfold YI
 have h0:=(l.getD 0 0).toNat_lt;have h1:=(l.getD 1 0).toNat_lt;have h2:=(l.getD 2 0).toNat_lt;have h3:=(l.getD 3 0).toNat_lt
 omega
theorem Za6{a b:Nat}(ha:a<4294967296)(hb:b<4294967296)(h:Z4 a=Z4 b):a=b:=by
 have:=Yy a ha []
 rw[h,Yy b hb] at this
 exact this.symm
def We(l:List (List UInt8)):List UInt8:=l.flatMap fun s=>Z4 s.length++s
def Zv(l:List (List UInt8)):List UInt8:=Z4 l.length++We l
def Zt(l:List (List UInt8)):Nat:=(l.map fun s=>4+s.length).sum
theorem Z3o(s:List UInt8)(l:List (List UInt8)):We (s::l)=Z4 s.length++(s++We l):=by simp[We]
theorem Z0p(l:List (List UInt8)):(We l).length=Zt l:=by
 induction l with
 |nil=>rfl
 |cons s l ih=>rw[Z3o];simp[ih,Zq,Zt];omega
theorem ZF(l:List (List UInt8)):(Zv l).length=4+Zt l:=by simp[Zv,Z0p,Zq]
theorem Z1R(a b:List (List UInt8)):We (a++b)=We a++We b:=by simp[We]
theorem J8(a b:List (List UInt8)):Zt (a++b)=Zt a+Zt b:=by simp[Zt]
theorem Zc(s:List UInt8)(l:List (List UInt8)):Zt (s::l)=4+s.length+Zt l:=by simp[Zt]
theorem Z3S(l:List (List UInt8))(k:Nat):Zt (l.take k)<=Zt l:=by
 have:=J8 (l.take k) (l.drop k)
 rw[Zk4] at this;omega
theorem Yv(l:List (List UInt8)):4*l.length<=Zt l:=by
 induction l with
 |nil=>simp
 |cons s l ih=>rw[Zc,ZjM];omega
theorem Z1S{l:List (List UInt8)}{s:List UInt8}(h:s∈l):4+s.length<=Zt l:=by
 induction l with
 |nil=>simp at h
 |cons x l ih=>
  rw[Zc]
  rcases ZjV.1 h with rfl|h
  ·omega
  ·have:=ih h;omega
end
section
open Go.RowKit
theorem Z04{a b:Value}(h:a=b):Ending.returned a=.returned b:=by rw[h]
theorem Xy{k:IntKind}{a b:Int}(h:a=b):Value.int k a=.int k b:=by rw[h]
theorem ZdJ(b:UInt8):(b.toNat:Int)=uv (Z15 b):=by
 unfold Z15
 have:=b.toNat_lt
 rw[Z8w (by omega)]
theorem Z8R(n:Nat)(r:BitVec 32):Xo (n+1) r=XO (Xo n r):=by
 induction n generalizing r with
 |zero=>rfl
 |succ n ih=>rw[Xo,ih (XO r),Xo]
theorem Zdi(x:BitVec 32)(h:x.getLsbD 0=true):bits .xor .u32 (uv (x>>>1)) 2197175160=uv (XO x):=by
 unfold XO
 rw[h,show(2197175160:Int)=uv 0x82F63B78#32 from by rw[QE];rfl,Wo];rfl
theorem Zdh(x:BitVec 32)(h:x.getLsbD 0=false):uv (x>>>1)=uv (XO x):=by
 unfold XO;rw[h];rfl
theorem ZeJ(r:BitVec 32)(b:UInt8)(w:World):
  Calls prog 241 #[.int .u32 (uv r),.int .u8 (b.toNat:Int)] w fun e w'=>e=.returned (.int .u32 (uv (Xp r b)))/\w=w':=by
 have hb:=b.toNat_lt
 obtain⟨y,hy⟩:∃y,Z15 b=y:=⟨_,rfl⟩
 have e1:=ZdJ b
 rw[hy] at e1
 have e2:Xp r b=Xo 8 (r^^^y):=by rw[<-hy];rfl
 rw[e1,e2]
 clear e1 e2 hy hb
 have y0:=ZM y
 have y1:=ZL y
 have x1:=Wo r y
 have X1:=Zka x1;clear x1
 go_enter func241,ntmps241
 go_wp2
 go_loop [0,9] (fun r' i=>∃k:Nat,k<=8/\i=.int .i64 k/\r'=.int .u32 (uv (Xo k (r^^^y)))) (fun _ i=>8- (intOf i).toNat)
 case atStart=>exact⟨0,by omega,rfl,Xy X1.out⟩
 case round=>
  obtain⟨k,hk,rfl,rfl⟩:=hrel
  have hs:=Z8R k (r^^^y)
  obtain⟨x,hx⟩:∃x,Xo k (r^^^y)=x:=⟨_,rfl⟩
  rw[hx] at hs⊢
  have x0:=ZM x
  have x1:=ZL x
  by_cases ae:k<8
  ·cases hl:x.getLsbD 0
   ·have hb:=ZeV x
    rw[hl] at hb
    have HS:=Zka hs;clear hs
    have HL:=Zka hl;clear hl
    have HX:=Zka hx;clear hx
    go_wp2
    go_round
    case measure=>simp[intOf];omega
    case rel=>exact⟨k+1,by omega,by go_num,by rw[HS.out,<-Zdh x HL.out,<-Z51 x 1];rfl⟩
   ·have hb:=ZeV x
    rw[hl] at hb
    have HS:=Zka hs;clear hs
    have HL:=Zka hl;clear hl
    have HX:=Zka hx;clear hx
    go_wp2
    go_round
    case measure=>simp[intOf];omega
    case rel=>exact⟨k+1,by omega,by go_num,by rw[HS.out,<-Zdi x HL.out,<-Z51 x 1];rfl⟩
  ·obtain rfl:k=8:=by omega
   have HX:=Zka hx;clear hx hs
   go_wp2
   go_ret
   exact⟨by rw[HX.out];rfl,rfl⟩
def Z2F(q:BitVec 32)(l:List UInt8):BitVec 32:=l.foldl Xp q
theorem Z6a(sum:BitVec 32)(s:ByteArray)(w:World)(hs:s.size<=maxLen):
  Calls prog 186 #[.int .u32 (uv sum),.string s] w fun e w'=>e=.returned (.int .u32 (uv (XR sum s.data.toList)))/\w=w':=by
 unfold maxLen at hs
 have z0:=ZM sum
 have z1:=ZL sum
 go_enter func186,ntmps186
 go_wp2
 have e0:bits BinOp.xor IntKind.u32 IntKind.u32.max (uv sum)=uv (~~~ sum):=by
  rw[show IntKind.u32.max=uv 0xFFFFFFFF#32 from by rw[QE];rfl,Wo]
  congr 1
 rw[e0]
 clear e0
 have HQ:∀q:BitVec 32,bits BinOp.xor IntKind.u32 IntKind.u32.max (uv q)=uv (~~~ q):=by
  intro q
  rw[show IntKind.u32.max=uv 0xFFFFFFFF#32 from by rw[QE];rfl,Wo]
  congr 1
 have af:=Zka HQ;clear HQ
 go_loop [0,10] (fun r' i=>∃k:Nat,k<=s.size/\i=.int .i64 k/\r'=.int .u32 (uv (Z2F (~~~ sum) (s.data.toList.take k)))) (fun _ i=>s.size- (intOf i).toNat)
 case atStart=>exact⟨0,by omega,rfl,by simp[Z2F]⟩
 case round=>
  obtain⟨k,hk,rfl,rfl⟩:=hrel
  by_cases ag:k<s.size
  ·have ae:Z2F (~~~ sum) (s.data.toList.take (k+1))=Xp (Z2F (~~~ sum) (s.data.toList.take k)) s[k]:=by
    unfold Z2F
    rw[ZjK (by simpa using ag),List.foldl_append,Zk6,List.foldl_nil];rfl
   obtain⟨x,hx⟩:∃x,Z2F (~~~ sum) (s.data.toList.take k)=x:=⟨_,rfl⟩
   rw[hx] at ae⊢
   have HT:=Zka ae;clear ae hx
   go_wp2_with (go_at_call 241;refine(ZeJ _ _ _).mono ?_;rintro e w' ⟨rfl,rfl⟩)
   go_round
   case measure=>simp[intOf];omega
   case rel=>exact⟨k+1,by omega,by go_num,by rw[HT.out]⟩
  ·obtain rfl:k=s.size:=by omega
   have ht:s.data.toList.take s.size=s.data.toList:=ZjT (by simp)
   rw[ht]
   clear ht
   go_wp2
   go_ret
   exact⟨Z04 (Xy (af.out _)),rfl⟩
theorem Z2S(s:ByteArray)(w:World)(hs:s.size<=maxLen):
  Calls prog 130 #[.string s] w fun e w'=>e=.returned (.int .u32 (uv (crc s.data.toList)))/\w=w':=by
 have z:(0:Int)=uv 0#32:=by rw[QE];rfl
 have Z:=Zka z;clear z
 go_enter func130,ntmps130
 go_wp2_with (go_at_call 186;rw[Z.out];refine(Z6a 0#32 _ _ hs).mono ?_;rintro e w' ⟨rfl,rfl⟩)
 go_ret
 exact⟨rfl,rfl⟩
def s32(n:Nat):ByteArray:=⟨(Z4 n).toArray⟩
theorem Qa(n:Nat):(s32 n).size=4:=rfl
theorem Z20(n:Nat):(s32 n).data.toList=Z4 n:=rfl
theorem Jv(n:Nat)(hn:n<9223372036854775808)(w:World):
  Calls prog 181 #[.int .i64 (n:Int)] w fun e w'=>e=.returned (.string (s32 n))/\Below w.heap.size w w':=by
 go_enter func181,ntmps181
 have hc:=fun(W:World) (h:Row W w.heap.size 5 (Z3 (Z4 n)))=>Qv (P:=prog) W 75 9 5 underlying75 underlying5 underlying9 h 0 4 4 (Z4 n) rfl (by simp[Z3,Z4])
 go_wp2
 have hr:=Row.new w 5 (Z3 (Z4 n))
 have eb:(Z3 (Z4 n)).toArray= #[Value.int IntKind.u8 (↑n / 16777216%256),Value.int IntKind.u8 (↑n / 65536%256),Value.int IntKind.u8 (↑n / 256%256),Value.int IntKind.u8 (↑n%256)]:=by
  simp[Z3,Z4]
 rw[eb] at hr
 rw[hc _ hr]
 go_wp2
 go_ret
 exact⟨rfl,Zk9.alloc Zk8 _⟩
theorem Z6z(a b:Nat)(ha:a<9223372036854775808)(hb:b<9223372036854775808):bits .or .i64 (a:Int) (b:Int)=((a|||b:Nat):Int):=by
 have h1:(BitVec.ofInt 64 (a:Int)).toNat=a:=by rw[BitVec.ofInt_natCast,BitVec.toNat_ofNat];omega
 have h2:(BitVec.ofInt 64 (b:Int)).toNat=b:=by rw[BitVec.ofInt_natCast,BitVec.toNat_ofNat];omega
 have hl:a|||b<2^63:=Nat.or_lt_two_pow (by omega) (by omega)
 show IntKind.i64.wrap ((BitVec.ofInt 64 (a:Int)|||BitVec.ofInt 64 (b:Int)).toNat:Int)=_
 rw[BitVec.toNat_or,h1,h2]
 refine Zk2 _ ⟨?_,?_⟩<;>omega
theorem Z9v(k a b:Nat)(hb:b<2^k)(ha:a*2^k<4611686018427387904)(hk:k<=32):bits .or .i64 ((a*2^k:Nat):Int) (b:Int)=((a*2^k+b:Nat):Int):=by
 have h2:b<4294967296:=Zk0 hb (Nat.pow_le_pow_right (n:=2) (by omega) hk)
 rw[Z6z _ _ (by omega) (by omega),<-Nat.shiftLeft_eq,Nat.shiftLeft_add_eq_or_of_lt hb]
theorem Z3t(a b c d:Nat)(ha:a<256)(hb:b<256)(hc:c<256)(hd:d<256):
  IntKind.i64.wrap (a:Int)=(a:Int)/\IntKind.i64.wrap (b:Int)=(b:Int)/\IntKind.i64.wrap (c:Int)=(c:Int)/\IntKind.i64.wrap (d:Int)=(d:Int)/\
  IntKind.i64.wrap ((a:Int)*16777216)=(a:Int)*16777216/\IntKind.i64.wrap ((b:Int)*65536)=(b:Int)*65536/\IntKind.i64.wrap ((c:Int)*256)=(c:Int)*256/\
  bits .or .i64 ((a:Int)*16777216) ((b:Int)*65536)=(a:Int)*16777216+(b:Int)*65536/\
  bits .or .i64 ((a:Int)*16777216+(b:Int)*65536) ((c:Int)*256)=(a:Int)*16777216+(b:Int)*65536+(c:Int)*256/\
  bits .or .i64 ((a:Int)*16777216+(b:Int)*65536+(c:Int)*256) (d:Int)=(a:Int)*16777216+(b:Int)*65536+(c:Int)*256+d:=by
 refine⟨Zk2 _ (by omega),Zk2 _ (by omega),Zk2 _ (by omega),Zk2 _ (by omega),Zk2 _ (by omega),Zk2 _ (by omega),Zk2 _ (by omega),?_,?_,?_⟩
 ·have:=Z9v 24 a (b*65536) (by omega) (by omega) (by omega)
  simpa using this
 ·have:=Z9v 16 (a*256+b) (c*256) (by omega) (by omega) (by omega)
  have e:((a*256+b)*2^16:Nat)=a*16777216+b*65536:=by omega
  rw[e] at this
  simpa using this
 ·have:=Z9v 8 (a*65536+b*256+c) d (by omega) (by omega) (by omega)
  have e:((a*65536+b*256+c)*2^8:Nat)=a*16777216+b*65536+c*256:=by omega
  rw[e] at this
  simpa using this
theorem Z3v(s:ByteArray)(hs:4<=s.size)(w:World):
  Calls prog 214 #[.string s] w fun e w'=>e=.returned (.int .i64 (YI s.data.toList:Int))/\∃q,w'=w.drewN q:=by
 have i0:0<s.size:=by omega
 have i1:(1:Int)<(s.size:Int):=by omega
 have i2:(2:Int)<(s.size:Int):=by omega
 have i3:(3:Int)<(s.size:Int):=by omega
 have hr:(YI s.data.toList:Int)=(s[0].toNat:Int)*16777216+(s[1].toNat:Int)*65536+(s[2].toNat:Int)*256+(s[3].toNat:Int):=by
  have g:∀i (h:i<s.size),s.data.toList.getD i 0=s[i]:=by
   intro i h
   have h2:i<s.data.toList.length:=by simpa using h
   rw[ZjE,ZjF h2]
   exact Xq s i h h2
  unfold YI
  rw[g 0 (by omega),g 1 (by omega),g 2 (by omega),g 3 (by omega)]
  omega
 rw[hr]
 obtain⟨e1,e2,e3,e4,e5,e6,e7,e8,e9,ae⟩:=Z3t s[0].toNat s[1].toNat s[2].toNat s[3].toNat s[0].toNat_lt s[1].toNat_lt s[2].toNat_lt s[3].toNat_lt
 clear hr
 go_enter func214,ntmps214
 go_wp2
 go_quiet (fail)
 go_wp2
 go_ret
 exact⟨Z04 (Xy (by omega)),_,rfl⟩
end
end Go.Proofs.YthppfllkocphbaaGreatDoor
