/-
  Part 28 of the proof: lemmas about what the program computes.
-/
import Derived.Test.YthppfllkocphbaaGreatDoorQ25
namespace Go.Proofs.YthppfllkocphbaaGreatDoor
set_option linter.unusedVariables false
set_option linter.unusedSimpArgs false
set_option maxHeartbeats 25600000
set_option maxRecDepth 100000
open Tryz
section
open Go.RowKit Go.Shelf
variable{B g gb sb t:Nat}{G:Eg}{Ls Os:Nat->List Nat}{Ss:Nat->Sto}{V V0:Ev}{gl sl:List Value}{jf sf:Nat->Nat}{q:Int}{w w' w0 w1 wr:World}
theorem Q0.enter(h:Q0 B w G V Ls Os){i:Nat}(hi:i<G.n)(hO:Os i=[G.xs i]){s j:Nat}{S:Sto}{o:List Value}(hx:Row w (G.xs i) 91 o)(aj:Row w' (G.xs i) 91 [.pointer (some ⟨G.ds i,0,none⟩),.pointer (some ⟨s,0,none⟩),.int .i64 (V.Ds i).life,.bool true])(ak:Wi w s j (G.ds i) S)(ag:(V.Ds i).dead=false)(hs:∀a,a<G.n->a≠i->s∉Os a/\j∉Os a)(au:B<=s)(aq:B<=j)(hf:Fr [G.xs i] w w'):Q0 B w' G {V with Ms:=upd V.Ms i (some S)} Ls (upd Os i [G.xs i,s,j]):=by
 have ae:Zs w [G.xs i] [91]:=Zs.row hx (by simp)
 have ay:s∉[G.xs i]:=by obtain⟨b,uv,r1,_⟩:=ak;exact ae.row_ne r1 (by decide)
 have aw:j∉[G.xs i]:=by obtain⟨b,uv,_,r2,_⟩:=ak;exact ae.row_ne r2 (by decide)
 obtain⟨sp,ah⟩:=h.mem
 have al:G.xs i∈Os i:=by rw[hO];simp
 have ai:∀a,a<G.n->a≠i->G.xs i∉Os a:=fun a ha ax hk=>h.oap a i ha hi ax _ hk al
 refine⟨h.set.fr hf (ae.row_ne h.set (by decide)),⟨sp,ah.fr hf (ae.row_ne ah (by decide))⟩,h.n1,h.n16,fun a ha=>(h.pd a ha).fr hf (ae.disj (h.pd a ha).typed (by decide)),h.dap,fun a ha=> ?_,fun a b ha hb af k hk=> ?_,fun a ha k hk=> ?_,h.bs⟩
 ·by_cases e:a=i
  ·subst e
   simp only[Zn]
   exact⟨s,j,rfl,aj,ak.fr hf ae (by decide) (by decide) ay aw,ag⟩
  ·simp only[Z7 _ _ e]
   exact(h.at_ a ha).fr hf ae (by decide) (by decide) (fun k hk hm=>by
    rw[ZjD] at hm
    subst hm
    exact ai a ha e hk)
 ·by_cases ea:a=i
  ·subst ea
   rw[Zn] at hk
   rw[Z7 _ _ (fun e=>af e.symm)]
   simp only[ZjV,Zk3,or_false] at hk
   rcases hk with rfl|rfl|rfl
   ·exact ai b hb (fun e=>af e.symm)
   ·exact(hs b hb (fun e=>af e.symm)).1
   ·exact(hs b hb (fun e=>af e.symm)).2
  ·rw[Z7 _ _ ea] at hk
   by_cases eb:b=i
   ·subst eb
    rw[Zn]
    intro h2
    simp only[ZjV,Zk3,or_false] at h2
    rcases h2 with rfl|rfl|rfl
    ·exact ai a ha ea hk
    ·exact(hs a ha ea).1 hk
    ·exact(hs a ha ea).2 hk
   ·rw[Z7 _ _ eb];exact h.oap a b ha hb af k hk
 ·by_cases e:a=i
  ·subst e
   rw[Zn] at hk
   simp only[ZjV,Zk3,or_false] at hk
   rcases hk with rfl|rfl|rfl
   ·exact h.bO a ha _ al
   ·exact au
   ·exact aq
  ·rw[Z7 _ _ e] at hk;exact h.bO a ha k hk
theorem Q0.setGen(h:Q0 B w G V Ls Os)(g:Int):Q0 B (w.setCell ⟨G.s,3,none⟩ (.int .i64 g)) G {V with gen:=g} Ls Os:=by
 have hf:Fr [G.s] w (w.setCell ⟨G.s,3,none⟩ (.int .i64 g)):=(Fr.refl _ _).setCell (Or.inl (by simp)) _
 have af:Zs w [G.s] [78]:=Zs.row h.set (by simp)
 obtain⟨sp,ae⟩:=h.mem
 refine⟨h.set.set 3 _,⟨sp,ae.fr hf (af.row_ne ae (by decide))⟩,h.n1,h.n16,fun a ha=>(h.pd a ha).fr hf (af.disj (h.pd a ha).typed (by decide)),h.dap,fun a ha=>(h.at_ a ha).fr hf af (by decide) (by decide) (fun k hk hm=> ?_),h.oap,h.bO,h.bs⟩
 rw[ZjD] at hm
 subst hm
 exact(h.at_ a ha).typed.row_ne h.set (by decide) hk
theorem Q0.after(h:Q0 B w G V Ls Os)(hb:Below w.heap.size w w'):Q0 B w' G V Ls Os:=h.fr (Fr.of_below (L:=[]) hb) (ts:=[]) (fun k hk=>by cases hk) (by simp) (by simp) (by simp) (by simp)
theorem Wi.after{s j d:Nat}{S:Sto}(h:Wi w s j d S)(hb:Below w.heap.size w w'):Wi w' s j d S:=h.fr (Fr.of_below (L:=[]) hb) (ts:=[]) (fun k hk=>by cases hk) (by simp) (by simp) (by simp) (by simp)
structure Op1(B:Nat)(w0 w1:World)(G:Eg)(V0:Ev)(Ls:Nat->List Nat)(Ss:Nat->Sto)(g gb sb t:Nat)(q:Int)(sf jf:Nat->Nat)(gl sl:List Value)(wr:World):Prop where
 ep:Q0 B wr G {V0 with gen:=q} Ls (fun i=>[G.xs i])
 gr:Row wr gb 3 gl
 sr:Row wr sb 89 sl
 gn:gl.length=G.n
 sn:sl.length=G.n
 gv:∀a,a<t->gl[a]? =some (.int .i64 (g:Int))
 sv:∀a,a<t->sl[a]? =some (.pointer (some ⟨sf a,0,none⟩))
 st:∀a,a<t->Wi wr (sf a) (jf a) (G.ds a) (Ss a)
 ge:∀a,a<t->w1.heap.size<=sf a/\w1.heap.size<=jf a
 inj:∀a b,a<t->b<t->a≠b->sf a≠sf b/\jf a≠jf b
 bel:Below w0.heap.size w0 wr
 le:w0.heap.size<=w1.heap.size/\w1.heap.size<=wr.heap.size
 own:w0.heap.size<=G.s/\w0.heap.size<=gb/\w0.heap.size<=sb
theorem Op1.after(h:Op1 B w0 w1 G V0 Ls Ss g gb sb t q sf jf gl sl wr)(hb:Below wr.heap.size wr w'):Op1 B w0 w1 G V0 Ls Ss g gb sb t q sf jf gl sl w':=
 ⟨h.ep.after hb,h.gr.after hb,h.sr.after hb,h.gn,h.sn,h.gv,h.sv,fun a ha=>(h.st a ha).after hb,h.ge,h.inj,h.bel.trans (hb.mono (Zk1 h.le.1 h.le.2)),⟨h.le.1,Zk1 h.le.2 hb.size⟩,h.own⟩
theorem Op1.mark(h:Op1 B w0 w1 G V0 Ls Ss g gb sb t q sf jf gl sl wr)(v:Value):Op1 B w0 w1 G V0 Ls Ss g gb sb t q sf jf (gl.set t v) sl (wr.setCell ⟨gb,t,none⟩ v):=by
 have hf:Fr [gb] wr (wr.setCell ⟨gb,t,none⟩ v):=(Fr.refl _ _).setCell (Or.inl (by simp)) _
 have ae:Zs wr [gb] [3]:=Zs.row h.gr (by simp)
 refine⟨h.ep.fr hf ae (by decide) (by decide) (by decide) (fun k hk=>fun hm=>ae.disj h.ep.typed (by decide) k hm hk),h.gr.set t v,h.sr.fr hf (ae.row_ne h.sr (by decide)),by simp[h.gn],h.sn,fun a ha=> ?_,h.sv,fun a ha=> ?_,h.ge,h.inj,h.bel.trans (hf.below (by have:=h.le;omega) (fun k hk=>by rw[ZjD] at hk;subst hk;exact h.own.2.1)),⟨h.le.1,Zk1 h.le.2 hf.size⟩,h.own⟩
 ·rw[List.getElem?_set_ne (by omega)]
  exact h.gv a ha
 ·have h1:=h.st a ha
  refine h1.fr hf ae (by decide) (by decide) ?_ ?_
  ·obtain⟨b,uv,r1,_⟩:=h1;exact ae.row_ne r1 (by decide)
  ·obtain⟨b,uv,_,r2,_⟩:=h1;exact ae.row_ne r2 (by decide)
theorem Op1.next(h:Op1 B w0 w1 G V0 Ls Ss g gb sb t q sf jf gl sl wr)(hb:Below wr.heap.size wr w')(ht:t<G.n){s j:Nat}(ay:Wi w' s j (G.ds t) (Ss t))(hs:wr.heap.size<=s)(hj:wr.heap.size<=j):
  Op1 B w0 w1 G V0 Ls Ss g gb sb (t+1) q (upd sf t s) (upd jf t j) (gl.set t (.int .i64 (g:Int))) (sl.set t (.pointer (some ⟨s,0,none⟩))) ((w'.setCell ⟨gb,t,none⟩ (.int .i64 (g:Int))).setCell ⟨sb,t,none⟩ (.pointer (some ⟨s,0,none⟩))):=by
 have h2:=h.after hb
 have ai:=h2.gr
 have aj:=h2.sr
 have ak:gb≠sb:=Row.ne ai aj (by decide)
 obtain⟨W,hW⟩:∃W,W=(w'.setCell ⟨gb,t,none⟩ (.int .i64 (g:Int))).setCell ⟨sb,t,none⟩ (.pointer (some ⟨s,0,none⟩)):=⟨_,rfl⟩
 have ah:Fr [gb,sb] w' W:=by
  rw[hW]
  exact((Fr.refl _ _).setCell (Or.inl (by simp)) _).setCell (Or.inl (by simp)) _
 have ag:Zs w' [gb,sb] [3,89]:=Zs.cons ai (by simp) (Zs.row aj (by simp))
 have aq:Q0 B W G {V0 with gen:=q} Ls (fun i=>[G.xs i]):=h2.ep.fr ah ag (by decide) (by decide) (by decide) (fun k hk hm=>ag.disj h2.ep.typed (by decide) k hm hk)
 have au:Row W gb 3 (gl.set t (.int .i64 (g:Int))):=by
  rw[hW]
  have h9:=ai.set t (.int .i64 (g:Int))
  exact h9.fr (L:=[sb]) ((Fr.refl _ _).setCell (Or.inl (by simp)) _) (by simpa using ak)
 have ax:Row W sb 89 (sl.set t (.pointer (some ⟨s,0,none⟩))):=by
  rw[hW]
  have h9:=aj.fr (L:=[gb]) ((Fr.refl _ w').setCell (p:=⟨gb,t,none⟩) (Or.inl (by simp)) (.int .i64 (g:Int))) (by simpa using ak.symm)
  exact h9.set t _
 have af:∀{s j d:Nat} {S:Sto},Wi w' s j d S->Wi W s j d S:=fun{s j d S} hs=>by
  refine hs.fr ah ag (by decide) (by decide) ?_ ?_
  ·obtain⟨b,uv,r1,_⟩:=hs;exact ag.row_ne r1 (by decide)
  ·obtain⟨b,uv,_,r2,_⟩:=hs;exact ag.row_ne r2 (by decide)
 rw[<-hW]
 have hz:=hb.size
 have ae:∀a,a<t->sf a<wr.heap.size/\jf a<wr.heap.size:=fun a ha=>(h.st a ha).lt
 refine⟨aq,au,ax,by simp[h.gn],by simp[h.sn],fun a ha=> ?_,fun a ha=> ?_,fun a ha=> ?_,fun a ha=> ?_,fun a b ha az al=> ?_,?_,⟨h.le.1,?_⟩,h.own⟩
 ·by_cases e:a=t
  ·subst e;simp[h.gn,ht]
  ·rw[List.getElem?_set_ne (by omega)]
   exact h.gv a (by omega)
 ·by_cases e:a=t
  ·subst e;simp[h.sn,ht,Zn]
  ·rw[List.getElem?_set_ne (by omega),Z7 _ _ e]
   exact h.sv a (by omega)
 ·by_cases e:a=t
  ·subst e;rw[Zn,Zn];exact af ay
  ·rw[Z7 _ _ e,Z7 _ _ e];exact af (h2.st a (by omega))
 ·have:=h.le.2
  by_cases e:a=t
  ·subst e;rw[Zn,Zn];omega
  ·rw[Z7 _ _ e,Z7 _ _ e];exact h.ge a (by omega)
 ·by_cases ea:a=t
  ·subst ea
   have aw:=ae b (by omega)
   rw[Zn,Zn,Z7 _ _ (by omega),Z7 _ _ (by omega)]
   omega
  ·have aw:=ae a (by omega)
   rw[Z7 sf _ ea,Z7 jf _ ea]
   by_cases eb:b=t
   ·subst eb
    rw[Zn,Zn]
    omega
   ·rw[Z7 _ _ eb,Z7 _ _ eb]
    exact h.inj a b (by omega) (by omega) al
 ·exact h2.bel.trans (ah.below (by have:=h.le;omega) (fun k hk=>by
   simp only[ZjV,Zk3,or_false] at hk
   have:=h.own
   rcases hk with rfl|rfl
   ·exact this.2.1
   ·exact this.2.2))
 ·have:=h.le.2
  have:=ah.size
  omega
theorem Op1.tell(h:Op1 B w0 w1 G V0 Ls Ss g gb sb t q sf jf gl sl wr)(q':Int):Op1 B w0 w1 G V0 Ls Ss g gb sb t q' sf jf gl sl (wr.setCell ⟨G.s,3,none⟩ (.int .i64 q')):=by
 have hf:Fr [G.s] wr (wr.setCell ⟨G.s,3,none⟩ (.int .i64 q')):=(Fr.refl _ _).setCell (Or.inl (by simp)) _
 have ae:Zs wr [G.s] [78]:=Zs.row h.ep.set (by simp)
 refine⟨h.ep.setGen q',h.gr.fr hf (ae.row_ne h.gr (by decide)),h.sr.fr hf (ae.row_ne h.sr (by decide)),h.gn,h.sn,h.gv,h.sv,fun a ha=> ?_,h.ge,h.inj,h.bel.trans (hf.below (by have:=h.le;omega) (fun k hk=>by rw[ZjD] at hk;subst hk;exact h.own.1)),⟨h.le.1,Zk1 h.le.2 hf.size⟩,h.own⟩
 have h1:=h.st a ha
 refine h1.fr hf ae (by decide) (by decide) ?_ ?_
 ·obtain⟨b,uv,r1,_⟩:=h1;exact ae.row_ne r1 (by decide)
 ·obtain⟨b,uv,_,r2,_⟩:=h1;exact ae.row_ne r2 (by decide)
theorem Op1.start(hp:Q0 B w1 G {V0 with gen:=q} Ls (fun i=>[G.xs i]))(hb:Below w0.heap.size w0 w1)(hs:w0.heap.size<=G.s):Op1 B w0 w1 G V0 Ls Ss g w1.heap.size (w1.heap.size+1) 0 q sf jf (madeCells #[.int .i64 0] G.n).toList (madeCells #[.pointer none] G.n).toList ((w1.alloc (.cells (madeCells #[.int .i64 0] G.n) 3)).alloc (.cells (madeCells #[.pointer none] G.n) 89)):=by
 have ae:=((Below.refl w1.heap.size w1).alloc Zk8 (.cells (madeCells #[.int .i64 0] G.n) 3)).alloc (by simp) (.cells (madeCells #[.pointer none] G.n) 89)
 have r1:Row ((w1.alloc (.cells (madeCells #[.int .i64 0] G.n) 3)).alloc (.cells (madeCells #[.pointer none] G.n) 89)) w1.heap.size 3 (madeCells #[.int .i64 0] G.n).toList:=(Row.new w1 3 (madeCells #[.int .i64 0] G.n).toList).alloc _
 have r2:=Row.new (w1.alloc (.cells (madeCells #[.int .i64 0] G.n) 3)) 89 (madeCells #[.pointer none] G.n).toList
 have e:(w1.alloc (.cells (madeCells #[.int .i64 0] G.n) 3)).heap.size=w1.heap.size+1:=by simp
 rw[e] at r2
 have hz:=hb.size
 exact⟨hp.after ae,r1,r2,by simp[madeCells],by simp[madeCells],fun a ha=>by omega,fun a ha=>by omega,fun a ha=>by omega,fun a ha=>by omega,fun a b ha=>by omega,hb.trans (ae.mono hz),⟨hz,ae.size⟩,hs,hz,by omega⟩
structure Op2(B:Nat)(w0 w1:World)(G:Eg)(V0:Ev)(Ls:Nat->List Nat)(Ss:Nat->Sto)(g gb sb t:Nat)(sf jf:Nat->Nat)(gl sl:List Value)(V:Ev)(Os:Nat->List Nat)(wr:World):Prop where
 ep:Q0 B wr G V Ls Os
 eq:V={V0 with gen:=(g:Int),Ms:=V.Ms}
 gr:Row wr gb 3 gl
 sr:Row wr sb 89 sl
 st:∀a,a<G.n->Wi wr (sf a) (jf a) (G.ds a) (Ss a)
 in_:∀a,a<t->V.Ms a=some (Ss a)/\Os a=[G.xs a,sf a,jf a]
 out:∀a,t<=a->V.Ms a=none/\Os a=[G.xs a]
 bel:Below w0.heap.size w0 wr
 le:w0.heap.size<=wr.heap.size
theorem Op2.after(h:Op2 B w0 w1 G V0 Ls Ss g gb sb t sf jf gl sl V Os wr)(hb:Below wr.heap.size wr w'):Op2 B w0 w1 G V0 Ls Ss g gb sb t sf jf gl sl V Os w':=
 ⟨h.ep.after hb,h.eq,h.gr.after hb,h.sr.after hb,fun a ha=>(h.st a ha).after hb,h.in_,h.out,h.bel.trans (hb.mono h.le),Zk1 h.le hb.size⟩
theorem Op1.op2(h:Op1 B w0 w1 G V0 Ls Ss g gb sb G.n q sf jf gl sl wr)(hM:∀a,V0.Ms a=none)(hq:q=(g:Int)):Op2 B w0 w1 G V0 Ls Ss g gb sb 0 sf jf gl sl {V0 with gen:=(g:Int)} (fun i=>[G.xs i]) wr:=by
 subst hq
 exact⟨h.ep,rfl,h.gr,h.sr,h.st,fun a ha=>by omega,fun a _=>⟨hM a,rfl⟩,h.bel,Zk1 h.le.1 h.le.2⟩
theorem Op2.next(h:Op2 B w0 w1 G V0 Ls Ss g gb sb t sf jf gl sl V Os wr)(ht:t<G.n){o:List Value}(hx:Row wr (G.xs t) 91 o)(ai:Row w' (G.xs t) 91 [.pointer (some ⟨G.ds t,0,none⟩),.pointer (some ⟨sf t,0,none⟩),.int .i64 (V0.Ds t).life,.bool true])(hf:Fr [G.xs t] wr w')(hd:(V0.Ds t).dead=false)
  (au:∀a,a<G.n->w1.heap.size<=sf a/\w1.heap.size<=jf a) (af:∀a b,a<G.n->b<G.n->a≠b->sf a≠sf b/\jf a≠jf b) (az:w0.heap.size<=w1.heap.size) (hB:B<=w0.heap.size) (aq:∀a,a<G.n->w0.heap.size<=G.xs a/\G.xs a<w1.heap.size):
  Op2 B w0 w1 G V0 Ls Ss g gb sb (t+1) sf jf gl sl {V with Ms:=upd V.Ms t (some (Ss t))} (upd Os t [G.xs t,sf t,jf t]) w':=by
 have hO:=(h.out t Zk8).2
 have ak:V.Ds=V0.Ds:=by rw[h.eq]
 have ae:Zs wr [G.xs t] [91]:=Zs.row hx (by simp)
 have aj:=h.st t ht
 have aw:=au t ht
 refine⟨h.ep.enter ht hO hx (by rw[ak];exact ai) aj (by rw[ak];exact hd) (fun a ha ax=> ?_) (by omega) (by omega) hf,?_,h.gr.fr hf (ae.row_ne h.gr (by decide)),h.sr.fr hf (ae.row_ne h.sr (by decide)),fun a ha=> ?_,fun a ha=> ?_,fun a ha=> ?_,h.bel.trans (hf.below h.le (fun k hk=>by rw[ZjD] at hk;subst hk;exact(aq t ht).1)),Zk1 h.le hf.size⟩
 ·have ag:sf t≠jf a:=by
   obtain⟨b,uv,r1,_⟩:=aj
   obtain⟨b2,ay,_,r2,_⟩:=h.st a ha
   exact Row.ne r1 r2 (by decide)
  have ah:jf t≠sf a:=by
   obtain⟨b,uv,_,r1,_⟩:=aj
   obtain⟨b2,ay,r2,_⟩:=h.st a ha
   exact Row.ne r1 r2 (by decide)
  have b9:=aq a ha
  have al:=af t a ht ha (fun e=>ax e.symm)
  by_cases e:a<t
  ·rw[(h.in_ a e).2]
   simp only[ZjV,Zk3,or_false,not_or]
   exact⟨⟨by omega,al.1,ag⟩,by omega,ah,al.2⟩
  ·rw[(h.out a (by omega)).2]
   simp only[ZjD]
   omega
 ·show{V with Ms:=upd V.Ms t (some (Ss t))}={V0 with gen:=(g:Int),Ms:=upd V.Ms t (some (Ss t))}
  have h9:=h.eq
  rw[h9]
 ·refine(h.st a ha).fr hf ae (by decide) (by decide) ?_ ?_
  ·obtain⟨b,uv,r1,_⟩:=h.st a ha;exact ae.row_ne r1 (by decide)
  ·obtain⟨b,uv,_,r2,_⟩:=h.st a ha;exact ae.row_ne r2 (by decide)
 ·by_cases e:a=t
  ·subst e;exact⟨Zn _ _ _,Zn _ _ _⟩
  ·simp only[Z7 _ _ e];exact h.in_ a (by omega)
 ·have e:a≠t:=by omega
  simp only[Z7 _ _ e];exact h.out a (by omega)
end
section
open Go.RowKit Go.Shelf
theorem Q0.kill{B:Nat}{w w':World}{G:Eg}{V:Ev}{Ls Os:Nat->List Nat}(h:Q0 B w G V Ls Os){i:Nat}(hi:i<G.n){gh:Nat}(hL:∃v,Ls i=G.ds i::gh::ZE v)(hd:Zr w' G.p (G.ds i) gh (.slice none 0 0) (V.Ds i).killed)(hf:Fr [G.ds i] w w')(hl:(V.Ds i).life<=1000):Zf B G (WU G Ls Os) {V with Ds:=upd V.Ds i (V.Ds i).killed,Ms:=upd V.Ms i none} w w':=by
 obtain⟨v,hL⟩:=hL
 have ae:=h.pd i hi
 have af:=h.at_ i hi
 have ag:G.ds i∈Ls i:=by rw[hL];simp
 have ah:gh∈Ls i:=by rw[hL];simp
 have hx:G.xs i∈Os i/\∃sv lf inn,Row w (G.xs i) 91 [.pointer (some ⟨G.ds i,0,none⟩),sv,.int .i64 lf,.bool inn]:=by
  cases hM:V.Ms i with
  |none=>rw[hM] at af;obtain⟨sv,lf,inn,hO,hr,_⟩:=af;exact⟨by rw[hO];simp,sv,lf,inn,hr⟩
  |some S=>rw[hM] at af;obtain⟨s,j,hO,hr,_⟩:=af;exact⟨by rw[hO];simp,_,_,_,hr⟩
 obtain⟨ak,sv,lf,inn,hr⟩:=hx
 have ai:Zs w [G.ds i] ZfS:=ae.typedL.mono (fun k hk=>by rw[ZjD] at hk;subst hk;exact ag) (fun _ h=>h)
 have aj:=hr.fr hf (ai.row_ne hr (by decide))
 refine h.step hi (X:=[]) (P':=V.P) (D':=(V.Ds i).killed) (M':=none) (L':=[G.ds i,gh]) (O':=[G.xs i]) (hf.mono (fun k hk _=> ?_)) (by simp) ⟨ae.pw.fr hf (ai.row_ne ae.pw (by decide)),ae.pok,⟨gh,.slice none 0 0,by simp[ZE,Value.ownBlock],hd⟩,Dk.killed_ok ae.ok (by omega),ae.bp,fun k hk=> ?_⟩ ⟨sv,lf,inn,rfl,aj,fun _=>Or.inl rfl⟩ (fun k hk=> ?_) (fun k hk=> ?_)
 ·rw[ZjD] at hk
  subst hk
  simp only[List.nil_append,ZjV]
  exact Or.inr ag
 ·simp only[ZjV,Zk3,or_false] at hk
  rcases hk with rfl|rfl
  ·exact ae.bL _ ag
  ·exact ae.bL _ ah
 ·simp only[ZjV,Zk3,or_false] at hk
  rcases hk with rfl|rfl
  ·exact Or.inl ag
  ·exact Or.inl ah
 ·rw[ZjD] at hk
  subst hk
  exact Or.inl ak
theorem ZdV(B:Nat)(w:World)(G:Eg)(V:Ev)(bl:List Nat)(i:Nat)(h:EAt B w G V bl)(hi:i<G.n)(hl:(V.Ds i).life<=1000):
  Calls prog 26 #[.pointer (some ⟨G.ds i,0,none⟩)] w fun e w'=>e=.returned (.tuple #[])/\Zf B G bl {V with Ds:=upd V.Ds i (V.Ds i).killed,Ms:=upd V.Ms i none} w w':=by
 obtain⟨Ls,Os,rfl,hp⟩:=h
 have ae:=hp.pd i hi
 obtain⟨gh,v,hL,hd⟩:=ae.dk
 refine(ZfQ G.p (G.ds i) gh v (V.Ds i) 800 w hd ae.ok).mono ?_
 rintro e w' ⟨rfl,af,hf⟩
 exact⟨rfl,hp.kill hi ⟨v,hL⟩ af hf hl⟩
end
section
variable{K:List Bs}{l:ZS}
def Z1J(c:Int)(n:Nat):Nat:=((if c<0 then -(c+1) else c)%(n:Int)).toNat
theorem Z2D(c:Int){n:Nat}(h:0<n):Z1J c n<n:=by
 unfold Z1J
 have h1:=Int.emod_nonneg (if c<0 then -(c+1) else c) (b:=(n:Int)) (by omega)
 have h2:=Int.emod_lt_of_pos (if c<0 then -(c+1) else c) (b:=(n:Int)) (by omega)
 omega
def Z65(i:Nat):Bs:=[107,101,121,UInt8.ofNat (48+i)]
def K11:List Bs:=[97]::(List.range 10).map Z65
theorem Z8s:KOk K11:=⟨by decide,by decide⟩
theorem ZfP{i:Nat}(h:i<10):Z65 i∈K11:=ZjS _ (List.mem_map.2 ⟨i,List.mem_range.2 h,rfl⟩)
def JJ(x:En):Chg:=⟨Z65 (Z1J x.key 10),if x.gone then none else some (x.val.data.toList.take 200)⟩
def WI(l:List En):List Chg:=(l.take 4).map JJ
theorem Zc8(l:List En):(WI l).length<=4:=by
 unfold WI;rw[ZjN,ZjO];omega
theorem Zc9(l:List En):∀c∈WI l,c.key∈K11:=fun c hc=>by
 unfold WI at hc
 obtain⟨x,_,rfl⟩:=List.mem_map.1 hc
 exact ZfP (Z2D _ (by omega))
theorem Zca(l:List En):∀c∈WI l,∀v,c.val=some v->v.length<=200:=fun c hc v hv=>by
 unfold WI at hc
 obtain⟨x,_,rfl⟩:=List.mem_map.1 hc
 unfold JJ at hv
 simp only at hv
 split at hv
 ·cases hv
 ·cases hv;rw[ZjO];exact Nat.min_le_left _ _
structure HOk(K:List Bs)(l:ZS):Prop where
 nd:(l.map (·.1)).Nodup
 key:∀p∈l,p.1∈K
 val:∀p∈l,p.2.length<=200
theorem HOk.nil(K:List Bs):HOk K []:=⟨by simp,fun p h=>(by cases h),fun p h=>(by cases h)⟩
theorem HOk.hold(h:HOk K l){c:Chg}(hk:c.key∈K)(hv:∀v,c.val=some v->v.length<=200):HOk K (J6 l c):=by
 refine⟨Z5y h.nd c,fun p hp=> ?_,fun p hp=> ?_⟩<;>
 ·unfold J6 at hp
  rcases ZjU.1 hp with hp|hp
  ·first|exact h.key p (List.mem_filter.1 hp).1|exact h.val p (List.mem_filter.1 hp).1
  ·cases hc:c.val with
   |none=>rw[hc] at hp;cases hp
   |some v=>
    rw[hc] at hp
    rw[ZjD] at hp
    subst hp
    first|exact hk|exact hv v hc
theorem HOk.beh{cs:List Chg}:∀{l:ZS},HOk K l->(∀c∈cs,c.key∈K)->(∀c∈cs,∀v,c.val=some v->v.length<=200)->HOk K (Je l cs):=by
 induction cs with
 |nil=>intro l h _ _;exact h
 |cons c r ih=>
  intro l h h1 h2
  exact ih (h.hold (h1 c (by simp)) (h2 c (by simp))) (fun c hc=>h1 c (ZjS _ hc)) (fun c hc=>h2 c (ZjS _ hc))
theorem HOk.few(h:HOk K l)(hK:KOk K):l.length<=18:=by
 have h1:=h.nd.length_le_of_subset (l₂:=K) (fun x hx=>by
  obtain⟨p,hp,rfl⟩:=List.mem_map.1 hx
  exact h.key p hp)
 rw[ZjN] at h1
 exact Zk1 h1 hK.few
theorem HOk.at_(h:HOk K l){i:Nat}(hi:i<l.length):Hof l l[i].1=some l[i].2:=Zh7 h.nd (ZjW hi)
end
section
open Go.RowKit Go.Shelf
variable{a:Option Addr}{l:ZS}{v:Value}{w w':World}
def Y8(l:ZS):List Value:=l.flatMap fun p=>[.string (str p.1),.string (str p.2)]
theorem Z7b(a b:ZS):Y8 (a++b)=Y8 a++Y8 b:=by simp[Y8]
theorem ZaJ(l:ZS):(Y8 l).length=l.length*2:=by
 induction l with
 |nil=>rfl
 |cons a l ih=>rw[show Y8 (a::l)=[.string (str a.1),.string (str a.2)]++Y8 l from by simp[Y8],ZjI,ih];simp;omega
theorem ZaI(l:ZS):∀ (k:Nat) (hk:k<l.length),(Y8 l)[k*2]? =some (.string (str l[k].1))/\(Y8 l)[k*2+1]? =some (.string (str l[k].2)):=by
 induction l with
 |nil=>intro k hk;simp at hk
 |cons a l ih=>
  intro k hk
  have e:Y8 (a::l)=.string (str a.1):: .string (str a.2)::Y8 l:=by simp[Y8]
  rw[e]
  match k,hk with
  |0,_=>exact⟨rfl,rfl⟩
  |k+1,hk=>
   have h9:=ih k (by simpa using hk)
   rw[show(k+1)*2=k*2+2 from by omega,show k*2+2+1=(k*2+1)+2 from by omega]
   simpa using h9
def Y7(w:World)(a:Option Addr)(l:ZS):Prop:=l=[]∨∃g sp,a=some ⟨g,0,none⟩/\Row w g 105 (Y8 l++sp)
theorem Y7.nil(w:World)(a:Option Addr):Y7 w a []:=Or.inl rfl
theorem Y7.after(h:Y7 w a l)(hb:Below w.heap.size w w'):Y7 w' a l:=by
 rcases h with h|⟨g,sp,h1,h2⟩
 ·exact Or.inl h
 ·exact Or.inr ⟨g,sp,h1,h2.after hb⟩
theorem Y7.ran{B:Nat}{G:Eg}{V V1:Ev}{bl:List Nat}(h:Y7 w a l)(hr:Zf B G bl V1 w w')(he:EAt B w G V bl):Y7 w' a l:=by
 rcases h with h|⟨g,sp,h1,h2⟩
 ·exact Or.inl h
 ·exact Or.inr ⟨g,sp,h1,hr.row he h2 (by decide)⟩
theorem Y7.set{ad:Addr}{e:TypeId}{r:List Value}(h:Y7 w a l)(hr:Row w ad.block e r)(he:e≠105)(v:Value):Y7 (w.setCell ad v) a l:=by
 rcases h with h|⟨g,sp,h1,h2⟩
 ·exact Or.inl h
 ·exact Or.inr ⟨g,sp,h1,h2.fr (L:=[ad.block]) ((Fr.refl _ _).setCell (Or.inl (by simp)) _) (by rw[ZjD];exact Row.ne h2 hr (fun e9=>he e9.symm))⟩
theorem Y7.at_(h:Y7 w a l){k:Nat}(hk:k<l.length):∃g,a=some ⟨g,0,none⟩/\g<w.heap.size/\w.cell? ⟨g,k*2,none⟩=some (.string (str l[k].1))/\w.cell? ⟨g,k*2+1,none⟩=some (.string (str l[k].2)):=by
 rcases h with rfl|⟨g,sp,h1,h2⟩
 ·simp at hk
 ·obtain⟨e1,e2⟩:=ZaI l k hk
  have hl:=ZaJ l
  refine⟨g,h1,h2.lt,h2.cell ?_,h2.cell ?_⟩
  ·rw[ZjH (by omega)];exact e1
  ·rw[ZjH (by omega)];exact e2
theorem Y7.own{base:Nat}(h:w.ownsRow base 105 2 v l.length (Y8 l)):∃a c,v=.slice a l.length c/\Y7 w a l:=by
 cases l with
 |nil=>
  rcases h.2 with ⟨h0,_⟩|⟨g,cap,cur,h0,_⟩
  ·exact⟨none,0,h0,Or.inl rfl⟩
  ·exact⟨_,cap,h0,Or.inl rfl⟩
 |cons p r=>
  obtain⟨g,cap,sp,hv,h1,h2,h3,hr⟩:=Xi h (by simp)
  exact⟨_,cap,hv,Or.inr ⟨g,sp,rfl,hr⟩⟩
theorem Z38(c:Int)(n:Nat)(w:World)(h0: -9223372036854775808<=c)(h1:c<=9223372036854775807)(hn:0<n)(af:n<=1000):
  Calls prog 9 #[.int .i64 c,.int .i64 n] w fun e w'=>e=.returned (.int .i64 (Z1J c n:Nat))/\w=w':=by
 have ae:=Z2D c hn
 by_cases hc:c<0
 ·go_enter func9,ntmps9
  go_wp2
  go_ret
  refine⟨YP ?_,rfl⟩
  unfold Z1J
  rw[if_pos (by omega),<-Int.neg_tmod,Int.tmod_eq_emod_of_nonneg (by omega)]
  have:=Int.emod_nonneg (-(c+1)) (b:=(n:Int)) (by omega)
  omega
 ·go_enter func9,ntmps9
  go_wp2
  go_ret
  refine⟨YP ?_,rfl⟩
  unfold Z1J
  rw[if_neg (by omega)]
  have:=Int.emod_nonneg c (b:=(n:Int)) (by omega)
  rw[Int.toNat_of_nonneg this]
theorem Zjc(a b:Bs):((str a).toList==(str b).toList)=decide (a=b):=by
 rw[ByteArray.toList_eq,ByteArray.toList_eq,Ze,Ze]
 by_cases h:a=b
 ·simp[h]
 ·simp[h]
structure HoS(w:World)(key:Bs)(P:ZS)(v:Value)(wr:World):Prop where
 own:wr.ownsRow w.heap.size 105 2 v P.length (Y8 P)
 bel:Below w.heap.size w wr
theorem HoS.put{key:Bs}{P:ZS}{wr w8:World}(h:HoS w key P v wr){p:Bs×Bs}(hb:Below wr.heap.size wr w'){g2 ae:Nat}(ho:w8.ownsRow w.heap.size 105 2 (.slice (some ⟨g2,0,none⟩) (P.length+1) ae) (P.length+1) (Y8 P++[.string (str p.1),.string (str p.2)]))(hf:Fr (ZE v) w' w8):HoS w key (P++[p]) (.slice (some ⟨g2,0,none⟩) (P.length+1) ae) w8:=by
 have hz:=h.bel.size
 refine⟨?_,(h.bel.trans (hb.mono hz)).trans (hf.below (Zk1 hz hb.size) (WC h.own))⟩
 rw[ZjI,Z7b]
 exact ho
theorem ZaD{α:Type}(f:α->Bool)(l:List α)(t:Nat)(ht:t<l.length):(l.take (t+1)).filter f=(l.take t).filter f++(if f l[t]=true then[l[t]] else[]):=by
 rw[List.take_add_one,ZjF ht,List.filter_append]
 simp only[Option.toList_some,List.filter_cons,List.filter_nil]
theorem ZfB(w:World)(a:Option Addr)(cp:Nat)(l:ZS)(key val:Bs)(gn:Bool)(h:Y7 w a l)(hl:l.length<=1000):
  Calls prog 42 #[.slice a l.length cp,.string (str key),.string (str val),.bool gn] w fun e w'=>∃a' ay,e=.returned (.slice a' ((l.filter fun p=>p.1 !=key)++(if gn then[] else[(key,val)])).length ay)/\Y7 w' a' ((l.filter fun p=>p.1 !=key)++(if gn then[] else[(key,val)]))/\Below w.heap.size w w':=by
 obtain⟨N,hN⟩:∃N,l.length=N:=⟨_,rfl⟩
 have H:=Zka (Zkb h hN)
 rw[hN]
 rw[hN] at hl
 clear h hN
 have I0:=Zka (show HoS w key [] (.slice none 0 0) w from⟨World.ownsRow_nil _ _ _ _,Zk9⟩)
 cases gn<;>
 ·go_enter func42,ntmps42
  go_wp2_with fail
  go_loopw [9,10] (fun v kv wr=>∃t:Nat,t<=N/\kv=.int .i64 t/\HoS w key ((l.take t).filter fun p=>p.1 !=key) v wr) (fun _ kv _=>N- (intOf kv).toNat)
  case atStart=>exact⟨0,by omega,rfl,I0.out⟩
  case round=>
   obtain⟨t,ht,rfl,hS⟩:=hrel
   by_cases bg:t<N
   ·have af:t<l.length:=by rw[H.out.2];exact bg
    obtain⟨g,rfl,hg,c0,c1⟩:=H.out.1.at_ af
    have ae:=ZaD (fun p:Bs×Bs=>p.1 !=key) l t af
    obtain⟨P,hP⟩:∃P,(l.take t).filter (fun p=>p.1 !=key)=P:=⟨_,rfl⟩
    rw[hP] at hS ae
    obtain⟨kk,ah⟩:∃kk,l[t].1=kk:=⟨_,rfl⟩
    obtain⟨vv,ai⟩:∃vv,l[t].2=vv:=⟨_,rfl⟩
    have ak:l[t]=(kk,vv):=by rw[<-ah,<-ai]
    rw[ah] at c0
    rw[ai] at c1
    rw[ak] at ae
    have az:P.length<=1000:=by
     rw[<-hP]
     exact Zk1 (List.length_filter_le _ _) (by rw[ZjO];omega)
    have d0:=(hS.bel.cell (p:=⟨g,t*2,none⟩) hg).trans c0
    have d1:=(hS.bel.cell (p:=⟨g,t*2+1,none⟩) hg).trans c1
    have hz:=hS.bel.size
    have bj:(t:Int)<(N:Int):=by omega
    have ag:=(Below.refl wr.heap.size wr).alloc Zk8 (.cells #[.string (str kk),.string (str vv)] 105)
    have aq:Row (wr.alloc (.cells #[.string (str kk),.string (str vv)] 105)) wr.heap.size 105 [.string (str kk),.string (str vv)]:=Row.new wr _ _
    have al:=QK hS.own ag
    have ax:=Zjc kk key
    by_cases e:kk=key
    ·rw[show decide (kk=key)=true from by simp[e]] at ax
     rw[if_neg (by simp[e]),Zk7] at ae
     have HX:=Zka (Zkb hS ae)
     clear hS ae ag aq al hP ah ai ak e
     go_wp2_with fail
     go_roundw
     case measure=>simp[intOf];omega
     case rel=>exact⟨t+1,by omega,by go_num,by rw[HX.out.2];exact HX.out.1⟩
    ·rw[show decide (kk=key)=false from by simp[e]] at ax
     rw[if_pos (by simp[e])] at ae
     have HX:=Zka (Zkb hS (Zkb ae (Zkb ag (Zkb aq al))))
     clear hS ae ag aq al hP ah ai ak e
     go_wp2_with (at_builtin;refine Y6 _ rfl (.tmp 24) (.tmp 29) 36 105 rfl underlying36 Z98 rfl (by omega) (by omega) w.heap.size _ P.length (Y8 P) rfl HX.out.2.2.2.2 wr.heap.size 1 [.string (str kk),.string (str vv)] rfl (by omega) (by omega) rfl HX.out.2.2.2.1 (by simp[Value.oneCell']) (by simp;omega) (by omega) ?_;intro g2 aj w8 ho hf _ _ _;have R8:=Zka (HX.out.1.put (p:=(kk,vv)) HX.out.2.2.1 ho hf);clear ho hf)
     go_roundw
     case measure=>simp[intOf];omega
     case rel=>exact⟨t+1,by omega,by go_num,by rw[HX.out.2.1];exact R8.out⟩
   ·obtain rfl:t=N:=by omega
    have bf:l.take t=l:=ZjT (by rw[H.out.2];exact Zk8)
    rw[bf] at hS
    obtain⟨a9,c9,au,aw⟩:=Y7.own hS.own
    have HE:=Zka (Zkb hS.bel (Zkb aw hS.own))
    clear hS aw
    obtain⟨P,hP⟩:∃P,l.filter (fun p=>p.1 !=key)=P:=⟨_,rfl⟩
    rw[hP] at HE au
    have az:P.length<=1000:=by
     rw[<-hP]
     exact Zk1 (List.length_filter_le _ _) (by rw[H.out.2];omega)
    have HV:=Zka au
    clear au
    go_wp2_with (at_builtin;refine Y6 _ rfl (.tmp 33) (.tmp 37) 36 105 rfl underlying36 Z98 rfl (by omega) (by omega) w.heap.size _ P.length (Y8 P) rfl (QK HE.out.2.2 ((Below.refl wr.heap.size wr).alloc Zk8 _)) wr.heap.size 1 [.string (str key),.string (str val)] rfl (by omega) (by omega) rfl (Row.new wr _ _) (by simp[Value.oneCell']) (by have:=HE.out.1.size;simp;omega) (by omega) ?_;intro g2 aj w8 ho hf _ _ _;have R8:=Zka (HoS.put (key:=key) (p:=(key,val)) ⟨HE.out.2.2,HE.out.1⟩ ((Below.refl wr.heap.size wr).alloc Zk8 _) ho hf);clear ho hf)
    go_ret
    first
     |exact⟨a9,⟨c9,by rw[HV.out];simp⟩,by simpa using HE.out.2.1,HE.out.1⟩
     |(obtain⟨a7,c7,bh,b9⟩:=Y7.own R8.out.own;exact⟨a7,⟨c7,by simpa using bh⟩,by simpa using b9,R8.out.bel⟩)
end
section
open Go.RowKit Go.Shelf
structure Rg where
 r:Nat
 gd:Nat
 cd:Nat
 gs:Nat
 cs:Nat
 k:Nat
 m:Nat
 n:Nat
def Z8v(R:Rg)(p s:Nat)(hv:Value)(ha:Option Addr)(hn hc:Nat):List Value:=[.pointer (some ⟨p,0,none⟩),.slice (some ⟨R.gd,0,none⟩) R.n R.cd,.int .i64 (R.k:Int),.int .i64 (R.m:Int),.pointer (some ⟨s,0,none⟩),hv,.slice ha hn hc,.slice (some ⟨R.gs,0,none⟩) R.n R.cs]
structure Qj(B:Nat)(w:World)(R:Rg)(G:Eg)(V:Ev)(bl:List Nat)(hv:Value)(ha:Option Addr)(hc:Nat)(hs:ZS):Prop where
 room:Row w R.r 39 (Z8v R G.p G.s hv ha hs.length hc)
 drow:∃sp,Row w R.gd 47 (Wm R.n G.ds++sp)
 srow:∃sp,Row w R.gs 4 (List.replicate R.n (.bool true)++sp)
 held:Y7 w ha hs
 set:EAt B w G V bl
 rB:B<=R.r
 gn:G.n=R.n
 kn:R.k+R.m=R.n
 k1:1<=R.k
section
variable{B:Nat}{w w':World}{R:Rg}{G:Eg}{V V':Ev}{bl:List Nat}{hv:Value}{ha:Option Addr}{hc:Nat}{hs:ZS}
theorem Qj.after(h:Qj B w R G V bl hv ha hc hs)(hb:Below w.heap.size w w'):Qj B w' R G V bl hv ha hc hs:=by
 obtain⟨s1,h1⟩:=h.drow
 obtain⟨s2,h2⟩:=h.srow
 exact⟨h.room.after hb,⟨s1,h1.after hb⟩,⟨s2,h2.after hb⟩,h.held.after hb,h.set.after hb,h.rB,h.gn,h.kn,h.k1⟩
theorem Qj.ran(h:Qj B w R G V bl hv ha hc hs)(hr:Zf B G bl V' w w'):∃bl',Qj B w' R G V' bl' hv ha hc hs:=by
 obtain⟨s1,h1⟩:=h.drow
 obtain⟨s2,h2⟩:=h.srow
 obtain⟨bl',he,_⟩:=id hr
 exact⟨bl',hr.row h.set h.room (by decide),⟨s1,hr.row h.set h1 (by decide)⟩,⟨s2,hr.row h.set h2 (by decide)⟩,h.held.ran hr h.set,he,h.rB,h.gn,h.kn,h.k1⟩
theorem Qj.tell(h:Qj B w R G V bl hv ha hc hs){ha':Option Addr}{hc':Nat}{ae:ZS}(hh:Y7 w ha' ae):Qj B (w.setCell ⟨R.r,6,none⟩ (.slice ha' ae.length hc')) R G V bl hv ha' hc' ae:=by
 obtain⟨s1,h1⟩:=h.drow
 obtain⟨s2,h2⟩:=h.srow
 have hf:Fr [R.r] w (w.setCell ⟨R.r,6,none⟩ (.slice ha' ae.length hc')):=(Fr.refl _ _).setCell (Or.inl (by simp)) _
 refine⟨h.room.set 6 _,⟨s1,h1.fr hf (by rw[ZjD];exact Row.ne h1 h.room (by decide))⟩,⟨s2,h2.fr hf (by rw[ZjD];exact Row.ne h2 h.room (by decide))⟩,hh.set h.room (by decide) _,h.set.setCell (a:=⟨R.r,6,none⟩) h.room (by decide) (by decide) (by decide) (by decide) _,h.rB,h.gn,h.kn,h.k1⟩
theorem Qj.below(h:Qj B w R G V bl hv ha hc hs)(v:Value)(j:Nat):Below B w (w.setCell ⟨R.r,j,none⟩ v):=(Below.refl B w).setCell (p:=⟨R.r,j,none⟩) h.rB _
theorem Qj.bw(h:Qj B w R G V bl hv ha hc hs):B<=w.heap.size:=h.set.bw
theorem Qj.dcell(h:Qj B w R G V bl hv ha hc hs){i:Nat}(hi:i<R.n):w.cell? ⟨R.gd,i,none⟩=some (.pointer (some ⟨G.ds i,0,none⟩)):=by
 obtain⟨s1,h1⟩:=h.drow
 exact h1.cell (by rw[ZjH (by rw[JG];exact hi)];exact Z1U _ _ _ hi)
theorem Qj.scell(h:Qj B w R G V bl hv ha hc hs){i:Nat}(hi:i<R.n):w.cell? ⟨R.gs,i,none⟩=some (.bool true):=by
 obtain⟨s1,h1⟩:=h.srow
 exact h1.cell (by rw[ZjH (by simpa using hi)];simp[hi])
end
theorem Strs.sl{w:World}{base:Nat}{v:Value}{l:List Bs}(h:Strs w base v l):∃a c,v=.slice a l.length c:=by
 rcases h.2 with ⟨h0,h1⟩|⟨g,cap,cur,h0,_⟩
 ·exact⟨none,0,by rw[h0,h1]⟩
 ·exact⟨_,cap,h0⟩
theorem Z4r(B:Nat)(w:World)(G:Eg)(V:Ev)(bl:List Nat)(K:List Bs)(E k m n g:Nat)(hs:ZS)(a:Option Addr)(cp:Nat)(aj:ZW K E k m n g (Hof hs) V)(hh:HOk K hs)(he:EAt B w G V bl)(hn:G.n=n)(ht:Ty w)(ay:0<B)(hr:Y7 w a hs):
  Calls prog 14 #[.pointer (some ⟨G.s,0,none⟩),.slice a hs.length cp] w fun e w'=>e=.returned (.bool true)/\Zf B G bl V w w':=by
 have hk:=aj.keysW he hn
 have ak:=hh.few aj.hK
 obtain⟨N,hN⟩:∃N,hs.length=N:=⟨_,rfl⟩
 have H:=Zka (Zkb hk (Zkb aj (Zkb hh (Zkb he (Zkb ht (Zkb hr (Zkb hN hn)))))))
 rw[hN] at ak⊢
 clear hk aj hh he ht hr hN hn
 go_enter func14,ntmps14
 go_wp2_with (go_at_call 43;refine(show Calls prog 43 #[.pointer (some ⟨G.s,0,none⟩),.string ⟨#[]⟩] _ _ from H.out.1).mono ?_;rintro e w1 ⟨v,L,rfl,bg,bf,ah,ai⟩;obtain⟨a1,c1,rfl⟩:=bg.sl;have hlen:=Z9g H.out.2.2.1.nd bf ah;rw[H.out.2.2.2.2.2.2.1] at hlen;obtain⟨NL,ax⟩:∃NL,L.length=NL:=⟨_,rfl⟩;rw[ax] at hlen⊢;have ag:=hlen.symm;subst ag;clear hlen;have R1:=Zka ai;clear bg bf ah ai ax)
 go_loopw [7] (fun kv wr=>∃t:Nat,t<=N/\kv=.int .i64 t/\Zf B G bl V w wr) (fun kv _=>N- (intOf kv).toNat)
 case atStart=>exact⟨0,by omega,rfl,R1.out⟩
 case round=>
  obtain⟨t,ct,rfl,hR⟩:=hrel
  by_cases bz:t<N
  ·have cr:(t:Int)<(N:Int):=by omega
   have ae:t<hs.length:=by rw[H.out.2.2.2.2.2.2.1];exact bz
   have al:=H.out.2.2.2.2.2.1.ran hR H.out.2.2.2.1
   obtain⟨ga,rfl,hg,c0,bj⟩:=al.at_ ae
   have bh:=Zf.ty hR H.out.2.2.2.1 H.out.2.2.2.2.1 ay
   obtain⟨cj,e1,g1,f1⟩:=hR
   have af:=H.out.2.1.get e1 H.out.2.2.2.2.2.2.2 bh ay (H.out.2.2.1.at_ ae) (H.out.2.2.1.key _ (ZjW ae)) (H.out.2.2.1.val _ (ZjW ae))
   obtain⟨kk,b9⟩:∃kk,hs[t].1=kk:=⟨_,rfl⟩
   obtain⟨vv,au⟩:∃vv,hs[t].2=vv:=⟨_,rfl⟩
   rw[b9] at c0 af
   rw[au] at bj af
   have HG:=Zka (Zkb af (Zkb e1 (Zkb g1 (Zkb f1 (Zkb al au)))))
   clear af e1 g1 f1 al au b9 bh
   go_wp2_with (go_at_call 28;refine HG.out.1.mono ?_;rintro e w2 ⟨rfl,aq⟩;have az:=HG.out.2.2.2.2.1.ran aq HG.out.2.1;obtain⟨bu,aw,cn,bm,bq⟩:=az.at_ ae;obtain rfl:bu=ga:=(by simpa using aw.symm);rw[HG.out.2.2.2.2.2] at bq;have R2:=Zka (Zf.trans ⟨HG.out.2.1,HG.out.2.2.1,HG.out.2.2.2.1⟩ aq);clear aq az aw bm)
   go_roundw
   case measure=>simp[intOf];omega
   case rel=>exact⟨t+1,by omega,by go_num,R2.out⟩
  ·obtain rfl:t=N:=by omega
   have HR:=Zka hR
   clear hR
   go_wp2_with fail
   go_ret
   exact⟨rfl,HR.out⟩
theorem Zcw(n:Nat):(Dk.fresh n).wait.length<=1000:=Nat.zero_le _
theorem Zcv(n:Nat):(Dk.fresh n).life<=1000:=by show(0:Int)<=1000;omega
theorem Z5x(w:World)(s:Nat):
  Calls prog 30 #[.pointer (some ⟨s,0,none⟩)] w fun e w'=>∃h,e=.returned (.pointer (some ⟨h,0,none⟩))/\Below w.heap.size w w':=by
 have ae:=fun(W:World) (a:Addr) (x:Array Value)=>run_store prog W a (.func (.func 70) x #[]) .plain rfl
 go_enter func30,ntmps30
 go_wp2
 go_ret
 exact⟨_,rfl,Zk9.alloc Zk8 _⟩
structure RmB(w0:World)(r p k m td:Nat)(dv sv:Value)(ds gh:Nat->Nat)(wr:World):Prop where
 room:Row wr r 39 [.pointer (some ⟨p,0,none⟩),dv,.int .i64 (k:Int),.int .i64 (m:Int),.pointer none,.pointer none,.slice none 0 0,sv]
 pw:Zo wr p ⟨false, -1,0⟩
 dk:∀i,i<td->Zr wr p (ds i) (gh i) (.slice none 0 0) (Dk.fresh 800)
 ge:∀i,i<td->w0.heap.size<=ds i/\w0.heap.size<=gh i
 ap:∀i j,i<td->j<td->i≠j->ds i≠ds j/\gh i≠gh j
 rge:w0.heap.size<=r
 pge:w0.heap.size<=p
 bel:Below w0.heap.size w0 wr
section
variable{w0 wr w':World}{r p k m td:Nat}{dv sv:Value}{ds gh:Nat->Nat}
theorem RmB.fr(h:RmB w0 r p k m td dv sv ds gh wr){X:List Nat}(hf:Fr X wr w')(ht:Zs wr X [47,4])(hX:∀x∈X,w0.heap.size<=x):RmB w0 r p k m td dv sv ds gh w':=by
 refine⟨h.room.fr hf (ht.row_ne h.room (by decide)),h.pw.fr hf (ht.row_ne h.pw (by decide)),fun i hi=> ?_,h.ge,h.ap,h.rge,h.pge,h.bel.trans (hf.below h.bel.size hX)⟩
 have h1:=h.dk i hi
 obtain⟨l,h2⟩:∃l,Row wr (gh i) 5 l:=⟨_,h1.bytes.row⟩
 exact h1.fr hf (ht.row_ne h1.top (by decide)) (ht.row_ne h2 (by decide)) (fun g hg=>by cases hg)
theorem RmB.after(h:RmB w0 r p k m td dv sv ds gh wr)(hb:Below wr.heap.size wr w'):RmB w0 r p k m td dv sv ds gh w':=
 h.fr (X:=[]) (Fr.of_below (L:=[]) hb) (fun k hk=>by cases hk) (fun k hk=>by cases hk)
theorem RmB.put(h:RmB w0 r p k m td dv sv ds gh wr){ae af:Value}{l:List Value}(hr:Row w' r 39 [.pointer (some ⟨p,0,none⟩),ae,.int .i64 (k:Int),.int .i64 (m:Int),.pointer none,.pointer none,.slice none 0 0,af])(hf:Fr [r] wr w'):RmB w0 r p k m td ae af ds gh w':=by
 have ht:Zs wr [r] [39]:=Zs.row h.room (by simp)
 refine⟨hr,h.pw.fr hf (ht.row_ne h.pw (by decide)),fun i hi=> ?_,h.ge,h.ap,h.rge,h.pge,h.bel.trans (hf.below h.bel.size (fun k hk=>by rw[ZjD] at hk;subst hk;exact h.rge))⟩
 have h1:=h.dk i hi
 obtain⟨l,h2⟩:∃l,Row wr (gh i) 5 l:=⟨_,h1.bytes.row⟩
 exact h1.fr hf (ht.row_ne h1.top (by decide)) (ht.row_ne h2 (by decide)) (fun g hg=>by cases hg)
theorem RmB.more(h:RmB w0 r p k m td dv sv ds gh wr)(hb:Below wr.heap.size wr w'){d g:Nat}(hd:Zr w' p d g (.slice none 0 0) (Dk.fresh 800))(h1:wr.heap.size<=d)(h2:wr.heap.size<=g):RmB w0 r p k m (td+1) dv sv (upd ds td d) (upd gh td g) w':=by
 have h3:=h.after hb
 have hz:=h.bel.size
 have ae:∀i,i<td->ds i<wr.heap.size/\gh i<wr.heap.size:=fun i hi=>⟨(h.dk i hi).top.lt,by
  obtain⟨l,h2⟩:∃l,Row wr (gh i) 5 l:=⟨_,(h.dk i hi).bytes.row⟩
  exact h2.lt⟩
 refine⟨h3.room,h3.pw,fun i hi=> ?_,fun i hi=> ?_,fun i j hi hj af=> ?_,h.rge,h.pge,h3.bel⟩
 ·by_cases e:i=td
  ·subst e;rw[Zn,Zn];exact hd
  ·rw[Z7 _ _ e,Z7 _ _ e];exact h3.dk i (by omega)
 ·by_cases e:i=td
  ·subst e;rw[Zn,Zn];omega
  ·rw[Z7 _ _ e,Z7 _ _ e];exact h.ge i (by omega)
 ·by_cases ei:i=td
  ·subst ei
   have hl:=ae j (by omega)
   rw[Zn,Zn,Z7 _ _ (by omega),Z7 _ _ (by omega)]
   omega
  ·have hl:=ae i (by omega)
   rw[Z7 ds _ ei,Z7 gh _ ei]
   by_cases ej:j=td
   ·subst ej
    rw[Zn,Zn]
    omega
   ·rw[Z7 _ _ ej,Z7 _ _ ej]
    exact h.ap i j (by omega) (by omega) af
theorem RmB.pd(h:RmB w0 r p k m td dv sv ds gh wr){B:Nat}(hB:B<=w0.heap.size){i:Nat}(hi:i<td):PD B wr p (ds i) 800 ⟨false, -1,0⟩ (Dk.fresh 800) [ds i,gh i]:=by
 have hg:=h.ge i hi
 have hp:=h.pge
 refine⟨h.pw,⟨by decide,by decide⟩,⟨gh i,.slice none 0 0,by simp[ZE,Value.ownBlock],h.dk i hi⟩,Dk.fresh_ok (by decide) (by decide),by omega,fun q hq=> ?_⟩
 simp only[ZjV,Zk3,or_false] at hq
 rcases hq with rfl|rfl<;>omega
theorem RmB.dap(h:RmB w0 r p k m td dv sv ds gh wr){i j:Nat}(hi:i<td)(hj:j<td)(ag:i≠j):∀q∈[ds i,gh i],q∉[ds j,gh j]:=fun q hq hm=>by
 have ha:=h.ap i j hi hj ag
 obtain⟨l,ae⟩:∃l,Row wr (gh i) 5 l:=⟨_,(h.dk i hi).bytes.row⟩
 obtain⟨l,af⟩:∃l,Row wr (gh j) 5 l:=⟨_,(h.dk j hj).bytes.row⟩
 have n1:=Row.ne (h.dk i hi).top af (by decide)
 have n2:=Row.ne (h.dk j hj).top ae (by decide)
 simp only[ZjV,Zk3,or_false] at hq hm
 rcases hq with rfl|rfl<;>rcases hm with h9|h9
 ·exact ha.1 h9
 ·exact n1 h9
 ·exact n2 h9.symm
 ·exact ha.2 h9
end
structure RmS(w0:World)(r p k m td tl ts:Nat)(dv sv:Value)(ds gh:Nat->Nat)(wr:World):Prop where
 b:RmB w0 r p k m td dv sv ds gh wr
 down:wr.ownsRow w0.heap.size 47 1 dv tl (Wm tl ds)
 sown:wr.ownsRow w0.heap.size 4 1 sv ts (List.replicate ts (.bool true))
theorem Z2g{w:World}{base k:Nat}{e:TypeId}{v:Value}{n:Nat}{xs:List Value}(h:w.ownsRow base e k v n xs){ts:List TypeId}(he:e∈ts):Zs w (ZE v) ts:=fun q hq=>by
 obtain⟨l,f,hg,_⟩:=Qw h q hq
 exact⟨_,e,_,hg,he⟩
section
variable{w0 wr w' w2 w3 w8:World}{r p k m td tl ts t:Nat}{dv sv:Value}{ds gh:Nat->Nat}
theorem RmS.after(h:RmS w0 r p k m td tl ts dv sv ds gh wr)(hb:Below wr.heap.size wr w'):RmS w0 r p k m td tl ts dv sv ds gh w':=⟨h.b.after hb,QK h.down hb,QK h.sown hb⟩
theorem RmS.more(h:RmS w0 r p k m t t ts dv sv ds gh wr)(hb:Below wr.heap.size wr w'){d g:Nat}(hd:Zr w' p d g (.slice none 0 0) (Dk.fresh 800))(h1:wr.heap.size<=d)(h2:wr.heap.size<=g):RmS w0 r p k m (t+1) t ts dv sv (upd ds t d) (upd gh t g) w':=by
 refine⟨h.b.more hb hd h1 h2,?_,QK h.sown hb⟩
 have e:Wm t (upd ds t d)=Wm t ds:=List.map_congr_left fun i hi=>by
  rw[List.mem_range] at hi
  rw[Z7 _ _ (by omega)]
 rw[e];exact QK h.down hb
theorem RmS.putD(h:RmS w0 r p k m (t+1) t ts dv sv ds gh w2)(hb:Below w2.heap.size w2 w3){g2 c2:Nat}(ho:w8.ownsRow w0.heap.size 47 1 (.slice (some ⟨g2,0,none⟩) (t+1) c2) (t+1) (Wm t ds++[.pointer (some ⟨ds t,0,none⟩)]))(hf:Fr (ZE dv) w3 w8):
  RmS w0 r p k m (t+1) (t+1) ts (.slice (some ⟨g2,0,none⟩) (t+1) c2) sv ds gh (w8.setCell ⟨r,1,none⟩ (.slice (some ⟨g2,0,none⟩) (t+1) c2)):=by
 have h3:=h.after hb
 have ht:=Z2g h3.down (ts:=[47,4]) (by simp)
 have ah:=WC h3.down
 have h8:=h3.b.fr hf ht ah
 have ag:=Wf h3.sown hf (fun q hq hm=>by
  obtain⟨l1,r1⟩:=Qw h3.sown q hq
  obtain⟨l2,r2⟩:=Qw h3.down q hm
  exact Row.ne r1 r2 (by decide) rfl)
 have ae:Fr [r] w8 (w8.setCell ⟨r,1,none⟩ (.slice (some ⟨g2,0,none⟩) (t+1) c2)):=(Fr.refl _ _).setCell (Or.inl (by simp)) _
 have af:∀{e:TypeId} {v:Value} {n:Nat} {xs:List Value},w8.ownsRow w0.heap.size e 1 v n xs->e≠39->∀q∈ZE v,q∉[r]:=fun{e v n xs} hh he q hq hm=>by
  rw[ZjD] at hm
  subst hm
  obtain⟨l1,r1⟩:=Qw hh q hq
  exact Row.ne r1 h8.room he rfl
 have ai:Wm (t+1) ds=Wm t ds++[.pointer (some ⟨ds t,0,none⟩)]:=by
  unfold Wm
  rw[List.range_succ,ZjZ]
  rfl
 refine⟨h8.put (l:=[]) (h8.room.set 1 _) ae,?_,Wf ag ae (af ag (by decide))⟩
 rw[ai]
 exact Wf ho ae (af ho (by decide))
theorem RmS.putS(h:RmS w0 r p k m td tl t dv sv ds gh w2)(hb:Below w2.heap.size w2 w3){g2 c2:Nat}(ho:w8.ownsRow w0.heap.size 4 1 (.slice (some ⟨g2,0,none⟩) (t+1) c2) (t+1) (List.replicate t (.bool true)++[.bool true]))(hf:Fr (ZE sv) w3 w8):
  RmS w0 r p k m td tl (t+1) dv (.slice (some ⟨g2,0,none⟩) (t+1) c2) ds gh (w8.setCell ⟨r,7,none⟩ (.slice (some ⟨g2,0,none⟩) (t+1) c2)):=by
 have h3:=h.after hb
 have ht:=Z2g h3.sown (ts:=[47,4]) (by simp)
 have ah:=WC h3.sown
 have h8:=h3.b.fr hf ht ah
 have ag:=Wf h3.down hf (fun q hq hm=>by
  obtain⟨l1,r1⟩:=Qw h3.down q hq
  obtain⟨l2,r2⟩:=Qw h3.sown q hm
  exact Row.ne r1 r2 (by decide) rfl)
 have ae:Fr [r] w8 (w8.setCell ⟨r,7,none⟩ (.slice (some ⟨g2,0,none⟩) (t+1) c2)):=(Fr.refl _ _).setCell (Or.inl (by simp)) _
 have af:∀{e:TypeId} {v:Value} {n:Nat} {xs:List Value},w8.ownsRow w0.heap.size e 1 v n xs->e≠39->∀q∈ZE v,q∉[r]:=fun{e v n xs} hh he q hq hm=>by
  rw[ZjD] at hm
  subst hm
  obtain⟨l1,r1⟩:=Qw hh q hq
  exact Row.ne r1 h8.room he rfl
 have ai:List.replicate (t+1) (Value.bool true)=List.replicate t (.bool true)++[.bool true]:=List.replicate_succ'
 refine⟨h8.put (l:=[]) (h8.room.set 7 _) ae,Wf ag ae (af ag (by decide)),?_⟩
 rw[ai]
 exact Wf ho ae (af ho (by decide))
theorem Zfv{n ps s:Nat}{xs:Nat->Nat}{G:Eg}{Ls:Nat->List Nat}{w1:World}(hb:Below wr.heap.size wr w1)(hf:Fr (G.p::WU G Ls (fun i=>[G.xs i])) w1 w'){y:Nat}{e:TypeId}{l:List Value}(hr:Row wr y e l)(hp:y≠G.p)(hL:∀i,i<G.n->y∉Ls i)(hs:wr.heap.size<=G.s)(hx:∀i,i<G.n->wr.heap.size<=G.xs i):Row w' y e l:=by
 have ae:=hr.lt
 refine(hr.after hb).fr hf (fun hm=> ?_)
 rcases ZjV.1 hm with h9|hm
 ·exact hp h9
 ·rcases QT.1 hm with h9|⟨i,hi,h9⟩|⟨i,hi,h9⟩
  ·omega
  ·exact hL i hi h9
  ·rw[ZjD] at h9
   have:=hx i hi
   omega
end
theorem RmS.d8{w0 w2 w3 w8:World}{r p k m td tl ts:Nat}{dv sv:Value}{ds gh:Nat->Nat}(h:RmS w0 r p k m td tl ts dv sv ds gh w2)(hb:Below w2.heap.size w2 w3)(hf:Fr (ZE dv) w3 w8):RmB w0 r p k m td dv sv ds gh w8:=by
 have h3:=h.after hb
 exact h3.b.fr hf (Z2g h3.down (ts:=[47,4]) (by simp)) (WC h3.down)
theorem RmS.s8{w0 w2 w3 w8:World}{r p k m td tl ts:Nat}{dv sv:Value}{ds gh:Nat->Nat}(h:RmS w0 r p k m td tl ts dv sv ds gh w2)(hb:Below w2.heap.size w2 w3)(hf:Fr (ZE sv) w3 w8):RmB w0 r p k m td dv sv ds gh w8:=by
 have h3:=h.after hb
 exact h3.b.fr hf (Z2g h3.sown (ts:=[47,4]) (by simp)) (WC h3.sown)
theorem ZeB{w0 wr w3 w4:World}{r p k m N gd cd gs cs s ms c:Nat}{ds gh xs:Nat->Nat}{V:Ev}(h:RmS w0 r p k m N N N (.slice (some ⟨gd,0,none⟩) N cd) (.slice (some ⟨gs,0,none⟩) N cs) ds gh wr)(ah:∃sp,Row wr gd 47 (Wm N ds++sp))(ai:∃sp,Row wr gs 4 (List.replicate N (.bool true)++sp))(ag:Below wr.heap.size wr w3)(hE:Zf w0.heap.size ⟨N,p,s,ms,c,xs,ds⟩ (WU ⟨N,p,s,ms,c,xs,ds⟩ (fun i=>[ds i,gh i]) (fun i=>[xs i])) V w3 w4)(hs:wr.heap.size<=s)(hx:∀i,i<N->wr.heap.size<=xs i)(al:N=k+m)(ak:1<=k):
  Row w4 r 39 [.pointer (some ⟨p,0,none⟩),.slice (some ⟨gd,0,none⟩) N cd,.int .i64 (k:Int),.int .i64 (m:Int),.pointer none,.pointer none,.slice none 0 0,.slice (some ⟨gs,0,none⟩) N cs]/\∀w5 hh,Below (w4.setCell ⟨r,4,none⟩ (.pointer (some ⟨s,0,none⟩))).heap.size (w4.setCell ⟨r,4,none⟩ (.pointer (some ⟨s,0,none⟩))) w5->
   Row w5 r 39 [.pointer (some ⟨p,0,none⟩),.slice (some ⟨gd,0,none⟩) N cd,.int .i64 (k:Int),.int .i64 (m:Int),.pointer (some ⟨s,0,none⟩),.pointer none,.slice none 0 0,.slice (some ⟨gs,0,none⟩) N cs]/\∃bl,Qj w0.heap.size (w5.setCell ⟨r,5,none⟩ (.pointer (some ⟨hh,0,none⟩))) ⟨r,gd,cd,gs,cs,k,m,N⟩ ⟨N,p,s,ms,c,xs,ds⟩ V bl (.pointer (some ⟨hh,0,none⟩)) none 0 []/\Below w0.heap.size w0 (w5.setCell ⟨r,5,none⟩ (.pointer (some ⟨hh,0,none⟩))):=by
 obtain⟨aq,ah⟩:=ah
 obtain⟨au,ai⟩:=ai
 obtain⟨bl,he,hg,hf⟩:=hE
 have ae:∀{y:Nat} {e:TypeId} {l:List Value},Row wr y e l->e≠112->e≠109->e≠5->Row w4 y e l:=fun{y e l} hr h1 h2 h3=>by
  refine Zfv (n:=N) (ps:=p) (s:=s) (xs:=xs) (G:=⟨N,p,s,ms,c,xs,ds⟩) (Ls:=fun i=>[ds i,gh i]) ag hf hr (Row.ne hr h.b.pw h1) (fun i hi hm=> ?_) hs hx
  have hd:=h.b.dk i hi
  simp only[ZjV,Zk3,or_false] at hm
  rcases hm with h9|h9
  ·exact Row.ne hr hd.top h2 h9
  ·exact Row.ne hr hd.bytes.row h3 h9
 have r4:=ae h.b.room (by decide) (by decide) (by decide)
 have d4:=ae ah (by decide) (by decide) (by decide)
 have s4:=ae ai (by decide) (by decide) (by decide)
 refine⟨r4,fun w5 hh af=> ?_⟩
 have hz:w0.heap.size<=w4.heap.size:=he.bw
 have f4:Fr [r] w4 (w4.setCell ⟨r,4,none⟩ (.pointer (some ⟨s,0,none⟩))):=(Fr.refl _ _).setCell (Or.inl (by simp)) _
 have r5:=(r4.set 4 (.pointer (some ⟨s,0,none⟩))).after af
 have d5:=(d4.fr f4 (by rw[ZjD];exact Row.ne d4 r4 (by decide))).after af
 have s5:=(s4.fr f4 (by rw[ZjD];exact Row.ne s4 r4 (by decide))).after af
 have e5:=(he.setCell (a:=⟨r,4,none⟩) r4 (by decide) (by decide) (by decide) (by decide) (.pointer (some ⟨s,0,none⟩))).after af
 have f5:Fr [r] w5 (w5.setCell ⟨r,5,none⟩ (.pointer (some ⟨hh,0,none⟩))):=(Fr.refl _ _).setCell (Or.inl (by simp)) _
 have aj:∀q∈[r],w0.heap.size<=q:=fun q hq=>by rw[ZjD] at hq;subst hq;exact h.b.rge
 refine⟨r5,bl,⟨r5.set 5 _,⟨aq,d5.fr f5 (by rw[ZjD];exact Row.ne d5 r5 (by decide))⟩,⟨au,s5.fr f5 (by rw[ZjD];exact Row.ne s5 r5 (by decide))⟩,Y7.nil _ _,e5.setCell (a:=⟨r,5,none⟩) r5 (by decide) (by decide) (by decide) (by decide) _,h.b.rge,rfl,al.symm,ak⟩,?_⟩
 have b1:Below w0.heap.size w0 w4:=(h.b.bel.trans (ag.mono h.b.bel.size)).trans (hf.below (Zk1 h.b.bel.size ag.size) (fun q hq=> ?_))
 ·have b2:Below w0.heap.size w4 (w4.setCell ⟨r,4,none⟩ (.pointer (some ⟨s,0,none⟩))):=f4.below hz aj
  have b3:=af.mono (Zk1 hz f4.size)
  exact((b1.trans b2).trans b3).trans (f5.below (Zk1 (Zk1 hz f4.size) af.size) aj)
 ·have aw:=h.b.bel.size
  rcases ZjV.1 hq with rfl|hq
  ·exact h.b.pge
  ·rcases QT.1 hq with h9|⟨i,hi,h9⟩|⟨i,hi,h9⟩
   ·rw[h9];show w0.heap.size<=s;omega
   ·have:=h.b.ge i hi
    simp only[ZjV,Zk3,or_false] at h9
    rcases h9 with rfl|rfl<;>omega
   ·rw[ZjD] at h9
    subst h9
    have:=hx i hi
    show w0.heap.size<=xs i
    omega
theorem Z9H(w:World)(k m:Nat)(al:1<=k)(cz:k<=4)(de:m<=3)(ht:Ty w):
  Calls prog 8 #[.int .i64 (k:Int),.int .i64 (m:Int),.int .i64 800] w fun e w'=>∃R G V bl h,e=.returned (.pointer (some ⟨R.r,0,none⟩))/\Qj w.heap.size w' R G V bl (.pointer (some ⟨h,0,none⟩)) none 0 []/\ZW K11 2 R.k R.m R.n 0 (fun _=>none) V/\R.k=k/\R.m=m/\Below w.heap.size w w':=by
 obtain⟨N,hN⟩:∃N,N=k+m:=⟨_,rfl⟩
 have d6:IntKind.i64.wrap ((k:Int)+(m:Int))=(N:Int):=by rw[Zk2 _ (by omega)];omega
 have au:1<=N:=by omega
 have cy:N<=7:=by omega
 have cn:=ht.lt
 have H:=Zka (Zkb ht hN)
 clear ht hN
 go_enter func8,ntmps8
 go_wp2_with (go_at_call 29;refine(Z9s _).mono ?_;rintro e w1 ⟨p,rfl,bj,bm,aw⟩;have R1:=Zka (Zkb bj (Zkb bm aw));clear bj bm aw)
 have I0:RmS w w1.heap.size p k m 0 0 0 (.slice none 0 0) (.slice none 0 0) (fun _=>0) (fun _=>0) (w1.alloc (.cells #[.pointer (some ⟨p,0,none⟩),.slice none 0 0,.int .i64 (k:Int),.int .i64 (m:Int),.pointer none,.pointer none,.slice none 0 0,.slice none 0 0] 39)):=by
  have ax:=(Below.refl w1.heap.size w1).alloc Zk8 (.cells #[.pointer (some ⟨p,0,none⟩),.slice none 0 0,.int .i64 (k:Int),.int .i64 (m:Int),.pointer none,.pointer none,.slice none 0 0,.slice none 0 0] 39)
  exact⟨⟨Row.new w1 _ _,R1.out.2.1.after ax,fun i hi=>by omega,fun i hi=>by omega,fun i j hi=>by omega,R1.out.2.2.size,R1.out.1,R1.out.2.2.trans (ax.mono R1.out.2.2.size)⟩,World.ownsRow_nil _ _ _ _,World.ownsRow_nil _ _ _ _⟩
 have HI:=Zka I0
 clear I0
 generalize w1.alloc (.cells #[.pointer (some ⟨p,0,none⟩),.slice none 0 0,.int .i64 (k:Int),.int .i64 (m:Int),.pointer none,.pointer none,.slice none 0 0,.slice none 0 0] 39)=w2 at*
 generalize w1.heap.size=r at*
 clear R1
 go_loopw [8] (fun kv wr=>∃ (t:Nat) (dv sv:Value) (ds gh:Nat->Nat),t<=N/\kv=.int .i64 t/\RmS w r p k m t t t dv sv ds gh wr) (fun kv _=>N- (intOf kv).toNat)
 case atStart=>exact⟨0,_,_,_,_,by omega,rfl,HI.out⟩
 case round=>
  obtain⟨t,dv,sv,ds,gh,dh,rfl,hS⟩:=hrel
  by_cases dc:t<N
  ·have df:(t:Int)<(N:Int):=by omega
   have c0:=hS.b.room.cell (j:=0) rfl
   have HS:=Zka hS
   clear hS
   go_wp2_with (first
    |(go_at_call 16;refine(ZiY p 800 _ (by omega) (by omega)).mono ?_;rintro e w3 ⟨d,g,rfl,b9,bf,bg,hb⟩;have hM:=HS.out.more hb bg b9 bf;have c1:=hM.b.room.cell (j:=1) rfl;have ha:=(Below.refl w3.heap.size w3).alloc Zk8 (.cells #[.pointer (some ⟨d,0,none⟩)] 47);have bq:Row (w3.alloc (.cells #[.pointer (some ⟨d,0,none⟩)] 47)) w3.heap.size 47 [.pointer (some ⟨d,0,none⟩)]:=Row.new w3 _ _;have HM:=Zka (Zkb hM (Zkb ha bq));clear b9 bf bg hb hM ha bq c0)
    |(at_builtin;have ae:=HM;clear HM;refine Y6 _ rfl (.tmp 40) (.tmp 42) 33 47 rfl underlying33 Zfi rfl (by omega) (by omega) w.heap.size dv t (Wm t ds) rfl (by have h9:=(ae.out.1.after ae.out.2.1).down;have e9:Wm t (upd ds t d)=Wm t ds:=List.map_congr_left (fun i hi=>by rw[List.mem_range] at hi;rw[Z7 _ _ (by omega)]);rw[e9] at h9;exact h9) w3.heap.size 1 [.pointer (some ⟨d,0,none⟩)] rfl (by omega) (by omega) rfl ae.out.2.2 (by simp[Value.oneCell']) (by have:=ae.out.1.b.bel.size;simp;omega) (by omega) ?_;intro g2 af w8 ho hf _ _ _;have h8:=(ae.out.1.d8 ae.out.2.1 hf).room;have k8:=h8.cell (j:=1) rfl;have f8:=h8.free (j:=1) (by simp);have aq:=ae.out.1.putD ae.out.2.1 (by rw[Zn];have e9:Wm t (upd ds t d)=Wm t ds:=List.map_congr_left (fun i hi=>by rw[List.mem_range] at hi;rw[Z7 _ _ (by omega)]);rw[e9];exact ho) hf;have c7:=aq.b.room.cell (j:=7) rfl;have HP:=Zka aq;clear ho hf h8 aq c1)
    |(at_builtin;have aj:=HP;clear HP;have ah:=(Below.refl _ (w8.setCell ⟨r,1,none⟩ (.slice (some ⟨g2,0,none⟩) (t+1) af))).alloc Zk8 (.cells #[.bool true] 4);have ag:=Row.new (w8.setCell ⟨r,1,none⟩ (.slice (some ⟨g2,0,none⟩) (t+1) af)) 4 [.bool true];have bz:=aj.out.b.bel.size;have ct:(w8.setCell ⟨r,1,none⟩ (.slice (some ⟨g2,0,none⟩) (t+1) af)).heap.size=w8.heap.size:=(by simp);rw[ct] at ag;refine Y6 _ rfl (.tmp 50) (.tmp 51) 37 4 rfl underlying37 Z7x rfl (by omega) (by omega) w.heap.size sv t (List.replicate t (.bool true)) rfl (QK aj.out.sown ah) w8.heap.size 1 [.bool true] rfl (by omega) (by omega) rfl ag (by simp[Value.oneCell']) (Zk1 bz ah.size) (by omega) ?_;intro g3 cj w9 ho hf _ _ _;have h9:=(aj.out.s8 ah hf).room;have k9:=h9.cell (j:=7) rfl;have f9:=h9.free (j:=7) (by simp);have R9:=Zka (aj.out.putS ah ho hf);clear ho hf h9 ah ag bz))
   go_roundw
   case measure=>simp[intOf];omega
   case rel=>exact⟨t+1,_,_,_,_,by omega,by go_num,R9.out⟩
  ·obtain rfl:t=N:=by omega
   obtain⟨gd,cd,cu,rfl, -, -, -,ak⟩:=Xi hS.down au
   obtain⟨gs,cs,cw,rfl, -, -, -,bu⟩:=Xi hS.sown au
   have c1:=hS.b.room.cell (j:=1) rfl
   have bh:=Zcg w.heap.size wr K11 gd t cd k m p ds ⟨false, -1,0⟩ (fun _=>Dk.fresh 800) (fun i=>[ds i,gh i]) (fun i hi=>ak.cell (by rw[ZjH (by rw[JG];exact hi)];exact Z1U _ _ _ hi)) ak.lt al H.out.2 (by omega) hS.b.bel.size (fun i hi=>hS.b.pd Zk8 hi) (fun i j hi hj cr=>hS.b.dap hi hj cr) (H.out.1.below hS.b.bel) cn Z8s rfl (by decide) (fun i hi=>⟨rfl,Zcw 800⟩)
   have HF:=Zka (Zkb bh (Zkb hS (Zkb ak bu)))
   clear bh hS ak bu HI
   go_wp2_with (first
    |(go_at_call 17;refine HF.out.1.mono ?_;rintro e w4 ⟨s,ms,c,xs,V,w3,rfl,ay,hE,hF,hs,hx⟩;have hd:=ZeB HF.out.2.1 ⟨cu,HF.out.2.2.1⟩ ⟨cw,HF.out.2.2.2⟩ ay hE hs hx H.out.2 al;have f4:=hd.1.free (j:=4) (by simp);have c4:=hd.1.cell (j:=4) rfl;have HD:=Zka (Zkb hd hF);clear hd ay hE hF hs hx)
    |(go_at_call 30;refine(Z5x _ s).mono ?_;rintro e w5 ⟨hh,rfl,az⟩;obtain⟨r5,bl,hR,ai⟩:=HD.out.1.2 w5 hh az;have f5:=r5.free (j:=5) (by simp);have c5:=r5.cell (j:=5) rfl;have HR:=Zka (Zkb hR ai);clear hR ai r5 az))
   go_ret
   exact⟨⟨r,gd,cd,gs,cs,k,m,t⟩,⟨t,p,s,ms,c,xs,ds⟩,V,bl,hh,rfl,HR.out.1,HD.out.2.set Z8s al H.out.2.symm (fun i hi=>Zcv 800),rfl,rfl,HR.out.2⟩
end
end Go.Proofs.YthppfllkocphbaaGreatDoor
