/-
  Part 1 of the proof: lemmas about what the program computes.
-/
import Derived.WalkKit
import Derived.WalkSpells
import Derived.WalkLawsBesides
import Derived.Laws.IdiomStrings
import Derived.Laws.CopyOwn
import Derived.Lib.Hide
import Derived.Test.YthppfllkocphbaaGreatDoorProg
import Derived.LaidEql
import Derived.Stop.Asserts
import Derived.RowKitTokens
import Derived.Deep.AppendLies
import Derived.Deep.LoopGhost
namespace Go.Proofs.YthppfllkocphbaaGreatDoor
set_option linter.unusedVariables false
set_option linter.unusedSimpArgs false
set_option maxHeartbeats 25600000
set_option maxRecDepth 100000
open Tryz
theorem Zka{p:Prop}(h:p):Go.RowKit.Hid p:=h
theorem Zkb{a b:Prop}(h:a)(k:b):a∧b:=⟨h,k⟩
section
open Go.RowKit
theorem Zk8{n:Nat}:n<=n:=Nat.le_refl n
theorem Zk9{B:Nat}{w:World}:Below B w w:=Below.refl B w
abbrev ZjD:=@List.mem_singleton
abbrev ZjE:=@List.getD_eq_getElem?_getD
abbrev ZjF:=@List.getElem?_eq_getElem
abbrev ZjG:=@World.block_lt_of_cell?
abbrev ZjH:=@List.getElem?_append_left
abbrev ZjI:=@List.length_append
abbrev ZjJ:=@Option.some.injEq
abbrev ZjK:=@List.take_succ_eq_append_getElem
abbrev ZjL:=@List.append_assoc
abbrev ZjM:=@List.length_cons
abbrev ZjN:=@List.length_map
abbrev ZjO:=@List.length_take
abbrev ZjP:=@List.getElem?_append_right
abbrev ZjQ:=@Array.getElem?_eq_some_iff
abbrev ZjR:=@List.setIfInBounds_toArray
abbrev ZjS:=@List.mem_cons_of_mem
abbrev ZjT:=@List.take_of_length_le
abbrev ZjU:=@List.mem_append
abbrev ZjV:=@List.mem_cons
abbrev ZjW:=@List.getElem_mem
abbrev ZjX:=@List.flatMap_cons
abbrev ZjY:=@List.map_cons
abbrev ZjZ:=@List.map_append
abbrev Zk0:=@Nat.lt_of_lt_of_le
abbrev Zk1:=@Nat.le_trans
abbrev Zk2:=@IntWalk.i64_in
abbrev Zk3:=@List.not_mem_nil
abbrev Zk4:=@List.take_append_drop
abbrev Zk5:=@List.take_length
abbrev Zk6:=@List.foldl_cons
abbrev Zk7:=@List.append_nil
end
section
open Go.RowKit
variable{Q:Exit->Act->World->Prop}{a:Act}{e:TypeId}{g:Nat}{l:List Value}{o:Oper}{ops:Array Oper}{rest:List Oper}{w w':World}
def Row(w:World)(g:Nat)(e:TypeId)(l:List Value):Prop:=∃f:Nat×Nat,w.heap[g]? =some (.cells l.toArray e f)/\(f=(0,0)∨l.length<=f.1)
theorem Row.mk(h:w.heap[g]? =some (.cells l.toArray e (0,0))):Row w g e l:=⟨_,h,Or.inl rfl⟩
theorem Row.cell(h:Row w g e l){j:Nat}{v:Value}(hj:l[j]? =some v):w.cell? ⟨g,j,none⟩=some v:=by
 obtain⟨f,hg,_⟩:=h
 rw[cell_of_row w g j _ e f hg];simpa using hj
theorem Row.free(h:Row w g e l){j:Nat}(hj:j<l.length):w.frozen? ⟨g,j,none⟩=false:=by
 obtain⟨f,hg,hf⟩:=h
 simp only[World.frozen?,hg]
 rcases hf with rfl|hf
 ·simp
 ·simp;omega
theorem Row.lt(h:Row w g e l):g<w.heap.size:=by
 obtain⟨f,hg,_⟩:=h
 exact(ZjQ.1 hg).1
theorem Row.set(h:Row w g e l)(j:Nat)(v:Value):Row (w.setCell ⟨g,j,none⟩ v) g e (l.set j v):=by
 obtain⟨f,hg,hf⟩:=h
 refine⟨f,?_,by simpa using hf⟩
 rw[setCell_eq_setRow w g j _ e f v hg]
 have:=setRow_heap w g _ (l.toArray.setIfInBounds j v) e f hg
 rw[this];simp
theorem Row.other(h:Row w g e l){p:Addr}(hp:g≠p.block)(v:Value):Row (w.setCell p v) g e l:=by
 obtain⟨f,hg,hf⟩:=h
 exact⟨f,by rw[Below.heap_setCell w p v g hp];exact hg,hf⟩
theorem Row.drew(h:Row w g e l):Row w.drew g e l:=h
theorem Row.drewN(h:Row w g e l)(n:Nat):Row (w.drewN n) g e l:=h
theorem Row.alloc(h:Row w g e l)(o:Obj):Row (w.alloc o) g e l:=by
 have hl:=h.lt
 obtain⟨f,hg,hf⟩:=h
 exact⟨f,by rw[Below.heap_alloc w o g hl];exact hg,hf⟩
theorem Row.new(w:World)(e:TypeId)(l:List Value):Row (w.alloc (.cells l.toArray e)) w.heap.size e l:=⟨_,heap_alloc_new _ _,Or.inl rfl⟩
theorem Row.below{B:Nat}(h:Row w g e l)(hb:Below B w w')(hg:g<B):Row w' g e l:=by
 obtain⟨f,hh,hf⟩:=h
 exact⟨f,(hb.block g hg).trans hh,hf⟩
theorem Row.after(h:Row w g e l)(hb:Below w.heap.size w w'):Row w' g e l:=h.below hb h.lt
def Z3(l:List UInt8):List Value:=l.map fun u=>.int .u8 (u.toNat:Int)
theorem Zh(l:List UInt8):(Z3 l).length=l.length:=by simp[Z3]
theorem YR(l:List UInt8)(j:Nat)(h:j<l.length):(Z3 l)[j]? =some (.int .u8 (l[j].toNat:Int)):=by
 simp[Z3,h]
theorem XN(a b:List UInt8):Z3 (a++b)=Z3 a++Z3 b:=by simp[Z3]
theorem Z0U(l:List UInt8)(n:Nat):(Z3 l).take n=Z3 (l.take n):=by simp[Z3,List.map_take]
theorem Z0T(l:List UInt8)(n:Nat):(Z3 l).drop n=Z3 (l.drop n):=by simp[Z3,List.map_drop]
theorem Z34(l:List UInt8)(n:Nat)(u:UInt8):(Z3 l).set n (.int .u8 (u.toNat:Int))=Z3 (l.set n u):=by simp[Z3,List.map_set]
section
variable{P:Program}
theorem Z3K(hg:o.guard=none){v:Value}
  (ae:(execOp a.eval o).run P w=.ok (.value v) w') (h:wpList P ops Q rest (a.put o.dst v) w'):wpList P ops Q (o::rest) a w:=
 wpList_plain hg fun _ hK=>by
  unfold Oper.wp
  rw[ae]
  exact hK _ _ h
theorem Z25(hg:o.guard=none)(src dst e:TypeId)(x:Operand)(ho:o.op=.convert src dst x)
  (s:ByteArray) (hx:a.eval x=.string s) (hs:P.underlying src=some .string) (hd:P.underlying dst=some (.slice e)) (he:P.underlying e=some (.int .u8))
  (h:∀ (g cap:Nat) (r:List Value) (w1:World),w.heap.size<=g->Row w1 g e (Z3 s.data.toList++r)->s.size+r.length=cap->Below w.heap.size w w1->
   wpList P ops Q rest (a.put o.dst (.slice (some ⟨g,0,none⟩) s.size cap)) w1):wpList P ops Q (o::rest) a w:=by
 have hr:=run_bytes_of_string (P:=P) w src dst e s hs hd he
 generalize ae:grownCap w s.size 0 e=cap at hr
 have af:=grownCap_ge w s.size 0 e
 rw[ae] at af
 refine Z3K (w':=(w.drew.alloc (.cells (bytesRow s cap) e ((bytesRow s cap).size,(bytesRow s cap).size+1)))) hg ?_ (h w.heap.size cap (List.replicate (cap-s.size) (Value.int .u8 0)) _ Zk8 ?_ ?_ ?_)
 ·unfold execOp
  simp only[ho,hx,Sem.run_bind,hr,Result.andThen_ok,Sem.run_pure]
 ·have e1:bytesRow s cap=(Z3 s.data.toList++List.replicate (cap-s.size) (Value.int .u8 0)).toArray:=by
   simp[bytesRow,Z3]
  refine⟨((bytesRow s cap).size,(bytesRow s cap).size+1),?_,Or.inr ?_⟩
  ·rw[<-e1];exact heap_alloc_new w.drew _
  ·rw[e1];simp
 ·simp;omega
 ·exact(Zk9.drew).alloc (by show w.heap.size<=w.heap.size;omega) _
theorem Qv(w:World)(src dst e:TypeId)(hs:P.underlying src=some (.slice e))(he:P.underlying e=some (.int .u8))(hd:P.underlying dst=some .string)
  {g:Nat} {L:List Value} (h:Row w g e L) (off n cap:Nat) (l:List UInt8) (hn:l.length=n) (hl:(L.drop off).take n=Z3 l):
  (convert src dst (.slice (some ⟨g,off,none⟩) n cap)).run P w=.ok (.string ⟨l.toArray⟩) w:=by
 subst hn
 refine run_convert_bytes_back w src dst e ⟨g,off,none⟩ cap l hs he hd fun j hj=> ?_
 have e1:(⟨g,off,none⟩:Addr).add j=⟨g,off+j,none⟩:=by unfold Addr.add;split<;>simp_all
 rw[e1]
 apply h.cell
 have e2:((L.drop off).take l.length)[j]? =L[off+j]?:=by
  rw[List.getElem?_take,if_pos hj,List.getElem?_drop]
 rw[<-e2,hl,YR l j hj]
end
theorem Xq(t:ByteArray)(k:Nat)(_h:k<t.size)(h':k<t.data.toList.length):t.data.toList[k]=t[k]:=by
 simp;rfl
theorem XJ{P:Program}{f:FuncId}{args:Array Value}{v:Value}(h:Calls P f args w fun e w'=>e=.returned v/\w=w'):Calls P f args w fun e w'=>e=.returned v/\w'=w:=
 h.mono fun _ _ ⟨he,hw⟩=>⟨he,hw.symm⟩
end
section
open Go.RowKit Go.Extern.Stop Go.Stop Go.Extern
theorem ZfJ(c:Int)(w:World):(Extern.ReflectliteType.typeOf #[.iface 54 (.int .i64 c)]).run prog w=.ok (.iface 184 (.agg #[.pointer (some ⟨2,54,none⟩)])) w:=by kernel_rfl
theorem Z9b (w : World) : ((Extern.ReflectliteType.method fun t => do Go.Extern.Rtype.noPackHeld "Comparable" t; pure (.bool (← typeInfo t).comparable)) #[.agg #[.pointer (some ⟨2, 54, none⟩)]]).run prog w = .ok (.bool true) w := by kernel_rfl
theorem Zc6(args:Array Value)(w:World):(callFunc 50 args).run prog w=((Extern.ReflectliteType.typeOf args).run prog w).andThen fun v w'=>.ok (.value v) w':=
 @run_callFunc_extern prog 50 _ Extern.ReflectliteType.typeOf func50 (by kernel_rfl) (by kernel_rfl) (by kernel_rfl) (by kernel_rfl) args w
theorem Z2C(w:World):(callFunc 309 #[.agg #[.pointer (some ⟨2,54,none⟩)]]).run prog w=.ok (.value (.bool true)) w:=by
 rw [@run_callFunc_extern prog 309 _ (Extern.ReflectliteType.method fun t => do Go.Extern.Rtype.noPackHeld "Comparable" t; pure (.bool (← typeInfo t).comparable)) func309 (by kernel_rfl) (by kernel_rfl) (by kernel_rfl) (by kernel_rfl), Z9b]
 rfl
theorem Z8N(c:Int)(w:World):(callFunc 50 #[.iface 54 (.int .i64 c)]).run prog w=.ok (.value (.iface 184 (.agg #[.pointer (some ⟨2,54,none⟩)]))) w:=by
 rw[Zc6,ZfJ]
 rfl
theorem Z1T (v : Value) (w : World) : (Go.method 483 184 v "Comparable").run prog w = .ok (309, v) w := by kernel_rfl
theorem Z9l (a : Addr) (w : World) : (Go.method 483 139 (.pointer (some a)) "Is").run prog w = .ok (304, .pointer (some a)) w := by kernel_rfl
theorem Z5q(c:Int)(xT:TypeId)(w:World):(Instr.typeAssert (.iface 54 (.int .i64 c)) xT 54 true).run prog w=.ok (.tuple #[.int .i64 c,.bool true]) w:=by kernel_rfl
theorem Zhr(a:Addr)(c:Int)(w:World)(hc:w.cell? a=some (.int .i64 c)):
  Calls prog 304 #[.pointer (some a),.iface 54 (.int .i64 c)] w fun e w'=>e=.returned (.bool true)/\w=w':=by
 have hA:=Z5q
 go_enter func304,ntmps304
 go_wp2
 go_ret
 exact⟨rfl,rfl⟩
theorem Zh0(v:Value)(xT:TypeId)(w:World):(Instr.typeAssert (.iface 139 v) xT 186 true).run prog w=.ok (.tuple #[.iface 139 v,.bool true]) w:=run_typeAssert_hasB underlying186 (by kernel_rfl) v xT w
theorem Zfo(b:Nat)(c:Int)(w:World)(hc:w.cell? ⟨b,0,none⟩=some (.int .i64 c)):
  Calls prog 51 #[.iface 139 (.pointer (some ⟨b,0,none⟩)),.iface 54 (.int .i64 c),.bool true] w fun e w'=>e=.returned (.bool true)/\w=w':=by
 have hI:=Zh0
 have h4:=Z9l
 have ae:=fun v1 v2 (W:World)=>run_eql_iface_types (P:=prog) 139 54 v1 v2 underlying31 (by decide) W
 go_enter func51,ntmps51
 go_wp2_with fail
 refine wp_loop_rounds 1 ?_
 rw[rounds_succ]
 go_wp2_with (go_at_call 304;refine(Zhr _ _ _ hc).mono ?_;rintro e w' ⟨rfl,rfl⟩)
 go_ret
 exact⟨rfl,rfl⟩
theorem Zfn(b:Nat)(c:Int)(w:World)(hc:w.cell? ⟨b,0,none⟩=some (.int .i64 c)):
  Calls prog 19 #[.iface 139 (.pointer (some ⟨b,0,none⟩)),.iface 54 (.int .i64 c)] w fun e w'=>e=.returned (.bool true)/\w=w':=by
 have h1:=Z8N
 have h2:=Z2C
 have h3:=Z1T
 go_enter func19,ntmps19
 go_wp2_with (go_at_call 51;refine(Zfo _ _ _ hc).mono ?_;rintro e w' ⟨rfl,rfl⟩)
 go_ret
 exact⟨rfl,rfl⟩
end
section
open Go.RowKit
variable{L L':List Nat}{a b w w':World}{base g n size:Nat}{e e':TypeId}{l xs:List Value}{v:Value}
structure Fr(L:List Nat)(w w':World):Prop where
 os:w'.os=w.os
 tape:w'.tape=w.tape
 output:w'.output=w.output
 size:w.heap.size<=w'.heap.size
 block:∀k,k<w.heap.size->k∉L->w'.heap[k]? =w.heap[k]?
theorem Fr.refl(L:List Nat)(w:World):Fr L w w:=⟨rfl,rfl,rfl,Zk8,fun _ _ _=>rfl⟩
theorem Fr.trans{c:World}(h:Fr L a b)(k:Fr L' b c)(hL:∀i,i∈L'->i<a.heap.size->i∈L):Fr L a c:=
 ⟨k.os.trans h.os,k.tape.trans h.tape,k.output.trans h.output,Zk1 h.size k.size,fun i hi hn=>
  (k.block i (Zk0 hi h.size) (fun hm=>hn (hL i hm hi))).trans (h.block i hi hn)⟩
theorem Fr.mono(h:Fr L a b)(hL:∀i,i∈L->i<a.heap.size->i∈L'):Fr L' a b:=
 ⟨h.os,h.tape,h.output,h.size,fun i hi hn=>h.block i hi (fun hm=>hn (hL i hm hi))⟩
theorem Fr.of_below(h:Below w.heap.size w w'):Fr L w w':=⟨h.os,h.tape,h.output,h.size,fun k hk _=>h.block k hk⟩
theorem Fr.below{B:Nat}(h:Fr L w w')(hB:B<=w.heap.size)(hL:∀i,i∈L->B<=i):Below B w w':=
 ⟨h.os,h.tape,h.output,h.size,fun k hk=>h.block k (by omega) (fun hm=>by have:=hL k hm;omega)⟩
theorem Fr.nil_below(h:Fr [] w w'):Below w.heap.size w w':=h.below Zk8 (fun i hi=>by simp at hi)
theorem Fr.drew(h:Fr L a w):Fr L a w.drew:=⟨h.os,h.tape,h.output,h.size,h.block⟩
theorem Fr.alloc(h:Fr L a w)(o:Obj):Fr L a (w.alloc o):=
 ⟨h.os,h.tape,h.output,Zk1 h.size (by simp),fun k hk hn=>(Below.heap_alloc w o k (Zk0 hk h.size)).trans (h.block k hk hn)⟩
theorem Fr.setCell(h:Fr L a w){p:Addr}(hp:p.block∈L∨a.heap.size<=p.block)(v:Value):Fr L a (w.setCell p v):=
 ⟨h.os,h.tape,h.output,Zk1 h.size (by simp[World.setCell]),fun k hk hn=>
  (Below.heap_setCell w p v k (by rintro rfl;rcases hp with hp|hp;exact hn hp;omega)).trans (h.block k hk hn)⟩
theorem Fr.setRow(h:Fr L a w){g:Nat}(hp:g∈L∨a.heap.size<=g)(cs:Array Value):Fr L a (w.setRow g cs):=
 ⟨h.os,h.tape,h.output,Zk1 h.size (by simp),fun k hk hn=>
  (setRow_other w g k cs (by rintro rfl;rcases hp with hp|hp;exact hn hp;omega)).trans (h.block k hk hn)⟩
theorem Fr.grown{row:Option Nat}(h:Fr L a w)(hg:w.grownBy w' row)(hr:∀k,row=some k->k∈L∨a.heap.size<=k):Fr L a w':=
 ⟨hg.os.trans h.os,hg.tape.trans h.tape,hg.output.trans h.output,Zk1 h.size hg.size,fun k hk hn=>
  (hg.block k (Zk0 hk h.size) (fun e=>by rcases hr k e.symm with hp|hp;exact hn hp;omega)).trans (h.block k hk hn)⟩
theorem Row.fr(h:Row w g e l){L:List Nat}(hf:Fr L w w')(hg:g∉L):Row w' g e l:=by
 have hl:=h.lt
 obtain⟨f,hh,hb⟩:=h
 exact⟨f,(hf.block g hl hg).trans hh,hb⟩
theorem ZZ(h:w.ownsRow base e size v n xs){L:List Nat}(hf:Fr L w w')(hg:∀g,v.ownBlock=some g->g∉L):w'.ownsRow base e size v n xs:=by
 obtain⟨h1,h2⟩:=h
 refine⟨h1,?_⟩
 rcases h2 with h2|⟨g,cap,cur,hv,hb,hh,r⟩
 ·exact Or.inl h2
 ·have ae:g<w.heap.size:=(ZjQ.1 hh).1
  exact Or.inr ⟨g,cap,cur,hv,hb,(hf.block g ae (hg g (by rw[hv];rfl))).trans hh,r⟩
theorem Row.ne{g':Nat}{l':List Value}(h:Row w g e l)(h':Row w g' e' l')(he:e≠e'):g≠g':=by
 rintro rfl
 obtain⟨f,hh,_⟩:=h
 obtain⟨f',ae,_⟩:=h'
 rw[hh] at ae
 simp only[ZjJ,Obj.cells.injEq] at ae
 exact he ae.2.1
theorem Row.ne_own(h:Row w g e l)(h':w.ownsRow base e' size v n xs)(he:e≠e'):v.ownBlock≠some g:=by
 intro e1
 rcases h'.2 with ⟨hv,_⟩|⟨g',cap,cur,hv,_,hh,_⟩
 ·rw[hv] at e1;cases e1
 ·rw[hv] at e1
  simp only[Value.ownBlock,ZjJ] at e1
  subst e1
  obtain⟨f,hg,_⟩:=h
  rw[hg] at hh
  simp only[ZjJ,Obj.cells.injEq] at hh
  exact he hh.2.1
theorem XF(h:w.ownsRow base e size v n xs){g:Nat}(hg:v.ownBlock=some g){j:Nat}{u:Value}(hj:xs[j]? =some u):w.cell? ⟨g,j,none⟩=some u:=by
 have:=h.cells hg j u hj
 have e1:(⟨g,0,none⟩:Addr).add j=⟨g,j,none⟩:=by unfold Addr.add;split<;>simp_all
 rwa[e1] at this
def ZC(w:World)(g:Nat)(e:TypeId)(l:List Value):Prop:=w.heap[g]? =some (.cells l.toArray e (0,0))
theorem ZC.row(h:ZC w g e l):Row w g e l:=Row.mk h
theorem ZC.fr(h:ZC w g e l){L:List Nat}(hf:Fr L w w')(hg:g∉L):ZC w' g e l:=(hf.block g h.row.lt hg).trans h
theorem ZC.new(w:World)(e:TypeId)(l:List Value):ZC (w.alloc (.cells l.toArray e)) w.heap.size e l:=heap_alloc_new _ _
theorem ZC.set(h:ZC w g e l)(j:Nat)(v:Value):ZC (w.setCell ⟨g,j,none⟩ v) g e (l.set j v):=by
 have:=heap_setCell_same w g j _ e v h
 unfold ZC;rw[this];simp
theorem ZC.setRow(h:ZC w g e l)(l':List Value):ZC (w.setRow g l'.toArray) g e l':=setRow_heap w g _ _ e (0,0) h
section
variable{P:Program}
theorem WD(T E:TypeId)(i0:TypeInfo)(hT:P.underlying T=some (.slice E))(hi:P.info? E=some i0)(hz:i0.zero=some (.int .u8 0))(hs:i0.size=1)(hb:i0.bytes=1)(n:Nat)(hn:n<=140737488355328)(W:World):
  (Instr.makeSlice T (.int .i64 (n:Int)) (.int .i64 (n:Int))).run P W=.ok (.slice (some ⟨W.heap.size,0,none⟩) n n) (W.alloc (.cells (Z3 (List.replicate n 0)).toArray E)):=by
 have h:=run_make (P:=P) W T E i0 (.int .u8 0) hT hi hz .i64 .i64 (n:Int) (n:Int) (by omega) (by omega) (by rw[hb];omega) (by omega)
 have e:madeCells (Value.int .u8 0).cells (((n:Nat):Int).toNat*i0.size)=(Z3 (List.replicate n 0)).toArray:=by
  rw[hs,Int.toNat_natCast,Nat.mul_one]
  apply Array.ext
  ·simp[madeCells,Z3]
  ·intro i h1 h2
   simp[madeCells,Z3,Value.cells,Nat.mod_one]
 rw[e] at h
 simpa using h
end
end
section
open Go.RowKit Go.Extern.Stop Go.Stop Go.Extern
variable{B B':Nat}{c:Int}{v:Value}{w w':World}
def WG(w:World)(B:Nat)(c:Int):Nat->Value->Prop
 |0,_=>False
 |n+1,v=>∃ (b:Nat) (at_:Int) (inner:Value),v=.iface 139 (.pointer (some ⟨b,0,none⟩))/\B<=b/\Row w b 141 [.int .i64 c,.int .i64 at_,inner]/\(inner=.nilIface∨WG w B c n inner)
theorem WG.below{B':Nat}(hb:Below w.heap.size w w'):∀{n:Nat} {v:Value},WG w B c n v->WG w' B c n v
 |0,_,h=>h
 |n+1,v,⟨b,at_,inner,hv,hB,hr,hi⟩=>⟨b,at_,inner,hv,hB,hr.after hb,hi.imp id (fun h=>WG.below (B':=B') hb h)⟩
theorem WG.base(hB:B'<=B):∀{n:Nat} {v:Value},WG w B c n v->WG w B' c n v
 |0,_,h=>h
 |n+1,v,⟨b,at_,inner,hv,hb,hr,hi⟩=>⟨b,at_,inner,hv,by omega,hr,hi.imp id (fun h=>WG.base hB h)⟩
def Zu(w:World)(B:Nat)(c:Int)(v:Value):Prop:=(c=0/\v=.nilIface)∨(c≠0/\∃n,WG w B c n v)
theorem Zu.nil(w:World)(B:Nat):Zu w B 0 .nilIface:=Or.inl ⟨rfl,rfl⟩
theorem Zu.after(h:Zu w B c v)(hb:Below w.heap.size w w'):Zu w' B c v:=
 h.imp id fun⟨hc,n,hn⟩=>⟨hc,n,hn.below (B':=0) hb⟩
theorem Zu.base(h:Zu w B c v)(hB:B'<=B):Zu w B' c v:=
 h.imp id fun⟨hc,n,hn⟩=>⟨hc,n,hn.base hB⟩
theorem Z6x(a:Addr)(c t:Int)(w:World)(hc:w.cell? a=some (.int .i64 c))(ae:(t==c)=false):
  Calls prog 304 #[.pointer (some a),.iface 54 (.int .i64 t)] w fun e w'=>e=.returned (.bool false)/\w=w':=by
 have hA:=Z5q
 go_enter func304,ntmps304
 go_wp2
 go_ret
 exact⟨rfl,rfl⟩
theorem Z6R(b:Nat)(v:Value)(w:World)(hc:w.cell? ⟨b,2,none⟩=some v):
  Calls prog 305 #[.pointer (some ⟨b,0,none⟩)] w fun e w'=>e=.returned v/\w=w':=by
 go_enter func305,ntmps305
 go_wp2
 go_ret
 exact⟨rfl,rfl⟩
theorem Ze7(v:Value)(xT:TypeId)(w:World):(Instr.typeAssert (.iface 139 v) xT 189 true).run prog w=.ok (.tuple #[.iface 139 v,.bool true]) w:=run_typeAssert_hasB underlying189 (by kernel_rfl) v xT w
theorem Z9m (a : Addr) (w : World) : (Go.method 483 139 (.pointer (some a)) "Unwrap").run prog w = .ok (305, .pointer (some a)) w := by kernel_rfl
theorem ZaB(n B:Nat)(c t:Int)(v:Value)(w:World)(h:WG w B c n v)(ae:t≠c):
  Calls prog 51 #[v,.iface 54 (.int .i64 t),.bool true] w fun e w'=>e=.returned (.bool false)/\w=w':=by
 have hI:=Zh0
 have hU:=Ze7
 have h4:=Z9l
 have h5:=Z9m
 have af:=fun v1 v2 (W:World)=>run_eql_iface_types (P:=prog) 139 54 v1 v2 underlying31 (by decide) W
 have hb:(t==c)=false:=by simpa using ae
 have HN:=Zka ae;clear ae
 go_enter func51,ntmps51
 go_wp2_with fail
 go_loopg [0] n (fun k v wr=>wr=w/\WG w B c k v)
 case atStart=>exact⟨rfl,h⟩
 case round=>
  obtain⟨rfl,hf⟩:=hrel
  match gk,hf with
  |gk+1,⟨b,at_,inner,hv,hB,hr,hi⟩=>
   subst hv
   have c0:=hr.cell (j:=0) rfl
   have c2:=hr.cell (j:=2) rfl
   rcases hi with rfl|hi
   ·go_wp2_with (first|(go_at_call 304;refine(Z6x _ c t _ c0 hb).mono ?_;rintro e w' ⟨rfl,rfl⟩)|(go_at_call 305;refine(Z6R _ .nilIface _ c2).mono ?_;rintro e w' ⟨rfl,rfl⟩))
    go_ret
    exact⟨rfl,rfl⟩
   ·obtain⟨q,rfl⟩:∃q,inner=.iface 139 q:=by
     match gk,hi with
     |gk+1,⟨_,_,_,hv,_⟩=>exact⟨_,hv⟩
    have HI:=Zka hi;clear hi
    go_wp2_with (first|(go_at_call 304;refine(Z6x _ c t _ c0 hb).mono ?_;rintro e w' ⟨rfl,rfl⟩)|(go_at_call 305;refine(Z6R _ _ _ c2).mono ?_;rintro e w' ⟨rfl,rfl⟩))
    go_roundg gk
    case rel=>exact⟨rfl,HI.out⟩
    case measure=>omega
theorem ZaA(n B:Nat)(c t:Int)(v:Value)(w:World)(h:WG w B c n v)(ae:t≠c):
  Calls prog 19 #[v,.iface 54 (.int .i64 t)] w fun e w'=>e=.returned (.bool false)/\w=w':=by
 have h1:=Z8N
 have h2:=Z2C
 have h3:=Z1T
 obtain⟨q,rfl⟩:∃q,v=.iface 139 q:=by
  match n,h with
  |n+1,⟨_,_,_,hv,_⟩=>exact⟨_,hv⟩
 have HN:=Zka ae;clear ae
 have H:=Zka h;clear h
 go_enter func19,ntmps19
 go_wp2_with (go_at_call 51;refine(ZaB n B c t _ _ H.out HN.out).mono ?_;rintro e w' ⟨rfl,rfl⟩)
 go_ret
 exact⟨rfl,rfl⟩
theorem Z4j(t:Int)(w:World):
  Calls prog 19 #[.nilIface,.iface 54 (.int .i64 t)] w fun e w'=>e=.returned (.bool false)/\w=w':=by
 have hq:∀W,(binOp .eql 31 .nilIface (.iface 54 (.int .i64 t))).run prog W=.ok (.bool false) W:=fun _=>by kernel_rfl
 go_enter func19,ntmps19
 go_wp2
 go_ret
 exact⟨rfl,rfl⟩
theorem QM(B:Nat)(c t:Int)(v:Value)(w:World)(h:Zu w B c v)(ht:t≠0):
  Calls prog 19 #[v,.iface 54 (.int .i64 t)] w fun e w'=>e=.returned (.bool (c==t))/\w=w':=by
 rcases h with ⟨rfl,rfl⟩|⟨hc,n,hn⟩
 ·refine(Z4j t w).mono ?_
  rintro e w' ⟨rfl,rfl⟩
  refine⟨?_,rfl⟩
  have:((0:Int)==t)=false:=by simpa using fun e=>ht e.symm
  rw[this]
 ·by_cases e:t=c
  ·subst e
   match n,hn with
   |n+1,⟨b,at_,inner,hv,hB,hr,hi⟩=>
    subst hv
    refine(Zfn b t w (hr.cell (j:=0) rfl)).mono ?_
    rintro e w' ⟨rfl,rfl⟩
    exact⟨by simp,rfl⟩
  ·refine(ZaA n B c t v w hn e).mono ?_
   rintro e' w' ⟨rfl,rfl⟩
   refine⟨?_,rfl⟩
   have:(c==t)=false:=by simpa using fun x=>e x.symm
   rw[this]
end
end Go.Proofs.YthppfllkocphbaaGreatDoor
