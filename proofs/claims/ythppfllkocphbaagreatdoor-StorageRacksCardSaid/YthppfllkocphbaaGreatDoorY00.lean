/- Part 1: lemmas about what the program computes. -/
import Derived.WalkKit
import Derived.WalkSpells
import Derived.WalkLawsBesides
import Derived.Laws.IdiomStrings
import Derived.Laws.CopyOwn
import Derived.Lib.Hide
import Derived.Test.YthppfllkocphbaaGreatDoorProg
import Derived.LaidEql
import Derived.Stop.Asserts
import Derived.RowKitTokens
import Derived.Deep.AppendLies
import Derived.Deep.LoopGhost
import Derived.Lib.Strings
import Derived.Lib.BufferWrite
import Derived.Lib.UnsafeStr
import Derived.OwnWalk
import Derived.StillTactics
import Derived.Laws.Pointers
import Derived.Deep.RegionLaw
import Derived.StillTailTactics
import Derived.Lib.SliceRun
import Derived.Laws.BitsAllLaws
import Derived.Laws.Strings3
import Derived.IntWalk
namespace Go.Proofs.YthppfllkocphbaaGreatDoor
set_option linter.unusedVariables false
set_option linter.unusedSimpArgs false
set_option maxHeartbeats 25600000
set_option maxRecDepth 100000
open Tryz
theorem Z5H{A:Sort _}(x:A):∃q,x=q:=⟨x,rfl⟩
theorem Z5I{A:Sort _}(x:A):∃q,q=x:=⟨x,rfl⟩
theorem Z5J{a b:Prop}(ha:a)(hb:b):Go.RowKit.Hid (a∧b):=⟨ha,hb⟩
theorem Z5K{a b c:Prop}(ha:a)(hb:b)(hc:c):Go.RowKit.Hid (a∧b∧c):=⟨ha,hb,hc⟩
theorem Z5L{a b c d:Prop}(ha:a)(hb:b)(hc:c)(hd:d):Go.RowKit.Hid (a∧b∧c∧d):=⟨ha,hb,hc,hd⟩
theorem Z5M{a b c d e:Prop}(ha:a)(hb:b)(hc:c)(hd:d)(he:e):Go.RowKit.Hid (a∧b∧c∧d∧e):=⟨ha,hb,hc,hd,he⟩
theorem Z5N{a b c d e f:Prop}(ha:a)(hb:b)(hc:c)(hd:d)(he:e)(hf:f):Go.RowKit.Hid (a∧b∧c∧d∧e∧f):=⟨ha,hb,hc,hd,he,hf⟩
theorem Z5O{a b c d e f g:Prop}(ha:a)(hb:b)(hc:c)(hd:d)(he:e)(hf:f)(hg:g):Go.RowKit.Hid (a∧b∧c∧d∧e∧f∧g):=⟨ha,hb,hc,hd,he,hf,hg⟩
theorem Z5P{a b c d e f g h:Prop}(ha:a)(hb:b)(hc:c)(hd:d)(he:e)(hf:f)(hg:g)(hh:h):Go.RowKit.Hid (a∧b∧c∧d∧e∧f∧g∧h):=⟨ha,hb,hc,hd,he,hf,hg,hh⟩
theorem Z5Q{a b c d e f g h i:Prop}(ha:a)(hb:b)(hc:c)(hd:d)(he:e)(hf:f)(hg:g)(hh:h)(hi:i):Go.RowKit.Hid (a∧b∧c∧d∧e∧f∧g∧h∧i):=⟨ha,hb,hc,hd,he,hf,hg,hh,hi⟩
theorem Z5S{a b c d e f g h i j k:Prop}(ha:a)(hb:b)(hc:c)(hd:d)(he:e)(hf:f)(hg:g)(hh:h)(hi:i)(hj:j)(hk:k):Go.RowKit.Hid (a∧b∧c∧d∧e∧f∧g∧h∧i∧j∧k):=⟨ha,hb,hc,hd,he,hf,hg,hh,hi,hj,hk⟩
theorem Z5F{p:Prop}(h:p):Go.RowKit.Hid p:=h
theorem Z5G{a b:Prop}(h:a)(k:b):a∧b:=⟨h,k⟩
section
open Go.RowKit
theorem Z5D{n:Nat}:n<=n:=Nat.le_refl n
theorem Z5E{B:Nat}{w:World}:Below B w w:=Below.refl B w
abbrev Z58:=@List.mem_singleton
abbrev Z59:=@List.getD_eq_getElem?_getD
abbrev Z5a:=@List.getElem?_eq_getElem
abbrev Z5b:=@World.block_lt_of_cell?
abbrev Z5c:=@List.getElem?_append_left
abbrev Z5d:=@List.length_append
abbrev Z5e:=@Option.some.injEq
abbrev Z5f:=@List.take_succ_eq_append_getElem
abbrev Z5g:=@List.append_assoc
abbrev Z5h:=@List.length_cons
abbrev Z5i:=@List.length_map
abbrev Z5j:=@List.length_take
abbrev Z5k:=@List.getElem?_append_right
abbrev Z5l:=@Array.getElem?_eq_some_iff
abbrev Z5m:=@List.setIfInBounds_toArray
abbrev Z5n:=@List.mem_cons_of_mem
abbrev Z5o:=@List.take_of_length_le
abbrev Z5p:=@List.mem_append
abbrev Z5q:=@List.mem_cons
abbrev Z5r:=@List.getElem_mem
abbrev Z5s:=@List.flatMap_cons
abbrev Z5t:=@List.map_cons
abbrev Z5u:=@List.map_append
abbrev Z5v:=@Nat.lt_of_lt_of_le
abbrev Z5w:=@Nat.le_trans
abbrev Z5x:=@IntWalk.i64_in
abbrev Z5y:=@List.not_mem_nil
abbrev Z5z:=@List.take_append_drop
abbrev Z5A:=@List.take_length
abbrev Z5B:=@List.foldl_cons
abbrev Z5C:=@List.append_nil
end
section
open Go.RowKit
variable{Q:Exit->Act->World->Prop}{a:Act}{e:TypeId}{g:Nat}{l:List Value}{o:Oper}{ops:Array Oper}{rest:List Oper}{w w':World}
def Row(w:World)(g:Nat)(e:TypeId)(l:List Value):Prop:=∃f:Nat×Nat,w.heap[g]? =some (.cells l.toArray e f)/\(f=(0,0)∨l.length<=f.1)
theorem Row.mk(h:w.heap[g]? =some (.cells l.toArray e (0,0))):Row w g e l:=⟨_,h,Or.inl rfl⟩
theorem Row.cell(h:Row w g e l){j:Nat}{v:Value}(F:l[j]? =some v):w.cell? ⟨g,j,none⟩=some v:=by obtain⟨f,C,_⟩:=h;rw[cell_of_row w g j _ e f C];simpa using F
theorem Row.free(h:Row w g e l){j:Nat}(J:j<l.length):w.frozen? ⟨g,j,none⟩=false:=by obtain⟨f,F,C⟩:=h;simp[World.frozen?];grind
theorem Row.lt(h:Row w g e l):g<w.heap.size:=by obtain⟨f,C,_⟩:=h;grind
theorem Row.set(h:Row w g e l)(j:Nat)(v:Value):Row (w.setCell ⟨g,j,none⟩ v) g e (l.set j v):=by obtain⟨f,C,F⟩:=h;refine⟨f,?_,by simpa using F⟩;rw[setCell_eq_setRow w g j _ e f v C];have:=setRow_heap w g _ (l.toArray.setIfInBounds j v) e f C;simp_all
theorem Row.other(h:Row w g e l){p:Addr}(J:g≠p.block)(v:Value):Row (w.setCell p v) g e l:=by obtain⟨f,F,C⟩:=h;exact⟨f,by rw[Below.heap_setCell w p v g J];exact F,C⟩
theorem Row.drew(h:Row w g e l):Row w.drew g e l:=h
theorem Row.drewN(h:Row w g e l)(n:Nat):Row (w.drewN n) g e l:=h
theorem Row.alloc(h:Row w g e l)(o:Obj):Row (w.alloc o) g e l:=by have hl:=h.lt;obtain⟨f,F,C⟩:=h;exact⟨f,by rw[Below.heap_alloc w o g hl];exact F,C⟩
theorem Row.new(w:World)(e:TypeId)(l:List Value):Row (w.alloc (.cells l.toArray e)) w.heap.size e l:=⟨_,heap_alloc_new _ _,Or.inl rfl⟩
theorem Row.below{B:Nat}(h:Row w g e l)(C:Below B w w')(J:g<B):Row w' g e l:=by obtain⟨f,hh,F⟩:=h;exact⟨f,(C.block g J).trans hh,F⟩
theorem Row.after(h:Row w g e l)(C:Below w.heap.size w w'):Row w' g e l:=h.below C h.lt
def Z3(l:List UInt8):List Value:=l.map λu=>.int .u8 (u.toNat:Int)
theorem Zj(l:List UInt8):(Z3 l).length=l.length:=by simp[Z3]
theorem YV(l:List UInt8)(j:Nat)(h:j<l.length):(Z3 l)[j]? =some (.int .u8 (l[j].toNat:Int)):=by simp[Z3,h]
theorem XM(a b:List UInt8):Z3 (a++b)=Z3 a++Z3 b:=by simp[Z3]
theorem Bc(l:List UInt8)(n:Nat):(Z3 l).take n=Z3 (l.take n):=by simp[Z3,List.map_take]
theorem Bb(l:List UInt8)(n:Nat):(Z3 l).drop n=Z3 (l.drop n):=by simp[Z3,List.map_drop]
theorem DV(l:List UInt8)(n:Nat)(u:UInt8):(Z3 l).set n (.int .u8 (u.toNat:Int))=Z3 (l.set n u):=by simp[Z3,List.map_set]
section
variable{P:Program}
theorem ET(F:o.guard=none){v:Value}(C:(execOp a.eval o).run P w=.ok (.value v) w')(h:wpList P ops Q rest (a.put o.dst v) w'):wpList P ops Q (o::rest) a w:=wpList_plain F λ_ hK=>by unfold Oper.wp;rw[C];exact hK _ _ h
theorem Cx(F:o.guard=none)(src dst e:TypeId)(x:Operand)(U:o.op=.convert src dst x)(s:ByteArray)(hx:a.eval x=.string s)(hs:P.underlying src=some .string)(C:P.underlying dst=some (.slice e))(he:P.underlying e=some (.int .u8))(h:∀ (g cap:Nat) (r:List Value) (w1:World),w.heap.size<=g->Row w1 g e (Z3 s.data.toList++r)->s.size+r.length=cap->Below w.heap.size w w1-> wpList P ops Q rest (a.put o.dst (.slice (some ⟨g,0,none⟩) s.size cap)) w1):wpList P ops Q (o::rest) a w:=by
 have J:=run_bytes_of_string (P:=P) w src dst e s hs C he;generalize M:grownCap w s.size 0 e=cap at J;have O:=grownCap_ge w s.size 0 e;refine ET (w':=(w.drew.alloc (.cells (bytesRow s cap) e ((bytesRow s cap).size,(bytesRow s cap).size+1)))) F ?_ (h w.heap.size cap (List.replicate (cap-s.size) (Value.int .u8 0)) _ Z5D ?_ ?_ ?_)
 .unfold execOp;simp_all
 .have e1:bytesRow s cap=(Z3 s.data.toList++List.replicate (cap-s.size) (Value.int .u8 0)).toArray:=by simp[bytesRow,Z3]
  refine⟨((bytesRow s cap).size,(bytesRow s cap).size+1),?_,Or.inr ?_⟩
  .rw[<-e1];exact heap_alloc_new w.drew _
  .simp_all
 .simp_all
 .exact(Z5E.drew).alloc (by simp) _
theorem Qo(w:World)(src dst e:TypeId)(hs:P.underlying src=some (.slice e))(he:P.underlying e=some (.int .u8))(C:P.underlying dst=some .string){g:Nat}{L:List Value}(h:Row w g e L)(off n cap:Nat)(l:List UInt8)(J:l.length=n)(hl:(L.drop off).take n=Z3 l):(convert src dst (.slice (some ⟨g,off,none⟩) n cap)).run P w=.ok (.string ⟨l.toArray⟩) w:=by
 subst J;refine run_convert_bytes_back w src dst e ⟨g,off,none⟩ cap l hs he C λj F=> ?_;have e1:(⟨g,off,none⟩:Addr).add j=⟨g,off+j,none⟩:=by unfold Addr.add;split<;>simp_all
 rw[e1];apply h.cell;have e2:((L.drop off).take l.length)[j]? =L[off+j]?:=by grind
 rw[<-e2,hl,YV l j F]
end
theorem Aw(t:ByteArray)(k:Nat)(h:k<t.size)(C:k<t.data.toList.length):t.data.toList[k]=t[k]:=by rfl
theorem XJ{P:Program}{f:FuncId}{args:Array Value}{v:Value}(h:Calls P f args w λe w'=>e=.returned v/\w=w'):Calls P f args w λe w'=>e=.returned v/\w'=w:=h.mono λ_ _ ⟨he,hw⟩=>⟨he,hw.symm⟩
end
section
open Go.RowKit Go.Extern.Stop Go.Stop Go.Extern
theorem Z1h(c:Int)(w:World):(Extern.ReflectliteType.typeOf #[.iface 54 (.int .i64 c)]).run prog w=.ok (.iface 184 (.agg #[.pointer (some ⟨2,54,none⟩)])) w:=by kernel_rfl
theorem Nx (w : World) : ((Extern.ReflectliteType.method fun t => do Go.Extern.Rtype.noPackHeld "Comparable" t; pure (.bool (← typeInfo t).comparable)) #[.agg #[.pointer (some ⟨2, 54, none⟩)]]).run prog w = .ok (.bool true) w := by kernel_rfl
theorem SJ(args:Array Value)(w:World):(callFunc 50 args).run prog w=((Extern.ReflectliteType.typeOf args).run prog w).andThen λv w'=>.ok (.value v) w':=@run_callFunc_extern prog 50 _ Extern.ReflectliteType.typeOf func50 (by kernel_rfl) (by kernel_rfl) (by kernel_rfl) (by kernel_rfl) args w
theorem Dy(w:World):(callFunc 309 #[.agg #[.pointer (some ⟨2,54,none⟩)]]).run prog w=.ok (.value (.bool true)) w:=by
 rw [@run_callFunc_extern prog 309 _ (Extern.ReflectliteType.method fun t => do Go.Extern.Rtype.noPackHeld "Comparable" t; pure (.bool (← typeInfo t).comparable)) func309 (by kernel_rfl) (by kernel_rfl) (by kernel_rfl) (by kernel_rfl), Nx]
 rfl
theorem MZ(c:Int)(w:World):(callFunc 50 #[.iface 54 (.int .i64 c)]).run prog w=.ok (.value (.iface 184 (.agg #[.pointer (some ⟨2,54,none⟩)]))) w:=by rw[SJ,Z1h];rfl
theorem Cn (v : Value) (w : World) : (Go.method 483 184 v "Comparable").run prog w = .ok (309, v) w := by kernel_rfl
theorem NJ (a : Addr) (w : World) : (Go.method 483 139 (.pointer (some a)) "Is").run prog w = .ok (304, .pointer (some a)) w := by kernel_rfl
theorem GM(c:Int)(h:TypeId)(w:World):(Instr.typeAssert (.iface 54 (.int .i64 c)) h 54 true).run prog w=.ok (.tuple #[.int .i64 c,.bool true]) w:=by kernel_rfl
theorem Z38(a:Addr)(c:Int)(w:World)(hc:w.cell? a=some (.int .i64 c)):Calls prog 304 #[.pointer (some a),.iface 54 (.int .i64 c)] w λe w'=>e=.returned (.bool true)/\w=w':=by have h:=GM;go_enter func304,ntmps304;go_wp2;go_ret;simp
theorem Z2F(v:Value)(h:TypeId)(w:World):(Instr.typeAssert (.iface 139 v) h 186 true).run prog w=.ok (.tuple #[.iface 139 v,.bool true]) w:=run_typeAssert_hasB underlying186 (by kernel_rfl) v h w
theorem Z0T(b:Nat)(c:Int)(w:World)(hc:w.cell? ⟨b,0,none⟩=some (.int .i64 c)):Calls prog 51 #[.iface 139 (.pointer (some ⟨b,0,none⟩)),.iface 54 (.int .i64 c),.bool true] w λe w'=>e=.returned (.bool true)/\w=w':=by have F:=Z2F;have C:=NJ;have h:=λv1 v2 (W:World)=>run_eql_iface_types (P:=prog) 139 54 v1 v2 underlying31 (by simp) W;go_enter func51,ntmps51;go_wp2_with fail;refine wp_loop_rounds 1 ?_;rw[rounds_succ];go_wp2_with (go_at_call 304;refine(Z38 _ _ _ hc).mono ?_;rintro e w' ⟨rfl,rfl⟩);go_ret;simp
theorem Z0S(b:Nat)(c:Int)(w:World)(hc:w.cell? ⟨b,0,none⟩=some (.int .i64 c)):Calls prog 19 #[.iface 139 (.pointer (some ⟨b,0,none⟩)),.iface 54 (.int .i64 c)] w λe w'=>e=.returned (.bool true)/\w=w':=by have h:=MZ;have C:=Dy;have F:=Cn;go_enter func19,ntmps19;go_wp2_with (go_at_call 51;refine(Z0T _ _ _ hc).mono ?_;rintro e w' ⟨rfl,rfl⟩);go_ret;exact⟨rfl,rfl⟩
end
section
open Go.RowKit
variable{L L':List Nat}{a b w w':World}{base g n size:Nat}{e e':TypeId}{l xs:List Value}{v:Value}
structure Fr(L:List Nat)(w w':World):Prop where
 os:w'.os=w.os
 tape:w'.tape=w.tape
 output:w'.output=w.output
 size:w.heap.size<=w'.heap.size
 block:∀k,k<w.heap.size->k∉L->w'.heap[k]? =w.heap[k]?
theorem Fr.refl(L:List Nat)(w:World):Fr L w w:=⟨rfl,rfl,rfl,Z5D,λ_ _ _=>rfl⟩
theorem Fr.trans{c:World}(h:Fr L a b)(k:Fr L' b c)(F:∀i,i∈L'->i<a.heap.size->i∈L):Fr L a c:=
 ⟨k.os.trans h.os,k.tape.trans h.tape,k.output.trans h.output,Z5w h.size k.size,λi hi C=>
  (k.block i (Z5v hi h.size) (λhm=>C (F i hm hi))).trans (h.block i hi C)⟩
theorem Fr.mono(h:Fr L a b)(C:∀i,i∈L->i<a.heap.size->i∈L'):Fr L' a b:=⟨h.os,h.tape,h.output,h.size,λi hi F=>h.block i hi (λhm=>F (C i hm hi))⟩
theorem Fr.of_below(h:Below w.heap.size w w'):Fr L w w':=⟨h.os,h.tape,h.output,h.size,λk C _=>h.block k C⟩
theorem Fr.below{B:Nat}(h:Fr L w w')(hB:B<=w.heap.size)(C:∀i,i∈L->B<=i):Below B w w':=⟨h.os,h.tape,h.output,h.size,λk F=>h.block k (by omega) (λhm=>by have:=C k hm;omega)⟩
theorem Fr.nil_below(h:Fr [] w w'):Below w.heap.size w w':=h.below Z5D (λi hi=>by simp at hi)
theorem Fr.drew(h:Fr L a w):Fr L a w.drew:=⟨h.os,h.tape,h.output,h.size,h.block⟩
theorem Fr.alloc(h:Fr L a w)(o:Obj):Fr L a (w.alloc o):=⟨h.os,h.tape,h.output,Z5w h.size (by simp),λk C F=>(Below.heap_alloc w o k (Z5v C h.size)).trans (h.block k C F)⟩
theorem Fr.setCell(h:Fr L a w){p:Addr}(C:p.block∈L∨a.heap.size<=p.block)(v:Value):Fr L a (w.setCell p v):=
 ⟨h.os,h.tape,h.output,Z5w h.size (by simp[World.setCell]),λk J F=>
  (Below.heap_setCell w p v k (by rintro rfl;rcases C with C|C;exact F C;omega)).trans (h.block k J F)⟩
theorem Fr.setRow(h:Fr L a w){g:Nat}(C:g∈L∨a.heap.size<=g)(cs:Array Value):Fr L a (w.setRow g cs):=
 ⟨h.os,h.tape,h.output,Z5w h.size (by simp),λk J F=>
  (setRow_other w g k cs (by rintro rfl;rcases C with C|C;exact F C;omega)).trans (h.block k J F)⟩
theorem Fr.grown{row:Option Nat}(h:Fr L a w)(C:w.grownBy w' row)(M:∀k,row=some k->k∈L∨a.heap.size<=k):Fr L a w':=
 ⟨C.os.trans h.os,C.tape.trans h.tape,C.output.trans h.output,Z5w h.size C.size,λk F J=>
  (C.block k (Z5v F h.size) (λe=>by rcases M k e.symm with hp|hp;exact J hp;omega)).trans (h.block k F J)⟩
theorem Row.fr(h:Row w g e l){L:List Nat}(F:Fr L w w')(J:g∉L):Row w' g e l:=by have hl:=h.lt;obtain⟨f,hh,C⟩:=h;exact⟨f,(F.block g hl J).trans hh,C⟩
theorem Qa(h:w.ownsRow base e size v n xs){L:List Nat}(O:Fr L w w')(U:∀g,v.ownBlock=some g->g∉L):w'.ownsRow base e size v n xs:=by
 obtain⟨J,C⟩:=h;refine⟨J,?_⟩;rcases C with C|⟨g,cap,cur,hv,M,hh,r⟩
 .simp_all
 .have F:g<w.heap.size:=(Z5l.1 hh).1;exact Or.inr ⟨g,cap,cur,hv,M,(O.block g F (U g (by rw[hv];rfl))).trans hh,r⟩
theorem Row.ne{C:Nat}{l':List Value}(h:Row w g e l)(F:Row w C e' l')(he:e≠e'):g≠C:=by rintro rfl;obtain⟨f,hh,_⟩:=h;obtain⟨f',J,_⟩:=F;simp_all
theorem Row.ne_own(h:Row w g e l)(C:w.ownsRow base e' size v n xs)(he:e≠e'):v.ownBlock≠some g:=by
 intro e1;rcases C.2 with ⟨hv,_⟩|⟨F,cap,cur,hv,_,hh,_⟩
 .rw[hv] at e1;cases e1
 .rw[hv] at e1;simp[Value.ownBlock] at e1;obtain⟨f,J,_⟩:=h;simp_all
theorem XC(h:w.ownsRow base e size v n xs){g:Nat}(C:v.ownBlock=some g){j:Nat}{u:Value}(F:xs[j]? =some u):w.cell? ⟨g,j,none⟩=some u:=by
 have:=h.cells C j u F;have e1:(⟨g,0,none⟩:Addr).add j=⟨g,j,none⟩:=by unfold Addr.add;split<;>simp_all
 simp_all
def ZD(w:World)(g:Nat)(e:TypeId)(l:List Value):Prop:=w.heap[g]? =some (.cells l.toArray e (0,0))
theorem ZD.row(h:ZD w g e l):Row w g e l:=Row.mk h
theorem ZD.fr(h:ZD w g e l){L:List Nat}(C:Fr L w w')(F:g∉L):ZD w' g e l:=(C.block g h.row.lt F).trans h
theorem ZD.new(w:World)(e:TypeId)(l:List Value):ZD (w.alloc (.cells l.toArray e)) w.heap.size e l:=heap_alloc_new _ _
theorem ZD.set(h:ZD w g e l)(j:Nat)(v:Value):ZD (w.setCell ⟨g,j,none⟩ v) g e (l.set j v):=by have:=heap_setCell_same w g j _ e v h;unfold ZD;rw[this];simp
theorem ZD.setRow(h:ZD w g e l)(l':List Value):ZD (w.setRow g l'.toArray) g e l':=setRow_heap w g _ _ e (0,0) h
section
variable{P:Program}
theorem WF(T E:TypeId)(i0:TypeInfo)(C:P.underlying T=some (.slice E))(hi:P.info? E=some i0)(F:i0.zero=some (.int .u8 0))(hs:i0.size=1)(O:i0.bytes=1)(n:Nat)(U:n<=140737488355328)(W:World):(Instr.makeSlice T (.int .i64 (n:Int)) (.int .i64 (n:Int))).run P W=.ok (.slice (some ⟨W.heap.size,0,none⟩) n n) (W.alloc (.cells (Z3 (List.replicate n 0)).toArray E)):=by
 have h:=run_make (P:=P) W T E i0 (.int .u8 0) C hi F .i64 .i64 (n:Int) (n:Int) (by omega) (by omega) (by grind) (by omega);have e:madeCells (Value.int .u8 0).cells (((n:Nat):Int).toNat*i0.size)=(Z3 (List.replicate n 0)).toArray:=by
  rw[hs,Int.toNat_natCast,Nat.mul_one];apply Array.ext
  .simp[madeCells,Z3]
  .intro i J M;simp[madeCells,Z3,Value.cells,Nat.mod_one]
 simp_all
end
end
section
open Go.RowKit Go.Extern.Stop Go.Stop Go.Extern
variable{B B':Nat}{c:Int}{v:Value}{w w':World}
def W5(w:World)(B:Nat)(c:Int):Nat->Value->Prop
 |0,_=>False
 |n+1,v=>∃ (b:Nat) (at_:Int) (inner:Value),v=.iface 139 (.pointer (some ⟨b,0,none⟩))/\B<=b/\Row w b 141 [.int .i64 c,.int .i64 at_,inner]/\(inner=.nilIface∨W5 w B c n inner)
theorem W5.below{B':Nat}(C:Below w.heap.size w w'):∀{n:Nat} {v:Value},W5 w B c n v->W5 w' B c n v
 |0,_,h=>h
 |n+1,v,⟨b,at_,inner,hv,hB,hr,hi⟩=>⟨b,at_,inner,hv,hB,hr.after C,hi.imp id (λh=>W5.below (B':=B') C h)⟩
theorem W5.base(hB:B'<=B):∀{n:Nat} {v:Value},W5 w B c n v->W5 w B' c n v
 |0,_,h=>h
 |n+1,v,⟨b,at_,inner,hv,hb,hr,hi⟩=>⟨b,at_,inner,hv,by omega,hr,hi.imp id (λh=>W5.base hB h)⟩
def Zk(w:World)(B:Nat)(c:Int)(v:Value):Prop:=(c=0/\v=.nilIface)∨(c≠0/\∃n,W5 w B c n v)
theorem Zk.nil(w:World)(B:Nat):Zk w B 0 .nilIface:=Or.inl ⟨rfl,rfl⟩
theorem Zk.after(h:Zk w B c v)(C:Below w.heap.size w w'):Zk w' B c v:=h.imp id λ⟨hc,n,F⟩=>⟨hc,n,F.below (B':=0) C⟩
theorem Zk.base(h:Zk w B c v)(hB:B'<=B):Zk w B' c v:=h.imp id λ⟨hc,n,C⟩=>⟨hc,n,C.base hB⟩
theorem IW(a:Addr)(c t:Int)(w:World)(hc:w.cell? a=some (.int .i64 c))(h:(t==c)=false):Calls prog 304 #[.pointer (some a),.iface 54 (.int .i64 t)] w λe w'=>e=.returned (.bool false)/\w=w':=by have C:=GM;go_enter func304,ntmps304;go_wp2;go_ret;simp
theorem Kw(b:Nat)(v:Value)(w:World)(hc:w.cell? ⟨b,2,none⟩=some v):Calls prog 305 #[.pointer (some ⟨b,0,none⟩)] w λe w'=>e=.returned v/\w=w':=by go_enter func305,ntmps305;go_wp2;go_ret;simp
theorem Vl(v:Value)(h:TypeId)(w:World):(Instr.typeAssert (.iface 139 v) h 189 true).run prog w=.ok (.tuple #[.iface 139 v,.bool true]) w:=run_typeAssert_hasB underlying189 (by kernel_rfl) v h w
theorem NK (a : Addr) (w : World) : (Go.method 483 139 (.pointer (some a)) "Unwrap").run prog w = .ok (305, .pointer (some a)) w := by kernel_rfl
theorem Po(n B:Nat)(c t:Int)(v:Value)(w:World)(h:W5 w B c n v)(C:t≠c):Calls prog 51 #[v,.iface 54 (.int .i64 t),.bool true] w λe w'=>e=.returned (.bool false)/\w=w':=by
 have hI:=Z2F;have hU:=Vl;have Z:=NJ;have h5:=NK;have O:=λv1 v2 (W:World)=>run_eql_iface_types (P:=prog) 139 54 v1 v2 underlying31 (by decide) W;have F:(t==c)=false:=by simpa using C
 have U:=Z5F C;clear C;go_enter func51,ntmps51;go_wp2_with fail;go_loopg [0] n (λk v wr=>wr=w/\W5 w B c k v)
 case atStart=>exact⟨rfl,h⟩
 case round=>
  obtain⟨rfl,M⟩:=hrel
  match gk,M with
  |gk+1,⟨b,at_,inner,hv,hB,hr,hi⟩=>
   subst hv;have c0:=hr.cell (j:=0) rfl;have c2:=hr.cell (j:=2) rfl;rcases hi with rfl|hi
   .go_wp2_with (first|(go_at_call 304;refine(IW _ c t _ c0 F).mono ?_;rintro e w' ⟨rfl,rfl⟩)|(go_at_call 305;refine(Kw _ .nilIface _ c2).mono ?_;rintro e w' ⟨rfl,rfl⟩));go_ret;exact⟨rfl,rfl⟩
   .obtain⟨q,rfl⟩:∃q,inner=.iface 139 q:=by
     match gk,hi with
     |gk+1,⟨_,_,_,hv,_⟩=>exact⟨_,hv⟩
    have J:=Z5F hi;clear hi;go_wp2_with (first|(go_at_call 304;refine(IW _ c t _ c0 F).mono ?_;rintro e w' ⟨rfl,rfl⟩)|(go_at_call 305;refine(Kw _ _ _ c2).mono ?_;rintro e w' ⟨rfl,rfl⟩));go_roundg gk
    case rel=>exact⟨rfl,J.out⟩
    case measure=>omega
theorem Pn(n B:Nat)(c t:Int)(v:Value)(w:World)(h:W5 w B c n v)(C:t≠c):Calls prog 19 #[v,.iface 54 (.int .i64 t)] w λe w'=>e=.returned (.bool false)/\w=w':=by
 have J:=MZ;have M:=Dy;have O:=Cn;obtain⟨q,rfl⟩:∃q,v=.iface 139 q:=by
  match n,h with
  |n+1,⟨_,_,_,hv,_⟩=>exact⟨_,hv⟩
 have F:=Z5F C;clear C;have H:=Z5F h;clear h;go_enter func19,ntmps19;go_wp2_with (go_at_call 51;refine(Po n B c t _ _ H.out F.out).mono ?_;rintro e w' ⟨rfl,rfl⟩);go_ret;exact⟨rfl,rfl⟩
theorem Fw(t:Int)(w:World):Calls prog 19 #[.nilIface,.iface 54 (.int .i64 t)] w λe w'=>e=.returned (.bool false)/\w=w':=by
 have h:∀W,(binOp .eql 31 .nilIface (.iface 54 (.int .i64 t))).run prog W=.ok (.bool false) W:=λ_=>by kernel_rfl
 go_enter func19,ntmps19;go_wp2;go_ret;simp
theorem QJ(B:Nat)(c t:Int)(v:Value)(w:World)(h:Zk w B c v)(F:t≠0):Calls prog 19 #[v,.iface 54 (.int .i64 t)] w λe w'=>e=.returned (.bool (c==t))/\w=w':=by
 rcases h with ⟨rfl,rfl⟩|⟨hc,n,C⟩
 .refine(Fw t w).mono ?_;grind
 .by_cases e:t=c
  .subst e
   match n,C with
   |n+1,⟨b,at_,inner,hv,hB,hr,hi⟩=>subst hv;refine(Z0S b t w (hr.cell (j:=0) rfl)).mono ?_;simp
  .refine(Pn n B c t v w C e).mono ?_;grind
end
section
open Go.RowKit Go.Extern.Stop Go.Stop Go.Extern
variable{w:World}
theorem MS(t:Value)(w:World):Calls prog 102 #[.nilIface,t] w λe w'=>e=.returned (.bool false)/\w'=w:=by go_enter func102,ntmps102;go_wp2;go_ret;simp
theorem Mo(t:Addr)(w:World):(ReflectliteValue.unpack (.iface 182 (.pointer (some t)))).run prog w =.ok (.agg #[.pointer (some ⟨2,182,none⟩),.pointer (some ⟨w.heap.size,0,none⟩),.int .u64 150]) (w.alloc (.cells #[.pointer (some t)] 182)):=by kernel_rfl
theorem Sw (a : Addr) (w : World) : (ReflectliteValue.methodAny (ReflectliteValue.valueError "reflectlite.Value.Type" 0) (fun t _ _ _ => ReflectliteType.toType t) #[.agg #[.pointer (some ⟨2, 182, none⟩), .pointer (some a), .int .u64 150]]).run prog w
  =.ok (.iface 184 (.agg #[.pointer (some ⟨2,182,none⟩)])) w:=by kernel_rfl
theorem KK (h : Value) (w : World) : (Go.method 483 184 (.agg #[h]) "Kind").run prog w = .ok (297, h) w := by kernel_rfl
theorem Sv(w:World):((ReflectliteType.abiMethod λt=>(λa:Nat=>Value.int IntKind.u8 (a:Int))<$>Rtype.kind t) #[.pointer (some ⟨2,182,none⟩)]).run prog w=.ok (.int .u8 22) w:=by kernel_rfl
theorem Su(w:World):((ReflectliteType.abiMethod λt=>(λa:Nat=>Value.int IntKind.u8 (a:Int))<$>Rtype.kind t) #[.pointer (some ⟨2,139,none⟩)]).run prog w=.ok (.int .u8 22) w:=by kernel_rfl
theorem UG(z:Sem Value)(f:TypeId->Addr->Nat->Nat->Sem Value)(v:Value):
  ReflectliteValue.method z f #[v]=(do match<-ReflectliteValue.parts v with|none=>z|some (t,a,fl)=>f t a fl (fl%32)):=rfl
theorem GL(a:Addr)(w:World):(ReflectliteValue.parts (.agg #[.pointer (some ⟨2,182,none⟩),.pointer (some a),.int .u64 150])).run prog w=.ok (some (182,a,150)) w:=by kernel_rfl
theorem P0(a p:Addr)(W:World)(ha:W.cell? a=some (.pointer (some p))):(ReflectliteValue.method (ReflectliteValue.valueError "reflectlite.Value.IsNil" 0) ReflectliteValue.isNil #[.agg #[.pointer (some ⟨2, 182, none⟩), .pointer (some a), .int .u64 150]]).run prog W = .ok (.bool false) W := by
 rw[UG];simp[GL];simp[ReflectliteValue.isNil,loadVar,ha]
theorem KJ (h : Value) (w : World) : (Go.method 483 184 (.agg #[h]) "Elem").run prog w = .ok (310, .agg #[h]) w := by kernel_rfl
theorem DU (h : Value) (w : World) : (Go.method 483 184 (.agg #[h]) "Implements").run prog w = .ok (311, .agg #[h]) w := by kernel_rfl
theorem Dc (h : Value) (w : World) : (Go.method 483 184 (.agg #[h]) "AssignableTo").run prog w = .ok (308, .agg #[h]) w := by kernel_rfl
theorem Sr(w:World):(ReflectliteType.method ReflectliteType.elem #[.agg #[.pointer (some ⟨2,182,none⟩)]]).run prog w=.ok (.iface 184 (.agg #[.pointer (some ⟨2,139,none⟩)])) w:=by kernel_rfl
theorem Hw (w : World) : (ReflectliteType.relation "Implements" ReflectliteType.implements_ #[.agg #[.pointer (some ⟨2, 139, none⟩)], .iface 184 (.agg #[.pointer (some ⟨2, 31, none⟩)])]).run prog w = .ok (.bool true) w := by kernel_rfl
theorem MQ(v:Value)(w:World):(ReflectliteType.typeOf #[.iface 139 v]).run prog w=.ok (.iface 184 (.agg #[.pointer (some ⟨2,139,none⟩)])) w:=by kernel_rfl
theorem Hv (w : World) : (ReflectliteType.relation "AssignableTo" ReflectliteType.assignableTo #[.agg #[.pointer (some ⟨2, 139, none⟩)], .iface 184 (.agg #[.pointer (some ⟨2, 139, none⟩)])]).run prog w = .ok (.bool true) w := by kernel_rfl
theorem Mn(e:Addr)(w:World):(ReflectliteValue.unpack (.iface 139 (.pointer (some e)))).run prog w =.ok (.agg #[.pointer (some ⟨2,139,none⟩),.pointer (some ⟨w.heap.size,0,none⟩),.int .u64 150]) (w.alloc (.cells #[.pointer (some e)] 139)):=by kernel_rfl
theorem MO(w:World):(Rtype.elem? 182).run prog w=.ok (some 139) w:=by kernel_rfl
theorem Z0B(p:Addr)(w:World):(ReflectliteValue.mk 139 p ReflectliteValue.flagAddr).run prog w=.ok (.agg #[.pointer (some ⟨2,139,none⟩),.pointer (some p),.int .u64 406]) w:=by kernel_rfl
theorem OZ(a p:Addr)(W:World)(ha:W.cell? a=some (.pointer (some p))):
  (ReflectliteValue.method (ReflectliteValue.valueError "reflectlite.Value.Elem" 0) ReflectliteValue.elem #[.agg #[.pointer (some ⟨2, 182, none⟩), .pointer (some a), .int .u64 150]]).run prog W
   =.ok (.agg #[.pointer (some ⟨2,139,none⟩),.pointer (some p),.int .u64 406]) W:=by
 rw[UG]
 simp[GL]
 simp[ReflectliteValue.elem,loadVar,ha,MO,Z0B]
theorem Z4j(v x:Value):ReflectliteValue.set #[v,x]=(do
  let (some (dst,a,fl),some (src,b,_)):=(<-ReflectliteValue.parts v,<-ReflectliteValue.parts x)
   | unsupported (.noEntry "extern/(internal/reflectlite.Value).Set.zeroValue")
  if fl / ReflectliteValue.flagAddr % 2 == 0 then unsupported (.noEntry "extern/(internal/reflectlite.Value).Set.unaddressable")
  let val<-loadVar src b
  if<-Rtype.directlyAssignable dst src then storeVar dst a val
  else if<-Rtype.implements dst src then
   if(<-Rtype.kind src)==20 then
    match val with
    | .nilIface => unsupported (.noEntry "extern/reflectlite: a nil value of one interface type handed on as a value of another")
    |_=>storeVar dst a val
   else storeVar dst a (.iface src val)
  else panicString ("reflectlite.Set: value of type " ++ (← Rtype.spelt src) ++ " is not assignable to type " ++ (← Rtype.spelt dst))
  pure (.tuple #[])):=rfl
theorem MP(a:Addr)(w:World):(ReflectliteValue.parts (.agg #[.pointer (some ⟨2,139,none⟩),.pointer (some a),.int .u64 406])).run prog w=.ok (some (139,a,406)) w:=by kernel_rfl
theorem P6(a:Addr)(w:World):(ReflectliteValue.parts (.agg #[.pointer (some ⟨2,139,none⟩),.pointer (some a),.int .u64 150])).run prog w=.ok (some (139,a,150)) w:=by kernel_rfl
theorem MN(w:World):(Rtype.directlyAssignable 139 139).run prog w=.ok true w:=by kernel_rfl
theorem UF(ta b e:Addr)(old:Value)(W:World)(h:W.cell? b=some (.pointer (some e)))(F:W.cell? ta=some old)(C:W.frozen? ta=false):(ReflectliteValue.set #[.agg #[.pointer (some ⟨2,139,none⟩),.pointer (some ta),.int .u64 406],.agg #[.pointer (some ⟨2,139,none⟩),.pointer (some b),.int .u64 150]]).run prog W =.ok (.tuple #[]) (W.setCell ta (.pointer (some e))):=by rw[Z4j];simp[MP,P6];simp[ReflectliteValue.flagAddr,loadVar,isAgg,underlying,underlying139,h,Result.andThen,MN,storeVar,Value.cells,storeCells,Addr.add];rw[run_store prog W ta _ _ (by rfl)];simp_all
theorem Z4i(e t:Addr)(old:Value)(w:World)(J:w.cell? ⟨0,0,none⟩=some (.iface 184 (.agg #[.pointer (some ⟨2,31,none⟩)])))(C:w.cell? t=some old)(M:w.frozen? t=false):Calls prog 102 #[.iface 139 (.pointer (some e)),.iface 182 (.pointer (some t))] w λev w'=>ev=.returned (.bool true)/\w'=((((w.alloc (.cells #[.pointer (some t)] 182)).alloc (.cells #[.pointer (some ⟨2,182,none⟩),.pointer (some ⟨w.heap.size,0,none⟩),.int .u64 150] 239)).alloc (.cells #[.pointer (some ⟨2,182,none⟩),.pointer (some ⟨w.heap.size,0,none⟩),.int .u64 150] 239)).alloc (.cells #[.pointer (some e)] 139)).setCell t (.pointer (some e)):=by
 have h6:= @run_callFunc_extern prog 145 _ (λargs=>ReflectliteValue.unpack (args.getD 0 (.tuple #[]))) func145 (by kernel_rfl) (by kernel_rfl) (by kernel_rfl) (by kernel_rfl)
 have h7 := @run_callFunc_extern prog 146 _ (ReflectliteValue.methodAny (ReflectliteValue.valueError "reflectlite.Value.Type" 0) (fun t _ _ _ => ReflectliteType.toType t)) func146 (by kernel_rfl) (by kernel_rfl) (by kernel_rfl) (by kernel_rfl)
 have h8 := @run_callFunc_extern prog 147 _ (ReflectliteValue.method (ReflectliteValue.valueError "reflectlite.Value.IsNil" 0) ReflectliteValue.isNil) func147 (by kernel_rfl) (by kernel_rfl) (by kernel_rfl) (by kernel_rfl)
 have ag:= @run_callFunc_extern prog 297 _ (ReflectliteType.abiMethod λt=>do pure (.int .u8 (<-Rtype.kind t))) func297 (by kernel_rfl) (by kernel_rfl) (by kernel_rfl) (by kernel_rfl);have ai:= @run_callFunc_extern prog 310 _ (ReflectliteType.method ReflectliteType.elem) func310 (by kernel_rfl) (by kernel_rfl) (by kernel_rfl) (by kernel_rfl)
 have aj := @run_callFunc_extern prog 311 _ (ReflectliteType.relation "Implements" ReflectliteType.implements_) func311 (by kernel_rfl) (by kernel_rfl) (by kernel_rfl) (by kernel_rfl)
 have Z:= @run_callFunc_extern prog 50 _ ReflectliteType.typeOf func50 (by kernel_rfl) (by kernel_rfl) (by kernel_rfl) (by kernel_rfl)
 have ah := @run_callFunc_extern prog 308 _ (ReflectliteType.relation "AssignableTo" ReflectliteType.assignableTo) func308 (by kernel_rfl) (by kernel_rfl) (by kernel_rfl) (by kernel_rfl)
 have ae := @run_callFunc_extern prog 210 _ (ReflectliteValue.method (ReflectliteValue.valueError "reflectlite.Value.Elem" 0) ReflectliteValue.elem) func210 (by kernel_rfl) (by kernel_rfl) (by kernel_rfl) (by kernel_rfl)
 have af:= @run_callFunc_extern prog 211 _ ReflectliteValue.set func211 (by kernel_rfl) (by kernel_rfl) (by kernel_rfl) (by kernel_rfl);have tO:=MQ;have mA:=Dc;have a25:=Hv;have v25:=Mn;have f6:=Mo;have f7:=Sw;have mK:=KK;have mE:=KJ;have mI:=DU;have au:=Sv;have aq:=Su;have U:=Sr;have al:=Hw;have n8:=P0 ⟨w.heap.size,0,none⟩ t ((w.alloc (.cells #[.pointer (some t)] 182)).alloc (.cells #[.pointer (some ⟨2,182,none⟩),.pointer (some ⟨w.heap.size,0,none⟩),.int .u64 150] 239)) (by simp);have O:0<w.heap.size:=by
  rcases Nat.lt_or_ge 0 w.heap.size with h|h
  .exact h
  .simp[World.cell?,Array.getElem?_eq_none h] at J
 have ak:((w.alloc (.cells #[.pointer (some t)] 182)).alloc (.cells #[.pointer (some ⟨2,182,none⟩),.pointer (some ⟨w.heap.size,0,none⟩),.int .u64 150] 239)).cell? ⟨0,0,none⟩=some (.iface 184 (.agg #[.pointer (some ⟨2,31,none⟩)])):=by rw[World.cell?_alloc_lt _ _ ⟨0,0,none⟩ (by simp<;>omega),World.cell?_alloc_lt _ _ ⟨0,0,none⟩ O];exact J
 have F:t.block<w.heap.size:=by
  rcases Nat.lt_or_ge t.block w.heap.size with h|h
  .exact h
  .simp[World.cell?,Array.getElem?_eq_none h] at C
 have el:=OZ ⟨w.heap.size,0,none⟩ t (((w.alloc (.cells #[.pointer (some t)] 182)).alloc (.cells #[.pointer (some ⟨2,182,none⟩),.pointer (some ⟨w.heap.size,0,none⟩),.int .u64 150] 239)).alloc (.cells #[.pointer (some ⟨2,182,none⟩),.pointer (some ⟨w.heap.size,0,none⟩),.int .u64 150] 239)) (by rw[World.cell?_alloc_lt _ _ ⟨w.heap.size,0,none⟩ (by simp;omega)];simp);have st:=UF t ⟨w.heap.size+1+1+1,0,none⟩ e old ((((w.alloc (.cells #[.pointer (some t)] 182)).alloc (.cells #[.pointer (some ⟨2,182,none⟩),.pointer (some ⟨w.heap.size,0,none⟩),.int .u64 150] 239)).alloc (.cells #[.pointer (some ⟨2,182,none⟩),.pointer (some ⟨w.heap.size,0,none⟩),.int .u64 150] 239)).alloc (.cells #[.pointer (some e)] 139))
  (by rw[World.cell?_alloc_at _ _ _ _ (by simp)];rfl)
  (by rw[World.cell?_alloc_lt _ _ t (by simp;omega),World.cell?_alloc_lt _ _ t (by simp;omega),World.cell?_alloc_lt _ _ t (by simp;omega),World.cell?_alloc_lt _ _ t F];exact C)
  (by rw[World.frozen?_alloc_old _ _ t (by simp;omega),World.frozen?_alloc_old _ _ t (by simp;omega),World.frozen?_alloc_old _ _ t (by simp;omega),World.frozen?_alloc_old _ _ t (Nat.ne_of_lt F)];exact M)
 go_enter func102,ntmps102;go_wp2;refine wp_loop_rounds 1 ?_;rw[rounds_succ];go_wp2;go_ret;exact⟨rfl,rfl⟩
theorem MR(e t:Addr)(old:Value)(w:World)(M:w.cell? ⟨0,0,none⟩=some (.iface 184 (.agg #[.pointer (some ⟨2,31,none⟩)])))(C:w.cell? t=some old)(F:w.frozen? t=false):Calls prog 102 #[.iface 139 (.pointer (some e)),.iface 182 (.pointer (some t))] w λev w'=>ev=.returned (.bool true)/\w'.cell? t=some (.pointer (some e))/\Fr [t.block] w w':=by
 refine(Z4i e t old w M C F).mono ?_;rintro ev w' ⟨rfl,rfl⟩;have J:t.block<w.heap.size:=by
  rcases Nat.lt_or_ge t.block w.heap.size with h|h
  .omega
  .simp[World.cell?,Array.getElem?_eq_none h] at C
 refine⟨rfl,?_,(((((Fr.refl _ _).alloc _).alloc _).alloc _).alloc _).setCell (Or.inl (by simp)) _⟩;refine World.cell?_setCell_same' _ _ _ ?_;rw[World.cell?_alloc_lt _ _ t (by simp;omega),World.cell?_alloc_lt _ _ t (by simp;omega),World.cell?_alloc_lt _ _ t (by simp;omega),World.cell?_alloc_lt _ _ t J,C];rfl
def Ty(w:World):Prop:=w.cell? ⟨0,0,none⟩=some (.iface 184 (.agg #[.pointer (some ⟨2,31,none⟩)]))
theorem Ty.lt(h:Ty w):0<w.heap.size:=by
 rcases Nat.lt_or_ge 0 w.heap.size with h1|h1
 .omega
 .simp[Ty,World.cell?,Array.getElem?_eq_none h1] at h
theorem Ty.below{w':World}(h:Ty w)(C:Below w.heap.size w w'):Ty w':=by unfold Ty at h⊢;rw[<-h];exact C.cell (p:=⟨0,0,none⟩) (Ty.lt h)
end
section
open Go.RowKit
theorem AP(B:Nat)(c:Int)(v:Value)(w:World)(h:Zk w B c v)(ht:Ty w):Calls prog 151 #[v] w λe w'=>∃v',e=.returned v'/\Zk w' (min B w.heap.size) c v'/\Below w.heap.size w w':=by
 rcases h with ⟨rfl,rfl⟩|⟨hc,n,hn⟩
 .go_enter func151,ntmps151;go_wp2_with (go_at_call 102;refine(MS _ _).mono ?_;rintro e w' ⟨rfl,rfl⟩);go_ret;exact⟨_,rfl,Zk.nil _ _,Z5E.alloc Z5D _⟩
 .match n,hn with
  |n+1,⟨b,at_,inner,hv,hB,F,hi⟩=>subst hv;have c0:=F.cell (j:=0) rfl;have ah:=F.lt;have af:Ty (w.alloc (.cells #[.pointer none] 139)):=ht.below (Z5E.alloc Z5D _);have U:(w.alloc (.cells #[.pointer none] 139)).cell? ⟨w.heap.size,0,none⟩=some (.pointer none):=(by simp);have ae:(w.alloc (.cells #[.pointer none] 139)).frozen? ⟨w.heap.size,0,none⟩=false:=(by simp);have O:=Z5J F hi;clear F hi;go_enter func151,ntmps151;go_wp2_with fail;refine(MR _ _ (.pointer none) _ af U ae).mono ?_;rintro e w1 ⟨rfl,ag,Z⟩;have M:Fr [w.heap.size] w w1:=((Fr.refl _ w).alloc _).trans Z (by simp);have J:Below w.heap.size w w1:=M.below Z5D (by simp);have c1:w1.cell? ⟨b,0,none⟩=some (.int .i64 c):=(O.out.1.after J).cell (j:=0) rfl;have C:=Z5J M J;clear M J Z af U ae c0;go_wp2;go_ret;exact⟨_,rfl,Or.inr ⟨hc,n+2,w1.heap.size,0,_,rfl,by have:=C.out.1.size;omega,Row.new w1 _ _,Or.inr ⟨b,at_,inner,rfl,by omega,(O.out.1.after C.out.2).alloc _,O.out.2.imp id (λh=>(h.below (B':=0) C.out.2).below (B':=0) (Z5E.alloc Z5D _)|>.base (by omega))⟩⟩,C.out.2.alloc (by have:=C.out.1.size;omega) _⟩
theorem C3(B:Nat)(c:Int)(v:Value)(w:World)(h:Zk w B c v)(ht:Ty w):Calls prog 93 #[v] w λe w'=>∃v',e=.returned v'/\Zk w' (min B w.heap.size) c v'/\Below w.heap.size w w':=by
 rcases h with ⟨rfl,rfl⟩|⟨hc,n,hn⟩
 .go_enter func93,ntmps93;go_wp2_with (go_at_call 102;refine(MS _ _).mono ?_;rintro e w' ⟨rfl,rfl⟩);go_ret;exact⟨_,rfl,Zk.nil _ _,Z5E.alloc Z5D _⟩
 .match n,hn with
  |n+1,⟨b,at_,inner,hv,hB,F,hi⟩=>subst hv;have c0:=F.cell (j:=0) rfl;have ah:=F.lt;have af:Ty (w.alloc (.cells #[.pointer none] 139)):=ht.below (Z5E.alloc Z5D _);have U:(w.alloc (.cells #[.pointer none] 139)).cell? ⟨w.heap.size,0,none⟩=some (.pointer none):=(by simp);have ae:(w.alloc (.cells #[.pointer none] 139)).frozen? ⟨w.heap.size,0,none⟩=false:=(by simp);have O:=Z5J F hi;clear F hi;go_enter func93,ntmps93;go_wp2_with fail;refine(MR _ _ (.pointer none) _ af U ae).mono ?_;rintro e w1 ⟨rfl,ag,Z⟩;have M:Fr [w.heap.size] w w1:=((Fr.refl _ w).alloc _).trans Z (by simp);have J:Below w.heap.size w w1:=M.below Z5D (by simp);have c1:w1.cell? ⟨b,0,none⟩=some (.int .i64 c):=(O.out.1.after J).cell (j:=0) rfl;have C:=Z5J M J;clear M J Z af U ae c0;go_wp2;go_ret;exact⟨_,rfl,Or.inr ⟨hc,n+2,w1.heap.size,0,_,rfl,by have:=C.out.1.size;omega,Row.new w1 _ _,Or.inr ⟨b,at_,inner,rfl,by omega,(O.out.1.after C.out.2).alloc _,O.out.2.imp id (λh=>(h.below (B':=0) C.out.2).below (B':=0) (Z5E.alloc Z5D _)|>.base (by omega))⟩⟩,C.out.2.alloc (by have:=C.out.1.size;omega) _⟩
theorem CZ(B:Nat)(c:Int)(v:Value)(w:World)(h:Zk w B c v)(ht:Ty w):Calls prog 49 #[v] w λe w'=>∃v',e=.returned v'/\Zk w' (min B w.heap.size) c v'/\Below w.heap.size w w':=by
 rcases h with ⟨rfl,rfl⟩|⟨hc,n,hn⟩
 .go_enter func49,ntmps49;go_wp2_with (go_at_call 102;refine(MS _ _).mono ?_;rintro e w' ⟨rfl,rfl⟩);go_ret;exact⟨_,rfl,Zk.nil _ _,Z5E.alloc Z5D _⟩
 .match n,hn with
  |n+1,⟨b,at_,inner,hv,hB,F,hi⟩=>subst hv;have c0:=F.cell (j:=0) rfl;have ah:=F.lt;have af:Ty (w.alloc (.cells #[.pointer none] 139)):=ht.below (Z5E.alloc Z5D _);have U:(w.alloc (.cells #[.pointer none] 139)).cell? ⟨w.heap.size,0,none⟩=some (.pointer none):=(by simp);have ae:(w.alloc (.cells #[.pointer none] 139)).frozen? ⟨w.heap.size,0,none⟩=false:=(by simp);have O:=Z5J F hi;clear F hi;go_enter func49,ntmps49;go_wp2_with fail;refine(MR _ _ (.pointer none) _ af U ae).mono ?_;rintro e w1 ⟨rfl,ag,Z⟩;have M:Fr [w.heap.size] w w1:=((Fr.refl _ w).alloc _).trans Z (by simp);have J:Below w.heap.size w w1:=M.below Z5D (by simp);have c1:w1.cell? ⟨b,0,none⟩=some (.int .i64 c):=(O.out.1.after J).cell (j:=0) rfl;have C:=Z5J M J;clear M J Z af U ae c0;go_wp2;go_ret;exact⟨_,rfl,Or.inr ⟨hc,n+2,w1.heap.size,0,_,rfl,by have:=C.out.1.size;omega,Row.new w1 _ _,Or.inr ⟨b,at_,inner,rfl,by omega,(O.out.1.after C.out.2).alloc _,O.out.2.imp id (λh=>(h.below (B':=0) C.out.2).below (B':=0) (Z5E.alloc Z5D _)|>.base (by omega))⟩⟩,C.out.2.alloc (by have:=C.out.1.size;omega) _⟩
end
section
open Go.RowKit
variable{a:Int}{p:Nat}{w w':World}
theorem Wm{k:IntKind}{b:Int}(h:a=b):Ending.returned (.int k a)=.returned (.int k b):=by rw[h]
structure Pw where
 gone:Bool
 fuse:Int
 acts:Int
structure Dk where
 has:List UInt8
 wait:List (Nat×ByteArray)
 dead:Bool
 life:Int
def Ze(w:World)(p:Nat)(P:Pw):Prop:=Row w p 112 [.bool P.gone,.int .i64 P.fuse,.int .i64 P.acts]
def XS:List (Nat×ByteArray)->List Value
 |[]=>[]
 |x::l=>.int .i64 (x.1:Int):: .string x.2::XS l
structure Zr(w:World)(p d gh:Nat)(v:Value)(D:Dk):Prop where
 top:Row w d 109 [.pointer (some ⟨p,0,none⟩),.slice (some ⟨gh,0,none⟩) D.has.length D.has.length,v,.bool D.dead,.int .i64 D.life]
 bytes:ZD w gh 5 (Z3 D.has)
 late:w.ownsRow 0 194 2 v D.wait.length (XS D.wait)
def Wn(w:World)(b:Nat)(c:Int):Prop:=Row w b 141 [.int .i64 c,.int .i64 0,.nilIface]
theorem Ze.fr{P:Pw}(h:Ze w p P){L:List Nat}(C:Fr L w w')(F:p∉L):Ze w' p P:=Row.fr h C F
theorem Zr.fr{d gh:Nat}{v:Value}{D:Dk}(h:Zr w p d gh v D){L:List Nat}(C:Fr L w w')(F:d∉L)(J:gh∉L)(M:∀g,v.ownBlock=some g->g∉L):Zr w' p d gh v D:=⟨h.top.fr C F,h.bytes.fr C J,Qa h.late C M⟩
theorem QW(c:Int)(w:World):Calls prog 46 #[.int .i64 c] w λe w'=>∃b,e=.returned (.iface 139 (.pointer (some ⟨b,0,none⟩)))/\w.heap.size<=b/\Wn w' b c/\Below w.heap.size w w':=by go_enter func46,ntmps46;go_wp2;go_ret;exact⟨w.heap.size,rfl,Z5D,Row.new w _ [.int .i64 c,.int .i64 0,.nilIface],Z5E.alloc Z5D _⟩
theorem NU(w:World):Calls prog 29 #[] w λe w'=>∃p,e=.returned (.pointer (some ⟨p,0,none⟩))/\w.heap.size<=p/\Ze w' p ⟨false, -1,0⟩/\Below w.heap.size w w':=by go_enter func29,ntmps29;go_wp2;go_ret;exact⟨w.heap.size,rfl,Z5D,Row.new w _ [.bool false,.int .i64 (-1),.int .i64 0],Z5E.alloc Z5D _⟩
def Pw.can(P:Pw):Bool:=P.fuse !=0
def Pw.act(P:Pw):Pw:=if P.fuse=0 then{P with gone:=true} else{P with fuse:=if 0<P.fuse then P.fuse-1 else P.fuse,acts:=wrap64 (P.acts+1)}
structure Pw.ok(P:Pw):Prop where
 f0: -1<=P.fuse
 f1:P.fuse<=9223372036854775807
theorem Dx(p:Nat)(P:Pw)(w:World)(h:Ze w p P)(ok:P.ok):Calls prog 243 #[.pointer (some ⟨p,0,none⟩)] w λe w'=>e=.returned (.bool P.can)/\Ze w' p P.act/\Fr [p] w w':=by
 obtain⟨g,f,a⟩:=P;obtain⟨f0,f1⟩:=ok;simp only at f0 f1;have c0:=h.cell (j:=0) rfl;have c1:=h.cell (j:=1) rfl;have c2:=h.cell (j:=2) rfl;have F:=h.free (j:=0) (by simp);have J:=h.free (j:=1) (by simp);have M:=h.free (j:=2) (by simp);have H:=Z5F h;clear h;by_cases z:f=0
 .subst z;go_enter func243,ntmps243;go_wp2;go_ret;exact⟨rfl,H.out.set 0 (.bool true),(Fr.refl _ _).setCell (Or.inl (by simp)) _⟩
 .have O:(f==0)=false:=by simpa using z
  have Z:=Z5F z;clear z;by_cases C:0<f
  .go_enter func243,ntmps243;go_wp2;go_ret;refine⟨by simp[Pw.can,Z.out],?_,((Fr.refl _ _).setCell (Or.inl (by simp)) _).setCell (Or.inl (by simp)) _⟩;have:=(H.out.set 1 (.int .i64 (f-1))).set 2 (.int .i64 (wrap64 (a+1)));simpa[Ze,Pw.act,Z.out,C] using this
  .go_enter func243,ntmps243;go_wp2;go_ret;refine⟨by simp[Pw.can,Z.out],?_,(Fr.refl _ _).setCell (Or.inl (by simp)) _⟩;have e:(if 0<f then f-1 else f)=f:=(by omega);have:=H.out.set 2 (.int .i64 (wrap64 (a+1)));simpa[Ze,Pw.act,Z.out,e] using this
theorem Z13(p:Nat)(P:Pw)(n:Int)(w:World)(h:Ze w p P):Calls prog 18 #[.pointer (some ⟨p,0,none⟩),.int .i64 n] w λe w'=>e=.returned (.tuple #[])/\Ze w' p {P with fuse:=max n (-1)}/\Fr [p] w w':=by
 have c0:=h.cell (j:=1) rfl;have F:=h.free (j:=1) (by simp);have H:=Z5F h;clear h;by_cases C:n< -1
 .go_enter func18,ntmps18;go_wp2;go_end0;refine⟨rfl,?_,(Fr.refl _ _).setCell (Or.inl (by simp)) _⟩;have:=H.out.set 1 (.int .i64 (-1));rw[show max n (-1)= -1 from by omega];exact this
 .go_enter func18,ntmps18;go_wp2;go_end0;refine⟨rfl,?_,(Fr.refl _ _).setCell (Or.inl (by simp)) _⟩;have:=H.out.set 1 (.int .i64 n);rw[show max n (-1)=n from by omega];exact this
theorem I5(p d gh:Nat)(v:Value)(D:Dk)(w:World)(h:Zr w p d gh v D):Calls prog 22 #[.pointer (some ⟨d,0,none⟩)] w λe w'=>e=.returned (.bool D.dead)/\w=w':=by have c0:=h.top.cell (j:=3) rfl;go_enter func22,ntmps22;go_wp2;go_ret;simp
theorem If(p d gh:Nat)(v:Value)(D:Dk)(w:World)(h:Zr w p d gh v D):Calls prog 72 #[.pointer (some ⟨d,0,none⟩)] w λe w'=>e=.returned (.int .i64 D.life)/\w=w':=by have c0:=h.top.cell (j:=4) rfl;go_enter func72,ntmps72;go_wp2;go_ret;simp
theorem Ys(p d gh:Nat)(v:Value)(D:Dk)(n:Nat)(w:World)(h:Zr w p d gh v D)(F:D.has.length=64*n)(C:n<=8192):Calls prog 138 #[.pointer (some ⟨d,0,none⟩)] w λe w'=>e=.returned (.int .i64 n)/\w=w':=by have c0:=h.top.cell (j:=1) rfl;go_enter func138,ntmps138;go_wp2;go_ret;simp
def rdy(P:Pw)(D:Dk)(at_:Int):Int:=if P.gone then 10 else if D.dead then 11 else if at_<0∨(D.has.length / 64:Nat)<=at_ then 1 else 0
theorem Cq{P:Pw}{D:Dk}{n:Nat}(C:P.gone=false)(h:D.dead=false)(F:D.has.length=64*n):rdy P D a=if a<0∨(n:Int)<=a then 1 else 0:=by unfold rdy;rw[C,h,F,Nat.mul_div_cancel_left _ (by omega)];simp
theorem Jm(p d gh:Nat)(v:Value)(P:Pw)(D:Dk)(n:Nat)(a:Int)(w:World)(hp:Ze w p P)(h:Zr w p d gh v D)(J:D.has.length=64*n)(U:n<=8192)(C:rdy P D a=0):Calls prog 118 #[.pointer (some ⟨d,0,none⟩),.int .i64 a] w λe w'=>e=.returned .nilIface/\w=w':=by
 have c0:=h.top.cell (j:=0) rfl;have c3:=h.top.cell (j:=3) rfl;have d0:=hp.cell (j:=0) rfl;have F:P.gone=false:=by unfold rdy at C;cases O:P.gone<;>simp[O] at C⊢
 have hd:D.dead=false:=by unfold rdy at C;rw[F] at C;cases M:D.dead<;>simp[M] at C⊢
 have hb:0<=a/\a<n:=by rw[Cq F hd J] at C;omega
 have H:=Z5F h;have Z:=Z5F J;go_enter func118,ntmps118;go_wp2_with (go_at_call 138;refine(Ys p d gh v D n _ H.out Z.out U).mono ?_;rintro e w' ⟨rfl,rfl⟩);go_ret;simp
theorem FR(p d gh:Nat)(v:Value)(P:Pw)(D:Dk)(n:Nat)(a:Int)(w:World)(O:Ze w p P)(h:Zr w p d gh v D)(M:D.has.length=64*n)(ag:n<=8192)(U:rdy P D a≠0):Calls prog 118 #[.pointer (some ⟨d,0,none⟩),.int .i64 a] w λe w'=>∃b,e=.returned (.iface 139 (.pointer (some ⟨b,0,none⟩)))/\w.heap.size<=b/\Wn w' b (rdy P D a)/\Below w.heap.size w w':=by
 have c0:=h.top.cell (j:=0) rfl;have c3:=h.top.cell (j:=3) rfl;have d0:=O.cell (j:=0) rfl;have H:=Z5F h;have HN:=Z5F M;cases C:P.gone
 .rw[C] at d0;cases J:D.dead
  .rw[J] at c3;have hb:a<0∨(n:Int)<=a:=by
    by_cases e:a<0∨(n:Int)<=a
    .omega
    .exfalso;apply U;rw[Cq C J M,if_neg e]
   have F:rdy P D a=1:=(by rw[Cq C J M,if_pos hb]);rw[F];clear h M U C J O F;by_cases ah:a<0
   .go_enter func118,ntmps118;go_wp2_with (go_at_call 46;refine(QW _ _).mono ?_;rintro e w' ⟨b,rfl,Z,ae,af⟩);go_ret;simp_all
   .have ai:(n:Int)<=a:=(by omega);clear hb;go_enter func118,ntmps118;go_wp2_with (first|(go_at_call 138;refine(Ys p d gh v D n _ H.out HN.out ag).mono ?_;rintro e w' ⟨rfl,rfl⟩)|(go_at_call 46;refine(QW _ _).mono ?_;rintro e w' ⟨b,rfl,Z,ae,af⟩));go_ret;simp_all
  .rw[J] at c3;have F:rdy P D a=11:=by unfold rdy;simp[C,J]
   rw[F];clear h M U C J O F;go_enter func118,ntmps118;go_wp2_with (go_at_call 46;refine(QW _ _).mono ?_;rintro e w' ⟨b,rfl,Z,ae,af⟩);go_ret;simp_all
 .rw[C] at d0;have F:rdy P D a=10:=by unfold rdy;simp[C]
  rw[F];clear h M U C O F;go_enter func118,ntmps118;go_wp2_with (go_at_call 46;refine(QW _ _).mono ?_;rintro e w' ⟨b,rfl,Z,ae,af⟩);go_ret;simp_all
theorem XI(p d gh:Nat)(v:Value)(D:Dk)(n:Nat)(a:Nat)(w:World)(h:Zr w p d gh v D)(F:D.has.length=64*n)(C:n<=8192)(ha:a<n):Calls prog 103 #[.pointer (some ⟨d,0,none⟩),.int .i64 a] w λe w'=>e=.returned (.slice (some ⟨gh,a*64,none⟩) 64 (64*n-a*64))/\w=w':=by have c0:=h.top.cell (j:=1) rfl;go_enter func103,ntmps103;go_wp2;go_ret;refine⟨?_,rfl⟩;show Ending.returned (.slice (some ⟨gh,a*64,none⟩) ((a+1)*64-a*64) (64*n-a*64))=_;grind
end
section
open Go.RowKit
def Dk.lasts(D:Dk)(a:Nat):ByteArray:=⟨((D.has.drop (a*64)).take 64).toArray⟩
def Dk.reads(D:Dk)(a:Nat):ByteArray:=D.wait.foldl (λs x=>if x.1=a then x.2 else s) (D.lasts a)
structure Dk.ok(D:Dk)(n:Nat):Prop where
 len:D.has.length=64*n
 n1:1<=n
 n2:n<=8192
 at_:∀x,x∈D.wait->x.1<n
 size:∀x,x∈D.wait->x.2.size=64
 few:D.wait.length<=1099511627776
 life0:0<=D.life
 life1:D.life<=4611686018427387904
theorem JC(l:List (Nat×ByteArray))(i:Nat)(h:i<l.length):(XS l)[2*i]? =some (.int .i64 (l[i].1:Int))/\(XS l)[2*i+1]? =some (.string l[i].2):=by
 induction l generalizing i with
 |nil=>simp at h
 |cons x l ih=>
  match i,h with
  |0,_=>exact⟨rfl,rfl⟩
  |i+1,h=>simp[XS];grind
theorem LF(l:List (Nat×ByteArray))(a:Nat)(s:ByteArray):(∀x,x∈l->x.1≠a)->l.foldl (λs x=>if x.1=a then x.2 else s) s=s:=by
 induction l generalizing s with
 |nil=>intro _;rfl
 |cons x l ih=>grind
theorem Z39(l:List (Nat×ByteArray))(a i:Nat)(s:ByteArray)(hi:i<l.length)(h:l[i].1=a)(hl:∀j (C:j<l.length),i<j->l[j].1≠a):l.foldl (λs x=>if x.1=a then x.2 else s) s=l[i].2:=by
 induction l generalizing i s with
 |nil=>simp at hi
 |cons x l ih=>
  rw[Z5B]
  match i,hi with
  |0,_=>simp only[List.getElem_cons_zero] at h⊢;rw[if_pos h];refine LF l a _ (λy F=> ?_);obtain⟨j,C,rfl⟩:=List.getElem_of_mem F;have:=hl (j+1) (by simpa using C) (by omega);simpa using this
  |i+1,hi=>
   simp only[List.getElem_cons_succ] at h⊢
   exact ih i _ (by simpa using hi) h (λj C J=>by
    have:=hl (j+1) (by simpa using C) (by omega)
    simpa using this)
theorem Z3H(p d gh:Nat)(v:Value)(P:Pw)(D:Dk)(n a:Nat)(w:World)(hp:Ze w p P)(h:Zr w p d gh v D)(ok:D.ok n)(M:rdy P D a=0)(ha:a<n):Calls prog 73 #[.pointer (some ⟨d,0,none⟩),.int .i64 a] w λe w'=>e=.returned (.tuple #[.string (D.reads a),.nilIface])/\Below w.heap.size w w':=by
 have c2:=h.top.cell (j:=2) rfl;have H:=Z5F h;have HP:=Z5F hp;have J:=Z5F ok;have n2:=ok.n2;have ag:=ok.few;have hv:D.wait.length=0/\v=.slice none 0 0∨∃g cap,v=.slice (some ⟨g,0,none⟩) D.wait.length cap:=by
  rcases h.late.2 with ⟨h1,h2⟩|⟨g,cap,cur,hv,_⟩
  .simp_all
  .simp_all
 clear h hp ok;rcases hv with ⟨h0,rfl⟩|⟨g,cap,rfl⟩
 .have hw:D.wait=[]:=List.length_eq_zero_iff.1 h0;have C:((D.has.drop (a*64)).take 64).length=64:=by rw[Z5j,List.length_drop,J.out.len];omega
  have af:=Qo (P:=prog) w 75 9 5 underlying75 underlying5 underlying9 H.out.bytes.row (a*64) 64 (64*n-a*64) ((D.has.drop (a*64)).take 64) C (by rw[Bb,Bc]);have HL:=Z5F C;have HW:=Z5F hw;have Z:=Z5F M;clear C hw h0 M;go_enter func73,ntmps73;go_wp2_with (go_at_call 118;refine(Jm p d gh _ P D n _ _ HP.out H.out J.out.len n2 Z.out).mono ?_;rintro e w' ⟨rfl,rfl⟩);refine wp_loop_rounds 1 ?_;rw[rounds_succ];go_wp2_with (go_at_call 103;refine(XI p d gh _ D n a _ H.out J.out.len n2 ha).mono ?_;rintro e w' ⟨rfl,rfl⟩);go_ret2;exact⟨by unfold Dk.reads;rw[HW.out];rfl,Z5E⟩
 .have Z:=Z5F M;clear M;go_enter func73,ntmps73;go_wp2_with (go_at_call 118;refine(Jm p d gh _ P D n _ _ HP.out H.out J.out.len n2 Z.out).mono ?_;rintro e w' ⟨rfl,rfl⟩);go_loop [7] (λi=>∃k:Nat,k<=D.wait.length/\i=.int .i64 ((k:Int)-1)/\∀j (F:j<D.wait.length),k<=j->D.wait[j].1≠a) (λi=>(intOf i+1).toNat)
  case atStart=>exact⟨D.wait.length,Z5D,rfl,λj F h=>by omega⟩
  case round=>
   obtain⟨k,hk,rfl,ae⟩:=hrel;have O:=Z5F ae;clear ae;by_cases ah:0<k
   .obtain⟨m,rfl⟩:∃m,k=m+1:=⟨k-1,by omega⟩;have hm:m<D.wait.length:=(by omega);have c3:w.cell? ⟨g,m*2,none⟩=some (.int .i64 (D.wait[m].1:Int)):=XC H.out.late rfl (by rw[Nat.mul_comm];exact(JC _ _ hm).1);have c4:w.cell? ⟨g,m*2+1,none⟩=some (.string D.wait[m].2):=XC H.out.late rfl (by rw[Nat.mul_comm];exact(JC _ _ hm).2);by_cases he:D.wait[m].1=a
    .have ht:((D.wait[m].1:Int)==(a:Int))=true:=(by simp[he]);have U:=Z5F he;clear he;go_wp2;go_ret2;exact⟨by unfold Dk.reads;rw[Z39 D.wait a m _ hm U.out (λj F h=>O.out j F (by omega))];rfl,Z5E⟩
    .have ht:((D.wait[m].1:Int)==(a:Int))=false:=by simp;omega
     have U:=Z5F he;clear he;go_wp2;go_round
     case measure=>simp[intOf]
     case rel=>exact⟨m,by omega,by go_num,λj F h=>by
      by_cases e:j=m
      .subst e;exact U.out
      .exact O.out j F (by omega)⟩
   .obtain rfl:k=0:=(by omega);have C:((D.has.drop (a*64)).take 64).length=64:=by rw[Z5j,List.length_drop,J.out.len];omega
    have af:=Qo (P:=prog) w 75 9 5 underlying75 underlying5 underlying9 H.out.bytes.row (a*64) 64 (64*n-a*64) ((D.has.drop (a*64)).take 64) C (by rw[Bb,Bc]);have HL:=Z5F C;clear C;go_wp2_with (go_at_call 103;refine(XI p d gh _ D n a _ H.out J.out.len n2 ha).mono ?_;rintro e w' ⟨rfl,rfl⟩);go_ret2
    exact⟨by unfold Dk.reads;rw[LF _ _ _ (λx hx=>by
     obtain⟨j,F,rfl⟩:=List.getElem_of_mem hx
     exact O.out j F (by omega))];rfl,Z5E⟩
theorem Z22(p d gh:Nat)(v:Value)(P:Pw)(D:Dk)(n:Nat)(a:Int)(w:World)(M:Ze w p P)(h:Zr w p d gh v D)(ok:D.ok n)(O:rdy P D a≠0):Calls prog 73 #[.pointer (some ⟨d,0,none⟩),.int .i64 a] w λe w'=>∃b,e=.returned (.tuple #[.string ⟨#[]⟩,.iface 139 (.pointer (some ⟨b,0,none⟩))])/\w.heap.size<=b/\Wn w' b (rdy P D a)/\Below w.heap.size w w':=by have H:=Z5F h;have F:=Z5F M;have C:=Z5F ok;have J:=Z5F O;go_enter func73,ntmps73;go_wp2_with (go_at_call 118;refine(FR p d gh _ P D n _ _ F.out H.out C.out.len C.out.n2 J.out).mono ?_;rintro e w' ⟨b,rfl,U,Z,ae⟩);go_ret2;simp_all
theorem Xw:(prog.info? 5).map (λi=>(i.zero,i.size,i.bytes))=some (some (.int .u8 0),1,1):=by kernel_rfl
theorem XR:(prog.info? 5).map (·.size)=some 1:=by kernel_rfl
theorem Z44:prog.cellsOf 5=1:=by kernel_rfl
theorem Hy(l:List UInt8):Lib.byteCells l=Z3 l:=by unfold Z3 Lib.byteCells;simp
theorem U9(s:ByteArray)(w:World)(hs:s.size<=140737488355328):Calls prog 251 #[.string s] w λe w'=>e=.returned (.string s)/\Below w.heap.size w w':=by
 by_cases h:s.size=0
 .have U:s=⟨#[]⟩:=ByteArray.ext (Array.eq_empty_of_size_eq_zero h);subst U;clear h;go_enter func251,ntmps251;go_wp2;go_ret;exact⟨rfl,Z5E⟩
 .obtain⟨i0,hi,Z,af,ag⟩:=info_parts Xw;have hlen:s.data.toList.length=s.size:=by simp
  have ae:0<s.size:=by omega
  have hb:((s.size:Int)==0)=false:=by rw[beq_eq_false_iff_ne];omega
  have ah:=WF (P:=prog) 75 5 i0 underlying75 hi Z af ag s.size hs;have C:=heap_alloc_new w (.cells (Z3 (List.replicate s.size 0)).toArray 5);have O:=Lib.run_copy_row_string (P:=prog) (w.alloc (.cells (Z3 (List.replicate s.size 0)).toArray 5)) 75 9 3 5 w.heap.size 0 s.size s.size s _ 5 underlying75 XR C Z5D (by simp[Zj]);have J:((Z3 (List.replicate s.size 0)).toArray.toList.take 0++Lib.byteCells s.data.toList++(Z3 (List.replicate s.size 0)).toArray.toList.drop (0+s.size)).toArray=(Z3 s.data.toList).toArray:=by rw[List.take_zero,List.nil_append,List.drop_of_length_le (by simp[Zj]),Z5C,Hy]
  rw[J] at O;have F:=setRow_heap _ w.heap.size _ (Z3 s.data.toList).toArray 5 (0,0) C;have M:=Lib.run_unsafeString_row (P:=prog) ((w.alloc (.cells (Z3 (List.replicate s.size 0)).toArray 5)).setRow w.heap.size (Z3 s.data.toList).toArray) 308 3 9 5 underlying308 Z44 w.heap.size (Z3 s.data.toList).toArray.size (by unfold World.shape?;rw[F]) s.data.toList (by intro e;rw[e] at hlen;exact h hlen.symm) (by simp[Zj]) (by omega)
   (λj x hx=>by
    have e1:(⟨w.heap.size,0,none⟩:Addr).add j=⟨w.heap.size,j,none⟩:=by unfold Addr.add;split<;>simp_all
    rw[e1,cell_of_row _ _ j _ _ _ F]
    simp[Z3,hx])
  rw[hlen] at M;have HL:=Z5F hlen;clear J F C hlen h;go_enter func251,ntmps251;go_wp2;go_ret;refine⟨rfl,Lib.below_freeze ?_ (p:=⟨w.heap.size,0,none⟩) Z5D _⟩;exact below_setRow ((Below.refl _ w).alloc Z5D _) Z5D _
theorem Fp(s:ByteArray)(w:World)(hs:s.size<=140737488355328):Calls prog 216 #[.string s] w λe w'=>e=.returned (.string s)/\Below w.heap.size w w':=by go_enter func216,ntmps216;go_wp2_with (go_at_call 251;refine(U9 _ _ hs).mono ?_;rintro e w' ⟨rfl,h⟩);go_ret;exact⟨rfl,by assumption⟩
end
section
open Go.RowKit
variable{D:Dk}{P:Pw}{d gh p:Nat}{v:Value}{w:World}
structure Sep(p d gh:Nat)(v:Value):Prop where
 pd:d≠p
 pg:gh≠p
 pv:v.ownBlock≠some p
 dg:d≠gh
 dv:v.ownBlock≠some d
 gv:v.ownBlock≠some gh
theorem sep(C:Ze w p P)(h:Zr w p d gh v D):Sep p d gh v:=⟨h.top.ne C (by decide),h.bytes.row.ne C (by decide),Row.ne_own C h.late (by decide),h.top.ne h.bytes.row (by decide),h.top.ne_own h.late (by decide),h.bytes.row.ne_own h.late (by decide)⟩
def ZG(v:Value):List Nat:=match v.ownBlock with|some g=>[g]|none=>[]
theorem ZK{g:Nat}:g∈ZG v↔v.ownBlock=some g:=by
 unfold ZG;cases h:v.ownBlock with
 |none=>simp
 |some x=>simp;exact eq_comm
theorem Zr.power{w':World}(J:Ze w p P)(h:Zr w p d gh v D)(C:Fr [p] w w'):Zr w' p d gh v D:=by
 have s:=sep J h
 exact h.fr C (by simpa using s.pd) (by simpa using s.pg) (λg F=>by
  have:=s.pv;simp only[Z58];rintro rfl
  exact this F)
theorem Uq(p d gh:Nat)(v:Value)(P:Pw)(D:Dk)(n:Nat)(a:Int)(s:ByteArray)(w:World)(F:Ze w p P)(h:Zr w p d gh v D)(ok:D.ok n)(J:rdy P D a≠0):Calls prog 190 #[.pointer (some ⟨d,0,none⟩),.int .i64 a,.string s] w λe w'=>∃b,e=.returned (.iface 139 (.pointer (some ⟨b,0,none⟩)))/\w.heap.size<=b/\Wn w' b (rdy P D a)/\Below w.heap.size w w':=by have H:=Z5F h;have Z:=Z5F F;have C:=Z5F ok;have HR:=Z5F J;clear h F ok J;go_enter func190,ntmps190;go_wp2_with (go_at_call 118;refine(FR p d gh _ P D n _ _ Z.out H.out C.out.len C.out.n2 HR.out).mono ?_;rintro e w' ⟨b,rfl,M,O,U⟩);go_ret;exact⟨b,rfl,M,O,U⟩
theorem Ur(p d gh:Nat)(v:Value)(P:Pw)(D:Dk)(n:Nat)(a:Int)(s:ByteArray)(w:World)(F:Ze w p P)(h:Zr w p d gh v D)(ok:D.ok n)(J:rdy P D a=0)(hs:s.size≠64):Calls prog 190 #[.pointer (some ⟨d,0,none⟩),.int .i64 a,.string s] w λe w'=>∃b,e=.returned (.iface 139 (.pointer (some ⟨b,0,none⟩)))/\w.heap.size<=b/\Wn w' b 1/\Below w.heap.size w w':=by
 have H:=Z5F h;have Z:=Z5F F;have C:=Z5F ok;have HR:=Z5F J;have hb:((s.size:Int) !=64)=true:=by rw[bne_iff_ne];omega
 clear h F ok J hs;go_enter func190,ntmps190;go_wp2_with (first|(go_at_call 118;refine(Jm p d gh _ P D n _ _ Z.out H.out C.out.len C.out.n2 HR.out).mono ?_;rintro e w' ⟨rfl,rfl⟩)|(go_at_call 46;refine(QW _ _).mono ?_;rintro e w' ⟨b,rfl,M,O,U⟩));go_ret;exact⟨b,rfl,M,O,U⟩
theorem Us(p d gh:Nat)(v:Value)(P:Pw)(D:Dk)(n:Nat)(a:Int)(s:ByteArray)(w:World)(U:Ze w p P)(pok:P.ok)(h:Zr w p d gh v D)(ok:D.ok n)(Z:rdy P D a=0)(hs:s.size=64)(hc:P.can=false):Calls prog 190 #[.pointer (some ⟨d,0,none⟩),.int .i64 a,.string s] w λe w'=>∃b,e=.returned (.iface 139 (.pointer (some ⟨b,0,none⟩)))/\w.heap.size<=b/\Wn w' b 10/\Ze w' p P.act/\Zr w' p d gh v D/\Fr [p] w w':=by
 have H:=Z5F h;have C:=Z5F U;have M:=Z5F ok;have HR:=Z5F Z;have hb:((s.size:Int) !=64)=false:=by rw[hs];rfl
 have c0:=h.top.cell (j:=0) rfl;clear h U ok Z hs;go_enter func190,ntmps190;go_wp2_with (first|(go_at_call 118;refine(Jm p d gh _ P D n _ _ C.out H.out M.out.len M.out.n2 HR.out).mono ?_;rintro e w' ⟨rfl,rfl⟩)|(go_at_call 243;refine(Dx p P _ C.out pok).mono ?_;rw[hc];rintro e w1 ⟨rfl,ag,J⟩)|(go_at_call 46;refine(QW _ _).mono ?_;rintro e w' ⟨b,rfl,ae,af,F⟩));go_ret;have O:Fr [p] w _:=J.trans (Fr.of_below (L:=[]) F) (by simp);exact⟨b,rfl,Z5w J.size ae,af,Ze.fr ag (Fr.of_below (L:=[]) F) (by simp),Zr.power C.out H.out O,O⟩
theorem VA:(prog.info? 194).map (λi=>(i.zero,i.size,i.bytes))=some (some (.agg #[.int .i64 0,.string ⟨#[]⟩]),2,24):=by kernel_rfl
theorem Rv(l:List (Nat×ByteArray))(a:Nat)(s:ByteArray):XS (l++[(a,s)])=XS l++[.int .i64 (a:Int),.string s]:=by
 induction l with
 |nil=>rfl
 |cons x l ih=>simp[XS,ih]
theorem Z0u{Q:Pw}{a:Nat}{s:ByteArray}{w1 w2 w3:World}{o:Obj}{C cap:Nat}(al:Ze w p P)(Z:Fr [p] w w1)(ag:Ze w1 p Q)(J:Zr w1 p d gh v D)(F:Below w1.heap.size w1.drew w2)(af:w3.ownsRow 0 194 2 (.slice (some ⟨C,0,none⟩) (D.wait.length+1) cap) (D.wait.length+1) (XS D.wait++[.int .i64 (a:Int),.string s]))(ae:(w2.alloc o).grownBy w3 v.ownBlock)(U:v.ownBlock=some C∨C=w2.heap.size+1):Ze (w3.setCell ⟨d,2,none⟩ (.slice (some ⟨C,0,none⟩) (D.wait.length+1) cap)) p Q/\ Zr (w3.setCell ⟨d,2,none⟩ (.slice (some ⟨C,0,none⟩) (D.wait.length+1) cap)) p d gh (.slice (some ⟨C,0,none⟩) (D.wait.length+1) cap) {D with wait:=D.wait++[(a,s)]}/\ Fr (p::d::ZG v) w (w3.setCell ⟨d,2,none⟩ (.slice (some ⟨C,0,none⟩) (D.wait.length+1) cap))/\ ((Value.slice (some ⟨C,0,none⟩) (D.wait.length+1) cap).ownBlock=v.ownBlock∨∀g,(Value.slice (some ⟨C,0,none⟩) (D.wait.length+1) cap).ownBlock=some g->w.heap.size<=g):=by
 have s1:=sep ag J;have aq:=J.top.lt;have au:w1.heap.size<=w2.heap.size:=F.size;have f2:Fr [] w1 w2:=⟨F.os,F.tape,F.output,F.size,λk O _=>F.block k O⟩;have f3:Fr (ZG v) w1 w3:=((f2.alloc o).mono (by simp)).grown ae (λk O=>Or.inl (ZK.2 O));have f4:Fr (d::ZG v) w1 (w3.setCell ⟨d,2,none⟩ (.slice (some ⟨C,0,none⟩) (D.wait.length+1) cap)):=(f3.mono (λi hi _=>by simp[hi])).setCell (Or.inl (by simp)) _;have ah:C≠d:=by
  rintro rfl;rcases U with h|h
  .exact s1.dv h
  .omega
 have ak:p∉d::ZG v:=by simp only[Z5q,ZK,not_or];exact⟨λe=>s1.pd e.symm,s1.pv⟩
 have aj:gh∉d::ZG v:=by simp only[Z5q,ZK,not_or];exact⟨λe=>s1.dg e.symm,s1.gv⟩
 have ai:d∉ZG v:=by simp only[ZK];exact s1.dv
 refine⟨Ze.fr ag f4 ak,⟨?_,J.bytes.fr f4 aj,?_⟩,?_,?_⟩
 .exact(J.top.fr f3 ai).set 2 (.slice (some ⟨C,0,none⟩) (D.wait.length+1) cap)
 .have h:=Qa af (L:=[d]) ((Fr.refl [d] w3).setCell (p:=⟨d,2,none⟩) (Or.inl (by simp)) (.slice (some ⟨C,0,none⟩) (D.wait.length+1) cap)) (λg M=>by
   simp only[Value.ownBlock,Z5e] at M;subst M
   simpa using ah)
  simp only[Z5d,List.length_singleton,Rv];exact h
 .exact(Z.mono (λi hi _=>by simp at hi;simp[hi])).trans f4 (λi hi _=>by simp at hi⊢;exact Or.inr hi)
 .rcases U with h|h
  .exact Or.inl h.symm
  .right;intro g M;simp only[Value.ownBlock,Z5e] at M;have:=Z.size;omega
theorem Z2x(p d gh:Nat)(v:Value)(P:Pw)(D:Dk)(n:Nat)(a:Nat)(s:ByteArray)(w:World)(hp:Ze w p P)(pok:P.ok)(h:Zr w p d gh v D)(ok:D.ok n)(hr:rdy P D a=0)(hs:s.size=64)(hc:P.can=true)(ak:D.wait.length<1099511627776):Calls prog 190 #[.pointer (some ⟨d,0,none⟩),.int .i64 a,.string s] w λe w'=>∃v',e=.returned .nilIface/\Ze w' p P.act/\Zr w' p d gh v' {D with wait:=D.wait++[(a,s)]}/\Fr (p::d::ZG v) w w'/\(v'.ownBlock=v.ownBlock∨∀g,v'.ownBlock=some g->w.heap.size<=g):=by
 have H:=Z5F h;have O:=Z5F hp;have OK:=Z5F ok;have HR:=Z5F hr;have au:s.size<=140737488355328:=by omega
 have hb:((s.size:Int) !=64)=false:=by rw[hs];rfl
 have c0:=h.top.cell (j:=0) rfl;obtain⟨i0,al,aw,az,b7⟩:=info_parts VA;clear h hp ok hr hs;go_enter func190,ntmps190;go_wp2_with (first|(go_at_call 118;refine(Jm p d gh _ P D n _ _ O.out H.out OK.out.len OK.out.n2 HR.out).mono ?_;rintro e w' ⟨rfl,rfl⟩)|(go_at_call 243;refine(Dx p P _ O.out pok).mono ?_;rw[hc];rintro e w1 ⟨rfl,ag,Z⟩));have F:=Zr.power O.out H.out Z;have s1:=sep ag F;have k2:w1.cell? ⟨d,2,none⟩=some v:=F.top.cell (j:=2) rfl;have b8:w1.frozen? ⟨d,2,none⟩=false:=F.top.free (by simp);have M:=F.top.lt;have ah:=Z5F F;have aj:=Z5F ag;have ai:=Z5F Z;clear F ag Z;go_region_law (first|(go_simp;go_at_call 216;refine(Fp _ _ au).mono ?_;rintro e w2 ⟨rfl,C⟩;have J:d<w2.heap.size:=Z5v M C.size;have k4:w2.cell? ⟨d,2,none⟩=some v:=(C.cell (p:=⟨d,2,none⟩) M).trans k2)|(refine step_append_lies _ (by rfl) _ _ _ (by rfl) 0 194 i0 _ 2 24 underlying107 al aw az b7 rfl (by omega) v D.wait.length (XS D.wait) (by rfl) ((Qa (w:=w1.drew) (L:=[]) ah.out.late (Fr.of_below C) (by simp)).alloc _) ⟨w2.heap.size,0,none⟩ 1 1 [.int .i64 (a:Int),.string s] (by rfl) (by rfl) (World.news_of_block (cs:= #[.int .i64 (a:Int),.string s]) (t:=194) (fr:=(0,0)) (heap_alloc_new w2 _)) (by simp[Value.oneCell']) (by omega) (by unfold maxLen;omega) (by omega) (by omega) (w2.heap.size+1) (by simp) ?_;intro gg cap w3 ae U af aq;have k3:w3.cell? ⟨d,2,none⟩=some v:=(U.cell_far _ (Z5v J (by simp)) (Ne.symm s1.dv)).trans ((((Below.refl w2.heap.size w2).alloc Z5D _).cell (p:=⟨d,2,none⟩) J).trans ((C.cell (p:=⟨d,2,none⟩) M).trans k2));have b9:w3.frozen? ⟨d,2,none⟩=false:=(U.frozen_far _ (Z5v J (by simp)) (Ne.symm s1.dv)).trans ((((Below.refl w2.heap.size w2).alloc Z5D _).frozen (p:=⟨d,2,none⟩) J).trans ((C.frozen (p:=⟨d,2,none⟩) M).trans b8))))
 all_goals go_wp2
 all_goals go_ret
 all_goals exact⟨_,rfl,Z0u O.out ai.out aj.out ah.out C ae U af⟩
end
section
open Go.RowKit
section
variable{P:Program}
theorem MY(l:List UInt8):Lib.byteCells l=Z3 l:=by unfold Z3 Lib.byteCells;simp
def QK(l:List UInt8)(o:Nat)(s:List UInt8):List UInt8:=l.take o++s++l.drop (o+s.length)
theorem WZ(l:List UInt8)(o:Nat)(s:List UInt8)(h:o+s.length<=l.length):(QK l o s).length=l.length:=by simp[QK];omega
theorem AO{ops:Array Oper}{rest:List Oper}{o:Oper}{a:Act}{w:World}{Q:Exit->Act->World->Prop}(Z:o.guard=none)(d s:Operand)(C M:TypeId)(ho:o.op=.call {callee:=.builtin .copy,args:= #[d,s],argTypes:= #[C,M]})(e:TypeId)(hu:P.underlying C=some (.slice e))(hs:(P.info? e).map (·.size)=some 1)(g off n cap:Nat)(U:a.eval d=.slice (some ⟨g,off,none⟩) n cap)(str:ByteArray)(hx:a.eval s=.string str)(l:List UInt8)(F:ZD w g e (Z3 l))(hle:str.size<=n)(ae:off+str.size<=l.length)(h:ZD (w.setRow g (Z3 (QK l off str.data.toList)).toArray) g e (Z3 (QK l off str.data.toList))->wpList P ops Q rest (a.put o.dst (goInt str.size)) (w.setRow g (Z3 (QK l off str.data.toList)).toArray)):wpList P ops Q (o::rest) a w:=by
 have O:str.data.toList.length=str.size:=by simp
 have J:=Lib.run_copy_row_string (P:=P) w C M o.type e g off n cap str _ e hu hs F hle (by simp[Zj];omega);have e1:((Z3 l).toArray.toList.take off++Lib.byteCells str.data.toList++(Z3 l).toArray.toList.drop (off+str.size))=Z3 (QK l off str.data.toList):=by rw[List.toList_toArray,MY,QK,XM,XM,Bc,Bb,O]
 rw[e1] at J;refine ET Z ?_ (h (F.setRow _));unfold execOp;simp only[ho,resolve,invoke,builtin,Sem.run_bind,Sem.run_pure,Result.andThen_ok,List.map_toArray,Z5t,List.map_nil,U,hx,J]
end
def WM(has:List UInt8)(x:Nat×ByteArray):List UInt8:=QK has (x.1*64) x.2.data.toList
def Dk.flushed(D:Dk):Dk:={D with has:=D.wait.foldl WM D.has,wait:=[]}
theorem Bf(has:List UInt8)(x:Nat×ByteArray)(n:Nat)(h:has.length=64*n)(hx:x.1<n)(hs:x.2.size=64):(WM has x).length=64*n:=by
 have:x.2.data.toList.length=64:=by simpa using hs
 unfold WM;rw[WZ _ _ _ (by omega),h]
theorem JU(l:List (Nat×ByteArray))(has:List UInt8)(n:Nat)(h:has.length=64*n)(hx:∀x,x∈l->x.1<n/\x.2.size=64):(l.foldl WM has).length=64*n:=by
 induction l generalizing has with
 |nil=>exact h
 |cons x l ih=>rw[Z5B];exact ih _ (Bf has x n h (hx x (by simp)).1 (hx x (by simp)).2) (λy C=>hx y (by simp[C]))
theorem Z10(p d gh:Nat)(v:Value)(P:Pw)(D:Dk)(n:Nat)(w:World)(hp:Ze w p P)(pok:P.ok)(h:Zr w p d gh v D)(ok:D.ok n)(hr:rdy P D 0=0)(hc:P.can=true):Calls prog 191 #[.pointer (some ⟨d,0,none⟩)] w λe w'=>e=.returned .nilIface/\Ze w' p P.act/\Zr w' p d gh (.slice none 0 0) D.flushed/\Fr [p,d,gh] w w':=by
 have H:=Z5F h;have U:=Z5F hp;have F:=Z5F ok;have HR:=Z5F hr;have c0:=h.top.cell (j:=0) rfl;have hv:D.wait.length=0/\v=.slice none 0 0∨∃g cap,v=.slice (some ⟨g,0,none⟩) D.wait.length cap:=by
  rcases h.late.2 with ⟨h1,h2⟩|⟨g,cap,cur,hv,_⟩
  .exact Or.inl ⟨h2,h1⟩
  .exact Or.inr ⟨g,cap,hv⟩
 have cu:=ok.few;clear h hp ok hr;rcases hv with ⟨h0,rfl⟩|⟨g,cap,rfl⟩
 .have hw:D.wait=[]:=List.length_eq_zero_iff.1 h0;have bh:=Z5F hw;clear hw h0;go_enter func191,ntmps191;go_wp2_with (first|(go_at_call 118;refine(Jm p d gh _ P D n _ _ U.out H.out F.out.len F.out.n2 HR.out).mono ?_;rintro e w' ⟨rfl,rfl⟩)|(go_at_call 243;refine(Dx p P _ U.out pok).mono ?_;rw[hc];rintro e w1 ⟨rfl,O,M⟩;have C:=Zr.power U.out H.out M;have k2:=C.top.cell (j:=2) rfl;have df:=C.top.free (j:=2) (by simp)));refine wp_loop_rounds 1 ?_;rw[rounds_succ];go_wp2;go_ret;have s1:=sep O C;have hF:Fr [d] w1 (w1.setCell ⟨d,2,none⟩ (.slice none 0 0)):=(Fr.refl [d] w1).setCell (Or.inl (by simp)) _;have np:p∉[d]:=by simp only[Z58];exact λe=>s1.pd e.symm
  have ng:gh∉[d]:=by simp only[Z58];exact λe=>s1.dg e.symm
  refine⟨rfl,Ze.fr O hF np,?_,(M.mono (λi hi _=>by simp at hi;simp[hi])).trans hF (λi hi _=>by simp at hi;simp[hi])⟩;have e1:D.flushed=D:=by have h2:=bh.out;unfold Dk.flushed;rw[h2];rcases D with ⟨q1,q2,q3,q4⟩;simp only at h2;subst h2;rfl
  rw[e1];exact⟨C.top.set 2 (.slice none 0 0),C.bytes.fr hF ng,by rw[bh.out];exact World.ownsRow_nil _ _ _ _⟩
 .go_enter func191,ntmps191;go_wp2_with (first|(go_at_call 118;refine(Jm p d gh _ P D n _ _ U.out H.out F.out.len F.out.n2 HR.out).mono ?_;rintro e w' ⟨rfl,rfl⟩)|(go_at_call 243;refine(Dx p P _ U.out pok).mono ?_;rw[hc];rintro e w1 ⟨rfl,O,M⟩;have C:=Zr.power U.out H.out M;have k2:=C.top.cell (j:=2) rfl));have s1:=sep O C;have bu:=Z5F C;have cr:=Z5F O;have cj:=Z5F M;clear C O M;go_loopw [23] (λi wr=>∃k:Nat,k<=D.wait.length/\i=.int .i64 k/\Ze wr p P.act/\Zr wr p d gh (.slice (some ⟨g,0,none⟩) D.wait.length cap) {D with has:=(D.wait.take k).foldl WM D.has}/\Fr [p,d,gh] w wr) (λi _=>D.wait.length- (intOf i).toNat)
  case atStart=>exact⟨0,by omega,rfl,cr.out,bu.out,cj.out.mono (λi hi _=>by simp at hi;simp[hi])⟩
  case round=>
   obtain⟨k,hk,rfl,az,J,aw⟩:=hrel;have bf:=Z5F az;have aj:=Z5F J;have b9:=Z5F aw;by_cases Z:k<D.wait.length
   .have c3:wr.cell? ⟨g,k*2,none⟩=some (.int .i64 (D.wait[k].1:Int)):=XC J.late rfl (by rw[Nat.mul_comm];exact(JC _ _ Z).1);have c4:wr.cell? ⟨g,k*2+1,none⟩=some (.string D.wait[k].2):=XC J.late rfl (by rw[Nat.mul_comm];exact(JC _ _ Z).2);have bm:=F.out.at_ _ (Z5r Z);have b7:=F.out.size _ (Z5r Z);have hlen:((D.wait.take k).foldl WM D.has).length=64*n:=JU _ _ n F.out.len (λx hx=>⟨F.out.at_ x (List.mem_of_mem_take hx),F.out.size x (List.mem_of_mem_take hx)⟩);have bg:∀o,Zr (wr.alloc o).drew p d gh (.slice (some ⟨g,0,none⟩) D.wait.length cap) {D with has:=(D.wait.take k).foldl WM D.has}:=λo=>J.fr (L:=[]) (((Fr.refl [] wr).alloc o).drew) (by simp) (by simp) (by simp);have n2:=F.out.n2;obtain⟨at_,aq⟩:=Z5I D.wait[k].1;obtain⟨str,ah⟩:=Z5I D.wait[k].2;rw[<-aq] at bm c3;rw[<-ah] at b7 c4;have bz:=Z5F bg;have af:=Z5F hlen;have bq:=Z5F aq;have ak:=Z5F ah;have al:=Z5F b7;clear az J aw bg hlen aq ah b7;go_wp2_with fail;have r5:=Row.new wr 194 [.int .i64 (at_:Int),.string str];have c5:=r5.cell (j:=0) rfl;have c6:=r5.cell (j:=1) rfl;have ag:=bz.out (.cells #[.int .i64 (at_:Int),.string str] 194);have au:=(Fr.refl [] wr).alloc (.cells #[.int .i64 (at_:Int),.string str] 194);obtain⟨w2,bj⟩:=Z5I (wr.alloc (.cells #[.int .i64 (at_:Int),.string str] 194));simp only[List.toArray] at c5 c6;rw[<-bj] at c5 c6 ag au⊢;have b8:=Z5F ag;have cn:=Z5F au;clear r5 ag au bj;go_still_tail 6,(by kernel_rfl)
    still_call (XJ (XI p d gh _ _ n at_ _ b8.out af.out n2 bm))
    repeat still_step
    refine wpStill_nil ?_;change wpList _ _ _ _ _ w2.drew;go_wp2_with (refine AO rfl (.tmp 30) (.tmp 32) 75 9 rfl 5 underlying75 XR gh (at_*64) 64 _ rfl str rfl ((D.wait.take k).foldl WM D.has) b8.out.bytes (by rw[al.out];omega) (by rw[al.out,af.out];omega) ?_;intro ae);have ct:=Z5F ae;clear ae;go_roundw
    case measure=>simp[intOf];omega
    case rel=>
     have hF:Fr [gh] wr (w2.drew.setRow gh (Z3 (QK ((D.wait.take k).foldl WM D.has) (at_*64) str.data.toList)).toArray):=((cn.out.mono (by simp)).drew).setRow (Or.inl (by simp)) _;have np:p∉[gh]:=by simp only[Z58];exact λe=>s1.pg e.symm
     have ai:(D.wait.take (k+1)).foldl WM D.has=QK ((D.wait.take k).foldl WM D.has) (at_*64) str.data.toList:=(by rw[Z5f Z,List.foldl_append,Z5B,List.foldl_nil,WM,bq.out,ak.out]);refine⟨k+1,by omega,by go_num,Ze.fr bf.out hF np,?_,?_⟩
     .rw[ai]
      have de:(QK ((D.wait.take k).foldl WM D.has) (at_*64) str.data.toList).length=((D.wait.take k).foldl WM D.has).length:=WZ _ _ _ (by
       have:str.data.toList.length=64:=by simpa using al.out
       rw[af.out];omega)
      refine⟨?_,ct.out,Qa aj.out.late hF (λg' cz=>by
       have:=s1.gv
       simp only[Z58];rintro rfl;exact this cz)⟩
      have ht:=aj.out.top.fr hF (by simpa using s1.dg);simp only at ht⊢;rw[de];exact ht
     .exact b9.out.trans hF (λi hi _=>by simp at hi;simp[hi])
   .have dh:=J.top.cell (j:=2) rfl;have df:=J.top.free (j:=2) (by simp);clear az J aw;go_wp2;go_ret;have dc:k=D.wait.length:=(by omega);have hF:Fr [d] wr (wr.setCell ⟨d,2,none⟩ (.slice none 0 0)):=(Fr.refl [d] wr).setCell (Or.inl (by simp)) _;have np:p∉[d]:=by simp only[Z58];exact λe=>s1.pd e.symm
    have ng:gh∉[d]:=by simp only[Z58];exact λe=>s1.dg e.symm
    refine⟨rfl,Ze.fr bf.out hF np,?_,b9.out.trans hF (λi hi _=>by simp at hi;simp[hi])⟩;have cw:(D.wait.take k).foldl WM D.has=D.wait.foldl WM D.has:=(by rw[dc,Z5A]);have hd:=aj.out;rw[cw] at hd;exact⟨hd.top.set 2 (.slice none 0 0),hd.bytes.fr hF ng,World.ownsRow_nil _ _ _ _⟩
def YL(B:Nat)(w:World)(v:Value)(c:Int):Prop:=(c=0/\v=.nilIface)∨(c≠0/\∃b,v=.iface 139 (.pointer (some ⟨b,0,none⟩))/\B<=b/\Wn w b c)
theorem YL.ok0(B:Nat)(w:World):YL B w .nilIface 0:=Or.inl ⟨rfl,rfl⟩
theorem YL.err{B:Nat}{w:World}{b:Nat}{c:Int}(hc:c≠0)(hB:B<=b)(h:Wn w b c):YL B w (.iface 139 (.pointer (some ⟨b,0,none⟩))) c:=Or.inr ⟨hc,b,rfl,hB,h⟩
def Dk.fresh(n:Nat):Dk:=⟨List.replicate (64*n) 0,[],false,0⟩
theorem Dk.fresh_ok{n:Nat}(h:1<=n)(C:n<=8192):(Dk.fresh n).ok n:=⟨by simp[Dk.fresh],h,C,by simp[Dk.fresh],by simp[Dk.fresh],by simp[Dk.fresh],by simp[Dk.fresh],by simp[Dk.fresh]⟩
theorem VM(p n:Nat)(w:World)(J:1<=n)(O:n<=8192):Calls prog 16 #[.pointer (some ⟨p,0,none⟩),.int .i64 (n:Int)] w λe w'=>∃d gh,e=.returned (.tuple #[.pointer (some ⟨d,0,none⟩),.nilIface])/\w.heap.size<=d/\w.heap.size<=gh/\Zr w' p d gh (.slice none 0 0) (Dk.fresh n)/\Below w.heap.size w w':=by
 obtain⟨i0,hi,h,C,F⟩:=info_parts Xw;have M:=λW=>WF (P:=prog) 75 5 i0 underlying75 hi h C F (64*n) (by omega) W;rw[show((64*n:Nat):Int)=(n:Int)*64 from by omega] at M;clear hi h C F;go_enter func16,ntmps16;go_wp2;go_ret2;refine⟨_,w.heap.size,rfl,?_,Z5D,⟨?_,?_,World.ownsRow_nil _ _ _ _⟩,?_⟩
 .simp
 .have:=Row.new (w.alloc (.cells (Z3 (List.replicate (64*n) 0)).toArray 5)) 109 [.pointer (some ⟨p,0,none⟩),.slice (some ⟨w.heap.size,0,none⟩) (64*n) (64*n),.slice none 0 0,.bool false,.int .i64 0];simpa[Dk.fresh] using this
 .have J:=ZD.new w 5 (Z3 (List.replicate (64*n) 0));exact J.fr ((Fr.refl [] _).alloc _) (by simp)
 .exact(Z5E.alloc Z5D _).alloc (by simp) _
theorem Z4C(p:Nat)(P:Pw)(w:World)(h:Ze w p P):Calls prog 52 #[.pointer (some ⟨p,0,none⟩)] w λe w'=>e=.returned (.tuple #[])/\Ze w' p {P with gone:=false,fuse:= -1}/\Fr [p] w w':=by have c0:=h.cell (j:=0) rfl;have C:=h.free (j:=0) (by simp);have c1:=h.cell (j:=1) rfl;have F:=h.free (j:=1) (by simp);have H:=Z5F h;clear h;go_enter func52,ntmps52;go_wp2;go_end0;exact⟨rfl,(H.out.set 0 (.bool false)).set 1 (.int .i64 (-1)),((Fr.refl _ _).setCell (Or.inl (by simp)) _).setCell (Or.inl (by simp)) _⟩
def Dk.killed(D:Dk):Dk:={D with dead:=true,wait:=[],life:=D.life+1}
def Dk.replaced(D:Dk):Dk:=⟨List.replicate D.has.length 0,[],false,D.life+1⟩
theorem Z1p(p d gh:Nat)(v:Value)(D:Dk)(n:Nat)(w:World)(h:Zr w p d gh v D)(ok:D.ok n):Calls prog 26 #[.pointer (some ⟨d,0,none⟩)] w λe w'=>e=.returned (.tuple #[])/\Zr w' p d gh (.slice none 0 0) D.killed/\Fr [d] w w':=by have c2:=h.top.cell (j:=2) rfl;have J:=h.top.free (j:=2) (by simp);have c3:=h.top.cell (j:=3) rfl;have M:=h.top.free (j:=3) (by simp);have C:=h.top.cell (j:=4) rfl;have r4:=h.top.free (j:=4) (by simp);have l0:=ok.life0;have F:=ok.life1;have dg:=h.top.ne h.bytes.row (by decide);have H:=Z5F h;clear h ok;go_enter func26,ntmps26;go_wp2;go_end0;have hF:Fr [d] w (((w.setCell ⟨d,3,none⟩ (.bool true)).setCell ⟨d,2,none⟩ (.slice none 0 0)).setCell ⟨d,4,none⟩ (.int .i64 (D.life+1))):=(((Fr.refl _ _).setCell (Or.inl (by simp)) _).setCell (Or.inl (by simp)) _).setCell (Or.inl (by simp)) _;exact⟨rfl,⟨((H.out.top.set 3 (.bool true)).set 2 (.slice none 0 0)).set 4 (.int .i64 (D.life+1)),H.out.bytes.fr hF (by simpa using λe=>dg e.symm),World.ownsRow_nil _ _ _ _⟩,hF⟩
theorem Th(p d gh:Nat)(v:Value)(P:Pw)(D:Dk)(n:Nat)(w:World)(F:Ze w p P)(h:Zr w p d gh v D)(ok:D.ok n)(J:rdy P D 0≠0):Calls prog 191 #[.pointer (some ⟨d,0,none⟩)] w λe w'=>∃b,e=.returned (.iface 139 (.pointer (some ⟨b,0,none⟩)))/\w.heap.size<=b/\Wn w' b (rdy P D 0)/\Below w.heap.size w w':=by have H:=Z5F h;have Z:=Z5F F;have C:=Z5F ok;have HR:=Z5F J;clear h F ok J;go_enter func191,ntmps191;go_wp2_with (go_at_call 118;refine(FR p d gh _ P D n _ _ Z.out H.out C.out.len C.out.n2 HR.out).mono ?_;rintro e w' ⟨b,rfl,M,O,U⟩);go_ret;exact⟨b,rfl,M,O,U⟩
theorem Ti(p d gh:Nat)(v:Value)(P:Pw)(D:Dk)(n:Nat)(w:World)(U:Ze w p P)(pok:P.ok)(h:Zr w p d gh v D)(ok:D.ok n)(Z:rdy P D 0=0)(hc:P.can=false):Calls prog 191 #[.pointer (some ⟨d,0,none⟩)] w λe w'=>∃b,e=.returned (.iface 139 (.pointer (some ⟨b,0,none⟩)))/\w.heap.size<=b/\Wn w' b 10/\Ze w' p P.act/\Zr w' p d gh v D/\Fr [p] w w':=by have H:=Z5F h;have C:=Z5F U;have M:=Z5F ok;have HR:=Z5F Z;have c0:=h.top.cell (j:=0) rfl;clear h U ok Z;go_enter func191,ntmps191;go_wp2_with (first|(go_at_call 118;refine(Jm p d gh _ P D n _ _ C.out H.out M.out.len M.out.n2 HR.out).mono ?_;rintro e w' ⟨rfl,rfl⟩)|(go_at_call 243;refine(Dx p P _ C.out pok).mono ?_;rw[hc];rintro e w1 ⟨rfl,ag,J⟩)|(go_at_call 46;refine(QW _ _).mono ?_;rintro e w' ⟨b,rfl,ae,af,F⟩));go_ret;have O:Fr [p] w _:=J.trans (Fr.of_below (L:=[]) F) (by simp);exact⟨b,rfl,Z5w J.size ae,af,Ze.fr ag (Fr.of_below (L:=[]) F) (by simp),Zr.power C.out H.out O,O⟩
end
section
open Go.RowKit
variable{a c:Int}
def DQ(p d gh:Nat)(v:Value)(P':Pw)(D':Dk)(w w':World):Prop:=
 ∃v',Ze w' p P'/\Zr w' p d gh v' D'/\Fr (p::d::gh::ZG v) w w'/\(v'.ownBlock=v.ownBlock∨∀g,v'.ownBlock=some g->w.heap.size<=g)
theorem DQ.same{p d gh:Nat}{v:Value}{P:Pw}{D:Dk}{w w':World}(J:Ze w p P)(h:Zr w p d gh v D)(F:Below w.heap.size w w'):DQ p d gh v P D w w':=by have C:Fr [] w w':=Fr.of_below F;exact⟨v,J.fr C (by simp),h.fr C (by simp) (by simp) (by simp),C.mono (by simp),Or.inl rfl⟩
def YB(P:Pw)(D:Dk)(a:Int)(s:ByteArray):Int:=if rdy P D a=0 then(if s.size=64 then(if P.can then 0 else 10) else 1) else rdy P D a
def Xx(P:Pw)(D:Dk)(a:Int)(s:ByteArray):Pw:=if rdy P D a=0/\s.size=64 then P.act else P
def wdk(P:Pw)(D:Dk)(a:Int)(s:ByteArray):Dk:=if YB P D a s=0 then{D with wait:=D.wait++[(a.toNat,s)]} else D
def X9(P:Pw)(D:Dk):Int:=if rdy P D 0=0 then(if P.can then 0 else 10) else rdy P D 0
def JV(P:Pw)(D:Dk):Pw:=if rdy P D 0=0 then P.act else P
def fdk(P:Pw)(D:Dk):Dk:=if X9 P D=0 then D.flushed else D
theorem Et{P:Pw}{D:Dk}{n:Nat}(ok:D.ok n)(h:rdy P D a=0):P.gone=false/\D.dead=false/\0<=a/\a<n:=by
 have C:P.gone=false:=by unfold rdy at h;cases J:P.gone<;>simp[J] at h⊢
 have M:D.dead=false:=by unfold rdy at h;rw[C] at h;cases F:D.dead<;>simp[F] at h⊢
 rw[Cq C M ok.len] at h;simp_all
section
variable{p d gh:Nat}{v:Value}{P:Pw}{D:Dk}{n:Nat}{w:World}
theorem Z0t(J:Ze w p P)(pok:P.ok)(h:Zr w p d gh v D)(ok:D.ok n)(a:Int)(s:ByteArray)(ae:D.wait.length<1099511627776):Calls prog 190 #[.pointer (some ⟨d,0,none⟩),.int .i64 a,.string s] w λe w'=>∃ev,e=.returned ev/\YL w.heap.size w' ev (YB P D a s)/\DQ p d gh v (Xx P D a s) (wdk P D a s) w w':=by
 by_cases C:rdy P D a=0
 .obtain⟨hg,hd,ah,ai⟩:=Et ok C;by_cases hs:s.size=64
  .cases hc:P.can
   .have e1:YB P D a s=10:=by unfold YB;rw[if_pos C,if_pos hs,hc];rfl
    have e2:Xx P D a s=P.act:=by unfold Xx;rw[if_pos ⟨C,hs⟩]
    have F:wdk P D a s=D:=by unfold wdk;rw[e1];rfl
    rw[e1,e2,F];refine(Us p d gh v P D n a s w J pok h ok C hs hc).mono ?_;rintro e w' ⟨b,rfl,M,O,ag,Z,hf⟩;exact⟨_,rfl,YL.err (by omega) M O,v,ag,Z,hf.mono (λi hi _=>by simp at hi;simp[hi]),Or.inl rfl⟩
   .have e1:YB P D a s=0:=by unfold YB;rw[if_pos C,if_pos hs,hc];rfl
    have e2:Xx P D a s=P.act:=by unfold Xx;rw[if_pos ⟨C,hs⟩]
    have F:wdk P D a s={D with wait:=D.wait++[(a.toNat,s)]}:=by unfold wdk;rw[e1];rfl
    rw[e1,e2,F];obtain⟨m,rfl⟩:∃m:Nat,a=(m:Int):=⟨a.toNat,by omega⟩;refine(Z2x p d gh v P D n m s w J pok h ok C hs hc ae).mono ?_;rintro e w' ⟨v',rfl,ag,Z,hf,af⟩;exact⟨_,rfl,YL.ok0 _ _,v',ag,Z,hf.mono (λi hi _=>by simp at hi⊢;rcases hi with h|h|h<;>simp[h]),af⟩
  .have e1:YB P D a s=1:=by unfold YB;rw[if_pos C,if_neg hs]
   have e2:Xx P D a s=P:=by unfold Xx;rw[if_neg (λh=>hs h.2)]
   have F:wdk P D a s=D:=by unfold wdk;rw[e1];rfl
   rw[e1,e2,F];refine(Ur p d gh v P D n a s w J h ok C hs).mono ?_;rintro e w' ⟨b,rfl,M,O,U⟩;exact⟨_,rfl,YL.err (by omega) M O,DQ.same J h U⟩
 .have e1:YB P D a s=rdy P D a:=by unfold YB;rw[if_neg C]
  have e2:Xx P D a s=P:=by unfold Xx;rw[if_neg (λh=>C h.1)]
  have F:wdk P D a s=D:=by unfold wdk;rw[e1,if_neg C]
  rw[e1,e2,F];refine(Uq p d gh v P D n a s w J h ok C).mono ?_;rintro e w' ⟨b,rfl,M,O,U⟩;exact⟨_,rfl,YL.err C M O,DQ.same J h U⟩
theorem Vf(J:Ze w p P)(pok:P.ok)(h:Zr w p d gh v D)(ok:D.ok n):Calls prog 191 #[.pointer (some ⟨d,0,none⟩)] w λe w'=>∃ev,e=.returned ev/\YL w.heap.size w' ev (X9 P D)/\DQ p d gh v (JV P D) (fdk P D) w w':=by
 by_cases C:rdy P D 0=0
 .cases hc:P.can
  .have e1:X9 P D=10:=by unfold X9;rw[if_pos C,hc];rfl
   have e2:JV P D=P.act:=by unfold JV;rw[if_pos C]
   have F:fdk P D=D:=by unfold fdk;rw[e1];rfl
   rw[e1,e2,F];refine(Ti p d gh v P D n w J pok h ok C hc).mono ?_;rintro e w' ⟨b,rfl,M,O,Z,U,hf⟩;exact⟨_,rfl,YL.err (by omega) M O,v,Z,U,hf.mono (λi hi _=>by simp at hi;simp[hi]),Or.inl rfl⟩
  .have e1:X9 P D=0:=by unfold X9;rw[if_pos C,hc];rfl
   have e2:JV P D=P.act:=by unfold JV;rw[if_pos C]
   have F:fdk P D=D.flushed:=by unfold fdk;rw[e1];rfl
   rw[e1,e2,F];refine(Z10 p d gh v P D n w J pok h ok C hc).mono ?_;rintro e w' ⟨rfl,Z,U,hf⟩;exact⟨_,rfl,YL.ok0 _ _,_,Z,U,hf.mono (λi hi _=>by simp at hi;rcases hi with h|h|h<;>simp[h]),Or.inr (by simp[Value.ownBlock])⟩
 .have e1:X9 P D=rdy P D 0:=by unfold X9;rw[if_neg C]
  have e2:JV P D=P:=by unfold JV;rw[if_neg C]
  have F:fdk P D=D:=by unfold fdk;rw[e1,if_neg C]
  rw[e1,e2,F];refine(Th p d gh v P D n w J h ok C).mono ?_;rintro e w' ⟨b,rfl,M,O,ae⟩;exact⟨_,rfl,YL.err C M O,DQ.same J h ae⟩
def Bi(P:Pw)(D:Dk)(a:Int):ByteArray:=if rdy P D a=0 then D.reads a.toNat else⟨#[]⟩
theorem Z21(F:Ze w p P)(h:Zr w p d gh v D)(ok:D.ok n)(a:Int):Calls prog 73 #[.pointer (some ⟨d,0,none⟩),.int .i64 a] w λe w'=>∃ev,e=.returned (.tuple #[.string (Bi P D a),ev])/\YL w.heap.size w' ev (rdy P D a)/\Below w.heap.size w w':=by
 by_cases C:rdy P D a=0
 .obtain⟨hg,hd,Z,ae⟩:=Et ok C;obtain⟨m,rfl⟩:∃m:Nat,a=(m:Int):=⟨a.toNat,by omega⟩;refine(Z3H p d gh v P D n m w F h ok C (by omega)).mono ?_;rintro e w' ⟨rfl,U⟩;refine⟨_,?_,by rw[C];exact YL.ok0 _ _,U⟩;unfold Bi;rw[if_pos C];rfl
 .refine(Z22 p d gh v P D n a w F h ok C).mono ?_;rintro e w' ⟨b,rfl,J,M,O⟩;refine⟨_,?_,YL.err C J M,O⟩;unfold Bi;rw[if_neg C]
end
theorem Pw.act_ok{P:Pw}(ok:P.ok):P.act.ok:=by
 unfold Pw.act;obtain⟨f0,f1⟩:=ok;split
 .exact⟨f0,f1⟩
 .refine⟨?_,?_⟩
  .grind
  .grind
theorem Dk.wrote_ok{D:Dk}{n:Nat}(ok:D.ok n)(a:Nat)(s:ByteArray)(ha:a<n)(hs:s.size=64)(h:D.wait.length<1099511627776):Dk.ok {D with wait:=D.wait++[(a,s)]} n:=⟨ok.len,ok.n1,ok.n2,by intro x hx;simp at hx;rcases hx with hx|rfl;exact ok.at_ x hx;exact ha,by intro x hx;simp at hx;rcases hx with hx|rfl;exact ok.size x hx;exact hs,by simp;omega,ok.life0,ok.life1⟩
theorem Dk.flushed_ok{D:Dk}{n:Nat}(ok:D.ok n):D.flushed.ok n:=⟨JU _ _ n ok.len (λx hx=>⟨ok.at_ x hx,ok.size x hx⟩),ok.n1,ok.n2,by simp[Dk.flushed],by simp[Dk.flushed],by simp[Dk.flushed],ok.life0,ok.life1⟩
theorem Z4c{P:Pw}(ok:P.ok)(D:Dk)(a:Int)(s:ByteArray):(Xx P D a s).ok:=by
 unfold Xx;split
 .exact Pw.act_ok ok
 .omega
theorem Z3a{P:Pw}(ok:P.ok)(D:Dk):(JV P D).ok:=by
 unfold JV;split
 .exact Pw.act_ok ok
 .omega
theorem Uo{P:Pw}{D:Dk}{s:ByteArray}(h:YB P D a s=0):rdy P D a=0/\s.size=64/\P.can=true:=by unfold YB at h;grind
theorem Z0q{P:Pw}{D:Dk}{n:Nat}(ok:D.ok n)(a:Int)(s:ByteArray)(C:D.wait.length<1099511627776):(wdk P D a s).ok n:=by
 unfold wdk;split
 .rename_i h;obtain⟨F,hs,_⟩:=Uo h;obtain⟨_,_,J,M⟩:=Et ok F;exact Dk.wrote_ok ok _ s (by omega) hs C
 .omega
theorem Vc{P:Pw}{D:Dk}{n:Nat}(ok:D.ok n):(fdk P D).ok n:=by
 unfold fdk;split
 .exact Dk.flushed_ok ok
 .omega
theorem YL.v{B:Nat}{w:World}{v:Value}(h:YL B w v c):Zk w B c v:=by
 rcases h with ⟨rfl,rfl⟩|⟨hc,b,rfl,hB,C⟩
 .exact Zk.nil _ _
 .exact Or.inr ⟨hc,1,b,0,.nilIface,rfl,hB,C,Or.inl rfl⟩
structure PD(B:Nat)(w:World)(p d n:Nat)(P:Pw)(D:Dk)(L:List Nat):Prop where
 pw:Ze w p P
 pok:P.ok
 dk:∃gh v,L=d::gh::ZG v/\Zr w p d gh v D
 ok:D.ok n
 bp:B<=p
 bL:∀k,k∈L->B<=k
structure Did(B:Nat)(p d n:Nat)(L X:List Nat)(P':Pw)(D':Dk)(w w':World)(L':List Nat):Prop where
 pd:PD B w' p d n P' D' L'
 fr:Fr (X++p::L) w w'
 grew:∀k,k∈L'->k∈L∨w.heap.size<=k
theorem PD.lt{B:Nat}{w:World}{p d n:Nat}{P:Pw}{D:Dk}{L:List Nat}(h:PD B w p d n P D L):p<w.heap.size/\d<w.heap.size/\∀k,k∈L->k<w.heap.size:=by
 obtain⟨gh,v,rfl,F⟩:=h.dk;refine⟨Row.lt h.pw,Row.lt F.top,λk C=> ?_⟩;simp[ZK] at C;rcases C with rfl|rfl|C
 .exact Row.lt F.top
 .exact Row.lt F.bytes.row
 .rcases F.late.2 with ⟨hv,_⟩|⟨J,cap,cur,hv,_,hh,_⟩
  .rw[hv] at C;cases C
  .rw[hv] at C;simp[Value.ownBlock] at C;grind
theorem PD.row_ne{B:Nat}{w:World}{p d n:Nat}{P:Pw}{D:Dk}{L:List Nat}(h:PD B w p d n P D L){g:Nat}{e:TypeId}{l:List Value}(C:Row w g e l)(J:e≠112)(M:e≠109)(O:e≠5)(U:e≠194):g∉p::L:=by
 obtain⟨gh,v,rfl,F⟩:=h.dk;intro hm;simp[ZK] at hm;rcases hm with rfl|rfl|rfl|hm
 .exact Row.ne C h.pw J rfl
 .exact Row.ne C F.top M rfl
 .exact Row.ne C F.bytes.row O rfl
 .exact Row.ne_own C F.late U hm
theorem PD.map_ne{B:Nat}{w:World}{p d n:Nat}{P:Pw}{D:Dk}{L:List Nat}(h:PD B w p d n P D L){g:Nat}{es:Array MapEntry}{M:Nat}(J:w.heap[g]? =some (.map es M)):g∉p::L:=by
 obtain⟨gh,v,rfl,F⟩:=h.dk;intro hm;simp[ZK] at hm;rcases hm with rfl|rfl|rfl|hm
 .obtain⟨f,C,_⟩:=h.pw;rw[J] at C;cases C
 .obtain⟨f,C,_⟩:=F.top;rw[J] at C;cases C
 .have:=F.bytes;unfold ZD at this;rw[J] at this;cases this
 .rcases F.late.2 with ⟨hv,_⟩|⟨O,cap,cur,hv,_,hh,_⟩
  .rw[hv] at hm;cases hm
  .rw[hv] at hm;simp[Value.ownBlock] at hm;simp_all
theorem PD.fr{B:Nat}{w w':World}{p d n:Nat}{P:Pw}{D:Dk}{L:List Nat}(h:PD B w p d n P D L){X:List Nat}(F:Fr X w w')(C:∀k,k∈X->k∉p::L):PD B w' p d n P D L:=by obtain⟨gh,v,rfl,J⟩:=h.dk;refine⟨h.pw.fr F (λhm=>C _ hm (by simp)),h.pok,⟨gh,v,rfl,J.fr F (λhm=>C _ hm (by simp)) (λhm=>C _ hm (by simp)) (λg M hm=>C _ hm ?_)⟩,h.ok,h.bp,h.bL⟩;simp[ZK,M]
theorem PD.after{B:Nat}{w w':World}{p d n:Nat}{P:Pw}{D:Dk}{L:List Nat}(h:PD B w p d n P D L)(C:Below w.heap.size w w'):PD B w' p d n P D L:=h.fr (Fr.of_below (L:=[]) C) (by simp)
theorem Did.same{B:Nat}{w w':World}{p d n:Nat}{P:Pw}{D:Dk}{L:List Nat}(h:PD B w p d n P D L)(X:List Nat)(C:Below w.heap.size w w'):Did B p d n L X P D w w' L:=⟨h.after C,Fr.of_below C,λk F=>Or.inl F⟩
theorem Did.trans{B:Nat}{p d n:Nat}{L X:List Nat}{P1 P2:Pw}{D1 D2:Dk}{w w1 w2:World}{L1 C:List Nat}(h:Did B p d n L X P1 D1 w w1 L1)(k:Did B p d n L1 X P2 D2 w1 w2 C):Did B p d n L X P2 D2 w w2 C:=
 ⟨k.pd,h.fr.trans k.fr (λi hi F=>by
  simp only[Z5p,Z5q] at hi⊢;rcases hi with hi|hi|hi
  .exact Or.inl hi
  .exact Or.inr (Or.inl hi)
  .rcases h.grew i hi with hg|hg
   .exact Or.inr (Or.inr hg)
   .omega),λi hi=>by
  rcases k.grew i hi with hg|hg
  .exact h.grew i hg
  .exact Or.inr (Z5w h.fr.size hg)⟩
theorem Did.wider{B:Nat}{p d n:Nat}{L X Y:List Nat}{P1:Pw}{D1:Dk}{w w1:World}{L1:List Nat}(h:Did B p d n L X P1 D1 w w1 L1)(C:∀k,k∈X->k∈Y):Did B p d n L Y P1 D1 w w1 L1:=⟨h.pd,h.fr.mono (λi hi _=>by simp at hi⊢;exact hi.imp (C i) id),h.grew⟩
theorem Did.from{B:Nat}{p d n:Nat}{L X:List Nat}{P1:Pw}{D1:Dk}{w0 w w1:World}{L1:List Nat}(h:Did B p d n L X P1 D1 w w1 L1)(C:Below w0.heap.size w0 w):Did B p d n L X P1 D1 w0 w1 L1:=⟨h.pd,(Fr.of_below (L:=X++p::L) C).trans h.fr (λi hi _=>hi),λi hi=>(h.grew i hi).imp id (λF=>Z5w C.size F)⟩
theorem Did.after{B:Nat}{p d n:Nat}{L X:List Nat}{P1:Pw}{D1:Dk}{w w1 w2:World}{L1:List Nat}(h:Did B p d n L X P1 D1 w w1 L1)(C:Below w1.heap.size w1 w2):Did B p d n L X P1 D1 w w2 L1:=⟨h.pd.after C,h.fr.trans (Fr.of_below (L:=[]) C) (by simp),h.grew⟩
theorem Did.frame{B:Nat}{p d n:Nat}{L X Y:List Nat}{P1:Pw}{D1:Dk}{w w1 w2:World}{L1:List Nat}(h:Did B p d n L X P1 D1 w w1 L1)(F:Fr Y w1 w2)(J:∀k,k∈Y->k∉p::L1)(C:∀k,k∈Y->k∈X∨w.heap.size<=k):Did B p d n L X P1 D1 w w2 L1:=
 ⟨h.pd.fr F J,h.fr.trans F (λi hi M=>by
  rcases C i hi with C|C
  .simp[C]
  .omega),h.grew⟩
theorem Did.row{B:Nat}{p d n:Nat}{L X:List Nat}{P P1:Pw}{D D1:Dk}{w w1:World}{L1:List Nat}(h:Did B p d n L X P1 D1 w w1 L1)(F:PD B w p d n P D L){g:Nat}{e:TypeId}{l:List Value}(C:Row w g e l)(Z:g∉X)(J:e≠112)(M:e≠109)(O:e≠5)(U:e≠194):Row w1 g e l:=C.fr h.fr (by simp only[Z5p,not_or];exact⟨Z,F.row_ne C J M O U⟩)
theorem DQ.did{B:Nat}{p d n gh:Nat}{v:Value}{P P':Pw}{D D':Dk}{w w':World}(hl:DQ p d gh v P' D' w w')(h:PD B w p d n P D (d::gh::ZG v))(hB:B<=w.heap.size)(pok:P'.ok)(ok:D'.ok n):∃L',Did B p d n (d::gh::ZG v) [] P' D' w w' L':=by
 obtain⟨v',J,F,M,O⟩:=hl;refine⟨d::gh::ZG v',⟨J,pok,⟨gh,v',rfl,F⟩,ok,h.bp,λk C=> ?_⟩,by simpa using M,λk C=> ?_⟩
 .simp[ZK] at C;rcases C with rfl|rfl|C
  .exact h.bL _ (by simp)
  .exact h.bL _ (by simp)
  .rcases O with e|e
   .exact h.bL _ (by simp[ZK,<-e,C])
   .grind
 .simp[ZK] at C⊢;grind
theorem Zk.zero{w:World}{B:Nat}{v:Value}(h:Zk w B 0 v):v=.nilIface:=by
 rcases h with ⟨_,rfl⟩|⟨h,_⟩
 .rfl
 .omega
theorem Zk.split{w:World}{B:Nat}{v:Value}(h:Zk w B c v):(c=0/\v=.nilIface)∨(c≠0/\∃b,v=.iface 139 (.pointer (some ⟨b,0,none⟩))):=by
 rcases h with ⟨rfl,rfl⟩|⟨hc,n,C⟩
 .simp
 .match n,C with
  |n+1,⟨b,_,_,hv,_⟩=>exact Or.inr ⟨hc,b,hv⟩
theorem Zk.fr{w w':World}{B:Nat}{v:Value}(h:Zk w B c v){L:List Nat}(F:Fr L w w')(C:∀k,k∈L->k<B):Zk w' B c v:=by
 have key:∀ (n:Nat) (v:Value),W5 w B c n v->W5 w' B c n v:=by
  intro n
  induction n with
  |zero=>intro v h;exact h
  |succ n ih=>rintro v ⟨b,a,i,hv,hB,M,hi⟩;exact⟨b,a,i,hv,hB,M.fr F (λhm=>by have:=C b hm;omega),hi.imp id (ih i)⟩
 exact h.imp id λ⟨hc,n,J⟩=>⟨hc,n,key n v J⟩
def Ans(B:Nat)(c:Int)(Q:World->Prop)(e:Ending)(w':World):Prop:=∃ev,e=.returned ev/\Zk w' B c ev/\Q w'
section
variable{B p d n:Nat}{P:Pw}{D:Dk}{L:List Nat}{w:World}
theorem PD.write(h:PD B w p d n P D L)(hB:B<=w.heap.size)(a:Int)(s:ByteArray)(C:D.wait.length<1099511627776):Calls prog 190 #[.pointer (some ⟨d,0,none⟩),.int .i64 a,.string s] w (Ans w.heap.size (YB P D a s) λw'=>∃L',Did B p d n L [] (Xx P D a s) (wdk P D a s) w w' L'):=by obtain⟨gh,v,rfl,F⟩:=h.dk;refine(Z0t h.pw h.pok F h.ok a s C).mono ?_;rintro e w' ⟨ev,rfl,he,hl⟩;exact⟨ev,rfl,he.v,hl.did h hB (Z4c h.pok D a s) (Z0q h.ok a s C)⟩
theorem PD.flush(h:PD B w p d n P D L)(hB:B<=w.heap.size):Calls prog 191 #[.pointer (some ⟨d,0,none⟩)] w (Ans w.heap.size (X9 P D) λw'=>∃L',Did B p d n L [] (JV P D) (fdk P D) w w' L'):=by obtain⟨gh,v,rfl,C⟩:=h.dk;refine(Vf h.pw h.pok C h.ok).mono ?_;rintro e w' ⟨ev,rfl,he,hl⟩;exact⟨ev,rfl,he.v,hl.did h hB (Z3a h.pok D) (Vc h.ok)⟩
theorem PD.read(h:PD B w p d n P D L)(a:Int):Calls prog 73 #[.pointer (some ⟨d,0,none⟩),.int .i64 a] w λe w'=>∃ev,e=.returned (.tuple #[.string (Bi P D a),ev])/\Zk w' w.heap.size (rdy P D a) ev/\Below w.heap.size w w':=by obtain⟨gh,v,rfl,F⟩:=h.dk;exact(Z21 h.pw F h.ok a).mono λe w' ⟨ev,he,hv,C⟩=>⟨ev,he,hv.v,C⟩
end
inductive DOp where
 |wr (a:Nat) (s:ByteArray)
 |fl
def DOp.code(P:Pw)(D:Dk):DOp->Int
 |.wr a s=>YB P D a s
 |.fl=>X9 P D
def DOp.pow(P:Pw)(D:Dk):DOp->Pw
 |.wr a s=>Xx P D a s
 |.fl=>JV P D
def DOp.dk(P:Pw)(D:Dk):DOp->Dk
 |.wr a s=>wdk P D a s
 |.fl=>fdk P D
def Z2:List DOp->Pw->Dk->Int×Pw×Dk
 |[],P,D=>(0,P,D)
 |o::l,P,D=>if o.code P D=0 then Z2 l (o.pow P D) (o.dk P D) else(o.code P D,o.pow P D,o.dk P D)
theorem Wz(o:DOp)(l:List DOp)(P:Pw)(D:Dk):Z2 (o::l) P D=if o.code P D=0 then Z2 l (o.pow P D) (o.dk P D) else(o.code P D,o.pow P D,o.dk P D):=rfl
theorem XP(a b:List DOp)(P:Pw)(D:Dk):Z2 (a++b) P D=if(Z2 a P D).1=0 then Z2 b (Z2 a P D).2.1 (Z2 a P D).2.2 else Z2 a P D:=by
 induction a generalizing P D with
 |nil=>simp[Z2]
 |cons o l ih=>
  rw[List.cons_append,Wz];by_cases h:o.code P D=0
  .rw[if_pos h,ih,show Z2 (o::l) P D=Z2 l (o.pow P D) (o.dk P D) from by rw[Wz,if_pos h]]
  .rw[if_neg h,show Z2 (o::l) P D=(o.code P D,o.pow P D,o.dk P D) from by rw[Wz,if_neg h],if_neg h]
theorem AJ(o:DOp)(P:Pw)(D:Dk):Z2 [o] P D=(o.code P D,o.pow P D,o.dk P D):=by simp[Z2];simp_all
theorem Hf(a:List DOp)(o:DOp)(P Q:Pw)(D E:Dk)(h:Z2 a P D=(0,Q,E)):Z2 (a++[o]) P D=(o.code Q E,o.pow Q E,o.dk Q E):=by rw[XP,h];simp;exact AJ o Q E
theorem PY(a b:List DOp)(P Q:Pw)(D E:Dk)(c:Int)(h:Z2 a P D=(c,Q,E))(hc:c≠0):Z2 (a++b) P D=(c,Q,E):=by rw[XP,h];simp[if_neg hc]
theorem Mz(a:List DOp)(i:Nat)(P Q:Pw)(D E:Dk)(c:Int)(h:Z2 (a.take i) P D=(c,Q,E))(hc:c≠0):Z2 a P D=(c,Q,E):=by have:=PY (a.take i) (a.drop i) P Q D E c h hc;simp_all
theorem FX(a b:List DOp)(P Q:Pw)(D E:Dk)(h:Z2 a P D=(0,Q,E)):Z2 (a++b) P D=Z2 b Q E:=by rw[XP,h];simp
theorem DOp.few(P:Pw)(D:Dk)(o:DOp):(o.dk P D).wait.length<=D.wait.length+1:=by
 cases o with
 |wr a s=>show(wdk P D a s).wait.length<=_;unfold wdk;split<;>simp
 |fl=>show(fdk P D).wait.length<=_;unfold fdk;split<;>simp[Dk.flushed]
theorem Kk(l:List DOp)(P:Pw)(D:Dk):(Z2 l P D).2.2.wait.length<=D.wait.length+l.length:=by
 induction l generalizing P D with
 |nil=>simp[Z2]
 |cons o l ih=>have:=DOp.few P D o;simp[Z2];grind
def Ran(B p d n:Nat)(L X:List Nat)(l:List DOp)(P:Pw)(D:Dk)(w w':World):Prop:=∃L',Did B p d n L X (Z2 l P D).2.1 (Z2 l P D).2.2 w w' L'
theorem Ran.one{B p d n:Nat}{L X:List Nat}{o:DOp}{P:Pw}{D:Dk}{w w':World}(h:∃L',Did B p d n L X (o.pow P D) (o.dk P D) w w' L'):Ran B p d n L X [o] P D w w':=by unfold Ran;rw[AJ];exact h
theorem Ran.go{B p d n:Nat}{L X L1:List Nat}{a b:List DOp}{P P1:Pw}{D D1:Dk}{w w1 w2:World}(e:Z2 a P D=(0,P1,D1))(h:Did B p d n L X P1 D1 w w1 L1)(k:Ran B p d n L1 X b P1 D1 w1 w2):Ran B p d n L X (a++b) P D w w2:=by unfold Ran;rw[FX a b P P1 D D1 e];obtain⟨C,k⟩:=k;exact⟨C,h.trans k⟩
theorem Ran.stop{B p d n:Nat}{L X:List Nat}{a b:List DOp}{P:Pw}{D:Dk}{w w1:World}(hc:(Z2 a P D).1≠0)(h:Ran B p d n L X a P D w w1):Ran B p d n L X (a++b) P D w w1:=by unfold Ran;rw[XP,if_neg hc];exact h
theorem Ran.after{B p d n:Nat}{L X:List Nat}{a:List DOp}{P:Pw}{D:Dk}{w w1 w2:World}(h:Ran B p d n L X a P D w w1)(C:Below w1.heap.size w1 w2):Ran B p d n L X a P D w w2:=by obtain⟨L',h⟩:=h;exact⟨L',h.after C⟩
theorem A9{a b:List DOp}{P P1:Pw}{D D1:Dk}(e:Z2 a P D=(0,P1,D1)):(Z2 (a++b) P D).1=(Z2 b P1 D1).1:=by rw[FX a b P P1 D D1 e]
theorem Bq{a b:List DOp}{P:Pw}{D:Dk}(hc:(Z2 a P D).1≠0):(Z2 (a++b) P D).1=(Z2 a P D).1:=by rw[XP,if_neg hc]
theorem O6{l:List DOp}{P:Pw}{D:Dk}(h:(Z2 l P D).1=0):Z2 l P D=(0,(Z2 l P D).2.1,(Z2 l P D).2.2):=by grind
structure Stg(B p d n:Nat)(L X:List Nat)(A:List DOp)(P:Pw)(D:Dk)(w:World)(P1:Pw)(D1:Dk)(L1:List Nat)(w1:World):Prop where
 run:Z2 A P D=(0,P1,D1)
 did:Did B p d n L X P1 D1 w w1 L1
section
variable{B p d n:Nat}{L X:List Nat}{A:List DOp}{P:Pw}{D:Dk}{w:World}{P1:Pw}{D1:Dk}{L1:List Nat}{w1:World}
theorem Stg.start(h:PD B w p d n P D L)(X:List Nat)(C:Below w.heap.size w w1):Stg B p d n L X [] P D w P D L w1:=⟨rfl,Did.same h X C⟩
theorem Stg.size(h:Stg B p d n L X A P D w P1 D1 L1 w1):w.heap.size<=w1.heap.size:=h.did.fr.size
theorem Stg.few(h:Stg B p d n L X A P D w P1 D1 L1 w1):D1.wait.length<=D.wait.length+A.length:=by have:=Kk A P D;rw[h.run] at this;exact this
theorem Stg.after(h:Stg B p d n L X A P D w P1 D1 L1 w1){w2:World}(C:Below w1.heap.size w1 w2):Stg B p d n L X A P D w P1 D1 L1 w2:=⟨h.run,h.did.after C⟩
theorem Stg.frame(h:Stg B p d n L X A P D w P1 D1 L1 w1){Y:List Nat}{w2:World}(J:Fr Y w1 w2)(C:∀k,k∈Y->k∉p::L1)(F:∀k,k∈Y->k∈X∨w.heap.size<=k):Stg B p d n L X A P D w P1 D1 L1 w2:=⟨h.run,h.did.frame J C F⟩
theorem Stg.next(h:Stg B p d n L X A P D w P1 D1 L1 w1){b:List DOp}{w2:World}(hc:(Z2 b P1 D1).1=0)(F:Ran B p d n L1 [] b P1 D1 w1 w2):∃P2 D2 C,Stg B p d n L X (A++b) P D w P2 D2 C w2:=by obtain⟨C,F⟩:=F;exact⟨_,_,C,by rw[FX _ _ _ _ _ _ h.run];exact O6 hc,h.did.trans (F.wider (by simp))⟩
theorem Stg.fail(h:Stg B p d n L X A P D w P1 D1 L1 w1){b:List DOp}{w2:World}{ev:Value}(he:Zk w2 w1.heap.size (Z2 b P1 D1).1 ev)(C:Ran B p d n L1 [] b P1 D1 w1 w2):Ans w.heap.size (Z2 (A++b) P D).1 (Ran B p d n L X (A++b) P D w) (.returned ev) w2:=by obtain⟨F,C⟩:=C;exact⟨ev,rfl,by rw[A9 h.run];exact he.base h.size,Ran.go h.run h.did ⟨F,C.wider (by simp)⟩⟩
theorem Q8{S:Nat}{l r:List DOp}{e:Ending}{w2:World}(hc:(Z2 l P D).1≠0)(h:Ans S (Z2 l P D).1 (Ran B p d n L X l P D w) e w2):Ans S (Z2 (l++r) P D).1 (Ran B p d n L X (l++r) P D w) e w2:=by obtain⟨ev,he,hv,C⟩:=h;exact⟨ev,he,by rw[Bq hc];exact hv,C.stop hc⟩
theorem Stg.code_ne(h:Stg B p d n L X A P D w P1 D1 L1 w1){b:List DOp}(hc:(Z2 b P1 D1).1≠0):(Z2 (A++b) P D).1≠0:=by rw[A9 h.run];exact hc
theorem Stg.ok(h:Stg B p d n L X A P D w P1 D1 L1 w1)(S:Nat):Ans S (Z2 A P D).1 (Ran B p d n L X A P D w) (.returned .nilIface) w1:=⟨_,rfl,by rw[h.run];exact Zk.nil _ _,L1,by rw[h.run];exact h.did⟩
end
theorem ZR{l r:List DOp}{P:Pw}{D:Dk}(hc:(Z2 l P D).1≠0):(Z2 (l++r) P D).1≠0:=by rw[Bq hc];exact hc
end
section
open Go.RowKit
variable{n:Nat}
theorem Dk.replaced_ok{D:Dk}(ok:D.ok n)(hl:D.life<4611686018427387904):D.replaced.ok n:=⟨by simp[Dk.replaced,ok.len],ok.n1,ok.n2,by simp[Dk.replaced],by simp[Dk.replaced],by simp[Dk.replaced],by have:=ok.life0;simp only[Dk.replaced];omega,by simp only[Dk.replaced];omega⟩
theorem Dk.killed_ok{D:Dk}(ok:D.ok n)(hl:D.life<4611686018427387904):D.killed.ok n:=⟨ok.len,ok.n1,ok.n2,by simp[Dk.killed],by simp[Dk.killed],by simp[Dk.killed],by have:=ok.life0;simp only[Dk.killed];omega,by simp only[Dk.killed];omega⟩
end
section
open Go.RowKit
variable{w:World}
theorem Fr.cell{L:List Nat}{w':World}(h:Fr L w w'){a:Addr}(ha:a.block<w.heap.size)(C:a.block∉L):w'.cell? a=w.cell? a:=by unfold World.cell?;rw[h.block a.block ha C]
def Rz(w:World)(gh:Nat)(ka:Option Addr)(keep:List Bool):Prop:=∀i (h:i<keep.length),∃kb ko,ka=some ⟨kb,ko,none⟩/\kb≠gh/\w.cell? ⟨kb,ko+i,none⟩=some (.bool keep[i])
def Dk.losing(D:Dk)(keep:List Bool)(t0:Nat):Nat->List UInt8×Nat
 |0=>(D.has,t0)
 |k+1=>
  let r:=D.losing keep t0 k
  match D.wait[k]? with
  |none=>r
  |some x=>if keep[k]? =some true then(WM r.1 x,r.2) else(QK r.1 (x.1*64) (x.2.data.toList.take r.2),0)
def Ye(t:Int):Nat:=(min (max t 0) 64).toNat
def Dk.lost(D:Dk)(keep:List Bool)(t:Int):Dk:={D with has:=(D.losing keep (Ye t) D.wait.length).1,wait:=[]}
theorem Ex{P:Program}(T:TypeId)(h:P.underlying T=some .string)(s:ByteArray)(n:Nat)(C:n<=s.size)(W:World):(Instr.slice T (.string s) none (some (.int .i64 (n:Int))) none).run P W=.ok (.string (s.extract 0 n)) W:=by rw[run_slice_string_to_if W T s .i64 n h,if_pos ⟨by omega,by omega⟩];simp
theorem Nd(s:ByteArray)(n:Nat)(h:n<=s.size):(s.extract 0 n).size=n:=by simp;omega
theorem Fy(s:ByteArray)(n:Nat):(s.extract 0 n).data.toList=s.data.toList.take n:=by simp[ByteArray.data_extract]
theorem Z3I{k:IntKind}{a b:Int}(h:a=b):Value.int k a=.int k b:=by rw[h]
theorem Gd(t:Int):Ye t<=64:=by unfold Ye;omega
theorem Dk.losing_le(D:Dk)(keep:List Bool)(t0:Nat)(h:t0<=64)(k:Nat):(D.losing keep t0 k).2<=64:=by
 induction k with
 |zero=>exact h
 |succ k ih=>
  simp only[Dk.losing];split
  .exact ih
  .split
   .exact ih
   .simp
theorem Dk.losing_length(D:Dk)(n:Nat)(ok:D.ok n)(keep:List Bool)(t0:Nat)(k:Nat):(D.losing keep t0 k).1.length=64*n:=by
 induction k with
 |zero=>exact ok.len
 |succ k ih=>
  simp only[Dk.losing];split
  .exact ih
  .rename_i x hx;have hm:=List.mem_of_getElem? hx;have h:=ok.at_ x hm;have C:x.2.data.toList.length=64:=(by simpa using ok.size x hm);split
   .exact Bf _ _ _ ih h (ok.size x hm)
   .rw[WZ _ _ _ (by rw[Z5j,ih];omega),ih]
theorem VD{p d gh:Nat}{D:Dk}(h:Zr w p d gh (.slice none 0 0) D)(hw:D.wait=[])(keep:List Bool)(t:Int):Ending.returned (.tuple #[])=Ending.returned (.tuple #[])/\Zr (w.setCell ⟨d,2,none⟩ (.slice none 0 0)) p d gh (.slice none 0 0) (D.lost keep t)/\Fr [d,gh] w (w.setCell ⟨d,2,none⟩ (.slice none 0 0)):=by
 have hF:Fr [d] w (w.setCell ⟨d,2,none⟩ (.slice none 0 0)):=(Fr.refl [d] w).setCell (Or.inl (by simp)) _;have dg:=h.top.ne h.bytes.row (by decide);have e1:D.lost keep t=D:=by unfold Dk.lost;rw[hw];rcases D with ⟨C,F,J,M⟩;simp only at hw;subst hw;rfl
 rw[e1];exact⟨rfl,⟨h.top.set 2 (.slice none 0 0),h.bytes.fr hF (by simpa using λe=>dg e.symm),by rw[hw];exact World.ownsRow_nil _ _ _ _⟩,hF.mono (λi hi _=>by simp at hi;simp[hi])⟩
theorem Z1u(p d gh:Nat)(v:Value)(P:Pw)(D:Dk)(n:Nat)(ka:Option Addr)(kc:Nat)(keep:List Bool)(t:Int)(w:World)(hp:Ze w p P)(h:Zr w p d gh v D)(ok:D.ok n)(hk:Rz w gh ka keep):Calls prog 53 #[.pointer (some ⟨d,0,none⟩),.slice ka keep.length kc,.int .i64 t] w λe w'=>e=.returned (.tuple #[])/\Zr w' p d gh (.slice none 0 0) (D.lost keep t)/\Fr [d,gh] w w':=by
 have k2:=h.top.cell (j:=2) rfl;have H:=Z5F h;have HP:=Z5F hp;have OK:=Z5F ok;have HK:=Z5F hk;have hv:D.wait.length=0/\v=.slice none 0 0∨∃g cap,v=.slice (some ⟨g,0,none⟩) D.wait.length cap:=by
  rcases h.late.2 with ⟨h1,h2⟩|⟨g,cap,cur,hv,_⟩
  .exact Or.inl ⟨h2,h1⟩
  .exact Or.inr ⟨g,cap,hv⟩
 have df:=ok.few;clear h hp ok hk;rcases hv with ⟨h0,rfl⟩|⟨g,cap,rfl⟩
 .have hw:D.wait=[]:=List.length_eq_zero_iff.1 h0;have dm:=Z5F hw;clear hw h0;have dp:=H.out.top.free (j:=2) (by simp);go_enter func53,ntmps53;go_wp2
  all_goals refine wp_loop_rounds 1 ?_
  all_goals rw[rounds_succ]
  all_goals go_wp2
  all_goals go_end0
  all_goals exact VD H.out dm.out keep t
 .go_enter func53,ntmps53;go_wp2
  all_goals go_loopw [2,16] (λC i wr=>∃k:Nat,k<=D.wait.length/\i=.int .i64 k/\C=.int .i64 (D.losing keep (Ye t) k).2/\Ze wr p P/\Zr wr p d gh (.slice (some ⟨g,0,none⟩) D.wait.length cap) {D with has:=(D.losing keep (Ye t) k).1}/\Fr [gh] w wr) (λ_ i _=>D.wait.length- (intOf i).toNat)
  all_goals try exact⟨0,by omega,rfl,Z3I (by show _=((Ye t:Nat):Int);unfold Ye;omega),HP.out,H.out,Fr.refl _ _⟩
  all_goals
   obtain⟨k,hk,rfl,rfl,cj,F,b9⟩:=hrel;have cw:=Z5F cj;have ak:=Z5F F;have bh:=Z5F b9;have Z:=sep HP.out H.out;by_cases b7:k<D.wait.length
   .have c3:wr.cell? ⟨g,k*2,none⟩=some (.int .i64 (D.wait[k].1:Int)):=XC F.late rfl (by rw[Nat.mul_comm];exact(JC _ _ b7).1);have c4:wr.cell? ⟨g,k*2+1,none⟩=some (.string D.wait[k].2):=XC F.late rfl (by rw[Nat.mul_comm];exact(JC _ _ b7).2);have cr:=OK.out.at_ _ (Z5r b7);have ct:=OK.out.size _ (Z5r b7);have hlen:=D.losing_length n OK.out keep (Ye t) k;have bf:=D.losing_le keep (Ye t) (Gd t) k;have ag:D.losing keep (Ye t) (k+1)=if keep[k]? =some true then(WM (D.losing keep (Ye t) k).1 D.wait[k],(D.losing keep (Ye t) k).2) else(QK (D.losing keep (Ye t) k).1 (D.wait[k].1*64) (D.wait[k].2.data.toList.take (D.losing keep (Ye t) k).2),0):=(by simp only[Dk.losing,Z5a b7]);obtain⟨has,ai⟩:=Z5I (D.losing keep (Ye t) k).1;obtain⟨C,cn⟩:=Z5I (D.losing keep (Ye t) k).2;rw[<-ai,<-cn] at ag;rw[<-ai] at hlen F ak;rw[<-cn] at bf⊢;have dc:∀o,Zr (wr.alloc o).drew p d gh (.slice (some ⟨g,0,none⟩) D.wait.length cap) {D with has:=has}:=λo=>F.fr (L:=[]) (((Fr.refl [] wr).alloc o).drew) (by simp) (by simp) (by simp);have n2:=OK.out.n2;obtain⟨at_,bm⟩:=Z5I D.wait[k].1;obtain⟨str,aj⟩:=Z5I D.wait[k].2;rw[<-bm] at cr c3;rw[<-aj] at ct c4;have ah:D.losing keep (Ye t) (k+1)=if keep[k]? =some true then(QK has (at_*64) str.data.toList,C) else(QK has (at_*64) (str.data.toList.take C),0):=by rw[ag,bm,aj];rfl
    have cu:=Z5F dc;have af:=Z5F hlen;have al:=Z5F ct;have HN:=Z5F ah;have az:(k<keep.length/\∃M ko,ka=some ⟨M,ko,none⟩/\∃b,keep[k]? =some b/\∀o,(wr.alloc o).cell? ⟨M,ko+k,none⟩=some (.bool b))∨(¬k<keep.length/\keep[k]? =none):=by
     by_cases aq:k<keep.length
     .obtain⟨M,ko,e1,e2,e3⟩:=HK.out k aq;have dj:M<w.heap.size:=by
       unfold World.cell? at e3;by_cases h9:M<w.heap.size
       .exact h9
       .rw[Array.getElem?_eq_none (by show w.heap.size<=M;omega)] at e3;cases e3
      exact Or.inl ⟨aq,M,ko,e1,keep[k],by rw[Z5a aq],λo=>((b9.alloc o).cell (a:=⟨M,ko+k,none⟩) dj (by simpa using e2)).trans e3⟩
     .exact Or.inr ⟨aq,List.getElem?_eq_none (by omega)⟩
    clear cj F b9 dc hlen bm aj ct ag ah ai cn;rcases az with ⟨aq,M,ko,rfl,b,aw,dq⟩|⟨aq,aw⟩
    case' inl=>
     cases b
     case' true=>
      have HB:=Z5F aw;clear aw;go_wp2_with fail;have r5:=Row.new wr 194 [.int .i64 (at_:Int),.string str];have c5:=r5.cell (j:=0) rfl;have c6:=r5.cell (j:=1) rfl;have O:=cu.out (.cells #[.int .i64 (at_:Int),.string str] 194);have U:=(Fr.refl [] wr).alloc (.cells #[.int .i64 (at_:Int),.string str] 194);obtain⟨w2,b8⟩:=Z5I (wr.alloc (.cells #[.int .i64 (at_:Int),.string str] 194));simp only[List.toArray] at c5 c6;rw[<-b8] at c5 c6 O U⊢;have au:=Z5F O;have bg:=Z5F U;clear r5 O U b8;go_still_tail 6,(by kernel_rfl)
      still_call (XJ (XI p d gh _ _ n at_ _ au.out af.out n2 cr))
      repeat still_step
      refine wpStill_nil ?_;change wpList _ _ _ _ _ w2.drew;go_wp2_with (refine AO rfl (.tmp 34) (.tmp 36) 75 9 rfl 5 underlying75 XR gh (at_*64) 64 _ rfl str rfl has au.out.bytes (by rw[al.out];omega) (by rw[al.out,af.out];omega) ?_;intro ae);have bj:=Z5F ae;clear ae;go_wp2;go_roundw
      case measure=>simp[intOf];omega
      case rel=>
       have bz:(str.data.toList).length=64:=(by simpa using al.out);have hF:Fr [gh] wr (w2.drew.setRow gh (Z3 (QK has (at_*64) (str.data.toList))).toArray):=((bg.out.mono (by simp)).drew).setRow (Or.inl (by simp)) _;have np:p∉[gh]:=by simp only[Z58];exact λe=>Z.pg e.symm
       have J:=HN.out;rw[HB.out] at J;simp at J;refine⟨k+1,by omega,by go_num,by rw[J],Ze.fr cw.out hF np,?_,?_⟩
       .rw[J]
        have bu:(QK has (at_*64) (str.data.toList)).length=has.length:=WZ _ _ _ (by
         rw[af.out];omega)
        refine⟨?_,bj.out,Qa ak.out.late hF (λg' bq=>by
         have:=Z.gv
         simp only[Z58];rintro rfl;exact this bq)⟩
        have ht:=ak.out.top.fr hF (by simpa using Z.dg);simp only at ht⊢;rw[bu];exact ht
       .exact bh.out.trans hF (λi hi _=>by simp at hi;simp[hi])
    all_goals
     have HB:=Z5F aw;clear aw;go_wp2_with fail;have r5:=Row.new wr 194 [.int .i64 (at_:Int),.string str];have c5:=r5.cell (j:=0) rfl;have c6:=r5.cell (j:=1) rfl;have O:=cu.out (.cells #[.int .i64 (at_:Int),.string str] 194);have U:=(Fr.refl [] wr).alloc (.cells #[.int .i64 (at_:Int),.string str] 194);obtain⟨w2,b8⟩:=Z5I (wr.alloc (.cells #[.int .i64 (at_:Int),.string str] 194));simp only[List.toArray] at c5 c6;rw[<-b8] at c5 c6 O U⊢;have au:=Z5F O;have bg:=Z5F U;clear r5 O U b8;go_still_tail 8,(by kernel_rfl);have dt:=λW=>Ex (P:=prog) 9 underlying9 str C (by rw[al.out];exact bf) W;have de:=Z5G (Nd str C (by rw[al.out];exact bf)) (Fy str C);have cz:=Z5F de;clear de
     still_call (XJ (XI p d gh _ _ n at_ _ au.out af.out n2 cr))
     repeat still_step
     refine wpStill_nil ?_;change wpList _ _ _ _ _ w2.drew;go_wp2_with (refine AO rfl (.tmp 41) (.tmp 45) 75 9 rfl 5 underlying75 XR gh (at_*64) 64 _ rfl (str.extract 0 C) rfl has au.out.bytes (by rw[cz.out.1];exact bf) (by rw[cz.out.1,af.out];omega) ?_;intro ae;rw[Fy] at ae);have bj:=Z5F ae;clear ae;go_wp2;go_roundw
     case measure=>simp[intOf];omega
     case rel=>
      have bz:((str.data.toList.take C)).length=C:=by rw[Z5j,show str.data.toList.length=64 from by simpa using al.out];omega
      have hF:Fr [gh] wr (w2.drew.setRow gh (Z3 (QK has (at_*64) ((str.data.toList.take C)))).toArray):=((bg.out.mono (by simp)).drew).setRow (Or.inl (by simp)) _;have np:p∉[gh]:=by simp only[Z58];exact λe=>Z.pg e.symm
      have J:=HN.out;rw[HB.out] at J;simp at J;refine⟨k+1,by omega,by go_num,by rw[J];rfl,Ze.fr cw.out hF np,?_,?_⟩
      .rw[J];simp only[]
       have bu:(QK has (at_*64) ((str.data.toList.take C))).length=has.length:=WZ _ _ _ (by
        rw[af.out];omega)
       refine⟨?_,bj.out,Qa ak.out.late hF (λg' bq=>by
        have:=Z.gv
        simp only[Z58];rintro rfl;exact this bq)⟩
       have ht:=ak.out.top.fr hF (by simpa using Z.dg);simp only at ht⊢;rw[bu];exact ht
      .exact bh.out.trans hF (λi hi _=>by simp at hi;simp[hi])
   .have du:=F.top.cell (j:=2) rfl;have dp:=F.top.free (j:=2) (by simp);clear cj F b9;go_wp2;go_end0;have dh:k=D.wait.length:=(by omega);have hF:Fr [d] wr (wr.setCell ⟨d,2,none⟩ (.slice none 0 0)):=(Fr.refl [d] wr).setCell (Or.inl (by simp)) _;have ng:gh∉[d]:=by simp only[Z58];exact λe=>Z.dg e.symm
    refine⟨rfl,?_,(bh.out.mono (λi hi _=>by simp at hi;simp[hi])).trans hF (λi hi _=>by simp at hi;simp[hi])⟩;have hd:=ak.out;rw[dh] at hd;exact⟨hd.top.set 2 (.slice none 0 0),hd.bytes.fr hF ng,World.ownsRow_nil _ _ _ _⟩
end
section
open Go.RowKit
def sec(l:List UInt8)(a:Nat):List UInt8:=(l.drop (a*64)).take 64
theorem GB(l:List UInt8)(a i:Nat):(sec l a)[i]? =if i<64 then l[a*64+i]? else none:=by unfold sec;grind
theorem Ed(l:List UInt8)(o:Nat)(s:List UInt8)(i:Nat)(h:o<=l.length):(QK l o s)[i]? =if i<o then l[i]? else if i<o+s.length then s[i-o]? else l[i]?:=by unfold QK;grind
theorem DI(l:List UInt8)(a b:Nat)(s:List UInt8)(h:a*64<=l.length)(hs:s.length<=64)(C:a≠b):sec (QK l (a*64) s) b=sec l b:=by
 apply List.ext_getElem?;intro i;rw[GB,GB];by_cases hi:i<64
 .rw[if_pos hi,if_pos hi,Ed l _ s _ h];grind
 .grind
theorem F9(l:List UInt8)(a:Nat)(s:List UInt8)(h:a*64<=l.length)(hs:s.length<=64):sec (QK l (a*64) s) a=s++(sec l a).drop s.length:=by
 apply List.ext_getElem?;intro i;rw[GB];by_cases C:i<s.length
 .rw[Z5c C,if_pos (by omega),Ed l _ s _ h,if_neg (by omega),if_pos (by omega)];simp
 .rw[Z5k (by omega),List.getElem?_drop,GB,show s.length+(i-s.length)=i from by omega];by_cases hi:i<64
  .rw[if_pos hi,if_pos hi,Ed l _ s _ h,if_neg (by omega),if_neg (by omega)]
  .grind
theorem ED(l:List UInt8)(n a:Nat)(h:l.length=64*n)(ha:a<n):(sec l a).length=64:=by unfold sec;rw[Z5j,List.length_drop];omega
theorem MA(l:List UInt8)(n a:Nat)(s:List UInt8)(h:l.length=64*n)(ha:a<n)(hs:s.length=64):sec (QK l (a*64) s) a=s:=by rw[F9 l a s (by omega) (by omega),List.drop_of_length_le (by rw[ED l n a h ha];omega),Z5C]
theorem NE(D:Dk)(a:Nat):D.lasts a=⟨(sec D.has a).toArray⟩:=rfl
theorem Z2P(s:ByteArray):(⟨s.data.toList.toArray⟩:ByteArray)=s:=by rfl
def AY(l:List (Nat×ByteArray))(a:Nat)(s:ByteArray):ByteArray:=l.foldl (λs x=>if x.1=a then x.2 else s) s
theorem Oa(D:Dk)(a:Nat):D.reads a=AY D.wait a (D.lasts a):=rfl
theorem O9(l:List (Nat×ByteArray))(a b:Nat)(s t:ByteArray):AY (l++[(b,t)]) a s=if b=a then t else AY l a s:=by unfold AY;simp
theorem Z1s(has:List UInt8)(x:Nat×ByteArray)(n a:Nat)(h:has.length=64*n)(hx:x.1<n)(hs:x.2.size=64):(⟨(sec (WM has x) a).toArray⟩:ByteArray)=if x.1=a then x.2 else⟨(sec has a).toArray⟩:=by
 have hl:x.2.data.toList.length=64:=by simp_all
 unfold WM;by_cases e:x.1=a
 .rw[if_pos e,<-e,MA has n x.1 _ h hx hl,Z2P]
 .rw[if_neg e,DI has x.1 a _ (by omega) (by omega) e]
theorem EY(l:List (Nat×ByteArray))(has:List UInt8)(n a:Nat)(h:has.length=64*n)(hx:∀x,x∈l->x.1<n/\x.2.size=64):(⟨(sec (l.foldl WM has) a).toArray⟩:ByteArray)=AY l a ⟨(sec has a).toArray⟩:=by
 induction l generalizing has with
 |nil=>rfl
 |cons x l ih=>unfold AY;rw[Z5B,Z5B,ih (WM has x) (Bf has x n h (hx x (by simp)).1 (hx x (by simp)).2) (λy C=>hx y (by grind)),Z1s has x n a h (hx x (by simp)).1 (hx x (by simp)).2];rfl
@[irreducible] def uv (x:BitVec 32):Int:=(x.toNat:Int)
@[irreducible] def ub (a:Int):BitVec 32:=BitVec.ofInt 32 a
theorem QD(x:BitVec 32):uv x=(x.toNat:Int):=by unfold uv;rfl
theorem ER(x:BitVec 32):0<=uv x:=by rw[QD];omega
theorem EQ(x:BitVec 32):uv x<4294967296:=by rw[QD];have:=x.isLt;omega
theorem Z2J(x:BitVec 32):ub (uv x)=x:=by rw[QD];unfold ub;simp
theorem Z4N{x y:BitVec 32}(h:uv x=uv y):x=y:=by rw[<-Z2J x,h,Z2J]
theorem MG{n:Nat}(h:n<4294967296):uv (BitVec.ofNat 32 n)=(n:Int):=by rw[QD,BitVec.toNat_ofNat];omega
theorem Cv(x y:BitVec 32):bits .xor .u32 (uv x) (uv y)=uv (x^^^y):=by rw[QD,QD,QD,u32_xor_nat _ _ (by omega) (by omega),BitVec.toNat_xor]
theorem Z0m(x y:BitVec 32):bits .and .u32 (uv x) (uv y)=uv (x&&&y):=by rw[QD,QD,QD,u32_and_nat _ _ (by omega) (by omega),BitVec.toNat_and]
theorem Z52(x y:BitVec 32):bits .or .u32 (uv x) (uv y)=uv (x|||y):=by rw[QD,QD,QD,u32_or_nat _ _ (by omega) (by omega),BitVec.toNat_or]
theorem DO(x y:BitVec 32):(uv x+uv y)%4294967296=uv (x+y):=by rw[QD,QD,QD,BitVec.toNat_add];omega
theorem Gh(x:BitVec 32)(k:Nat):uv x / 2^k=uv (x>>>k):=by rw[QD,QD,BitVec.toNat_ushiftRight,Nat.shiftRight_eq_div_pow];rfl
theorem Z4O(x:BitVec 32)(k:Nat):uv x*2^k%4294967296=uv (x<<<k):=by rw[QD,QD,BitVec.toNat_shiftLeft,Nat.shiftLeft_eq];rfl
theorem Z4M(x y:BitVec 32):(uv x==uv y)=(x==y):=by rw[Bool.eq_iff_iff];simp;exact⟨Z4N,λh=>by rw[h]⟩
theorem Z0n(x:BitVec 32):(bits .and .u32 (uv x) 1==1)=x.getLsbD 0:=by
 rw[show(1:Int)=uv 1#32 from by rw[QD];rfl,Z0m,Z4M];have e:x&&&1#32=BitVec.setWidth 32 (BitVec.ofBool (x.getLsbD 0)):=by grind
 grind
def XO(r:BitVec 32):BitVec 32:=if r.getLsbD 0 then(r>>>1)^^^0x82F63B78#32 else r>>>1
def Xq:Nat->BitVec 32->BitVec 32
 |0,r=>r
 |n+1,r=>Xq n (XO r)
def Cc(b:UInt8):BitVec 32:=BitVec.ofNat 32 b.toNat
def Xr(r:BitVec 32)(b:UInt8):BitVec 32:=Xq 8 (r^^^Cc b)
def XT(sum:BitVec 32)(l:List UInt8):BitVec 32:= ~~~ (l.foldl Xr (~~~ sum))
def crc(l:List UInt8):BitVec 32:=XT 0#32 l
end
def Z4(n:Nat):List UInt8:=[UInt8.ofNat (n / 16777216),UInt8.ofNat (n / 65536),UInt8.ofNat (n / 256),UInt8.ofNat n]
theorem Zw(n:Nat):(Z4 n).length=4:=rfl
def Yw(l:List UInt8):Nat:=(l.getD 0 0).toNat*16777216+(l.getD 1 0).toNat*65536+(l.getD 2 0).toNat*256+(l.getD 3 0).toNat
theorem toNat_ofNat(n:Nat):(UInt8.ofNat n).toNat=n%256:=by rfl
theorem CO(n:Nat)(r:List UInt8):Yw (Z4 n++r)=n%4294967296:=by simp[Yw,Z4];omega
theorem Yx(n:Nat)(h:n<4294967296)(r:List UInt8):Yw (Z4 n++r)=n:=by rw[CO];omega
theorem Z3G(l:List UInt8):Yw l<4294967296:=by unfold Yw;have h:=(l.getD 0 0).toNat_lt;have C:=(l.getD 1 0).toNat_lt;have F:=(l.getD 2 0).toNat_lt;have J:=(l.getD 3 0).toNat_lt;omega
theorem OM{a b:Nat}(ha:a<4294967296)(C:b<4294967296)(h:Z4 a=Z4 b):a=b:=by have:=Yx a ha [];rw[h,Yx b C] at this;omega
def Wv(l:List (List UInt8)):List UInt8:=l.flatMap λs=>Z4 s.length++s
def Zz(l:List (List UInt8)):List UInt8:=Z4 l.length++Wv l
def Zy(l:List (List UInt8)):Nat:=(l.map λs=>4+s.length).sum
theorem Ei(s:List UInt8)(l:List (List UInt8)):Wv (s::l)=Z4 s.length++(s++Wv l):=by rfl
theorem AA(l:List (List UInt8)):(Wv l).length=Zy l:=by
 induction l with
 |nil=>rfl
 |cons s l ih=>rw[Ei];simp[ih,Zw,Zy];omega
theorem ZN(l:List (List UInt8)):(Zz l).length=4+Zy l:=by simp[Zz,AA,Zw]
theorem Cl(a b:List (List UInt8)):Wv (a++b)=Wv a++Wv b:=by simp[Wv]
theorem J9(a b:List (List UInt8)):Zy (a++b)=Zy a+Zy b:=by simp[Zy]
theorem Zc(s:List UInt8)(l:List (List UInt8)):Zy (s::l)=4+s.length+Zy l:=by rfl
theorem F0(l:List (List UInt8))(k:Nat):Zy (l.take k)<=Zy l:=by have:=J9 (l.take k) (l.drop k);simp_all
theorem Wk(l:List (List UInt8)):4*l.length<=Zy l:=by
 induction l with
 |nil=>simp
 |cons s l ih=>rw[Zc,Z5h];omega
theorem FK{l:List (List UInt8)}{s:List UInt8}(h:s∈l):4+s.length<=Zy l:=by
 induction l with
 |nil=>simp at h
 |cons x l ih=>rw[Zc];grind
