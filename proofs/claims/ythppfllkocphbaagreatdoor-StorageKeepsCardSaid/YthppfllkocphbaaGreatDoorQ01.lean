/-
  Part 2 of the proof: lemmas about what the program computes.
-/
import Derived.Lib.Strings
import Derived.Lib.BufferWrite
import Derived.Lib.UnsafeStr
import Derived.OwnWalk
import Derived.Test.YthppfllkocphbaaGreatDoorQ00
namespace Go.Proofs.YthppfllkocphbaaGreatDoor
set_option linter.unusedVariables false
set_option linter.unusedSimpArgs false
set_option maxHeartbeats 25600000
set_option maxRecDepth 100000
open Tryz
section
open Go.RowKit Go.Extern.Stop Go.Stop Go.Extern
variable{w:World}
theorem Z8H(t:Value)(w:World):
  Calls prog 102 #[.nilIface,t] w fun e w'=>e=.returned (.bool false)/\w'=w:=by
 go_enter func102,ntmps102
 go_wp2
 go_ret
 exact⟨rfl,rfl⟩
theorem Z8e(t:Addr)(w:World):(ReflectliteValue.unpack (.iface 182 (.pointer (some t)))).run prog w
  =.ok (.agg #[.pointer (some ⟨2,182,none⟩),.pointer (some ⟨w.heap.size,0,none⟩),.int .u64 150]) (w.alloc (.cells #[.pointer (some t)] 182)):=by kernel_rfl
theorem ZbY (a : Addr) (w : World) : (ReflectliteValue.methodAny (ReflectliteValue.valueError "reflectlite.Value.Type" 0) (fun t _ _ _ => ReflectliteType.toType t) #[.agg #[.pointer (some ⟨2, 182, none⟩), .pointer (some a), .int .u64 150]]).run prog w
  =.ok (.iface 184 (.agg #[.pointer (some ⟨2,182,none⟩)])) w:=by kernel_rfl
theorem Z74 (h : Value) (w : World) : (Go.method 483 184 (.agg #[h]) "Kind").run prog w = .ok (297, h) w := by kernel_rfl
theorem ZbX(w:World):((ReflectliteType.abiMethod fun t=>(fun a:Nat=>Value.int IntKind.u8 (a:Int))<$>Rtype.kind t) #[.pointer (some ⟨2,182,none⟩)]).run prog w=.ok (.int .u8 22) w:=by kernel_rfl
theorem ZbW(w:World):((ReflectliteType.abiMethod fun t=>(fun a:Nat=>Value.int IntKind.u8 (a:Int))<$>Rtype.kind t) #[.pointer (some ⟨2,139,none⟩)]).run prog w=.ok (.int .u8 22) w:=by kernel_rfl
theorem ZdA(z:Sem Value)(f:TypeId->Addr->Nat->Nat->Sem Value)(v:Value):
  ReflectliteValue.method z f #[v]=(do match<-ReflectliteValue.parts v with|none=>z|some (t,a,fl)=>f t a fl (fl%32)):=rfl
theorem Z5p(a:Addr)(w:World):(ReflectliteValue.parts (.agg #[.pointer (some ⟨2,182,none⟩),.pointer (some a),.int .u64 150])).run prog w=.ok (some (182,a,150)) w:=by kernel_rfl
theorem Zaj(a p:Addr)(W:World)(ha:W.cell? a=some (.pointer (some p))):
  (ReflectliteValue.method (ReflectliteValue.valueError "reflectlite.Value.IsNil" 0) ReflectliteValue.isNil #[.agg #[.pointer (some ⟨2, 182, none⟩), .pointer (some a), .int .u64 150]]).run prog W = .ok (.bool false) W := by
 rw[ZdA]
 simp only[Sem.run_bind,Z5p,Result.andThen]
 simp[ReflectliteValue.isNil,loadVar,isAgg,underlying,underlying182,ha,Result.andThen]
theorem Z73 (h : Value) (w : World) : (Go.method 483 184 (.agg #[h]) "Elem").run prog w = .ok (310, .agg #[h]) w := by kernel_rfl
theorem Z33 (h : Value) (w : World) : (Go.method 483 184 (.agg #[h]) "Implements").run prog w = .ok (311, .agg #[h]) w := by kernel_rfl
theorem Z2n (h : Value) (w : World) : (Go.method 483 184 (.agg #[h]) "AssignableTo").run prog w = .ok (308, .agg #[h]) w := by kernel_rfl
theorem ZbV(w:World):(ReflectliteType.method ReflectliteType.elem #[.agg #[.pointer (some ⟨2,182,none⟩)]]).run prog w=.ok (.iface 184 (.agg #[.pointer (some ⟨2,139,none⟩)])) w:=by kernel_rfl
theorem Z5S (w : World) : (ReflectliteType.relation "Implements" ReflectliteType.implements_ #[.agg #[.pointer (some ⟨2, 139, none⟩)], .iface 184 (.agg #[.pointer (some ⟨2, 31, none⟩)])]).run prog w = .ok (.bool true) w := by kernel_rfl
theorem Z8F(v:Value)(w:World):(ReflectliteType.typeOf #[.iface 139 v]).run prog w=.ok (.iface 184 (.agg #[.pointer (some ⟨2,139,none⟩)])) w:=by kernel_rfl
theorem Z5R (w : World) : (ReflectliteType.relation "AssignableTo" ReflectliteType.assignableTo #[.agg #[.pointer (some ⟨2, 139, none⟩)], .iface 184 (.agg #[.pointer (some ⟨2, 139, none⟩)])]).run prog w = .ok (.bool true) w := by kernel_rfl
theorem Z8d(e:Addr)(w:World):(ReflectliteValue.unpack (.iface 139 (.pointer (some e)))).run prog w
  =.ok (.agg #[.pointer (some ⟨2,139,none⟩),.pointer (some ⟨w.heap.size,0,none⟩),.int .u64 150]) (w.alloc (.cells #[.pointer (some e)] 139)):=by kernel_rfl
theorem Z8D(w:World):(Rtype.elem? 182).run prog w=.ok (some 139) w:=by kernel_rfl
theorem Zf8(p:Addr)(w:World):(ReflectliteValue.mk 139 p ReflectliteValue.flagAddr).run prog w=.ok (.agg #[.pointer (some ⟨2,139,none⟩),.pointer (some p),.int .u64 406]) w:=by kernel_rfl
theorem Zai(a p:Addr)(W:World)(ha:W.cell? a=some (.pointer (some p))):
  (ReflectliteValue.method (ReflectliteValue.valueError "reflectlite.Value.Elem" 0) ReflectliteValue.elem #[.agg #[.pointer (some ⟨2, 182, none⟩), .pointer (some a), .int .u64 150]]).run prog W
   =.ok (.agg #[.pointer (some ⟨2,139,none⟩),.pointer (some p),.int .u64 406]) W:=by
 rw[ZdA]
 simp only[Sem.run_bind,Z5p,Result.andThen]
 simp[ReflectliteValue.elem,loadVar,isAgg,underlying,underlying182,ha,Result.andThen,Z8D,Zf8]
theorem ZiJ(v x:Value):ReflectliteValue.set #[v,x]=(do
  let (some (dst,a,fl),some (src,b,_)):=(<-ReflectliteValue.parts v,<-ReflectliteValue.parts x)
   | unsupported (.noEntry "extern/(internal/reflectlite.Value).Set.zeroValue")
  if fl / ReflectliteValue.flagAddr % 2 == 0 then unsupported (.noEntry "extern/(internal/reflectlite.Value).Set.unaddressable")
  let val<-loadVar src b
  if<-Rtype.directlyAssignable dst src then storeVar dst a val
  else if<-Rtype.implements dst src then
   if(<-Rtype.kind src)==20 then
    match val with
    | .nilIface => unsupported (.noEntry "extern/reflectlite: a nil value of one interface type handed on as a value of another")
    |_=>storeVar dst a val
   else storeVar dst a (.iface src val)
  else panicString ("reflectlite.Set: value of type " ++ (← Rtype.spelt src) ++ " is not assignable to type " ++ (← Rtype.spelt dst))
  pure (.tuple #[])):=rfl
theorem Z8E(a:Addr)(w:World):(ReflectliteValue.parts (.agg #[.pointer (some ⟨2,139,none⟩),.pointer (some a),.int .u64 406])).run prog w=.ok (some (139,a,406)) w:=by kernel_rfl
theorem Zak(a:Addr)(w:World):(ReflectliteValue.parts (.agg #[.pointer (some ⟨2,139,none⟩),.pointer (some a),.int .u64 150])).run prog w=.ok (some (139,a,150)) w:=by kernel_rfl
theorem Z8C(w:World):(Rtype.directlyAssignable 139 139).run prog w=.ok true w:=by kernel_rfl
theorem Zdz(ta b e:Addr)(old:Value)(W:World)(hb:W.cell? b=some (.pointer (some e)))(ht:W.cell? ta=some old)(hf:W.frozen? ta=false):
  (ReflectliteValue.set #[.agg #[.pointer (some ⟨2,139,none⟩),.pointer (some ta),.int .u64 406],.agg #[.pointer (some ⟨2,139,none⟩),.pointer (some b),.int .u64 150]]).run prog W
   =.ok (.tuple #[]) (W.setCell ta (.pointer (some e))):=by
 rw[ZiJ]
 simp only[Sem.run_bind,Z8E,Zak,Result.andThen]
 simp[ReflectliteValue.flagAddr,loadVar,isAgg,underlying,underlying139,hb,Result.andThen,Z8C,storeVar,Value.cells,storeCells,Addr.add]
 rw[run_store prog W ta _ _ (by rfl)]
 simp[ht,hf]
theorem ZiI(e t:Addr)(old:Value)(w:World)(hg:w.cell? ⟨0,0,none⟩=some (.iface 184 (.agg #[.pointer (some ⟨2,31,none⟩)])))(ae:w.cell? t=some old)(ag:w.frozen? t=false):
  Calls prog 102 #[.iface 139 (.pointer (some e)),.iface 182 (.pointer (some t))] w fun ev w'=>ev=.returned (.bool true)/\w'=((((w.alloc (.cells #[.pointer (some t)] 182)).alloc (.cells #[.pointer (some ⟨2,182,none⟩),.pointer (some ⟨w.heap.size,0,none⟩),.int .u64 150] 239)).alloc (.cells #[.pointer (some ⟨2,182,none⟩),.pointer (some ⟨w.heap.size,0,none⟩),.int .u64 150] 239)).alloc (.cells #[.pointer (some e)] 139)).setCell t (.pointer (some e)):=by
 have h6:= @run_callFunc_extern prog 145 _ (fun args=>ReflectliteValue.unpack (args.getD 0 (.tuple #[]))) func145 (by kernel_rfl) (by kernel_rfl) (by kernel_rfl) (by kernel_rfl)
 have h7 := @run_callFunc_extern prog 146 _ (ReflectliteValue.methodAny (ReflectliteValue.valueError "reflectlite.Value.Type" 0) (fun t _ _ _ => ReflectliteType.toType t)) func146 (by kernel_rfl) (by kernel_rfl) (by kernel_rfl) (by kernel_rfl)
 have h8 := @run_callFunc_extern prog 147 _ (ReflectliteValue.method (ReflectliteValue.valueError "reflectlite.Value.IsNil" 0) ReflectliteValue.isNil) func147 (by kernel_rfl) (by kernel_rfl) (by kernel_rfl) (by kernel_rfl)
 have aq:= @run_callFunc_extern prog 297 _ (ReflectliteType.abiMethod fun t=>do pure (.int .u8 (<-Rtype.kind t))) func297 (by kernel_rfl) (by kernel_rfl) (by kernel_rfl) (by kernel_rfl)
 have aw:= @run_callFunc_extern prog 310 _ (ReflectliteType.method ReflectliteType.elem) func310 (by kernel_rfl) (by kernel_rfl) (by kernel_rfl) (by kernel_rfl)
 have ax := @run_callFunc_extern prog 311 _ (ReflectliteType.relation "Implements" ReflectliteType.implements_) func311 (by kernel_rfl) (by kernel_rfl) (by kernel_rfl) (by kernel_rfl)
 have aj:= @run_callFunc_extern prog 50 _ ReflectliteType.typeOf func50 (by kernel_rfl) (by kernel_rfl) (by kernel_rfl) (by kernel_rfl)
 have au := @run_callFunc_extern prog 308 _ (ReflectliteType.relation "AssignableTo" ReflectliteType.assignableTo) func308 (by kernel_rfl) (by kernel_rfl) (by kernel_rfl) (by kernel_rfl)
 have ak := @run_callFunc_extern prog 210 _ (ReflectliteValue.method (ReflectliteValue.valueError "reflectlite.Value.Elem" 0) ReflectliteValue.elem) func210 (by kernel_rfl) (by kernel_rfl) (by kernel_rfl) (by kernel_rfl)
 have al:= @run_callFunc_extern prog 211 _ ReflectliteValue.set func211 (by kernel_rfl) (by kernel_rfl) (by kernel_rfl) (by kernel_rfl)
 have tO:=Z8F
 have mA:=Z2n
 have a25:=Z5R
 have v25:=Z8d
 have f6:=Z8e
 have f7:=ZbY
 have mK:=Z74
 have mE:=Z73
 have mI:=Z33
 have bf:=ZbX
 have b9:=ZbW
 have ai:=ZbV
 have az:=Z5S
 have n8:=Zaj ⟨w.heap.size,0,none⟩ t ((w.alloc (.cells #[.pointer (some t)] 182)).alloc (.cells #[.pointer (some ⟨2,182,none⟩),.pointer (some ⟨w.heap.size,0,none⟩),.int .u64 150] 239)) (by simp)
 have ah:0<w.heap.size:=by
  rcases Nat.lt_or_ge 0 w.heap.size with h|h
  ·exact h
  ·simp[World.cell?,Array.getElem?_eq_none h] at hg
 have ay:((w.alloc (.cells #[.pointer (some t)] 182)).alloc (.cells #[.pointer (some ⟨2,182,none⟩),.pointer (some ⟨w.heap.size,0,none⟩),.int .u64 150] 239)).cell? ⟨0,0,none⟩=some (.iface 184 (.agg #[.pointer (some ⟨2,31,none⟩)])):=by
  rw[World.cell?_alloc_lt _ _ ⟨0,0,none⟩ (by simp<;>omega),World.cell?_alloc_lt _ _ ⟨0,0,none⟩ ah];exact hg
 have af:t.block<w.heap.size:=by
  rcases Nat.lt_or_ge t.block w.heap.size with h|h
  ·exact h
  ·simp[World.cell?,Array.getElem?_eq_none h] at ae
 have el:=Zai ⟨w.heap.size,0,none⟩ t (((w.alloc (.cells #[.pointer (some t)] 182)).alloc (.cells #[.pointer (some ⟨2,182,none⟩),.pointer (some ⟨w.heap.size,0,none⟩),.int .u64 150] 239)).alloc (.cells #[.pointer (some ⟨2,182,none⟩),.pointer (some ⟨w.heap.size,0,none⟩),.int .u64 150] 239)) (by rw[World.cell?_alloc_lt _ _ ⟨w.heap.size,0,none⟩ (by simp;omega)];simp)
 have st:=Zdz t ⟨w.heap.size+1+1+1,0,none⟩ e old ((((w.alloc (.cells #[.pointer (some t)] 182)).alloc (.cells #[.pointer (some ⟨2,182,none⟩),.pointer (some ⟨w.heap.size,0,none⟩),.int .u64 150] 239)).alloc (.cells #[.pointer (some ⟨2,182,none⟩),.pointer (some ⟨w.heap.size,0,none⟩),.int .u64 150] 239)).alloc (.cells #[.pointer (some e)] 139))
  (by rw[World.cell?_alloc_at _ _ _ _ (by simp)];rfl)
  (by rw[World.cell?_alloc_lt _ _ t (by simp;omega),World.cell?_alloc_lt _ _ t (by simp;omega),World.cell?_alloc_lt _ _ t (by simp;omega),World.cell?_alloc_lt _ _ t af];exact ae)
  (by rw[World.frozen?_alloc_old _ _ t (by simp;omega),World.frozen?_alloc_old _ _ t (by simp;omega),World.frozen?_alloc_old _ _ t (by simp;omega),World.frozen?_alloc_old _ _ t (Nat.ne_of_lt af)];exact ag)
 go_enter func102,ntmps102
 go_wp2
 refine wp_loop_rounds 1 ?_
 rw[rounds_succ]
 go_wp2
 go_ret
 exact⟨rfl,rfl⟩
theorem Z8G(e t:Addr)(old:Value)(w:World)(hg:w.cell? ⟨0,0,none⟩=some (.iface 184 (.agg #[.pointer (some ⟨2,31,none⟩)])))(ae:w.cell? t=some old)(af:w.frozen? t=false):
  Calls prog 102 #[.iface 139 (.pointer (some e)),.iface 182 (.pointer (some t))] w fun ev w'=>ev=.returned (.bool true)/\w'.cell? t=some (.pointer (some e))/\Fr [t.block] w w':=by
 refine(ZiI e t old w hg ae af).mono ?_
 rintro ev w' ⟨rfl,rfl⟩
 have ag:t.block<w.heap.size:=by
  rcases Nat.lt_or_ge t.block w.heap.size with h|h
  ·exact h
  ·simp[World.cell?,Array.getElem?_eq_none h] at ae
 refine⟨rfl,?_,(((((Fr.refl _ _).alloc _).alloc _).alloc _).alloc _).setCell (Or.inl (by simp)) _⟩
 refine World.cell?_setCell_same' _ _ _ ?_
 rw[World.cell?_alloc_lt _ _ t (by simp;omega),World.cell?_alloc_lt _ _ t (by simp;omega),World.cell?_alloc_lt _ _ t (by simp;omega),World.cell?_alloc_lt _ _ t ag,ae]
 rfl
def Ty(w:World):Prop:=w.cell? ⟨0,0,none⟩=some (.iface 184 (.agg #[.pointer (some ⟨2,31,none⟩)]))
theorem Ty.lt(h:Ty w):0<w.heap.size:=by
 rcases Nat.lt_or_ge 0 w.heap.size with h1|h1
 ·exact h1
 ·simp[Ty,World.cell?,Array.getElem?_eq_none h1] at h
theorem Ty.below{w':World}(h:Ty w)(hb:Below w.heap.size w w'):Ty w':=by
 unfold Ty at h⊢
 rw[<-h]
 exact hb.cell (p:=⟨0,0,none⟩) (Ty.lt h)
end
section
open Go.RowKit
theorem Z0C(B:Nat)(c:Int)(v:Value)(w:World)(h:Zu w B c v)(ht:Ty w):
  Calls prog 151 #[v] w fun e w'=>∃v',e=.returned v'/\Zu w' (min B w.heap.size) c v'/\Below w.heap.size w w':=by
 rcases h with ⟨rfl,rfl⟩|⟨hc,n,hn⟩
 ·go_enter func151,ntmps151
  go_wp2_with (go_at_call 102;refine(Z8H _ _).mono ?_;rintro e w' ⟨rfl,rfl⟩)
  go_ret
  exact⟨_,rfl,Zu.nil _ _,Zk9.alloc Zk8 _⟩
 ·match n,hn with
  |n+1,⟨b,at_,inner,hv,hB,hr,hi⟩=>
   subst hv
   have c0:=hr.cell (j:=0) rfl
   have al:=hr.lt
   have aj:Ty (w.alloc (.cells #[.pointer none] 139)):=ht.below (Zk9.alloc Zk8 _)
   have ag:(w.alloc (.cells #[.pointer none] 139)).cell? ⟨w.heap.size,0,none⟩=some (.pointer none):=by simp
   have ai:(w.alloc (.cells #[.pointer none] 139)).frozen? ⟨w.heap.size,0,none⟩=false:=by simp
   have HH:=Zka (Zkb hr hi)
   clear hr hi
   go_enter func151,ntmps151
   go_wp2_with fail
   refine(Z8G _ _ (.pointer none) _ aj ag ai).mono ?_
   rintro e w1 ⟨rfl,ak,ah⟩
   have af:Fr [w.heap.size] w w1:=((Fr.refl _ w).alloc _).trans ah (by simp)
   have ae:Below w.heap.size w w1:=af.below Zk8 (by simp)
   have c1:w1.cell? ⟨b,0,none⟩=some (.int .i64 c):=(HH.out.1.after ae).cell (j:=0) rfl
   have HF:=Zka (Zkb af ae)
   clear af ae ah aj ag ai c0
   go_wp2
   go_ret
   exact⟨_,rfl,Or.inr ⟨hc,n+2,w1.heap.size,0,_,rfl,by have:=HF.out.1.size;omega,Row.new w1 _ _,Or.inr ⟨b,at_,inner,rfl,by omega,(HH.out.1.after HF.out.2).alloc _,HH.out.2.imp id (fun h=>(h.below (B':=0) HF.out.2).below (B':=0) (Zk9.alloc Zk8 _)|>.base (by omega))⟩⟩,HF.out.2.alloc (by have:=HF.out.1.size;omega) _⟩
theorem Z1z(B:Nat)(c:Int)(v:Value)(w:World)(h:Zu w B c v)(ht:Ty w):
  Calls prog 93 #[v] w fun e w'=>∃v',e=.returned v'/\Zu w' (min B w.heap.size) c v'/\Below w.heap.size w w':=by
 rcases h with ⟨rfl,rfl⟩|⟨hc,n,hn⟩
 ·go_enter func93,ntmps93
  go_wp2_with (go_at_call 102;refine(Z8H _ _).mono ?_;rintro e w' ⟨rfl,rfl⟩)
  go_ret
  exact⟨_,rfl,Zu.nil _ _,Zk9.alloc Zk8 _⟩
 ·match n,hn with
  |n+1,⟨b,at_,inner,hv,hB,hr,hi⟩=>
   subst hv
   have c0:=hr.cell (j:=0) rfl
   have al:=hr.lt
   have aj:Ty (w.alloc (.cells #[.pointer none] 139)):=ht.below (Zk9.alloc Zk8 _)
   have ag:(w.alloc (.cells #[.pointer none] 139)).cell? ⟨w.heap.size,0,none⟩=some (.pointer none):=by simp
   have ai:(w.alloc (.cells #[.pointer none] 139)).frozen? ⟨w.heap.size,0,none⟩=false:=by simp
   have HH:=Zka (Zkb hr hi)
   clear hr hi
   go_enter func93,ntmps93
   go_wp2_with fail
   refine(Z8G _ _ (.pointer none) _ aj ag ai).mono ?_
   rintro e w1 ⟨rfl,ak,ah⟩
   have af:Fr [w.heap.size] w w1:=((Fr.refl _ w).alloc _).trans ah (by simp)
   have ae:Below w.heap.size w w1:=af.below Zk8 (by simp)
   have c1:w1.cell? ⟨b,0,none⟩=some (.int .i64 c):=(HH.out.1.after ae).cell (j:=0) rfl
   have HF:=Zka (Zkb af ae)
   clear af ae ah aj ag ai c0
   go_wp2
   go_ret
   exact⟨_,rfl,Or.inr ⟨hc,n+2,w1.heap.size,0,_,rfl,by have:=HF.out.1.size;omega,Row.new w1 _ _,Or.inr ⟨b,at_,inner,rfl,by omega,(HH.out.1.after HF.out.2).alloc _,HH.out.2.imp id (fun h=>(h.below (B':=0) HF.out.2).below (B':=0) (Zk9.alloc Zk8 _)|>.base (by omega))⟩⟩,HF.out.2.alloc (by have:=HF.out.1.size;omega) _⟩
end
section
open Go.RowKit
variable{a:Int}{p:Nat}{w w':World}
theorem YP{k:IntKind}{b:Int}(h:a=b):Ending.returned (.int k a)=.returned (.int k b):=by rw[h]
structure Pw where
 gone:Bool
 fuse:Int
 acts:Int
structure Dk where
 has:List UInt8
 wait:List (Nat×ByteArray)
 dead:Bool
 life:Int
def Zo(w:World)(p:Nat)(P:Pw):Prop:=Row w p 112 [.bool P.gone,.int .i64 P.fuse,.int .i64 P.acts]
def XQ:List (Nat×ByteArray)->List Value
 |[]=>[]
 |x::l=>.int .i64 (x.1:Int):: .string x.2::XQ l
structure Zr(w:World)(p d gh:Nat)(v:Value)(D:Dk):Prop where
 top:Row w d 109 [.pointer (some ⟨p,0,none⟩),.slice (some ⟨gh,0,none⟩) D.has.length D.has.length,v,.bool D.dead,.int .i64 D.life]
 bytes:ZC w gh 5 (Z3 D.has)
 late:w.ownsRow 0 194 2 v D.wait.length (XQ D.wait)
def Wh(w:World)(b:Nat)(c:Int):Prop:=Row w b 141 [.int .i64 c,.int .i64 0,.nilIface]
theorem Zo.fr{P:Pw}(h:Zo w p P){L:List Nat}(hf:Fr L w w')(hp:p∉L):Zo w' p P:=Row.fr h hf hp
theorem Zr.fr{d gh:Nat}{v:Value}{D:Dk}(h:Zr w p d gh v D){L:List Nat}(hf:Fr L w w')(h1:d∉L)(h2:gh∉L)(h3:∀g,v.ownBlock=some g->g∉L):Zr w' p d gh v D:=
 ⟨h.top.fr hf h1,h.bytes.fr hf h2,ZZ h.late hf h3⟩
theorem QW(c:Int)(w:World):
  Calls prog 46 #[.int .i64 c] w fun e w'=>∃b,e=.returned (.iface 139 (.pointer (some ⟨b,0,none⟩)))/\w.heap.size<=b/\Wh w' b c/\Below w.heap.size w w':=by
 go_enter func46,ntmps46
 go_wp2
 go_ret
 exact⟨w.heap.size,rfl,Zk8,Row.new w _ [.int .i64 c,.int .i64 0,.nilIface],Zk9.alloc Zk8 _⟩
theorem Z9s(w:World):
  Calls prog 29 #[] w fun e w'=>∃p,e=.returned (.pointer (some ⟨p,0,none⟩))/\w.heap.size<=p/\Zo w' p ⟨false, -1,0⟩/\Below w.heap.size w w':=by
 go_enter func29,ntmps29
 go_wp2
 go_ret
 exact⟨w.heap.size,rfl,Zk8,Row.new w _ [.bool false,.int .i64 (-1),.int .i64 0],Zk9.alloc Zk8 _⟩
def Pw.can(P:Pw):Bool:=P.fuse !=0
def Pw.act(P:Pw):Pw:=if P.fuse=0 then{P with gone:=true} else{P with fuse:=if 0<P.fuse then P.fuse-1 else P.fuse,acts:=wrap64 (P.acts+1)}
structure Pw.ok(P:Pw):Prop where
 f0: -1<=P.fuse
 f1:P.fuse<=9223372036854775807
theorem Z2A(p:Nat)(P:Pw)(w:World)(h:Zo w p P)(ok:P.ok):
  Calls prog 243 #[.pointer (some ⟨p,0,none⟩)] w fun e w'=>e=.returned (.bool P.can)/\Zo w' p P.act/\Fr [p] w w':=by
 obtain⟨g,f,a⟩:=P
 obtain⟨f0,f1⟩:=ok
 simp only at f0 f1
 have c0:=h.cell (j:=0) rfl
 have c1:=h.cell (j:=1) rfl
 have c2:=h.cell (j:=2) rfl
 have r0:=h.free (j:=0) (by simp)
 have r1:=h.free (j:=1) (by simp)
 have r2:=h.free (j:=2) (by simp)
 have H:=Zka h;clear h
 by_cases z:f=0
 ·subst z
  go_enter func243,ntmps243
  go_wp2
  go_ret
  exact⟨rfl,H.out.set 0 (.bool true),(Fr.refl _ _).setCell (Or.inl (by simp)) _⟩
 ·have zb:(f==0)=false:=by simpa using z
  have Z:=Zka z;clear z
  by_cases hp:0<f
  ·go_enter func243,ntmps243
   go_wp2
   go_ret
   refine⟨by simp[Pw.can,Z.out],?_,((Fr.refl _ _).setCell (Or.inl (by simp)) _).setCell (Or.inl (by simp)) _⟩
   have:=(H.out.set 1 (.int .i64 (f-1))).set 2 (.int .i64 (wrap64 (a+1)))
   simpa[Zo,Pw.act,Z.out,hp] using this
  ·go_enter func243,ntmps243
   go_wp2
   go_ret
   refine⟨by simp[Pw.can,Z.out],?_,(Fr.refl _ _).setCell (Or.inl (by simp)) _⟩
   have e:(if 0<f then f-1 else f)=f:=if_neg (by omega)
   have:=H.out.set 2 (.int .i64 (wrap64 (a+1)))
   simpa[Zo,Pw.act,Z.out,e] using this
theorem Z39(p d gh:Nat)(v:Value)(D:Dk)(w:World)(h:Zr w p d gh v D):
  Calls prog 22 #[.pointer (some ⟨d,0,none⟩)] w fun e w'=>e=.returned (.bool D.dead)/\w=w':=by
 have c0:=h.top.cell (j:=3) rfl
 go_enter func22,ntmps22
 go_wp2
 go_ret
 exact⟨rfl,rfl⟩
theorem Z3n(p d gh:Nat)(v:Value)(D:Dk)(w:World)(h:Zr w p d gh v D):
  Calls prog 72 #[.pointer (some ⟨d,0,none⟩)] w fun e w'=>e=.returned (.int .i64 D.life)/\w=w':=by
 have c0:=h.top.cell (j:=4) rfl
 go_enter func72,ntmps72
 go_wp2
 go_ret
 exact⟨rfl,rfl⟩
theorem Yt(p d gh:Nat)(v:Value)(D:Dk)(n:Nat)(w:World)(h:Zr w p d gh v D)(hn:D.has.length=64*n)(ae:n<=8192):
  Calls prog 138 #[.pointer (some ⟨d,0,none⟩)] w fun e w'=>e=.returned (.int .i64 n)/\w=w':=by
 have c0:=h.top.cell (j:=1) rfl
 rw[hn] at c0
 clear h hn
 go_enter func138,ntmps138
 go_wp2
 go_ret
 exact⟨YP (by omega),rfl⟩
def rdy(P:Pw)(D:Dk)(at_:Int):Int:=if P.gone then 10 else if D.dead then 11 else if at_<0∨(D.has.length / 64:Nat)<=at_ then 1 else 0
theorem Z1W{P:Pw}{D:Dk}{n:Nat}(hg:P.gone=false)(hd:D.dead=false)(hn:D.has.length=64*n):rdy P D a=if a<0∨(n:Int)<=a then 1 else 0:=by
 unfold rdy;rw[hg,hd,hn,Nat.mul_div_cancel_left _ (by omega)];simp
theorem Jh(p d gh:Nat)(v:Value)(P:Pw)(D:Dk)(n:Nat)(a:Int)(w:World)(hp:Zo w p P)(h:Zr w p d gh v D)(hn:D.has.length=64*n)(ag:n<=8192)(hr:rdy P D a=0):
  Calls prog 118 #[.pointer (some ⟨d,0,none⟩),.int .i64 a] w fun e w'=>e=.returned .nilIface/\w=w':=by
 have c0:=h.top.cell (j:=0) rfl
 have c3:=h.top.cell (j:=3) rfl
 have d0:=hp.cell (j:=0) rfl
 have hg:P.gone=false:=by unfold rdy at hr;cases af:P.gone<;>simp[af] at hr⊢
 have hd:D.dead=false:=by unfold rdy at hr;rw[hg] at hr;cases ae:D.dead<;>simp[ae] at hr⊢
 have hb:0<=a/\a<n:=by
  rw[Z1W hg hd hn] at hr
  by_cases e:a<0∨(n:Int)<=a
  ·rw[if_pos e] at hr;omega
  ·omega
 obtain⟨b0,b1⟩:=hb
 rw[hg] at d0
 rw[hd] at c3
 have H:=Zka h
 have HN:=Zka hn
 clear h hn hr hg hd hp
 go_enter func118,ntmps118
 go_wp2_with (go_at_call 138;refine(Yt p d gh v D n _ H.out HN.out ag).mono ?_;rintro e w' ⟨rfl,rfl⟩)
 go_ret
 exact⟨rfl,rfl⟩
theorem Z4I(p d gh:Nat)(v:Value)(P:Pw)(D:Dk)(n:Nat)(a:Int)(w:World)(hp:Zo w p P)(h:Zr w p d gh v D)(hn:D.has.length=64*n)(ai:n<=8192)(hr:rdy P D a≠0):
  Calls prog 118 #[.pointer (some ⟨d,0,none⟩),.int .i64 a] w fun e w'=>∃b,e=.returned (.iface 139 (.pointer (some ⟨b,0,none⟩)))/\w.heap.size<=b/\Wh w' b (rdy P D a)/\Below w.heap.size w w':=by
 have c0:=h.top.cell (j:=0) rfl
 have c3:=h.top.cell (j:=3) rfl
 have d0:=hp.cell (j:=0) rfl
 have H:=Zka h
 have HN:=Zka hn
 cases hg:P.gone
 ·rw[hg] at d0
  cases hd:D.dead
  ·rw[hd] at c3
   have hb:a<0∨(n:Int)<=a:=by
    by_cases e:a<0∨(n:Int)<=a
    ·exact e
    ·exfalso;apply hr
     rw[Z1W hg hd hn,if_neg e]
   have ae:rdy P D a=1:=by rw[Z1W hg hd hn,if_pos hb]
   rw[ae]
   clear h hn hr hg hd hp ae
   by_cases aj:a<0
   ·go_enter func118,ntmps118
    go_wp2_with (go_at_call 46;refine(QW _ _).mono ?_;rintro e w' ⟨b,rfl,af,ag,ah⟩)
    go_ret
    exact⟨b,rfl,af,ag,ah⟩
   ·have ak:(n:Int)<=a:=by omega
    clear hb
    go_enter func118,ntmps118
    go_wp2_with (first|(go_at_call 138;refine(Yt p d gh v D n _ H.out HN.out ai).mono ?_;rintro e w' ⟨rfl,rfl⟩)|(go_at_call 46;refine(QW _ _).mono ?_;rintro e w' ⟨b,rfl,af,ag,ah⟩))
    go_ret
    exact⟨b,rfl,af,ag,ah⟩
  ·rw[hd] at c3
   have ae:rdy P D a=11:=by unfold rdy;simp[hg,hd]
   rw[ae]
   clear h hn hr hg hd hp ae
   go_enter func118,ntmps118
   go_wp2_with (go_at_call 46;refine(QW _ _).mono ?_;rintro e w' ⟨b,rfl,af,ag,ah⟩)
   go_ret
   exact⟨b,rfl,af,ag,ah⟩
 ·rw[hg] at d0
  have ae:rdy P D a=10:=by unfold rdy;simp[hg]
  rw[ae]
  clear h hn hr hg hp ae
  go_enter func118,ntmps118
  go_wp2_with (go_at_call 46;refine(QW _ _).mono ?_;rintro e w' ⟨b,rfl,af,ag,ah⟩)
  go_ret
  exact⟨b,rfl,af,ag,ah⟩
theorem Xc(p d gh:Nat)(v:Value)(D:Dk)(n:Nat)(a:Nat)(w:World)(h:Zr w p d gh v D)(hn:D.has.length=64*n)(ae:n<=8192)(ha:a<n):
  Calls prog 103 #[.pointer (some ⟨d,0,none⟩),.int .i64 a] w fun e w'=>e=.returned (.slice (some ⟨gh,a*64,none⟩) 64 (64*n-a*64))/\w=w':=by
 have c0:=h.top.cell (j:=1) rfl
 rw[hn] at c0
 clear h hn
 go_enter func103,ntmps103
 go_wp2
 go_ret
 refine⟨?_,rfl⟩
 show Ending.returned (.slice (some ⟨gh,a*64,none⟩) ((a+1)*64-a*64) (64*n-a*64))=_
 rw[show(a+1)*64-a*64=64 from by omega]
end
section
open Go.RowKit
def Dk.lasts(D:Dk)(a:Nat):ByteArray:=⟨((D.has.drop (a*64)).take 64).toArray⟩
def Dk.reads(D:Dk)(a:Nat):ByteArray:=D.wait.foldl (fun s x=>if x.1=a then x.2 else s) (D.lasts a)
structure Dk.ok(D:Dk)(n:Nat):Prop where
 len:D.has.length=64*n
 n1:1<=n
 n2:n<=8192
 at_:∀x,x∈D.wait->x.1<n
 size:∀x,x∈D.wait->x.2.size=64
 few:D.wait.length<=1099511627776
 life0:0<=D.life
 life1:D.life<=4611686018427387904
theorem Jw(l:List (Nat×ByteArray))(i:Nat)(h:i<l.length):(XQ l)[2*i]? =some (.int .i64 (l[i].1:Int))/\(XQ l)[2*i+1]? =some (.string l[i].2):=by
 induction l generalizing i with
 |nil=>simp at h
 |cons x l ih=>
  match i,h with
  |0,_=>exact⟨rfl,rfl⟩
  |i+1,h=>
   have:=ih i (by simpa using h)
   simp only[XQ,List.getElem_cons_succ]
   exact⟨by rw[show 2*(i+1)=2*i+1+1 from by omega];simpa using this.1,by rw[show 2*(i+1)+1=2*i+1+1+1 from by omega];simpa using this.2⟩
theorem Z7I(l:List (Nat×ByteArray))(a:Nat)(s:ByteArray):(∀x,x∈l->x.1≠a)->l.foldl (fun s x=>if x.1=a then x.2 else s) s=s:=by
 induction l generalizing s with
 |nil=>intro _;rfl
 |cons x l ih=>
  intro h
  rw[Zk6,if_neg (h x (by simp))]
  exact ih s (fun y hy=>h y (by simp[hy]))
theorem Zhs(l:List (Nat×ByteArray))(a i:Nat)(s:ByteArray)(hi:i<l.length)(h:l[i].1=a)(hl:∀j (hj:j<l.length),i<j->l[j].1≠a):l.foldl (fun s x=>if x.1=a then x.2 else s) s=l[i].2:=by
 induction l generalizing i s with
 |nil=>simp at hi
 |cons x l ih=>
  rw[Zk6]
  match i,hi with
  |0,_=>
   simp only[List.getElem_cons_zero] at h⊢
   rw[if_pos h]
   refine Z7I l a _ (fun y hy=> ?_)
   obtain⟨j,hj,rfl⟩:=List.getElem_of_mem hy
   have:=hl (j+1) (by simpa using hj) (by omega)
   simpa using this
  |i+1,hi=>
   simp only[List.getElem_cons_succ] at h⊢
   exact ih i _ (by simpa using hi) h (fun j hj ae=>by
    have:=hl (j+1) (by simpa using hj) (by omega)
    simpa using this)
theorem ZhX(p d gh:Nat)(v:Value)(P:Pw)(D:Dk)(n a:Nat)(w:World)(hp:Zo w p P)(h:Zr w p d gh v D)(ok:D.ok n)(hr:rdy P D a=0)(ha:a<n):
  Calls prog 73 #[.pointer (some ⟨d,0,none⟩),.int .i64 a] w fun e w'=>e=.returned (.tuple #[.string (D.reads a),.nilIface])/\Below w.heap.size w w':=by
 have c2:=h.top.cell (j:=2) rfl
 have H:=Zka h
 have HP:=Zka hp
 have OK:=Zka ok
 have n2:=ok.n2
 have ah:=ok.few
 have hv:D.wait.length=0/\v=.slice none 0 0∨∃g cap,v=.slice (some ⟨g,0,none⟩) D.wait.length cap:=by
  rcases h.late.2 with ⟨h1,h2⟩|⟨g,cap,cur,hv,_⟩
  ·exact Or.inl ⟨h2,h1⟩
  ·exact Or.inr ⟨g,cap,hv⟩
 clear h hp ok
 rcases hv with ⟨h0,rfl⟩|⟨g,cap,rfl⟩
 ·have hw:D.wait=[]:=List.length_eq_zero_iff.1 h0
  have ae:((D.has.drop (a*64)).take 64).length=64:=by rw[ZjO,List.length_drop,OK.out.len];omega
  have ag:=Qv (P:=prog) w 75 9 5 underlying75 underlying5 underlying9 H.out.bytes.row (a*64) 64 (64*n-a*64) ((D.has.drop (a*64)).take 64) ae (by rw[Z0T,Z0U])
  have HL:=Zka ae
  have HW:=Zka hw
  have HR:=Zka hr
  clear ae hw h0 hr
  go_enter func73,ntmps73
  go_wp2_with (go_at_call 118;refine(Jh p d gh _ P D n _ _ HP.out H.out OK.out.len n2 HR.out).mono ?_;rintro e w' ⟨rfl,rfl⟩)
  refine wp_loop_rounds 1 ?_
  rw[rounds_succ]
  go_wp2_with (go_at_call 103;refine(Xc p d gh _ D n a _ H.out OK.out.len n2 ha).mono ?_;rintro e w' ⟨rfl,rfl⟩)
  go_ret2
  exact⟨by unfold Dk.reads;rw[HW.out];rfl,Zk9⟩
 ·have HR:=Zka hr
  clear hr
  go_enter func73,ntmps73
  go_wp2_with (go_at_call 118;refine(Jh p d gh _ P D n _ _ HP.out H.out OK.out.len n2 HR.out).mono ?_;rintro e w' ⟨rfl,rfl⟩)
  go_loop [7] (fun i=>∃k:Nat,k<=D.wait.length/\i=.int .i64 ((k:Int)-1)/\∀j (hj:j<D.wait.length),k<=j->D.wait[j].1≠a) (fun i=>(intOf i+1).toNat)
  case atStart=>exact⟨D.wait.length,Zk8,rfl,fun j hj h=>by omega⟩
  case round=>
   obtain⟨k,hk,rfl,af⟩:=hrel
   have HA:=Zka af;clear af
   by_cases ai:0<k
   ·obtain⟨m,rfl⟩:∃m,k=m+1:=⟨k-1,by omega⟩
    have hm:m<D.wait.length:=by omega
    have c3:w.cell? ⟨g,m*2,none⟩=some (.int .i64 (D.wait[m].1:Int)):=XF H.out.late rfl (by rw[Nat.mul_comm];exact(Jw _ _ hm).1)
    have c4:w.cell? ⟨g,m*2+1,none⟩=some (.string D.wait[m].2):=XF H.out.late rfl (by rw[Nat.mul_comm];exact(Jw _ _ hm).2)
    by_cases he:D.wait[m].1=a
    ·have ht:((D.wait[m].1:Int)==(a:Int))=true:=by simp[he]
     have HE:=Zka he;clear he
     go_wp2
     go_ret2
     exact⟨by unfold Dk.reads;rw[Zhs D.wait a m _ hm HE.out (fun j hj h=>HA.out j hj (by omega))];rfl,Zk9⟩
    ·have ht:((D.wait[m].1:Int)==(a:Int))=false:=by simp;omega
     have HE:=Zka he;clear he
     go_wp2
     go_round
     case measure=>simp[intOf]
     case rel=>exact⟨m,by omega,by go_num,fun j hj h=>by
      by_cases e:j=m
      ·subst e;exact HE.out
      ·exact HA.out j hj (by omega)⟩
   ·obtain rfl:k=0:=by omega
    have ae:((D.has.drop (a*64)).take 64).length=64:=by rw[ZjO,List.length_drop,OK.out.len];omega
    have ag:=Qv (P:=prog) w 75 9 5 underlying75 underlying5 underlying9 H.out.bytes.row (a*64) 64 (64*n-a*64) ((D.has.drop (a*64)).take 64) ae (by rw[Z0T,Z0U])
    have HL:=Zka ae;clear ae
    go_wp2_with (go_at_call 103;refine(Xc p d gh _ D n a _ H.out OK.out.len n2 ha).mono ?_;rintro e w' ⟨rfl,rfl⟩)
    go_ret2
    exact⟨by unfold Dk.reads;rw[Z7I _ _ _ (fun x hx=>by
     obtain⟨j,hj,rfl⟩:=List.getElem_of_mem hx
     exact HA.out j hj (by omega))];rfl,Zk9⟩
theorem Zgr(p d gh:Nat)(v:Value)(P:Pw)(D:Dk)(n:Nat)(a:Int)(w:World)(hp:Zo w p P)(h:Zr w p d gh v D)(ok:D.ok n)(hr:rdy P D a≠0):
  Calls prog 73 #[.pointer (some ⟨d,0,none⟩),.int .i64 a] w fun e w'=>∃b,e=.returned (.tuple #[.string ⟨#[]⟩,.iface 139 (.pointer (some ⟨b,0,none⟩))])/\w.heap.size<=b/\Wh w' b (rdy P D a)/\Below w.heap.size w w':=by
 have H:=Zka h
 have HP:=Zka hp
 have OK:=Zka ok
 have HR:=Zka hr
 clear h hp ok hr
 go_enter func73,ntmps73
 go_wp2_with (go_at_call 118;refine(Z4I p d gh _ P D n _ _ HP.out H.out OK.out.len OK.out.n2 HR.out).mono ?_;rintro e w' ⟨b,rfl,ae,af,ag⟩)
 go_ret2
 exact⟨b,rfl,ae,af,ag⟩
theorem Xw:(prog.info? 5).map (fun i=>(i.zero,i.size,i.bytes))=some (some (.int .u8 0),1,1):=by kernel_rfl
theorem Xx:(prog.info? 5).map (·.size)=some 1:=by kernel_rfl
theorem Ziv:prog.cellsOf 5=1:=by kernel_rfl
theorem Z5U(l:List UInt8):Lib.byteCells l=Z3 l:=by
 unfold Z3 Lib.byteCells
 simp
theorem Zd4(s:ByteArray)(w:World)(hs:s.size<=140737488355328):
  Calls prog 251 #[.string s] w fun e w'=>e=.returned (.string s)/\Below w.heap.size w w':=by
 by_cases h0:s.size=0
 ·have aj:s=⟨#[]⟩:=ByteArray.ext (Array.eq_empty_of_size_eq_zero h0)
  subst aj
  clear h0
  go_enter func251,ntmps251
  go_wp2
  go_ret
  exact⟨rfl,Zk9⟩
 ·obtain⟨i0,hi,ak,al,aq⟩:=info_parts Xw
  have hlen:s.data.toList.length=s.size:=by simp
  have ai:0<s.size:=by omega
  have hb:((s.size:Int)==0)=false:=by rw[beq_eq_false_iff_ne];omega
  have au:=WD (P:=prog) 75 5 i0 underlying75 hi ak al aq s.size hs
  have ae:=heap_alloc_new w (.cells (Z3 (List.replicate s.size 0)).toArray 5)
  have ah:=Lib.run_copy_row_string (P:=prog) (w.alloc (.cells (Z3 (List.replicate s.size 0)).toArray 5)) 75 9 3 5 w.heap.size 0 s.size s.size s _ 5 underlying75 Xx ae Zk8 (by simp[Zh])
  have hY:((Z3 (List.replicate s.size 0)).toArray.toList.take 0++Lib.byteCells s.data.toList++(Z3 (List.replicate s.size 0)).toArray.toList.drop (0+s.size)).toArray=(Z3 s.data.toList).toArray:=by
   rw[List.take_zero,List.nil_append,List.drop_of_length_le (by simp[Zh]),Zk7,Z5U]
  rw[hY] at ah
  have af:=setRow_heap _ w.heap.size _ (Z3 s.data.toList).toArray 5 (0,0) ae
  have ag:=Lib.run_unsafeString_row (P:=prog) ((w.alloc (.cells (Z3 (List.replicate s.size 0)).toArray 5)).setRow w.heap.size (Z3 s.data.toList).toArray) 308 3 9 5 underlying308 Ziv w.heap.size (Z3 s.data.toList).toArray.size (by unfold World.shape?;rw[af]) s.data.toList (by intro e;rw[e] at hlen;exact h0 hlen.symm) (by simp[Zh]) (by omega)
   (fun j x hx=>by
    have e1:(⟨w.heap.size,0,none⟩:Addr).add j=⟨w.heap.size,j,none⟩:=by unfold Addr.add;split<;>simp_all
    rw[e1,cell_of_row _ _ j _ _ _ af]
    simp[Z3,hx])
  rw[hlen] at ag
  have HL:=Zka hlen
  clear hY af ae hlen h0
  go_enter func251,ntmps251
  go_wp2
  go_ret
  refine⟨rfl,Lib.below_freeze ?_ (p:=⟨w.heap.size,0,none⟩) Zk8 _⟩
  exact below_setRow ((Below.refl _ w).alloc Zk8 _) Zk8 _
theorem Z4b(s:ByteArray)(w:World)(hs:s.size<=140737488355328):
  Calls prog 216 #[.string s] w fun e w'=>e=.returned (.string s)/\Below w.heap.size w w':=by
 go_enter func216,ntmps216
 go_wp2_with (go_at_call 251;refine(Zd4 _ _ hs).mono ?_;rintro e w' ⟨rfl,hb⟩)
 go_ret
 exact⟨rfl,by assumption⟩
end
end Go.Proofs.YthppfllkocphbaaGreatDoor
