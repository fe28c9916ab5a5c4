/- Part 1: lemmas about what the program computes. -/
import Derived.WalkKit
import Derived.WalkSpells
import Derived.WalkLawsBesides
import Derived.Laws.IdiomStrings
import Derived.Laws.CopyOwn
import Derived.Lib.Hide
import Derived.Deep.AppendLies
import Derived.Test.YthppfllkocphbaaGreatDoorProg
import Derived.Lib.Strings
import Derived.Lib.BufferWrite
import Derived.Lib.UnsafeStr
import Derived.OwnWalk
import Derived.StillTactics
import Derived.Laws.Pointers
import Derived.Deep.RegionLaw
import Derived.StillTailTactics
import Derived.LaidEql
import Derived.Stop.Asserts
import Derived.RowKitTokens
import Derived.Deep.LoopGhost
import Derived.Lib.SliceRun
import Derived.Laws.BitsAllLaws
import Derived.Laws.Strings3
import Derived.IntWalk
import Derived.Deep.QuietTactic
import Derived.BigQuiet
import Derived.Deep.RegionHeld3
import Derived.Lib.IndexBytes
import Derived.Deep.Fields
import Derived.Deep.Slices
import Derived.Deep.DeepFit
namespace Go.Proofs.YthppfllkocphbaaGreatDoor
set_option linter.all false
set_option maxHeartbeats 25600000
set_option maxRecDepth 100000
open Tryz
open Go renaming World->Qs,Value->Qt,TypeId->Qu,Ending->Qv
def Qi(p:Prop):Prop:=p
theorem Qi.o{p:Prop}(h:Qi p):p:=h
abbrev Qj:=List Nat
abbrev Qk:=List Value
abbrev Ql:=List UInt8
abbrev Qm:=Option Addr
abbrev Qn:=List Bool
abbrev Qo:=BitVec 8
abbrev Qp:=BitVec 32
abbrev Qq:=ByteArray
abbrev Qr:=Nat->Bool
theorem Qw{p:Prop}(h:p:=by omega):p:=h
theorem Qx{p:Prop}(h:p:=by simp):p:=h
theorem Qy{p:Prop}(h:p:=by kernel_rfl):p:=h
theorem Qz{p:Prop}(h:p:=by decide):p:=h
theorem QA{p:Prop}(h:p:=by grind):p:=h
theorem QB{p:Prop}(h:p:=by simp_all):p:=h
theorem QC{p:Prop}(h:p:=by go_num):p:=h
theorem ZK{A:Sort _}(x:A):∃q,x=q:=⟨x,rfl⟩
theorem ZL{A:Sort _}(x:A):∃q,q=x:=⟨x,rfl⟩
structure Q8(a b c:Prop):Prop where(ha:a)(hb:b)(hc:c)
theorem ZX{a b c:Prop}(ha:a)(hb:b)(hc:c):Q8 a b c:=⟨ha,hb,hc⟩
structure Q9(a b c d:Prop):Prop where(ha:a)(hb:b)(hc:c)(hd:d)
theorem ZY{a b c d:Prop}(ha:a)(hb:b)(hc:c)(hd:d):Q9 a b c d:=⟨ha,hb,hc,hd⟩
structure Qa(a b c d e:Prop):Prop where(ha:a)(hb:b)(hc:c)(hd:d)(he:e)
theorem ZZ{a b c d e:Prop}(ha:a)(hb:b)(hc:c)(hd:d)(he:e):Qa a b c d e:=⟨ha,hb,hc,hd,he⟩
structure Qb(a b c d e f:Prop):Prop where(ha:a)(hb:b)(hc:c)(hd:d)(he:e)(hf:f)
theorem Q0{a b c d e f:Prop}(ha:a)(hb:b)(hc:c)(hd:d)(he:e)(hf:f):Qb a b c d e f:=⟨ha,hb,hc,hd,he,hf⟩
structure Qc(a b c d e f g:Prop):Prop where(ha:a)(hb:b)(hc:c)(hd:d)(he:e)(hf:f)(hg:g)
theorem Q1{a b c d e f g:Prop}(ha:a)(hb:b)(hc:c)(hd:d)(he:e)(hf:f)(hg:g):Qc a b c d e f g:=⟨ha,hb,hc,hd,he,hf,hg⟩
structure Qd(a b c d e f g h:Prop):Prop where(ha:a)(hb:b)(hc:c)(hd:d)(he:e)(hf:f)(hg:g)(hh:h)
theorem Q3{a b c d e f g h:Prop}(ha:a)(hb:b)(hc:c)(hd:d)(he:e)(hf:f)(hg:g)(hh:h):Qd a b c d e f g h:=⟨ha,hb,hc,hd,he,hf,hg,hh⟩
structure Qe(a b c d e f g h i:Prop):Prop where(ha:a)(hb:b)(hc:c)(hd:d)(he:e)(hf:f)(hg:g)(hh:h)(hi:i)
theorem Q4{a b c d e f g h i:Prop}(ha:a)(hb:b)(hc:c)(hd:d)(he:e)(hf:f)(hg:g)(hh:h)(hi:i):Qe a b c d e f g h i:=⟨ha,hb,hc,hd,he,hf,hg,hh,hi⟩
structure Qf(a b c d e f g h i j:Prop):Prop where(ha:a)(hb:b)(hc:c)(hd:d)(he:e)(hf:f)(hg:g)(hh:h)(hi:i)(hj:j)
theorem Q5{a b c d e f g h i j:Prop}(ha:a)(hb:b)(hc:c)(hd:d)(he:e)(hf:f)(hg:g)(hh:h)(hi:i)(hj:j):Qf a b c d e f g h i j:=⟨ha,hb,hc,hd,he,hf,hg,hh,hi,hj⟩
structure Qg(a b c d e f g h i j k:Prop):Prop where(ha:a)(hb:b)(hc:c)(hd:d)(he:e)(hf:f)(hg:g)(hh:h)(hi:i)(hj:j)(hk:k)
theorem Q6{a b c d e f g h i j k:Prop}(ha:a)(hb:b)(hc:c)(hd:d)(he:e)(hf:f)(hg:g)(hh:h)(hi:i)(hj:j)(hk:k):Qg a b c d e f g h i j k:=⟨ha,hb,hc,hd,he,hf,hg,hh,hi,hj,hk⟩
structure Qh(a b c d e f g h i j k l:Prop):Prop where(ha:a)(hb:b)(hc:c)(hd:d)(he:e)(hf:f)(hg:g)(hh:h)(hi:i)(hj:j)(hk:k)(hl:l)
theorem Q7{a b c d e f g h i j k l:Prop}(ha:a)(hb:b)(hc:c)(hd:d)(he:e)(hf:f)(hg:g)(hh:h)(hi:i)(hj:j)(hk:k)(hl:l):Qh a b c d e f g h i j k l:=⟨ha,hb,hc,hd,he,hf,hg,hh,hi,hj,hk,hl⟩
theorem ZM{a b:Prop}(ha:a)(hb:b):Qi (a∧b):=⟨ha,hb⟩
theorem ZN{a b c:Prop}(ha:a)(hb:b)(hc:c):Qi (a∧b∧c):=⟨ha,hb,hc⟩
theorem ZO{a b c d:Prop}(ha:a)(hb:b)(hc:c)(hd:d):Qi (a∧b∧c∧d):=⟨ha,hb,hc,hd⟩
theorem ZP{a b c d e:Prop}(ha:a)(hb:b)(hc:c)(hd:d)(he:e):Qi (a∧b∧c∧d∧e):=⟨ha,hb,hc,hd,he⟩
theorem ZQ{a b c d e f:Prop}(ha:a)(hb:b)(hc:c)(hd:d)(he:e)(hf:f):Qi (a∧b∧c∧d∧e∧f):=⟨ha,hb,hc,hd,he,hf⟩
theorem ZR{a b c d e f g:Prop}(ha:a)(hb:b)(hc:c)(hd:d)(he:e)(hf:f)(hg:g):Qi (a∧b∧c∧d∧e∧f∧g):=⟨ha,hb,hc,hd,he,hf,hg⟩
theorem ZS{a b c d e f g h:Prop}(ha:a)(hb:b)(hc:c)(hd:d)(he:e)(hf:f)(hg:g)(hh:h):Qi (a∧b∧c∧d∧e∧f∧g∧h):=⟨ha,hb,hc,hd,he,hf,hg,hh⟩
theorem ZT{a b c d e f g h i:Prop}(ha:a)(hb:b)(hc:c)(hd:d)(he:e)(hf:f)(hg:g)(hh:h)(hi:i):Qi (a∧b∧c∧d∧e∧f∧g∧h∧i):=⟨ha,hb,hc,hd,he,hf,hg,hh,hi⟩
theorem ZU{a b c d e f g h i j:Prop}(ha:a)(hb:b)(hc:c)(hd:d)(he:e)(hf:f)(hg:g)(hh:h)(hi:i)(hj:j):Qi (a∧b∧c∧d∧e∧f∧g∧h∧i∧j):=⟨ha,hb,hc,hd,he,hf,hg,hh,hi,hj⟩
theorem ZV{a b c d e f g h i j k:Prop}(ha:a)(hb:b)(hc:c)(hd:d)(he:e)(hf:f)(hg:g)(hh:h)(hi:i)(hj:j)(hk:k):Qi (a∧b∧c∧d∧e∧f∧g∧h∧i∧j∧k):=⟨ha,hb,hc,hd,he,hf,hg,hh,hi,hj,hk⟩
theorem ZW{a b c d e f g h i j k l:Prop}(ha:a)(hb:b)(hc:c)(hd:d)(he:e)(hf:f)(hg:g)(hh:h)(hi:i)(hj:j)(hk:k)(hl:l):Qi (a∧b∧c∧d∧e∧f∧g∧h∧i∧j∧k∧l):=⟨ha,hb,hc,hd,he,hf,hg,hh,hi,hj,hk,hl⟩
theorem ZI{p:Prop}(h:p):Qi p:=h
theorem ZJ{a b:Prop}(h:a)(k:b):a∧b:=⟨h,k⟩
section
open Go.RowKit
theorem ZG{n:Nat}:n<=n:=Nat.le_refl n
theorem ZH{B:Nat}{w:World}:Below B w w:=Below.refl B w
abbrev Z6:=@List.mem_singleton
abbrev Z7:=@List.getD_eq_getElem?_getD
abbrev Z8:=@List.getElem?_eq_getElem
abbrev Z9:=@World.block_lt_of_cell?
abbrev Za:=@List.getElem?_append_left
abbrev Zb:=@List.length_append
abbrev ZdC:=@Option.some.injEq
abbrev Zc:=@List.take_succ_eq_append_getElem
abbrev Zd:=@List.append_assoc
abbrev Ze:=@List.length_cons
abbrev Zf:=@List.length_map
abbrev Zg:=@List.length_take
abbrev ZdD:=@List.getElem?_append_right
abbrev ZdE:=@Array.getElem?_eq_some_iff
abbrev ZdF:=@List.setIfInBounds_toArray
abbrev Zh:=@List.mem_cons_of_mem
abbrev Zi:=@List.take_of_length_le
abbrev Zj:=@List.mem_append
abbrev Zk:=@List.mem_cons
abbrev Zl:=@List.getElem_mem
abbrev Zm:=@List.flatMap_cons
abbrev Zn:=@List.map_cons
abbrev Zo:=@List.map_append
abbrev Zp:=@Nat.lt_of_lt_of_le
abbrev Zq:=@Nat.le_trans
abbrev Zr:=@IntWalk.i64_in
abbrev ZdG:=@List.not_mem_nil
abbrev ZdH:=@List.take_append_drop
abbrev Zs:=@List.take_length
abbrev ZdI:=@List.foldl_cons
abbrev ZdJ:=@List.append_nil
abbrev Zt:=@Nat.le_refl
abbrev Zu:=@Below.refl
abbrev Zv:=@Or.inl
abbrev Zw:=@if_neg
abbrev Zx:=@if_pos
abbrev Zy:=@Or.inr
abbrev Zz:=@List.mem_map
abbrev ZA:=@World.ownsRow_nil
abbrev ZB:=@heap_alloc_new
abbrev ZdK:=@List.mem_of_mem_take
abbrev ZdL:=@List.set_cons_zero
abbrev ZC:=@decide_eq_false
abbrev ZdM:=@List.length_filter_le
abbrev ZdN:=@List.set_cons_succ
abbrev ZdO:=@run_string_add_sum
abbrev ZdP:=@List.nodup_append
abbrev ZdQ:=@Option.isSome_iff_exists
abbrev ZdR:=@List.nodup_cons
abbrev ZdS:=@List.mem_range
abbrev ZdT:=@Option.ne_none_iff_exists'
abbrev ZD:=@bodyPost_ret
abbrev ZdU:=@ByteArray.size_extract
abbrev ZdV:=@List.mem_filter
abbrev ZdW:=@List.length_eq_zero_iff
abbrev ZdX:=@List.range_succ
abbrev ZdY:=@List.flatMap_append
abbrev ZdZ:=@Option.some.inj
abbrev Ze0:=@Nat.mul_comm
abbrev Ze1:=@List.drop_eq_getElem_cons
abbrev Ze2:=@Nat.mul_le_mul
abbrev ZE:=@info_parts
abbrev Ze3:=@List.nil_append
abbrev Ze4:=@World.news_of_block
abbrev Ze5:=@Nat.zero_add
abbrev Ze6:=@List.take_append_of_le_length
abbrev Ze7:=@Option.getD_some
abbrev Ze8:=@List.getElem?_map
abbrev Ze9:=@List.pairwise_cons
abbrev Zea:=@List.map_congr_left
abbrev Zeb:=@ByteArray.toList_eq
abbrev Zec:=@World.cell?_alloc_lt
abbrev Zed:=@Nat.mul_le_mul_right
abbrev Zee:=@List.length_filterMap_le
abbrev Zef:=@List.cons_append
abbrev Zeg:=@List.mem_flatMap
abbrev Zeh:=@List.foldl_append
abbrev Zei:=@List.getElem?_eq_none
abbrev Zej:=@List.pairwise_iff_getElem
abbrev Zek:=@List.length_drop
abbrev Zel:=@wpList_append_own
abbrev Zem:=@decide_eq_true
abbrev Zen:=@List.mem_append_left
abbrev Zeo:=@List.filter_append
abbrev Zep:=@ByteArray.size_append
abbrev Zeq:=@List.mem_map_of_mem
abbrev Zer:=@List.filter_sublist
abbrev Zes:=@List.length_nil
abbrev ZF:=@congrArg
abbrev Zet:=@Lib.extract_data
abbrev Zeu:=@List.ext_getElem
abbrev Zev:=@List.pairwise_map
abbrev Zew:=@List.length_pos_iff
abbrev Zex:=@List.size_toArray
abbrev Zey:=@List.drop_zero
abbrev Zez:=@List.getElem_of_mem
abbrev ZeA:=@Int.toNat_natCast
abbrev ZeB:=@List.ext_getElem?
abbrev ZeC:=@List.length_singleton
abbrev ZeD:=@List.mem_filterMap
abbrev ZeE:=@Nat.le_succ
abbrev ZeF:=@Nat.lt_or_ge
abbrev ZeG:=@Array.getElem?_eq_none
abbrev ZeH:=@List.drop_of_length_le
abbrev ZeI:=@Option.map_eq_some_iff
abbrev ZeJ:=@Value.slice.injEq
abbrev ZeK:=@Nat.le_of_lt
abbrev ZeL:=@beq_eq_false_iff_ne
abbrev ZeM:=@Nat.div_add_mod
abbrev ZeN:=@Nat.min_eq_left
abbrev ZeO:=@Option.map_some
abbrev ZeP:=@List.getElem?_eq_some_iff
abbrev ZeQ:=@Lib.cell_of_heap
abbrev ZeR:=@List.getElem?_take
abbrev ZeS:=@Nat.add_assoc
abbrev ZeT:=@Nat.zero_le
abbrev ZeU:=@Result.andThen_ok
abbrev ZeV:=@Lib.wpList_append_own_string
abbrev ZeW:=@List.map_map
abbrev ZeX:=@Nat.le_of_eq
abbrev ZeY:=@Nat.mod_eq_of_lt
abbrev ZeZ:=@Bool.and_eq_true
abbrev Zf0:=@List.any_eq_true
abbrev Zf1:=@List.getElem_map
abbrev Zf2:=@List.getElem?_drop
abbrev Zf3:=@List.drop_drop
abbrev Zf4:=@List.perm_ext_iff_of_nodup
abbrev Zf5:=@List.length_range'
abbrev Zf6:=@Option.toList_some
abbrev Zf7:=@List.singleton_append
abbrev Zf8:=@List.mem_append_right
abbrev Zf9:=@List.map_nil
abbrev Zfa:=@List.mem_of_getElem?
abbrev Zfb:=@List.getElem?_set
abbrev Zfc:=@Nat.add_zero
abbrev Zfd:=@List.mem_range'_1
abbrev Zfe:=@List.take_add_one
abbrev Zff:=@Int.le_refl
abbrev Zfg:=@Nat.lt_succ_iff_lt_or_eq
abbrev Zfh:=@List.toList_toArray
abbrev Zfi:=@wp_loop_rounds
abbrev Zfj:=@World.frozen?_alloc_old
abbrev Zfk:=@Nat.shiftLeft_eq
abbrev Zfl:=@List.filter_cons
abbrev Zfm:=@List.drop_left
abbrev Zfn:=@rounds_succ
abbrev Zfo:=@Nat.shiftLeft_add_eq_or_of_lt
abbrev Zfp:=@Nat.add_mul
abbrev Zfq:=@List.eq_nil_of_length_eq_zero
abbrev Zfr:=@List.exists_mem_of_length_pos
abbrev Zfs:=@List.mem_cons_self
abbrev Zft:=@And.right
abbrev Zfu:=@List.set_append_right
abbrev Zfv:=@List.length_range
abbrev Zfw:=@wpStill_nil
abbrev Zfx:=@List.range'_1_concat
abbrev Zfy:=@List.mem_of_mem_drop
abbrev Zfz:=@World.cell?_of_block
abbrev ZfA:=@List.getElem?_set_ne
abbrev ZfB:=@Sem.run_bind
abbrev ZfC:=@Nat.zero_mul
abbrev ZfD:=@Nat.add_comm
abbrev ZfE:=@List.nodup_range
abbrev ZfF:=@callsIn_wide
abbrev ZfG:=@List.getElem?_range
abbrev ZfH:=@List.map_take
abbrev ZfI:=@Prod.mk.injEq
abbrev ZfJ:=@Below.heap_setCell
abbrev ZfK:=@Nat.lt_of_le_of_lt
abbrev ZfL:=@Bool.false_eq_true
abbrev ZfM:=@Nat.one_mul
abbrev ZfN:=@decide_eq_false_iff_not
abbrev ZfO:=@Sem.run_pure
abbrev ZfP:=@BitVec.toNat_shiftLeft
abbrev ZfQ:=@List.take_take
abbrev ZfR:=@Nat.le_mul_of_pos_left
abbrev ZfS:=@List.filter_congr
abbrev ZfT:=@List.filter_eq_nil_iff
abbrev ZfU:=@BitVec.eq_of_toNat_eq
abbrev ZfV:=@List.getElem?_toArray
abbrev ZfW:=@Array.getElem?_toList
abbrev ZfX:=@List.filterMap_append
abbrev ZfY:=@List.length_mergeSort
abbrev ZfZ:=@List.map_toArray
abbrev Zg0:=@Nat.mod_lt
abbrev Zg1:=@Array.toList_inj
abbrev Zg2:=@BitVec.xor_assoc
abbrev Zg3:=@List.take_append
abbrev Zg4:=@List.drop_length
abbrev Zg5:=@List.all_eq_true
abbrev Zg6:=@setRow_heap
abbrev Zg7:=@Nat.mul_one
abbrev Zg8:=@List.Pairwise.filter
abbrev Zg9:=@List.set_append_left
abbrev Zga:=@List.range_eq_range'
abbrev Zgb:=@Array.replicate_succ
abbrev Zgc:=@Array.replicate_zero
abbrev Zgd:=@Bool.eq_iff_iff
abbrev Zge:=@Nat.div_le_self
abbrev Zgf:=@Nat.mul_add_div
abbrev Zgg:=@List.dropLast_concat_getLast
abbrev Zgh:=@List.countP_eq_length_filter
abbrev Zgi:=@Lib.strCells_length
abbrev Zgj:=@List.filterMap_cons
abbrev Zgk:=@List.append_toArray
abbrev Zgl:=@wpList_plain
abbrev Zgm:=@Nat.sub_self
abbrev Zgn:=@Int.tmod_eq_emod_of_nonneg
abbrev Zgo:=@Lib.frozen_of_heap
abbrev Zgp:=@List.Nodup.sublist
abbrev Zgq:=@wpList_append_lies
abbrev Zgr:=@List.take_left
abbrev Zgs:=@World.cell?_setCell_same'
abbrev Zgt:=@Nat.shiftRight_eq_div_pow
abbrev Zgu:=@List.getElem_append_right
abbrev Zgv:=@List.mem_of_find?_eq_some
abbrev Zgw:=@World.cell?_setCell_other
abbrev Zgx:=@Lib.BuilderAt.put
abbrev Zgy:=@decide_eq_true_eq
abbrev Zgz:=@List.push_toArray
abbrev ZgA:=@ByteArray.ext
abbrev ZgB:=@BitVec.toNat_ushiftRight
abbrev ZgC:=@List.getElem_append_left
abbrev ZgD:=@Nat.lt_irrefl
abbrev ZgE:=@Below.heap_alloc
abbrev ZgF:=@Nat.mul_div_cancel_left
abbrev ZgG:=@Lib.run_copy_row_string
abbrev ZgH:=@List.getElem_set
abbrev ZgI:=@Nat.div_eq_of_lt
abbrev ZgJ:=@Nat.lt_succ_self
abbrev ZgK:=@true_and
abbrev ZgL:=@Nat.min_eq_right
abbrev ZgM:=@List.flatMap_nil
abbrev ZgN:=@or_false
abbrev ZgO:=@List.range'_succ
abbrev ZgP:=@List.flatMap_map
abbrev ZgQ:=@Option.getD_none
abbrev ZgR:=@List.pairwise_mergeSort
abbrev ZgS:=@World.cell?_spot
abbrev ZgT:=@List.getElem_cons_succ
abbrev ZgU:=@ByteArray.data_extract
abbrev ZgV:=@if_true
abbrev ZgW:=@Nat.min_le_left
abbrev ZgX:=@Oper.semAt_some
abbrev ZgY:=@List.find?_cons
abbrev ZgZ:=@List.length_replicate
abbrev Zh0:=@cell_of_row
abbrev Zh1:=@Nat.mod_one
abbrev Zh2:=@List.take_zero
abbrev Zh3:=@if_false
abbrev Zh4:=@Addr.mk.injEq
abbrev Zh5:=@Below.drew
abbrev Zh6:=@List.map_set
abbrev Zh7:=@Nat.min_self
abbrev Zh8:=@Code.wp_mono
abbrev Zh9:=@Array.ext
abbrev Zha:=@run_store
abbrev Zhb:=@wpIn_wide
end
instance:Coe Nat Value:=⟨λs=>.pointer (some ⟨s,0,none⟩)⟩
instance:Coe Int Value:=⟨.int .i64⟩
instance:Coe Bool Value:=⟨.bool⟩
instance:Coe Unit Value:=⟨λ_=>.slice none 0 0⟩
instance:Coe Nat Addr:=⟨λs=>⟨s,0,none⟩⟩
instance:CoeOut World Nat:=⟨λw=>w.heap.size⟩
open Go.RowKit
variable{P:Program}{Q:Exit->Act->World->Prop}{a:Act}{e:TypeId}{g:Nat}{l:List Value}{o:Oper}{rest:List Oper}{w w':World}
def Row(w:Qs)(g:Nat)(e:Qu)(l:Qk):Prop:=∃f:Nat×Nat,w.heap[g]? =some (.cells l.toArray e f)/\(f=(0,0)∨l.length<=f.1)
def Row.mk(h:w.heap[g]? =some (.cells l.toArray e (0,0))):Row w g e l:=⟨_,h,Zv rfl⟩
def Row.cell(h:Row w g e l){j:Nat}{v:Qt}(F:l[j]? =some v):w.cell? ⟨g,j,none⟩=some v:=by have⟨f,C,_⟩:=h;rw[Zh0 w g j _ e f C];simpa using F
theorem Row.c0{w:World}{g:Nat}{e:TypeId}{a:Value}{l:List Value}(h:Row w g e (a::l)):w.cell? ⟨g,0,none⟩=some a:=h.cell (j:=0) rfl
theorem Row.c1{w:World}{g:Nat}{e:TypeId}{a b:Value}{l:List Value}(h:Row w g e (a::b::l)):w.cell? ⟨g,1,none⟩=some b:=h.cell (j:=1) rfl
theorem Row.c2{w:World}{g:Nat}{e:TypeId}{a b c:Value}{l:List Value}(h:Row w g e (a::b::c::l)):w.cell? ⟨g,2,none⟩=some c:=h.cell (j:=2) rfl
theorem Row.c3{w:World}{g:Nat}{e:TypeId}{a b c d:Value}{l:List Value}(h:Row w g e (a::b::c::d::l)):w.cell? ⟨g,3,none⟩=some d:=h.cell (j:=3) rfl
theorem Row.c4{w:World}{g:Nat}{e:TypeId}{a b c d i:Value}{l:List Value}(h:Row w g e (a::b::c::d::i::l)):w.cell? ⟨g,4,none⟩=some i:=h.cell (j:=4) rfl
theorem Row.c5{w:World}{g:Nat}{e:TypeId}{a b c d i j:Value}{l:List Value}(h:Row w g e (a::b::c::d::i::j::l)):w.cell? ⟨g,5,none⟩=some j:=h.cell (j:=5) rfl
theorem Row.c6{w:World}{g:Nat}{e:TypeId}{a b c d i j k:Value}{l:List Value}(h:Row w g e (a::b::c::d::i::j::k::l)):w.cell? ⟨g,6,none⟩=some k:=h.cell (j:=6) rfl
theorem Row.c7{w:World}{g:Nat}{e:TypeId}{a b c d i j k m:Value}{l:List Value}(h:Row w g e (a::b::c::d::i::j::k::m::l)):w.cell? ⟨g,7,none⟩=some m:=h.cell (j:=7) rfl
theorem Row.free(h:Row w g e l){j:Nat}(J:j<l.length):w.frozen? ⟨g,j,none⟩=false:=by have⟨f,F,C⟩:=h;simp[World.frozen?];grind
theorem Row.lt(h:Row w g e l):g<w:=by have⟨f,C,_⟩:=h;grind
def Row.set(h:Row w g e l)(j:Nat)(v:Qt):Row (w.setCell ⟨g,j,none⟩ v) g e (l.set j v):=by have⟨f,C,F⟩:=h;refine⟨f,?_,by simpa using F⟩;rw[setCell_eq_setRow w g j _ e f v C];have:=Zg6 w g _ (l.toArray.setIfInBounds j v) e f C;simp_all
def Row.other(h:Row w g e l){p:Addr}(J:g≠p.block)(v:Qt):Row (w.setCell p v) g e l:=by have⟨f,F,C⟩:=h;exact⟨f,by rw[ZfJ w p v g J];exact F,C⟩
def Row.drew(h:Row w g e l):Row w.drew g e l:=h
def Row.drewN(h:Row w g e l)(n:Nat):Row (w.drewN n) g e l:=h
def Row.alloc(h:Row w g e l)(o:Obj):Row (w.alloc o) g e l:=by have hl:=h.lt;have⟨f,F,C⟩:=h;exact⟨f,by rw[ZgE w o g hl];exact F,C⟩
def Z2(w:Qs)(e:Qu)(l:Qk):Row (w.alloc (.cells l.toArray e)) w e l:=⟨_,ZB _ _,Zv rfl⟩
def Row.below{B:Nat}(h:Row w g e l)(hb:Below B w w')(F:g<B):Row w' g e l:=by have⟨f,hh,C⟩:=h;exact⟨f,(hb.block g F).trans hh,C⟩
def Row.after(h:Row w g e l)(hb:Below w w w'):Row w' g e l:=h.below hb h.lt
def QJ(l:Ql):Qk:=l.map λu=>.int .u8 (u.toNat:Int)
def Wd(l:Ql):(QJ l).length=l.length:=by simp[QJ]
def Bq(l:Ql)(j:Nat)(h:j<l.length):(QJ l)[j]? =some (.int .u8 (l[j].toNat:Int)):=by simp[QJ,h]
def F4(a b:Ql):QJ (a++b)=QJ a++QJ b:=by simp[QJ]
def GB(l:Ql)(n:Nat):(QJ l).take n=QJ (l.take n):=by simp[QJ,ZfH]
def GA(l:Ql)(n:Nat):(QJ l).drop n=QJ (l.drop n):=by simp[QJ,List.map_drop]
def K3(l:Ql)(n:Nat)(u:UInt8):(QJ l).set n (.int .u8 (u.toNat:Int))=QJ (l.set n u):=by simp[QJ,Zh6]
def MZ{ops:Array Oper}(F:o.guard=none){v:Qt}(C:(execOp a.eval o).run P w=.ok (.value v) w')(h:wpList P ops Q rest (a.put o.dst v) w'):wpList P ops Q (o::rest) a w:=Zgl F λ_ hK=>by unfold Oper.wp;rw[C];exact hK _ _ h
def MX{ops:Array Oper}(F:o.guard=none)(src dst e:Qu)(x:Operand)(U:o.op=.convert src dst x)(s:Qq)(hx:a.eval x=.string s)(hs:P.underlying src=some .string)(C:P.underlying dst=some (.slice e))(he:P.underlying e=some (.int .u8))(h:∀ (g cap:Nat) (r:Qk) (w1:Qs),w.heap.size<=g->Row w1 g e (QJ s.data.toList++r)->s.size+r.length=cap->Below w w w1-> wpList P ops Q rest (a.put o.dst (.slice g s.size cap)) w1):wpList P ops Q (o::rest) a w:=by
 have J:=run_bytes_of_string (P:=P) w src dst e s hs C he;generalize M:grownCap w s.size 0 e=cap at J;have:=grownCap_ge w s.size 0 e;refine MZ (w':=(w.drew.alloc (.cells (bytesRow s cap) e ((bytesRow s cap).size,(bytesRow s cap).size+1)))) F ?_ (h w cap (List.replicate (cap-s.size) (Value.int .u8 0)) _ (Zt _) ?_ ?_ ?_)
 .unfold execOp;simp_all
 .have e1:bytesRow s cap=(QJ s.data.toList++List.replicate (cap-s.size) (Value.int .u8 0)).toArray:=by simp[bytesRow,QJ]
  refine⟨((bytesRow s cap).size,(bytesRow s cap).size+1),?_,Zy ?_⟩
  .rw[<-e1];exact ZB w.drew _
  .simp_all
 .simp_all
 .exact((Zu _ _).drew).alloc Qx _
def BJ(w:Qs)(src dst e:Qu)(hs:P.underlying src=some (.slice e))(he:P.underlying e=some (.int .u8))(C:P.underlying dst=some .string){g:Nat}{L:Qk}(h:Row w g e L)(off n cap:Nat)(l:Ql)(J:l.length=n)(hl:(L.drop off).take n=QJ l):(convert src dst (.slice (some ⟨g,off,none⟩) n cap)).run P w=.ok (.string ⟨l.toArray⟩) w:=by
 subst J;refine run_convert_bytes_back w src dst e ⟨g,off,none⟩ cap l hs he C λj F=> ?_;have e1:(⟨g,off,none⟩:Addr).add j=⟨g,off+j,none⟩:=by unfold Addr.add;split<;>simp_all
 rw[e1];apply h.cell;have e2:((L.drop off).take l.length)[j]? =L[off+j]?:=QA;rw[<-e2,hl,Bq l j F]
def Hb(t:Qq)(k:Nat)(h:k<t.size)(C:k<t.data.toList.length):t.data.toList[k]=t[k]:=by rfl
def BN{f:FuncId}{args:Array Qt}{v:Qt}(h:Calls P f args w λe w'=>e=.returned v/\w=w'):Calls P f args w λe w'=>e=.returned v/\w'=w:=h.mono λ_ _ ⟨he,hw⟩=>⟨he,hw.symm⟩
variable{L L':List Nat}{a b:World}{e':TypeId}{n:Nat}{xs:List Value}
structure Fr(L:Qj)(w w':Qs):Prop where
 os:w'.os=w.os
 tape:w'.tape=w.tape
 output:w'.output=w.output
 size:w<=w'.heap.size
 block:∀k,k<w.heap.size->k∉L->w'.heap[k]? =w.heap[k]?
def Fr.refl(L:Qj)(w:Qs):Fr L w w:=⟨rfl,rfl,rfl,Zt _,λ_ _ _=>rfl⟩
def Fr.trans{c:Qs}(h:Fr L a b)(k:Fr L' b c)(F:∀i,i∈L'->i<a.heap.size->i∈L):Fr L a c:=
 ⟨k.os.trans h.os,k.tape.trans h.tape,k.output.trans h.output,Zq h.size k.size,λi hi C=>
  (k.block i (Zp hi h.size) (λhm=>C (F i hm hi))).trans (h.block i hi C)⟩
def Fr.mono(h:Fr L a b)(C:∀i,i∈L->i<a.heap.size->i∈L'):Fr L' a b:=⟨h.os,h.tape,h.output,h.size,λi hi F=>h.block i hi (λhm=>F (C i hm hi))⟩
def Z1(h:Below w w w'):Fr L w w':=⟨h.os,h.tape,h.output,h.size,λk C _=>h.block k C⟩
def Fr.below{B:Nat}(h:Fr L w w')(hB:B<=w)(C:∀i,i∈L->B<=i):Below B w w':=⟨h.os,h.tape,h.output,h.size,λk F=>h.block k Qw (λhm=>by have:=C k hm;omega)⟩
def Fr.Zbj(h:Fr [] w w'):Below w w w':=h.below (Zt _) (λi hi=>by simp at hi)
def Fr.drew(h:Fr L a w):Fr L a w.drew:=⟨h.os,h.tape,h.output,h.size,h.block⟩
def Fr.alloc(h:Fr L a w)(o:Obj):Fr L a (w.alloc o):=⟨h.os,h.tape,h.output,Zq h.size Qx,λk C F=>(ZgE w o k (Zp C h.size)).trans (h.block k C F)⟩
def Fr.setCell(h:Fr L a w){p:Addr}(C:p.block∈L∨a.heap.size<=p.block)(v:Qt):Fr L a (w.setCell p v):=
 ⟨h.os,h.tape,h.output,Zq h.size (by simp[World.setCell]),λk J F=>
  (ZfJ w p v k (by rintro rfl;rcases C with C|C;exact F C;omega)).trans (h.block k J F)⟩
def Fr.setRow(h:Fr L a w){g:Nat}(C:g∈L∨a.heap.size<=g)(cs:Array Qt):Fr L a (w.setRow g cs):=
 ⟨h.os,h.tape,h.output,Zq h.size Qx,λk J F=>
  (setRow_other w g k cs (by rintro rfl;rcases C with C|C;exact F C;omega)).trans (h.block k J F)⟩
def Fr.grown{row:Option Nat}(h:Fr L a w)(C:w.grownBy w' row)(M:∀k,row=some k->k∈L∨a.heap.size<=k):Fr L a w':=
 ⟨C.os.trans h.os,C.tape.trans h.tape,C.output.trans h.output,Zq h.size C.size,λk F J=>
  (C.block k (Zp F h.size) (λe=>by rcases M k e.symm with hp|hp;exact J hp;omega)).trans (h.block k F J)⟩
def Row.fr(h:Row w g e l){L:Qj}(C:Fr L w w')(F:g∉L):Row w' g e l:=by have hl:=h.lt;have⟨f,hh,hb⟩:=h;exact⟨f,(C.block g hl F).trans hh,hb⟩
def Xy{base:Nat}{size:Nat}{v:Qt}(h:w.ownsRow base e size v n xs){L:Qj}(M:Fr L w w')(O:∀g,v.ownBlock=some g->g∉L):w'.ownsRow base e size v n xs:=by
 have⟨J,C⟩:=h;refine⟨J,?_⟩;rcases C with C|⟨g,cap,cur,hv,hb,hh,r⟩
 .simp_all
 .have F:g<w.heap.size:=(ZdE.1 hh).1;exact Zy ⟨g,cap,cur,hv,hb,(M.block g F (O g (by rw[hv];rfl))).trans hh,r⟩
def Row.ne{C:Nat}{l':Qk}(h:Row w g e l)(F:Row w C e' l')(he:e≠e'):g≠C:=by rintro rfl;have⟨f,hh,_⟩:=h;have⟨f',J,_⟩:=F;simp_all
def Row.Zbk{base size:Nat}{v:Qt}(h:Row w g e l)(C:w.ownsRow base e' size v n xs)(he:e≠e'):v.ownBlock≠some g:=by
 intro e1;rcases C.2 with ⟨hv,_⟩|⟨F,cap,cur,hv,_,hh,_⟩
 .rw[hv] at e1;cases e1
 .rw[hv] at e1;simp[Value.ownBlock] at e1;have⟨f,J,_⟩:=h;simp_all
def Cc{base:Nat}{size:Nat}{v:Qt}(h:w.ownsRow base e size v n xs){g:Nat}(C:v.ownBlock=some g){j:Nat}{u:Qt}(F:xs[j]? =some u):w.cell? ⟨g,j,none⟩=some u:=by
 have:=h.cells C j u F;have:(⟨g,0,none⟩:Addr).add j=⟨g,j,none⟩:=by unfold Addr.add;split<;>simp_all
 simp_all
def Y2(w:Qs)(g:Nat)(e:Qu)(l:Qk):Prop:=w.heap[g]? =some (.cells l.toArray e (0,0))
def Y2.row(h:Y2 w g e l):Row w g e l:=Row.mk h
def Y2.fr(h:Y2 w g e l){L:Qj}(C:Fr L w w')(F:g∉L):Y2 w' g e l:=(C.block g h.row.lt F).trans h
def Z9u(w:Qs)(e:Qu)(l:Qk):Y2 (w.alloc (.cells l.toArray e)) w e l:=ZB _ _
def Y2.set(h:Y2 w g e l)(j:Nat)(v:Qt):Y2 (w.setCell ⟨g,j,none⟩ v) g e (l.set j v):=by have:=heap_setCell_same w g j _ e v h;unfold Y2;rw[this];simp
def Y2.setRow(h:Y2 w g e l)(l':Qk):Y2 (w.setRow g l'.toArray) g e l':=Zg6 w g _ _ e (0,0) h
def EA(T E:Qu)(i0:TypeInfo)(C:P.underlying T=some (.slice E))(hi:P.info? E=some i0)(F:i0.zero=some (.int .u8 0))(hs:i0.size=1)(hb:i0.bytes=1)(n:Nat)(O:n<=140737488355328)(W:Qs):(Instr.makeSlice T (.int .i64 (n:Int)) (.int .i64 (n:Int))).run P W=.ok (.slice (some ⟨W,0,none⟩) n n) (W.alloc (.cells (QJ (List.replicate n 0)).toArray E)):=by
 have:=run_make (P:=P) W T E i0 (.int .u8 0) C hi F .i64 .i64 (n:Int) (n:Int) Qw Qw QA Qw;have:madeCells (Value.int .u8 0).cells (((n:Nat):Int).toNat*i0.size)=(QJ (List.replicate n 0)).toArray:=by
  rw[hs,ZeA,Zg7];apply Zh9
  .simp[madeCells,QJ]
  .intro i J M;simp[madeCells,QJ,Value.cells,Zh1]
 simp_all
variable{a:Int}{p:Nat}
def A7{k:IntKind}{b:Int}(h:a=b):Ending.returned (.int k a)=.returned (.int k b):=by rw[h]
structure Pw where
 gone:Bool
 Zas:Int
 Zan:Int
structure Dk where
 has:Ql
 wait:List (Nat×Qq)
 dead:Bool
 Zaq:Int
def Y6(w:Qs)(p:Nat)(P:Pw):Prop:=Row w p 112 [P.gone,(P.Zas:Int),(P.Zan:Int)]
def AP:List (Nat×Qq)->List Qt
 |[]=>[]
 |x::l=>.int .i64 (x.1:Int):: .string x.2::AP l
structure Y7(w:Qs)(p d gh:Nat)(v:Qt)(D:Dk):Prop where
 top:Row w d 109 [p,.slice gh D.has.length D.has.length,v,D.dead,(D.Zaq:Int)]
 bytes:Y2 w gh 5 (QJ D.has)
 late:w.ownsRow 0 194 2 v D.wait.length (AP D.wait)
def Ao(w:Qs)(b:Nat)(c:Int):Prop:=Row w b 141 [(c:Int),(0:Int),.nilIface]
def Y6.fr{P:Pw}(h:Y6 w p P){L:Qj}(C:Fr L w w')(F:p∉L):Y6 w' p P:=Row.fr h C F
def Y7.fr{d gh:Nat}{v:Qt}{D:Dk}(h:Y7 w p d gh v D){L:Qj}(C:Fr L w w')(F:d∉L)(J:gh∉L)(M:∀g,v.ownBlock=some g->g∉L):Y7 w' p d gh v D:=⟨h.top.fr C F,h.bytes.fr C J,Xy h.late C M⟩
def JO(c:Int)(w:Qs):Calls prog 46 #[c] w λe w'=>∃b,e=.returned (.iface 139 (b:Nat))/\w.heap.size<=b/\Ao w' b c/\Below w w w':=by go_enter func46,ntmps46;go_wp2;go_ret;exact⟨w.heap.size,rfl,Zt _,Z2 w _ [.int .i64 c,.int .i64 0,.nilIface],(Zu _ _).alloc (Zt _) _⟩
def Z4g(w:Qs):Calls prog 29 #[] w λe w'=>∃p,e=.returned (p:Nat)/\w.heap.size<=p/\Y6 w' p ⟨false, -1,0⟩/\Below w w w':=by go_enter func29,ntmps29;go_wp2;go_ret;exact⟨w.heap.size,rfl,Zt _,Z2 w _ [.bool false,.int .i64 (-1),.int .i64 0],(Zu _ _).alloc (Zt _) _⟩
def Pw.can(P:Pw):Bool:=P.Zas !=0
def Pw.act(P:Pw):Pw:=if P.Zas=0 then{P with gone:=true} else{P with Zas:=if 0<P.Zas then P.Zas-1 else P.Zas,Zan:=wrap64 (P.Zan+1)}
structure Pw.ok(P:Pw):Prop where
 f0: -1<=P.Zas
 f1:P.Zas<=9223372036854775807
def EX(p:Nat)(P:Pw)(w:Qs)(h:Y6 w p P)(ok:P.ok):Calls prog 243 #[p] w λe w'=>e=.returned P.can/\Y6 w' p P.act/\Fr [p] w w':=by
 have⟨g,f,a⟩:=P;have⟨f0,f1⟩:=ok;simp only at f0 f1;have c0:=h.c0;have c1:=h.c1;have c2:=h.c2;have F:=h.free (j:=0) Qx;have J:=h.free (j:=1) Qx;have M:=h.free (j:=2) Qx;have H:=ZI h;clear h;by_cases z:f=0
 .subst z;go_enter func243,ntmps243;go_wp2;go_ret;exact⟨rfl,H.o.set 0 (.bool true),(Fr.refl _ _).setCell (Zv Qx) _⟩
 .have O:(f==0)=false:=by simpa using z
  have Z:=ZI z;clear z;by_cases C:0<f
  .go_enter func243,ntmps243;go_wp2;go_ret;refine⟨by simp[Pw.can,Z.o],?_,((Fr.refl _ _).setCell (Zv Qx) _).setCell (Zv Qx) _⟩;have:=(H.o.set 1 (.int .i64 (f-1))).set 2 (.int .i64 (wrap64 (a+1)));simpa[Y6,Pw.act,Z.o,C] using this
  .go_enter func243,ntmps243;go_wp2;go_ret;refine⟨by simp[Pw.can,Z.o],?_,(Fr.refl _ _).setCell (Zv Qx) _⟩;have e:(if 0<f then f-1 else f)=f:=Qw;have:=H.o.set 2 (.int .i64 (wrap64 (a+1)));simpa[Y6,Pw.act,Z.o,e] using this
def Z2h(p:Nat)(P:Pw)(w:Qs)(h:Y6 w p P):Calls prog 105 #[p] w λe w'=>e=.returned P.gone/\w=w':=by have c0:=h.c0;go_enter func105,ntmps105;go_wp2;go_ret;simp
def OW(p:Nat)(P:Pw)(n:Int)(w:Qs)(h:Y6 w p P):Calls prog 18 #[p,n] w λe w'=>e=.returned (.tuple #[])/\Y6 w' p {P with Zas:=max n (-1)}/\Fr [p] w w':=by
 have c0:=h.c1;have F:=h.free (j:=1) Qx;have H:=ZI h;clear h;by_cases C:n< -1
 .go_enter func18,ntmps18;go_wp2;go_end0;refine⟨rfl,?_,(Fr.refl _ _).setCell (Zv Qx) _⟩;have:=H.o.set 1 (.int .i64 (-1));rw[show max n (-1)= -1 from Qw];exact this
 .go_enter func18,ntmps18;go_wp2;go_end0;refine⟨rfl,?_,(Fr.refl _ _).setCell (Zv Qx) _⟩;have:=H.o.set 1 (.int .i64 n);rw[show max n (-1)=n from Qw];exact this
def BY(p d gh:Nat)(v:Qt)(D:Dk)(w:Qs)(h:Y7 w p d gh v D):Calls prog 22 #[d] w λe w'=>e=.returned D.dead/\w=w':=by have:=h.top.c3;go_enter func22,ntmps22;go_wp2;go_ret;simp
def Ll(p d gh:Nat)(v:Qt)(D:Dk)(w:Qs)(h:Y7 w p d gh v D):Calls prog 72 #[d] w λe w'=>e=.returned (D.Zaq:Int)/\w=w':=by have:=h.top.c4;go_enter func72,ntmps72;go_wp2;go_ret;simp
def BK(p d gh:Nat)(v:Qt)(D:Dk)(n:Nat)(w:Qs)(h:Y7 w p d gh v D)(F:D.has.length=64*n)(C:n<=8192):Calls prog 138 #[d] w λe w'=>e=.returned (n:Int)/\w=w':=by have:=h.top.c1;go_enter func138,ntmps138;go_wp2;go_ret;simp
def rdy(P:Pw)(D:Dk)(at_:Int):Int:=if P.gone then 10 else if D.dead then 11 else if at_<0∨(D.has.length / 64:Nat)<=at_ then 1 else 0
def Et{P:Pw}{D:Dk}(C:P.gone=false)(h:D.dead=false)(F:D.has.length=64*n):rdy P D a=if a<0∨(n:Int)<=a then 1 else 0:=by unfold rdy;rw[C,h,F,ZgF _ Qw];simp
def CP(p d gh:Nat)(v:Qt)(P:Pw)(D:Dk)(n:Nat)(a:Int)(w:Qs)(hp:Y6 w p P)(h:Y7 w p d gh v D)(J:D.has.length=64*n)(U:n<=8192)(C:rdy P D a=0):Calls prog 118 #[d,a] w λe w'=>e=.returned .nilIface/\w=w':=by
 have c0:=h.top.c0;have c3:=h.top.c3;have:=hp.c0;have F:P.gone=false:=by unfold rdy at C;cases O:P.gone<;>simp[O] at C⊢
 have hd:D.dead=false:=by unfold rdy at C;rw[F] at C;cases M:D.dead<;>simp[M] at C⊢
 have:0<=a/\a<n:=by rw[Et F hd J] at C;omega
 have H:=ZI h;have Z:=ZI J;go_enter func118,ntmps118;go_wp2_with (go_at_call 138;go_fit (BK p d gh v D n _ H.o Z.o U);rintro e w' ⟨rfl,rfl⟩);go_ret;simp
def M6(p d gh:Nat)(v:Qt)(P:Pw)(D:Dk)(n:Nat)(a:Int)(w:Qs)(O:Y6 w p P)(h:Y7 w p d gh v D)(M:D.has.length=64*n)(ag:n<=8192)(U:rdy P D a≠0):Calls prog 118 #[d,a] w λe w'=>∃b,e=.returned (.iface 139 (b:Nat))/\w.heap.size<=b/\Ao w' b (rdy P D a)/\Below w w w':=by
 have c0:=h.top.c0;have c3:=h.top.c3;have d0:=O.c0;have H:=ZI h;have HN:=ZI M;cases C:P.gone
 .rw[C] at d0;cases J:D.dead
  .rw[J] at c3;have hb:a<0∨(n:Int)<=a:=by
    by_cases e:a<0∨(n:Int)<=a
    .omega
    .exfalso;apply U;rw[Et C J M,Zw e]
   have F:rdy P D a=1:=(by rw[Et C J M,Zx hb]);rw[F];clear h M U C J O F;by_cases ah:a<0
   .go_enter func118,ntmps118;go_wp2_with (go_at_call 46;go_fit (JO _ _);rintro e w' ⟨b,rfl,Z,ae,af⟩);go_ret;simp_all
   .have:(n:Int)<=a:=(by omega);clear hb;go_enter func118,ntmps118;go_wp2_with (first|(go_at_call 138;go_fit (BK p d gh v D n _ H.o HN.o ag);rintro e w' ⟨rfl,rfl⟩)|(go_at_call 46;go_fit (JO _ _);rintro e w' ⟨b,rfl,Z,ae,af⟩));go_ret;simp_all
  .rw[J] at c3;have F:rdy P D a=11:=by unfold rdy;simp[C,J]
   rw[F];clear h M U C J O F;go_enter func118,ntmps118;go_wp2_with (go_at_call 46;go_fit (JO _ _);rintro e w' ⟨b,rfl,Z,ae,af⟩);go_ret;simp_all
 .rw[C] at d0;have F:rdy P D a=10:=by unfold rdy;simp[C]
  rw[F];clear h M U C O F;go_enter func118,ntmps118;go_wp2_with (go_at_call 46;go_fit (JO _ _);rintro e w' ⟨b,rfl,Z,ae,af⟩);go_ret;simp_all
theorem DM(p d gh:Nat)(v:Qt)(D:Dk)(n:Nat)(a:Nat)(w:Qs)(h:Y7 w p d gh v D)(F:D.has.length=64*n)(C:n<=8192)(ha:a<n):Calls prog 103 #[d,(a:Int)] w λe w'=>e=.returned (.slice (some ⟨gh,a*64,none⟩) 64 (64*n-a*64))/\w=w':=by have:=h.top.c1;go_enter func103,ntmps103;go_wp2;go_ret;refine⟨?_,rfl⟩;show Ending.returned (.slice (some ⟨gh,a*64,none⟩) ((a+1)*64-a*64) (64*n-a*64))=_;grind
def Dk.ZaB(D:Dk)(a:Nat):Qq:=⟨((D.has.drop (a*64)).take 64).toArray⟩
def Dk.reads(D:Dk)(a:Nat):Qq:=D.wait.foldl (λs x=>if x.1=a then x.2 else s) (D.ZaB a)
structure Dk.ok(D:Dk)(n:Nat):Prop where
 len:D.has.length=64*n
 n1:1<=n
 n2:n<=8192
 at_:∀x,x∈D.wait->x.1<n
 size:∀x,x∈D.wait->x.2.size=64
 few:D.wait.length<=1099511627776
 Zbt:0<=D.Zaq
 ZbG:D.Zaq<=4611686018427387904
theorem EL(l:List (Nat×Qq))(i:Nat)(h:i<l.length):(AP l)[2*i]? =some (.int .i64 (l[i].1:Int))/\(AP l)[2*i+1]? =some (.string l[i].2):=by
 induction l generalizing i with
 |nil=>simp at h
 |cons x l ih=>
  match i,h with
  |0,_=>exact⟨rfl,rfl⟩
  |i+1,h=>simp[AP];grind
theorem OQ(l:List (Nat×Qq))(a:Nat)(s:Qq):(∀x,x∈l->x.1≠a)->l.foldl (λs x=>if x.1=a then x.2 else s) s=s:=by
 induction l generalizing s with
 |nil=>intro _;rfl
 |cons x l ih=>grind
def Z1V(l:List (Nat×Qq))(a i:Nat)(s:Qq)(hi:i<l.length)(h:l[i].1=a)(hl:∀j (C:j<l.length),i<j->l[j].1≠a):l.foldl (λs x=>if x.1=a then x.2 else s) s=l[i].2:=by
 induction l generalizing i s with
 |nil=>simp at hi
 |cons x l ih=>
  rw[ZdI]
  match i,hi with
  |0,_=>simp[List.getElem_cons_zero] at h⊢;rw[Zx h];refine OQ l a _ (λy F=> ?_);obtain⟨j,C,rfl⟩:=Zez F;have:=hl (j+1) (by simpa using C) Qw;simpa using this
  |i+1,hi=>
   simp[ZgT] at h⊢
   exact ih i _ (by simpa using hi) h (λj C J=>by
    have:=hl (j+1) (by simpa using C) Qw
    simpa using this)
def Z5y(p d gh:Nat)(v:Qt)(P:Pw)(D:Dk)(n a:Nat)(w:Qs)(hp:Y6 w p P)(h:Y7 w p d gh v D)(ok:D.ok n)(M:rdy P D a=0)(ha:a<n):Calls prog 73 #[d,(a:Int)] w λe w'=>e=.returned (.tuple #[.string (D.reads a),.nilIface])/\Below w w w':=by
 have c2:=h.top.c2;have H:=ZI h;have HP:=ZI hp;have J:=ZI ok;have n2:=ok.n2;have:=ok.few;have hv:D.wait.length=0/\v=.slice none 0 0∨∃g cap,v=.slice (g:Nat) D.wait.length cap:=by
  rcases h.late.2 with ⟨h1,h2⟩|⟨g,cap,cur,hv,_⟩
  .simp_all
  .simp_all
 clear h hp ok;rcases hv with ⟨h0,rfl⟩|⟨g,cap,rfl⟩
 .have hw:D.wait=[]:=ZdW.1 h0;have C:((D.has.drop (a*64)).take 64).length=64:=by rw[Zg,Zek,J.o.len];omega
  have af:=BJ (P:=prog) w 75 9 5 underlying75 underlying5 underlying9 H.o.bytes.row (a*64) 64 (64*n-a*64) ((D.has.drop (a*64)).take 64) C (by rw[GA,GB]);have HL:=ZI C;have HW:=ZI hw;have Z:=ZI M;clear C hw h0 M;go_enter func73,ntmps73;go_wp2_with (go_at_call 118;go_fit (CP p d gh _ P D n _ _ HP.o H.o J.o.len n2 Z.o);rintro e w' ⟨rfl,rfl⟩);refine Zfi 1 ?_;rw[Zfn];go_wp2_with (go_at_call 103;go_fit (DM p d gh _ D n a _ H.o J.o.len n2 ha);rintro e w' ⟨rfl,rfl⟩);go_ret2;exact⟨by unfold Dk.reads;rw[HW.o];rfl,Zu _ _⟩
 .have Z:=ZI M;clear M;go_enter func73,ntmps73;go_wp2_with (go_at_call 118;go_fit (CP p d gh _ P D n _ _ HP.o H.o J.o.len n2 Z.o);rintro e w' ⟨rfl,rfl⟩);go_loop [7] (λi=>∃k:Nat,k<=D.wait.length/\i=((k:Int)-1:Int)/\∀j (F:j<D.wait.length),k<=j->D.wait[j].1≠a) (λi=>(intOf i+1).toNat)
  .exact⟨D.wait.length,Zt _,rfl,λj F h=>Qw⟩
  obtain⟨k,hk,rfl,ae⟩:=hrel;have O:=ZI ae;clear ae;by_cases ah:0<k
  .obtain⟨m,rfl⟩:∃m,k=m+1:=⟨k-1,Qw⟩;have hm:m<D.wait.length:=Qw;have:w.cell? ⟨g,m*2,none⟩=(D.wait[m].1:Int):=Cc H.o.late rfl (by rw[Ze0];exact(EL _ _ hm).1);have:w.cell? ⟨g,m*2+1,none⟩=some (.string D.wait[m].2):=Cc H.o.late rfl (by rw[Ze0];exact(EL _ _ hm).2);by_cases he:D.wait[m].1=a
   .have ht:((D.wait[m].1:Int)==(a:Int))=true:=(by simp[he]);have U:=ZI he;clear he;go_wp2;go_ret2;exact⟨by unfold Dk.reads;rw[Z1V D.wait a m _ hm U.o (λj F h=>O.o j F Qw)];rfl,Zu _ _⟩
   .have ht:((D.wait[m].1:Int)==(a:Int))=false:=by simp;omega
    have U:=ZI he;clear he;go_wp2;go_round
    case measure=>simp[intOf]
    case rel=>exact⟨m,Qw,QC,λj F h=>by
     by_cases e:j=m
     .subst e;exact U.o
     .exact O.o j F Qw⟩
  .obtain rfl:k=0:=(by omega);have C:((D.has.drop (a*64)).take 64).length=64:=by rw[Zg,Zek,J.o.len];omega
   have af:=BJ (P:=prog) w 75 9 5 underlying75 underlying5 underlying9 H.o.bytes.row (a*64) 64 (64*n-a*64) ((D.has.drop (a*64)).take 64) C (by rw[GA,GB]);have HL:=ZI C;clear C;go_wp2_with (go_at_call 103;go_fit (DM p d gh _ D n a _ H.o J.o.len n2 ha);rintro e w' ⟨rfl,rfl⟩);go_ret2
   exact⟨by unfold Dk.reads;rw[OQ _ _ _ (λx hx=>by
    obtain⟨j,F,rfl⟩:=Zez hx
    exact O.o j F Qw)];rfl,Zu _ _⟩
def Z5x(p d gh:Nat)(v:Qt)(P:Pw)(D:Dk)(n:Nat)(a:Int)(w:Qs)(M:Y6 w p P)(h:Y7 w p d gh v D)(ok:D.ok n)(O:rdy P D a≠0):Calls prog 73 #[d,a] w λe w'=>∃b,e=.returned (.tuple #[.string ⟨#[]⟩,.iface 139 (b:Nat)])/\w.heap.size<=b/\Ao w' b (rdy P D a)/\Below w w w':=by have H:=ZI h;have F:=ZI M;have C:=ZI ok;have J:=ZI O;go_enter func73,ntmps73;go_wp2_with (go_at_call 118;go_fit (M6 p d gh _ P D n _ _ F.o H.o C.o.len C.o.n2 J.o);rintro e w' ⟨b,rfl,U,Z,ae⟩);go_ret2;simp_all
def Be:(prog.info? 5).map (λi=>(i.zero,i.size,i.bytes))=some (some (.int .u8 0),1,1):=Qy
def AM:(prog.info? 5).map (·.size)=some 1:=Qy
def Z7W:prog.cellsOf 5=1:=Qy
def Z04(l:Ql):Lib.byteCells l=QJ l:=by unfold QJ Lib.byteCells;simp
def Z6y(s:Qq)(w:Qs)(hs:s.size<=140737488355328):Calls prog 251 #[.string s] w λe w'=>e=.returned (.string s)/\Below w w w':=by
 by_cases h:s.size=0
 .have U:s=⟨#[]⟩:=ZgA (Array.eq_empty_of_size_eq_zero h);subst U;clear h;go_enter func251,ntmps251;go_wp2;go_ret;exact⟨rfl,Zu _ _⟩
 .have⟨i0,hi,Z,af,ag⟩:=ZE Be;have hlen:s.data.toList.length=s.size:=Qx;have:0<s.size:=Qw;have:((s.size:Int)==0)=false:=by rw[ZeL];omega
  have:=EA (P:=prog) 75 5 i0 underlying75 hi Z af ag s.size hs;have C:=ZB w (.cells (QJ (List.replicate s.size 0)).toArray 5);have O:=ZgG (P:=prog) (w.alloc (.cells (QJ (List.replicate s.size 0)).toArray 5)) 75 9 3 5 w 0 s.size s.size s _ 5 underlying75 AM C (Zt _) (by simp[Wd]);have J:((QJ (List.replicate s.size 0)).toArray.toList.take 0++Lib.byteCells s.data.toList++(QJ (List.replicate s.size 0)).toArray.toList.drop (0+s.size)).toArray=(QJ s.data.toList).toArray:=by rw[Zh2,Ze3,ZeH (by simp[Wd]),ZdJ,Z04]
  rw[J] at O;have F:=Zg6 _ w _ (QJ s.data.toList).toArray 5 (0,0) C;have M:=Lib.run_unsafeString_row (P:=prog) ((w.alloc (.cells (QJ (List.replicate s.size 0)).toArray 5)).setRow w.heap.size (QJ s.data.toList).toArray) 308 3 9 5 underlying308 Z7W w (QJ s.data.toList).toArray.size (by unfold World.shape?;rw[F]) s.data.toList (by intro e;rw[e] at hlen;exact h hlen.symm) (by simp[Wd]) Qw
   (λj x hx=>by
    have e1:(⟨w,0,none⟩:Addr).add j=⟨w.heap.size,j,none⟩:=by unfold Addr.add;split<;>simp_all
    rw[e1,Zh0 _ _ j _ _ _ F]
    simp[QJ,hx])
  rw[hlen] at M;have:=ZI hlen;clear J F C hlen h;go_enter func251,ntmps251;go_wp2;go_ret;refine⟨rfl,Lib.below_freeze ?_ (p:=⟨w,0,none⟩) (Zt _) _⟩;exact below_setRow ((Zu _ w).alloc (Zt _) _) (Zt _) _
def Kg(s:Qq)(w:Qs)(hs:s.size<=140737488355328):Calls prog 216 #[.string s] w λe w'=>e=.returned (.string s)/\Below w w w':=by go_enter func216,ntmps216;go_wp2_with (go_at_call 251;go_fit (Z6y _ _ hs);rintro e w' ⟨rfl,hb⟩);go_ret;exact⟨rfl,by assumption⟩
variable{d gh:Nat}
structure Sep(p d gh:Nat)(v:Qt):Prop where
 pd:d≠p
 pg:gh≠p
 pv:v.ownBlock≠some p
 dg:d≠gh
 dv:v.ownBlock≠some d
 gv:v.ownBlock≠some gh
def sep{v:Qt}{P:Pw}{D:Dk}(C:Y6 w p P)(h:Y7 w p d gh v D):Sep p d gh v:=⟨h.top.ne C Qz,h.bytes.row.ne C Qz,Row.Zbk C h.late Qz,h.top.ne h.bytes.row Qz,h.top.Zbk h.late Qz,h.bytes.row.Zbk h.late Qz⟩
def QV(v:Qt):Qj:=match v.ownBlock with|some g=>[g]|none=>[]
def YV{v:Qt}:g∈QV v↔v.ownBlock=some g:=by
 unfold QV;cases h:v.ownBlock with
 |none=>simp
 |some x=>simp;exact eq_comm
def Y7.Zay{v:Qt}{P:Pw}{D:Dk}(J:Y6 w p P)(h:Y7 w p d gh v D)(C:Fr [p] w w'):Y7 w' p d gh v D:=by
 have s:=sep J h
 exact h.fr C (by simpa using s.pd) (by simpa using s.pg) (λg F=>by
  have:=s.pv;simp[Z6];rintro rfl
  exact this F)
def Z8M(p d gh:Nat)(v:Qt)(P:Pw)(D:Dk)(n:Nat)(a:Int)(s:Qq)(w:Qs)(F:Y6 w p P)(h:Y7 w p d gh v D)(ok:D.ok n)(J:rdy P D a≠0):Calls prog 190 #[d,a,.string s] w λe w'=>∃b,e=.returned (.iface 139 (b:Nat))/\w.heap.size<=b/\Ao w' b (rdy P D a)/\Below w w w':=by have H:=ZI h;have Z:=ZI F;have C:=ZI ok;have HR:=ZI J;clear h F ok J;go_enter func190,ntmps190;go_wp2_with (go_at_call 118;go_fit (M6 p d gh _ P D n _ _ Z.o H.o C.o.len C.o.n2 HR.o);rintro e w' ⟨b,rfl,M,O,U⟩);go_ret;exact⟨b,rfl,M,O,U⟩
def Z8N(p d gh:Nat)(v:Qt)(P:Pw)(D:Dk)(n:Nat)(a:Int)(s:Qq)(w:Qs)(F:Y6 w p P)(h:Y7 w p d gh v D)(ok:D.ok n)(J:rdy P D a=0)(hs:s.size≠64):Calls prog 190 #[d,a,.string s] w λe w'=>∃b,e=.returned (.iface 139 (b:Nat))/\w.heap.size<=b/\Ao w' b 1/\Below w w w':=by
 have H:=ZI h;have Z:=ZI F;have C:=ZI ok;have HR:=ZI J;have:((s.size:Int) !=64)=true:=by rw[bne_iff_ne];omega
 clear h F ok J hs;go_enter func190,ntmps190;go_wp2_with (first|(go_at_call 118;go_fit (CP p d gh _ P D n _ _ Z.o H.o C.o.len C.o.n2 HR.o);rintro e w' ⟨rfl,rfl⟩)|(go_at_call 46;go_fit (JO _ _);rintro e w' ⟨b,rfl,M,O,U⟩));go_ret;exact⟨b,rfl,M,O,U⟩
def Z8O(p d gh:Nat)(v:Qt)(P:Pw)(D:Dk)(n:Nat)(a:Int)(s:Qq)(w:Qs)(U:Y6 w p P)(pok:P.ok)(h:Y7 w p d gh v D)(ok:D.ok n)(Z:rdy P D a=0)(hs:s.size=64)(hc:P.can=false):Calls prog 190 #[d,a,.string s] w λe w'=>∃b,e=.returned (.iface 139 (b:Nat))/\w.heap.size<=b/\Ao w' b 10/\Y6 w' p P.act/\Y7 w' p d gh v D/\Fr [p] w w':=by
 have H:=ZI h;have C:=ZI U;have M:=ZI ok;have HR:=ZI Z;have:((s.size:Int) !=64)=false:=by rw[hs];rfl
 have c0:=h.top.c0;clear h U ok Z hs;go_enter func190,ntmps190;go_wp2_with (first|(go_at_call 118;go_fit (CP p d gh _ P D n _ _ C.o H.o M.o.len M.o.n2 HR.o);rintro e w' ⟨rfl,rfl⟩)|(go_at_call 243;refine(EX p P _ C.o pok).mono ?_;rw[hc];rintro e w1 ⟨rfl,ag,J⟩)|(go_at_call 46;go_fit (JO _ _);rintro e w' ⟨b,rfl,ae,af,F⟩));go_ret;have O:Fr [p] w _:=J.trans (Z1 (L:=[]) F) Qx;exact⟨b,rfl,Zq J.size ae,af,Y6.fr ag (Z1 (L:=[]) F) Qx,Y7.Zay C.o H.o O,O⟩
def Z3v:(prog.info? 194).map (λi=>(i.zero,i.size,i.bytes))=some (some (.agg #[(0:Int),.string ⟨#[]⟩]),2,24):=Qy
def Z8t(l:List (Nat×Qq))(a:Nat)(s:Qq):AP (l++[(a,s)])=AP l++[.int .i64 (a:Int),.string s]:=by
 induction l with
 |nil=>rfl
 |cons x l ih=>simp[AP,ih]
def Z8P{v:Qt}{P Q:Pw}{D:Dk}{a:Nat}{s:Qq}{w1 w2 w3:Qs}{o:Obj}{C cap:Nat}(aq:Y6 w p P)(Z:Fr [p] w w1)(ag:Y6 w1 p Q)(J:Y7 w1 p d gh v D)(F:Below w1 w1.drew w2)(af:w3.ownsRow 0 194 2 (.slice C (D.wait.length+1) cap) (D.wait.length+1) (AP D.wait++[.int .i64 (a:Int),.string s]))(ae:(w2.alloc o).grownBy w3 v.ownBlock)(U:v.ownBlock=some C∨C=w2.heap.size+1):Y6 (w3.setCell ⟨d,2,none⟩ (.slice C (D.wait.length+1) cap)) p Q/\ Y7 (w3.setCell ⟨d,2,none⟩ (.slice C (D.wait.length+1) cap)) p d gh (.slice C (D.wait.length+1) cap) {D with wait:=D.wait++[(a,s)]}/\ Fr (p::d::QV v) w (w3.setCell ⟨d,2,none⟩ (.slice C (D.wait.length+1) cap))/\ ((Value.slice C (D.wait.length+1) cap).ownBlock=v.ownBlock∨∀g,(Value.slice C (D.wait.length+1) cap).ownBlock=some g->w.heap.size<=g):=by
 have s1:=sep ag J;have:=J.top.lt;have:w1<=w2.heap.size:=F.size;have f2:Fr [] w1 w2:=⟨F.os,F.tape,F.output,F.size,λk O _=>F.block k O⟩;have f3:Fr (QV v) w1 w3:=((f2.alloc o).mono Qx).grown ae (λk O=>Zv (YV.2 O));have f4:Fr (d::QV v) w1 (w3.setCell ⟨d,2,none⟩ (.slice C (D.wait.length+1) cap)):=(f3.mono (λi hi _=>by simp[hi])).setCell (Zv Qx) _;have ah:C≠d:=by
  rintro rfl;rcases U with h|h
  .exact s1.dv h
  .omega
 have ak:p∉d::QV v:=by simp[Zk,YV,not_or];exact⟨λe=>s1.pd e.symm,s1.pv⟩
 have aj:gh∉d::QV v:=by simp[Zk,YV,not_or];exact⟨λe=>s1.dg e.symm,s1.gv⟩
 have ai:d∉QV v:=by simp[YV];exact s1.dv
 refine⟨Y6.fr ag f4 ak,⟨?_,J.bytes.fr f4 aj,?_⟩,?_,?_⟩
 .exact(J.top.fr f3 ai).set 2 (.slice C (D.wait.length+1) cap)
 .have h:=Xy af (L:=[d]) ((Fr.refl [d] w3).setCell (p:=⟨d,2,none⟩) (Zv Qx) (.slice C (D.wait.length+1) cap)) (λg M=>by
   simp[Value.ownBlock,ZdC] at M;subst M
   simpa using ah)
  simp[Zb,ZeC,Z8t];exact h
 .exact(Z.mono (λi hi _=>by simp at hi;simp[hi])).trans f4 (λi hi _=>by simp at hi⊢;exact Zy hi)
 .rcases U with h|h
  .exact Zv h.symm
  .right;intro g M;simp[Value.ownBlock,ZdC] at M;have:=Z.size;omega
def Z8Q(p d gh:Nat)(v:Qt)(P:Pw)(D:Dk)(n:Nat)(a:Nat)(s:Qq)(w:Qs)(hp:Y6 w p P)(pok:P.ok)(h:Y7 w p d gh v D)(ok:D.ok n)(hr:rdy P D a=0)(hs:s.size=64)(hc:P.can=true)(ak:D.wait.length<1099511627776):Calls prog 190 #[d,(a:Int),.string s] w λe w'=>∃v',e=.returned .nilIface/\Y6 w' p P.act/\Y7 w' p d gh v' {D with wait:=D.wait++[(a,s)]}/\Fr (p::d::QV v) w w'/\(v'.ownBlock=v.ownBlock∨∀g,v'.ownBlock=some g->w.heap.size<=g):=by
 have H:=ZI h;have O:=ZI hp;have OK:=ZI ok;have HR:=ZI hr;have aw:s.size<=140737488355328:=Qw;have:((s.size:Int) !=64)=false:=by rw[hs];rfl
 have c0:=h.top.c0;have⟨i0,aq,ay,az,bf⟩:=ZE Z3v;clear h hp ok hr hs;go_enter func190,ntmps190;go_wp2_with (first|(go_at_call 118;go_fit (CP p d gh _ P D n _ _ O.o H.o OK.o.len OK.o.n2 HR.o);rintro e w' ⟨rfl,rfl⟩)|(go_at_call 243;refine(EX p P _ O.o pok).mono ?_;rw[hc];rintro e w1 ⟨rfl,ag,Z⟩));have F:=Y7.Zay O.o H.o Z;have s1:=sep ag F;have k2:w1.cell? ⟨d,2,none⟩=some v:=F.top.c2;have bg:w1.frozen? ⟨d,2,none⟩=false:=F.top.free Qx;have M:=F.top.lt;have ah:=ZI F;have aj:=ZI ag;have ai:=ZI Z;clear F ag Z;go_region_law (first|(go_simp;go_at_call 216;go_fit (Kg _ _ aw);rintro e w2 ⟨rfl,C⟩;have J:d<w2:=Zp M C.size;have:w2.cell? ⟨d,2,none⟩=some v:=(C.cell (p:=⟨d,2,none⟩) M).trans k2)|(refine step_append_lies _ (by rfl) _ _ _ (by rfl) 0 194 i0 _ 2 24 underlying107 aq ay az bf rfl Qw v D.wait.length (AP D.wait) (by rfl) ((Xy (w:=w1.drew) (L:=[]) ah.o.late (Z1 C) Qx).alloc _) ⟨w2,0,none⟩ 1 1 [.int .i64 (a:Int),.string s] (by rfl) (by rfl) (Ze4 (cs:= #[.int .i64 (a:Int),.string s]) (t:=194) (fr:=(0,0)) (ZB w2 _)) (by simp[Value.oneCell']) Qw (by unfold maxLen;omega) Qw Qw (w2.heap.size+1) Qx ?_;intro gg cap w3 ae U af au;have:w3.cell? ⟨d,2,none⟩=some v:=(U.cell_far _ (Zp J Qx) (Ne.symm s1.dv)).trans ((((Zu w2 w2).alloc (Zt _) _).cell (p:=⟨d,2,none⟩) J).trans ((C.cell (p:=⟨d,2,none⟩) M).trans k2));have:w3.frozen? ⟨d,2,none⟩=false:=(U.frozen_far _ (Zp J Qx) (Ne.symm s1.dv)).trans ((((Zu w2 w2).alloc (Zt _) _).frozen (p:=⟨d,2,none⟩) J).trans ((C.frozen (p:=⟨d,2,none⟩) M).trans bg))))
 all_goals go_wp2
 all_goals go_ret
 all_goals exact⟨_,rfl,Z8P O.o ai.o aj.o ah.o C ae U af⟩
def Z05(l:Ql):Lib.byteCells l=QJ l:=by unfold QJ Lib.byteCells;simp
def WE(l:Ql)(o:Nat)(s:Ql):Ql:=l.take o++s++l.drop (o+s.length)
def Ek(l:Ql)(o:Nat)(s:Ql)(h:o+s.length<=l.length):(WE l o s).length=l.length:=by simp[WE];omega
def MY{ops:Array Oper}{a:Act}(Z:o.guard=none)(d s:Operand)(C M:Qu)(ho:o.op=.call {callee:=.builtin .copy,args:= #[d,s],argTypes:= #[C,M]})(e:Qu)(hu:P.underlying C=some (.slice e))(hs:(P.info? e).map (·.size)=some 1)(g off n cap:Nat)(U:a.eval d=.slice (some ⟨g,off,none⟩) n cap)(str:Qq)(hx:a.eval s=.string str)(l:Ql)(F:Y2 w g e (QJ l))(hle:str.size<=n)(ae:off+str.size<=l.length)(h:Y2 (w.setRow g (QJ (WE l off str.data.toList)).toArray) g e (QJ (WE l off str.data.toList))->wpList P ops Q rest (a.put o.dst (goInt str.size)) (w.setRow g (QJ (WE l off str.data.toList)).toArray)):wpList P ops Q (o::rest) a w:=by
 have O:str.data.toList.length=str.size:=Qx;have J:=ZgG (P:=P) w C M o.type e g off n cap str _ e hu hs F hle (by simp[Wd];omega);have e1:((QJ l).toArray.toList.take off++Lib.byteCells str.data.toList++(QJ l).toArray.toList.drop (off+str.size))=QJ (WE l off str.data.toList):=by rw[Zfh,Z05,WE,F4,F4,GB,GA,O]
 rw[e1] at J;refine MZ Z ?_ (h (F.setRow _));unfold execOp;simp[ho,resolve,invoke,builtin,ZfB,ZfO,ZeU,ZfZ,Zn,Zf9,U,hx,J]
def WZ(has:Ql)(x:Nat×Qq):Ql:=WE has (x.1*64) x.2.data.toList
def Dk.ZaR(D:Dk):Dk:={D with has:=D.wait.foldl WZ D.has,wait:=[]}
def Ho(has:Ql)(x:Nat×Qq)(n:Nat)(h:has.length=64*n)(hx:x.1<n)(hs:x.2.size=64):(WZ has x).length=64*n:=by
 have:x.2.data.toList.length=64:=by simpa using hs
 unfold WZ;rw[Ek _ _ _ Qw,h]
def KR(l:List (Nat×Qq))(has:Ql)(n:Nat)(h:has.length=64*n)(hx:∀x,x∈l->x.1<n/\x.2.size=64):(l.foldl WZ has).length=64*n:=by
 induction l generalizing has with
 |nil=>exact h
 |cons x l ih=>rw[ZdI];exact ih _ (Ho has x n h (hx x Qx).1 (hx x Qx).2) (λy C=>hx y (by simp[C]))
def Z1S(p d gh:Nat)(v:Qt)(P:Pw)(D:Dk)(n:Nat)(w:Qs)(hp:Y6 w p P)(pok:P.ok)(h:Y7 w p d gh v D)(ok:D.ok n)(hr:rdy P D 0=0)(hc:P.can=true):Calls prog 191 #[d] w λe w'=>e=.returned .nilIface/\Y6 w' p P.act/\Y7 w' p d gh (.slice none 0 0) D.ZaR/\Fr [p,d,gh] w w':=by
 have H:=ZI h;have U:=ZI hp;have F:=ZI ok;have HR:=ZI hr;have c0:=h.top.c0;have hv:D.wait.length=0/\v=.slice none 0 0∨∃g cap,v=.slice (g:Nat) D.wait.length cap:=by
  rcases h.late.2 with ⟨h1,h2⟩|⟨g,cap,cur,hv,_⟩
  .exact Zv ⟨h2,h1⟩
  .exact Zy ⟨g,cap,hv⟩
 have cz:=ok.few;clear h hp ok hr;rcases hv with ⟨h0,rfl⟩|⟨g,cap,rfl⟩
 .have hw:D.wait=[]:=ZdW.1 h0;have bq:=ZI hw;clear hw h0;go_enter func191,ntmps191;go_wp2_with (first|(go_at_call 118;refine(CP p d gh _ P D n _ _ U.o H.o F.o.len F.o.n2 HR.o).mono ?_;rintro e w' ⟨rfl,rfl⟩)|(go_at_call 243;refine(EX p P _ U.o pok).mono ?_;rw[hc];rintro e w1 ⟨rfl,O,M⟩;have C:=Y7.Zay U.o H.o M;have k2:=C.top.c2;have dm:=C.top.free (j:=2) Qx));refine Zfi 1 ?_;rw[Zfn];go_wp2;go_ret;have s1:=sep O C;have hF:Fr [d] w1 (w1.setCell ⟨d,2,none⟩ (.slice none 0 0)):=(Fr.refl [d] w1).setCell (Zv Qx) _;have np:p∉[d]:=by simp only[Z6];exact λe=>s1.pd e.symm
  have ng:gh∉[d]:=by simp only[Z6];exact λe=>s1.dg e.symm
  refine⟨rfl,Y6.fr O hF np,?_,(M.mono (λi hi _=>by simp at hi;simp[hi])).trans hF (λi hi _=>by simp at hi;simp[hi])⟩;have e1:D.ZaR=D:=by have h2:=bq.o;unfold Dk.ZaR;rw[h2];rcases D with ⟨q1,q2,q3,q4⟩;simp only at h2;subst h2;rfl
  rw[e1];exact⟨C.top.set 2 (.slice none 0 0),C.bytes.fr hF ng,by rw[bq.o];exact ZA _ _ _ _⟩
 .go_enter func191,ntmps191;go_wp2_with (first|(go_at_call 118;refine(CP p d gh _ P D n _ _ U.o H.o F.o.len F.o.n2 HR.o).mono ?_;rintro e w' ⟨rfl,rfl⟩)|(go_at_call 243;refine(EX p P _ U.o pok).mono ?_;rw[hc];rintro e w1 ⟨rfl,O,M⟩;have C:=Y7.Zay U.o H.o M;have k2:=C.top.c2));have s1:=sep O C;have cn:=ZI C;have cw:=ZI O;have ct:=ZI M;clear C O M;go_loopw [23] (λi wr=>∃k:Nat,k<=D.wait.length/\i=(k:Int)/\Y6 wr p P.act/\Y7 wr p d gh (.slice (g:Nat) D.wait.length cap) {D with has:=(D.wait.take k).foldl WZ D.has}/\Fr [p,d,gh] w wr) (λi _=>D.wait.length- (intOf i).toNat)
  .exact⟨0,Qw,rfl,cw.o,cn.o,ct.o.mono (λi hi _=>by simp at hi;simp[hi])⟩
  obtain⟨k,hk,rfl,az,J,ay⟩:=hrel;have bj:=ZI az;have aj:=ZI J;have bh:=ZI ay;by_cases Z:k<D.wait.length
  .have c3:wr.cell? ⟨g,k*2,none⟩=(D.wait[k].1:Int):=Cc J.late rfl (by rw[Ze0];exact(EL _ _ Z).1);have c4:wr.cell? ⟨g,k*2+1,none⟩=some (.string D.wait[k].2):=Cc J.late rfl (by rw[Ze0];exact(EL _ _ Z).2);have bz:=F.o.at_ _ (Zl Z);have bf:=F.o.size _ (Zl Z);have hlen:((D.wait.take k).foldl WZ D.has).length=64*n:=KR _ _ n F.o.len (λx hx=>⟨F.o.at_ x (ZdK hx),F.o.size x (ZdK hx)⟩);have bm:∀o,Y7 (wr.alloc o).drew p d gh (.slice (g:Nat) D.wait.length cap) {D with has:=(D.wait.take k).foldl WZ D.has}:=λo=>J.fr (L:=[]) (((Fr.refl [] wr).alloc o).drew) Qx Qx Qx;have n2:=F.o.n2;obtain⟨at_,au⟩:=ZL D.wait[k].1;obtain⟨str,ah⟩:=ZL D.wait[k].2;rw[<-au] at bz c3;rw[<-ah] at bf c4;have cr:=ZI bm;have af:=ZI hlen;have cj:=ZI au;have ak:=ZI ah;have aq:=ZI bf;clear az J ay bm hlen au ah bf;go_wp2_with fail;have r5:=Z2 wr 194 [.int .i64 (at_:Int),.string str];have c5:=r5.c0;have c6:=r5.c1;have ag:=cr.o (.cells #[(at_:Int),.string str] 194);have aw:=(Fr.refl [] wr).alloc (.cells #[(at_:Int),.string str] 194);obtain⟨w2,bu⟩:=ZL (wr.alloc (.cells #[(at_:Int),.string str] 194));simp only[List.toArray] at c5 c6;rw[<-bu] at c5 c6 ag aw⊢;have bg:=ZI ag;have cu:=ZI aw;clear r5 ag aw bu;go_still_tail 6,Qy
   still_call (BN (DM p d gh _ _ n at_ _ bg.o af.o n2 bz))
   repeat still_step
   refine Zfw ?_;change wpList _ _ _ _ _ w2.drew;go_wp2_with (refine MY rfl (.tmp 30) (.tmp 32) 75 9 rfl 5 underlying75 AM gh (at_*64) 64 _ rfl str rfl ((D.wait.take k).foldl WZ D.has) bg.o.bytes (by rw[aq.o];omega) (by rw[aq.o,af.o];omega) ?_;intro ae);have cy:=ZI ae;clear ae;go_roundw
   .have hF:Fr [gh] wr (w2.drew.setRow gh (QJ (WE ((D.wait.take k).foldl WZ D.has) (at_*64) str.data.toList)).toArray):=((cu.o.mono Qx).drew).setRow (Zv Qx) _;have np:p∉[gh]:=by simp only[Z6];exact λe=>s1.pg e.symm
    have ai:(D.wait.take (k+1)).foldl WZ D.has=WE ((D.wait.take k).foldl WZ D.has) (at_*64) str.data.toList:=(by rw[Zc Z,Zeh,ZdI,List.foldl_nil,WZ,cj.o,ak.o]);refine⟨k+1,Qw,QC,Y6.fr bj.o hF np,?_,?_⟩
    .rw[ai]
     have dj:(WE ((D.wait.take k).foldl WZ D.has) (at_*64) str.data.toList).length=((D.wait.take k).foldl WZ D.has).length:=Ek _ _ _ (by
      have:str.data.toList.length=64:=by simpa using aq.o
      rw[af.o];omega)
     refine⟨?_,cy.o,Xy aj.o.late hF (λg' df=>by
      have:=s1.gv
      simp only[Z6];rintro rfl;exact this df)⟩
     have ht:=aj.o.top.fr hF (by simpa using s1.dg);simp only at ht⊢;rw[dj];exact ht
    .exact bh.o.trans hF (λi hi _=>by simp at hi;simp[hi])
   simp[intOf];omega
  .have dp:=J.top.c2;have dm:=J.top.free (j:=2) Qx;clear az J ay;go_wp2;go_ret;have dh:k=D.wait.length:=Qw;have hF:Fr [d] wr (wr.setCell ⟨d,2,none⟩ (.slice none 0 0)):=(Fr.refl [d] wr).setCell (Zv Qx) _;have np:p∉[d]:=by simp only[Z6];exact λe=>s1.pd e.symm
   have ng:gh∉[d]:=by simp only[Z6];exact λe=>s1.dg e.symm
   refine⟨rfl,Y6.fr bj.o hF np,?_,bh.o.trans hF (λi hi _=>by simp at hi;simp[hi])⟩;have de:(D.wait.take k).foldl WZ D.has=D.wait.foldl WZ D.has:=(by rw[dh,Zs]);have hd:=aj.o;rw[de] at hd;exact⟨hd.top.set 2 (.slice none 0 0),hd.bytes.fr hF ng,ZA _ _ _ _⟩
def XP(B:Nat)(w:Qs)(v:Qt)(c:Int):Prop:=(c=0/\v=.nilIface)∨(c≠0/\∃b,v=.iface 139 (b:Nat)/\B<=b/\Ao w b c)
def Z9E(B:Nat)(w:Qs):XP B w .nilIface 0:=Zv ⟨rfl,rfl⟩
def XP.err{B:Nat}{b:Nat}{c:Int}(hc:c≠0)(hB:B<=b)(h:Ao w b c):XP B w (.iface 139 b) c:=Zy ⟨hc,b,rfl,hB,h⟩
def Dk.fresh(n:Nat):Dk:=⟨List.replicate (64*n) 0,[],false,0⟩
def Za7(h:1<=n)(C:n<=8192):(Dk.fresh n).ok n:=⟨by simp[Dk.fresh],h,C,by simp[Dk.fresh],by simp[Dk.fresh],by simp[Dk.fresh],by simp[Dk.fresh],by simp[Dk.fresh]⟩
def Z4h(p n:Nat)(w:Qs)(J:1<=n)(O:n<=8192):Calls prog 16 #[p,(n:Int)] w λe w'=>∃d gh,e=.returned (.tuple #[(d:Nat),.nilIface])/\w.heap.size<=d/\w.heap.size<=gh/\Y7 w' p d gh (.slice none 0 0) (Dk.fresh n)/\Below w w w':=by
 have⟨i0,hi,h,C,F⟩:=ZE Be;have M:=λW=>EA (P:=prog) 75 5 i0 underlying75 hi h C F (64*n) Qw W;rw[show((64*n:Nat):Int)=(n:Int)*64 from Qw] at M;clear hi h C F;go_enter func16,ntmps16;go_wp2;go_ret2;refine⟨_,w.heap.size,rfl,?_,Zt _,⟨?_,?_,ZA _ _ _ _⟩,?_⟩
 .simp
 .have:=Z2 (w.alloc (.cells (QJ (List.replicate (64*n) 0)).toArray 5)) 109 [.pointer p,.slice (some ⟨w,0,none⟩) (64*n) (64*n),.slice none 0 0,.bool false,.int .i64 0];simpa[Dk.fresh] using this
 .have J:=Z9u w 5 (QJ (List.replicate (64*n) 0));exact J.fr ((Fr.refl [] _).alloc _) Qx
 .exact((Zu _ _).alloc (Zt _) _).alloc Qx _
def Z4v(p:Nat)(P:Pw)(w:Qs)(h:Y6 w p P):Calls prog 52 #[p] w λe w'=>e=.returned (.tuple #[])/\Y6 w' p {P with gone:=false,Zas:= -1}/\Fr [p] w w':=by have c0:=h.c0;have:=h.free (j:=0) Qx;have c1:=h.c1;have:=h.free (j:=1) Qx;have H:=ZI h;clear h;go_enter func52,ntmps52;go_wp2;go_end0;exact⟨rfl,(H.o.set 0 (.bool false)).set 1 (.int .i64 (-1)),((Fr.refl _ _).setCell (Zv Qx) _).setCell (Zv Qx) _⟩
def Dk.ZaV(D:Dk):Dk:={D with dead:=true,wait:=[],Zaq:=D.Zaq+1}
def Dk.ZaJ(D:Dk):Dk:=⟨List.replicate D.has.length 0,[],false,D.Zaq+1⟩
def Z3o(p d gh:Nat)(v:Qt)(D:Dk)(n:Nat)(w:Qs)(h:Y7 w p d gh v D)(ok:D.ok n):Calls prog 26 #[d] w λe w'=>e=.returned (.tuple #[])/\Y7 w' p d gh (.slice none 0 0) D.ZaV/\Fr [d] w w':=by have c2:=h.top.c2;have:=h.top.free (j:=2) Qx;have c3:=h.top.c3;have:=h.top.free (j:=3) Qx;have:=h.top.c4;have:=h.top.free (j:=4) Qx;have:=ok.Zbt;have:=ok.ZbG;have dg:=h.top.ne h.bytes.row Qz;have H:=ZI h;clear h ok;go_enter func26,ntmps26;go_wp2;go_end0;have hF:Fr [d] w (((w.setCell ⟨d,3,none⟩ (.bool true)).setCell ⟨d,2,none⟩ (.slice none 0 0)).setCell ⟨d,4,none⟩ (.int .i64 (D.Zaq+1))):=(((Fr.refl _ _).setCell (Zv Qx) _).setCell (Zv Qx) _).setCell (Zv Qx) _;exact⟨rfl,⟨((H.o.top.set 3 (.bool true)).set 2 (.slice none 0 0)).set 4 (.int .i64 (D.Zaq+1)),H.o.bytes.fr hF (by simpa using λe=>dg e.symm),ZA _ _ _ _⟩,hF⟩
def Z1Q(p d gh:Nat)(v:Qt)(P:Pw)(D:Dk)(n:Nat)(w:Qs)(F:Y6 w p P)(h:Y7 w p d gh v D)(ok:D.ok n)(J:rdy P D 0≠0):Calls prog 191 #[d] w λe w'=>∃b,e=.returned (.iface 139 (b:Nat))/\w.heap.size<=b/\Ao w' b (rdy P D 0)/\Below w w w':=by have H:=ZI h;have Z:=ZI F;have C:=ZI ok;have HR:=ZI J;clear h F ok J;go_enter func191,ntmps191;go_wp2_with (go_at_call 118;go_fit (M6 p d gh _ P D n _ _ Z.o H.o C.o.len C.o.n2 HR.o);rintro e w' ⟨b,rfl,M,O,U⟩);go_ret;exact⟨b,rfl,M,O,U⟩
def Z1R(p d gh:Nat)(v:Qt)(P:Pw)(D:Dk)(n:Nat)(w:Qs)(U:Y6 w p P)(pok:P.ok)(h:Y7 w p d gh v D)(ok:D.ok n)(Z:rdy P D 0=0)(hc:P.can=false):Calls prog 191 #[d] w λe w'=>∃b,e=.returned (.iface 139 (b:Nat))/\w.heap.size<=b/\Ao w' b 10/\Y6 w' p P.act/\Y7 w' p d gh v D/\Fr [p] w w':=by have H:=ZI h;have C:=ZI U;have M:=ZI ok;have HR:=ZI Z;have c0:=h.top.c0;clear h U ok Z;go_enter func191,ntmps191;go_wp2_with (first|(go_at_call 118;go_fit (CP p d gh _ P D n _ _ C.o H.o M.o.len M.o.n2 HR.o);rintro e w' ⟨rfl,rfl⟩)|(go_at_call 243;refine(EX p P _ C.o pok).mono ?_;rw[hc];rintro e w1 ⟨rfl,ag,J⟩)|(go_at_call 46;go_fit (JO _ _);rintro e w' ⟨b,rfl,ae,af,F⟩));go_ret;have O:Fr [p] w _:=J.trans (Z1 (L:=[]) F) Qx;exact⟨b,rfl,Zq J.size ae,af,Y6.fr ag (Z1 (L:=[]) F) Qx,Y7.Zay C.o H.o O,O⟩
open Go.Extern.Stop Go.Stop Go.Extern
def Z36(c:Int)(w:Qs):(Extern.ReflectliteType.typeOf #[.iface 54 (c:Int)]).run prog w=.ok (.iface 184 (.agg #[.pointer (some ⟨2,54,none⟩)])) w:=Qy
def Z35 (w : World) : ((Extern.ReflectliteType.method fun t => do Go.Extern.Rtype.noPackHeld "Comparable" t; pure (.bool (← typeInfo t).comparable)) #[.agg #[.pointer (some ⟨2, 54, none⟩)]]).run prog w = .ok (.bool true) w := by kernel_rfl
def Z08(args:Array Qt)(w:Qs):(callFunc 50 args).run prog w=((Extern.ReflectliteType.typeOf args).run prog w).andThen λv w'=>.ok (.value v) w':=@run_callFunc_extern prog 50 _ Extern.ReflectliteType.typeOf func50 Qy Qy Qy Qy args w
def NW(w:Qs):(callFunc 309 #[.agg #[.pointer (some ⟨2,54,none⟩)]]).run prog w=.ok (.value (.bool true)) w:=by
 rw [@run_callFunc_extern prog 309 _ (Extern.ReflectliteType.method fun t => do Go.Extern.Rtype.noPackHeld "Comparable" t; pure (.bool (← typeInfo t).comparable)) func309 (by kernel_rfl) (by kernel_rfl) (by kernel_rfl) (by kernel_rfl), Z35]
 rfl
def NX(c:Int)(w:Qs):(callFunc 50 #[.iface 54 (c:Int)]).run prog w=.ok (.value (.iface 184 (.agg #[.pointer (some ⟨2,54,none⟩)]))) w:=by rw[Z08,Z36];rfl
def Rx (v : Value) (w : World) : (Go.method 483 184 v "Comparable").run prog w = .ok (309, v) w := by kernel_rfl
def Ry (a : Addr) (w : World) : (Go.method 483 139 (.pointer (some a)) "Is").run prog w = .ok (304, .pointer (some a)) w := by kernel_rfl
def Nz(c:Int)(h:Qu)(w:Qs):(Instr.typeAssert (.iface 54 (c:Int)) h 54 true).run prog w=.ok (.tuple #[c,true]) w:=Qy
def Z1E(a:Addr)(c:Int)(w:Qs)(hc:w.cell? a=(c:Int)):Calls prog 304 #[.pointer (some a),.iface 54 (c:Int)] w λe w'=>e=.returned true/\w=w':=by have:=Nz;go_enter func304,ntmps304;go_wp2;go_ret;simp
def Pb(v:Qt)(h:Qu)(w:Qs):(Instr.typeAssert (.iface 139 v) h 186 true).run prog w=.ok (.tuple #[.iface 139 v,true]) w:=run_typeAssert_hasB underlying186 Qy v h w
def Z1s(b:Nat)(c:Int)(w:Qs)(hc:w.cell? b=(c:Int)):Calls prog 51 #[.iface 139 b,.iface 54 (c:Int),true] w λe w'=>e=.returned true/\w=w':=by have:=Pb;have:=Ry;have:=λv1 v2 (W:Qs)=>run_eql_iface_types (P:=prog) 139 54 v1 v2 underlying31 Qx W;go_enter func51,ntmps51;go_wp2;refine Zfi 1 ?_;rw[Zfn];go_wp2_with (go_at_call 304;go_fit (Z1E _ _ _ hc);rintro e w' ⟨rfl,rfl⟩);go_ret;simp
def Z1q(b:Nat)(c:Int)(w:Qs)(hc:w.cell? b=(c:Int)):Calls prog 19 #[.iface 139 b,.iface 54 (c:Int)] w λe w'=>e=.returned true/\w=w':=by have:=NX;have:=NW;have:=Rx;go_enter func19,ntmps19;go_wp2_with (go_at_call 51;go_fit (Z1s _ _ _ hc);rintro e w' ⟨rfl,rfl⟩);go_ret;exact⟨rfl,rfl⟩
variable{B B':Nat}{c:Int}
def Jx(w:Qs)(B:Nat)(c:Int):Nat->Qt->Prop
 |0,_=>False
 |n+1,v=>∃ (b:Nat) (at_:Int) (inner:Qt),v=.iface 139 (.pointer (some ⟨b,0,none⟩))/\B<=b/\Row w b 141 [.int .i64 c,.int .i64 at_,inner]/\(inner=.nilIface∨Jx w B c n inner)
theorem Jx.below{B':Nat}(hb:Below w w w'):∀{n:Nat} {v:Qt},Jx w B c n v->Jx w' B c n v
 |0,_,h=>h
 |n+1,v,⟨b,at_,inner,hv,hB,hr,hi⟩=>⟨b,at_,inner,hv,hB,hr.after hb,hi.imp id (λh=>Jx.below (B':=B') hb h)⟩
def Jx.base(hB:B'<=B):∀{n:Nat} {v:Qt},Jx w B c n v->Jx w B' c n v
 |0,_,h=>h
 |n+1,v,⟨b,at_,inner,hv,hb,hr,hi⟩=>⟨b,at_,inner,hv,Qw,hr,hi.imp id (λh=>Jx.base hB h)⟩
def QK(w:Qs)(B:Nat)(c:Int)(v:Qt):Prop:=(c=0/\v=.nilIface)∨(c≠0/\∃n,Jx w B c n v)
def QK.nil(w:Qs)(B:Nat):QK w B 0 .nilIface:=Zv ⟨rfl,rfl⟩
def QK.after{v:Qt}(h:QK w B c v)(hb:Below w w w'):QK w' B c v:=h.imp id λ⟨hc,n,C⟩=>⟨hc,n,C.below (B':=0) hb⟩
def QK.base{v:Qt}(h:QK w B c v)(hB:B'<=B):QK w B' c v:=h.imp id λ⟨hc,n,C⟩=>⟨hc,n,C.base hB⟩
def OL(a:Addr)(c t:Int)(w:Qs)(hc:w.cell? a=(c:Int))(h:(t==c)=false):Calls prog 304 #[.pointer (some a),.iface 54 (t:Int)] w λe w'=>e=.returned false/\w=w':=by have:=Nz;go_enter func304,ntmps304;go_wp2;go_ret;simp
def U9(b:Nat)(v:Qt)(w:Qs)(hc:w.cell? ⟨b,2,none⟩=some v):Calls prog 305 #[b] w λe w'=>e=.returned v/\w=w':=by go_enter func305,ntmps305;go_wp2;go_ret;simp
def Z2s(v:Qt)(h:Qu)(w:Qs):(Instr.typeAssert (.iface 139 v) h 189 true).run prog w=.ok (.tuple #[.iface 139 v,true]) w:=run_typeAssert_hasB underlying189 Qy v h w
def Z40 (a : Addr) (w : World) : (Go.method 483 139 (.pointer (some a)) "Unwrap").run prog w = .ok (305, .pointer (some a)) w := by kernel_rfl
def Z1t(n B:Nat)(c t:Int)(v:Qt)(w:Qs)(h:Jx w B c n v)(C:t≠c):Calls prog 51 #[v,.iface 54 (t:Int),true] w λe w'=>e=.returned false/\w=w':=by
 have:=Pb;have:=Z2s;have:=Ry;have:=Z40;have:=λv1 v2 (W:Qs)=>run_eql_iface_types (P:=prog) 139 54 v1 v2 underlying31 Qz W;have hb:(t==c)=false:=by simpa using C
 have:=ZI C;clear C;go_enter func51,ntmps51;go_wp2;go_loopg [0] n (λk v wr=>wr=w/\Jx w B c k v)
 .exact⟨rfl,h⟩
 obtain⟨rfl,J⟩:=hrel
 match gk,J with
 |gk+1,⟨b,at_,inner,hv,hB,hr,hi⟩=>
  subst hv;have c0:=hr.c0;have c2:=hr.c2;rcases hi with rfl|hi
  .go_wp2_with (first|(go_at_call 304;go_fit (OL _ c t _ c0 hb);rintro e w' ⟨rfl,rfl⟩)|(go_at_call 305;go_fit (U9 _ .nilIface _ c2);rintro e w' ⟨rfl,rfl⟩));go_ret;exact⟨rfl,rfl⟩
  .obtain⟨q,rfl⟩:∃q,inner=.iface 139 q:=by
    match gk,hi with
    |gk+1,⟨_,_,_,hv,_⟩=>exact⟨_,hv⟩
   have F:=ZI hi;clear hi;go_wp2_with (first|(go_at_call 304;go_fit (OL _ c t _ c0 hb);rintro e w' ⟨rfl,rfl⟩)|(go_at_call 305;go_fit (U9 _ _ _ c2);rintro e w' ⟨rfl,rfl⟩));go_roundg gk
   .exact⟨rfl,F.o⟩
   omega
def Z1r(n B:Nat)(c t:Int)(v:Qt)(w:Qs)(h:Jx w B c n v)(C:t≠c):Calls prog 19 #[v,.iface 54 (t:Int)] w λe w'=>e=.returned false/\w=w':=by
 have:=NX;have:=NW;have:=Rx;obtain⟨q,rfl⟩:∃q,v=.iface 139 q:=by
  match n,h with
  |n+1,⟨_,_,_,hv,_⟩=>exact⟨_,hv⟩
 have F:=ZI C;clear C;have H:=ZI h;clear h;go_enter func19,ntmps19;go_wp2_with (go_at_call 51;go_fit (Z1t n B c t _ _ H.o F.o);rintro e w' ⟨rfl,rfl⟩);go_ret;exact⟨rfl,rfl⟩
def OA(t:Int)(w:Qs):Calls prog 19 #[.nilIface,.iface 54 (t:Int)] w λe w'=>e=.returned false/\w=w':=by have:∀W,(binOp .eql 31 .nilIface (.iface 54 (t:Int))).run prog W=.ok (.bool false) W:=λ_=>Qy;go_enter func19,ntmps19;go_wp2;go_ret;simp
theorem JQ(B:Nat)(c t:Int)(v:Qt)(w:Qs)(h:QK w B c v)(F:t≠0):Calls prog 19 #[v,.iface 54 (t:Int)] w λe w'=>e=.returned (.bool (c==t))/\w=w':=by
 rcases h with ⟨rfl,rfl⟩|⟨hc,n,C⟩
 .refine(OA t w).mono ?_;grind
 .by_cases e:t=c
  .subst e
   match n,C with
   |n+1,⟨b,at_,inner,hv,hB,hr,hi⟩=>subst hv;refine(Z1q b t w hr.c0).mono ?_;simp
  .refine(Z1r n B c t v w C e).mono ?_;grind
def K0(t:Qt)(w:Qs):Calls prog 102 #[.nilIface,t] w λe w'=>e=.returned false/\w'=w:=by go_enter func102,ntmps102;go_wp2;go_ret;simp
def Vp(t:Addr)(w:Qs):(ReflectliteValue.unpack (.iface 182 (.pointer (some t)))).run prog w =.ok (.agg #[.pointer (some ⟨2,182,none⟩),w.heap.size,.int .u64 150]) (w.alloc (.cells #[.pointer (some t)] 182)):=Qy
def Vm (a : Addr) (w : World) : (ReflectliteValue.methodAny (ReflectliteValue.valueError "reflectlite.Value.Type" 0) (fun t _ _ _ => ReflectliteType.toType t) #[.agg #[.pointer (some ⟨2, 182, none⟩), .pointer (some a), .int .u64 150]]).run prog w
  =.ok (.iface 184 (.agg #[.pointer (some ⟨2,182,none⟩)])) w:=Qy
def Vh (h : Value) (w : World) : (Go.method 483 184 (.agg #[h]) "Kind").run prog w = .ok (297, h) w := by kernel_rfl
def Vd(w:Qs):((ReflectliteType.abiMethod λt=>(λa:Nat=>Value.int IntKind.u8 (a:Int))<$>Rtype.kind t) #[.pointer (some ⟨2,182,none⟩)]).run prog w=.ok (.int .u8 22) w:=Qy
def Vc(w:Qs):((ReflectliteType.abiMethod λt=>(λa:Nat=>Value.int IntKind.u8 (a:Int))<$>Rtype.kind t) #[.pointer (some ⟨2,139,none⟩)]).run prog w=.ok (.int .u8 22) w:=Qy
def Ny(z:Sem Qt)(f:Qu->Addr->Nat->Nat->Sem Qt)(v:Qt):
  ReflectliteValue.method z f #[v]=(do match<-ReflectliteValue.parts v with|none=>z|some (t,a,fl)=>f t a fl (fl%32)):=rfl
def Nx(a:Addr)(w:Qs):(ReflectliteValue.parts (.agg #[.pointer (some ⟨2,182,none⟩),.pointer (some a),.int .u64 150])).run prog w=.ok (some (182,a,150)) w:=Qy
def Vb(a p:Addr)(W:World)(ha:W.cell? a=some (.pointer (some p))):(ReflectliteValue.method (ReflectliteValue.valueError "reflectlite.Value.IsNil" 0) ReflectliteValue.isNil #[.agg #[.pointer (some ⟨2, 182, none⟩), .pointer (some a), .int .u64 150]]).run prog W = .ok (.bool false) W := by
 rw[Ny];simp[Nx];simp[ReflectliteValue.isNil,loadVar,ha]
def Vf (h : Value) (w : World) : (Go.method 483 184 (.agg #[h]) "Elem").run prog w = .ok (310, .agg #[h]) w := by kernel_rfl
def Vg (h : Value) (w : World) : (Go.method 483 184 (.agg #[h]) "Implements").run prog w = .ok (311, .agg #[h]) w := by kernel_rfl
def Ve (h : Value) (w : World) : (Go.method 483 184 (.agg #[h]) "AssignableTo").run prog w = .ok (308, .agg #[h]) w := by kernel_rfl
def V5(w:Qs):(ReflectliteType.method ReflectliteType.elem #[.agg #[.pointer (some ⟨2,182,none⟩)]]).run prog w=.ok (.iface 184 (.agg #[.pointer (some ⟨2,139,none⟩)])) w:=Qy
def Va (w : World) : (ReflectliteType.relation "Implements" ReflectliteType.implements_ #[.agg #[.pointer (some ⟨2, 139, none⟩)], .iface 184 (.agg #[.pointer (some ⟨2, 31, none⟩)])]).run prog w = .ok (.bool true) w := by kernel_rfl
def Vn(v:Qt)(w:Qs):(ReflectliteType.typeOf #[.iface 139 v]).run prog w=.ok (.iface 184 (.agg #[.pointer (some ⟨2,139,none⟩)])) w:=Qy
def UY (w : World) : (ReflectliteType.relation "AssignableTo" ReflectliteType.assignableTo #[.agg #[.pointer (some ⟨2, 139, none⟩)], .iface 184 (.agg #[.pointer (some ⟨2, 139, none⟩)])]).run prog w = .ok (.bool true) w := by kernel_rfl
def Vo(e:Addr)(w:Qs):(ReflectliteValue.unpack (.iface 139 (.pointer (some e)))).run prog w =.ok (.agg #[.pointer (some ⟨2,139,none⟩),w.heap.size,.int .u64 150]) (w.alloc (.cells #[.pointer (some e)] 139)):=Qy
def V8(w:Qs):(Rtype.elem? 182).run prog w=.ok (some 139) w:=Qy
def Vi(p:Addr)(w:Qs):(ReflectliteValue.mk 139 p ReflectliteValue.flagAddr).run prog w=.ok (.agg #[.pointer (some ⟨2,139,none⟩),.pointer (some p),.int .u64 406]) w:=Qy
def V9(a p:Addr)(W:Qs)(ha:W.cell? a=some (.pointer (some p))):
  (ReflectliteValue.method (ReflectliteValue.valueError "reflectlite.Value.Elem" 0) ReflectliteValue.elem #[.agg #[.pointer (some ⟨2, 182, none⟩), .pointer (some a), .int .u64 150]]).run prog W
   =.ok (.agg #[.pointer (some ⟨2,139,none⟩),.pointer (some p),.int .u64 406]) W:=by
 rw[Ny]
 simp[Nx]
 simp[ReflectliteValue.elem,loadVar,ha,V8,Vi]
def Vr(v x:Qt):ReflectliteValue.set #[v,x]=(do
  let (some (dst,a,fl),some (src,b,_)):=(<-ReflectliteValue.parts v,<-ReflectliteValue.parts x)
   | unsupported (.noEntry "extern/(internal/reflectlite.Value).Set.zeroValue")
  if fl / ReflectliteValue.flagAddr % 2 == 0 then unsupported (.noEntry "extern/(internal/reflectlite.Value).Set.unaddressable")
  let val<-loadVar src b
  if<-Rtype.directlyAssignable dst src then storeVar dst a val
  else if<-Rtype.implements dst src then
   if(<-Rtype.kind src)==20 then
    match val with
    | .nilIface => unsupported (.noEntry "extern/reflectlite: a nil value of one interface type handed on as a value of another")
    |_=>storeVar dst a val
   else storeVar dst a (.iface src val)
  else panicString ("reflectlite.Set: value of type " ++ (← Rtype.spelt src) ++ " is not assignable to type " ++ (← Rtype.spelt dst))
  pure (.tuple #[])):=rfl
def Vk(a:Addr)(w:Qs):(ReflectliteValue.parts (.agg #[.pointer (some ⟨2,139,none⟩),.pointer (some a),.int .u64 406])).run prog w=.ok (some (139,a,406)) w:=Qy
def Vj(a:Addr)(w:Qs):(ReflectliteValue.parts (.agg #[.pointer (some ⟨2,139,none⟩),.pointer (some a),.int .u64 150])).run prog w=.ok (some (139,a,150)) w:=Qy
def UZ(w:Qs):(Rtype.directlyAssignable 139 139).run prog w=.ok true w:=Qy
def Vl(ta b e:Addr)(old:Qt)(W:Qs)(hb:W.cell? b=some (.pointer (some e)))(C:W.cell? ta=some old)(h:W.frozen? ta=false):(ReflectliteValue.set #[.agg #[.pointer (some ⟨2,139,none⟩),.pointer (some ta),.int .u64 406],.agg #[.pointer (some ⟨2,139,none⟩),.pointer (some b),.int .u64 150]]).run prog W =.ok (.tuple #[]) (W.setCell ta (.pointer (some e))):=by rw[Vr];simp[Vk,Vj];simp[ReflectliteValue.flagAddr,loadVar,isAgg,underlying,underlying139,hb,Result.andThen,UZ,storeVar,Value.cells,storeCells,Addr.add];rw[Zha prog W ta _ _ (by rfl)];simp_all
def Vq(e t:Addr)(old:Qt)(w:Qs)(J:w.cell? ⟨0,0,none⟩=some (.iface 184 (.agg #[.pointer (some ⟨2,31,none⟩)])))(C:w.cell? t=some old)(M:w.frozen? t=false):Calls prog 102 #[.iface 139 (.pointer (some e)),.iface 182 (.pointer (some t))] w λev w'=>ev=.returned (.bool true)/\w'=((((w.alloc (.cells #[.pointer (some t)] 182)).alloc (.cells #[.pointer (some ⟨2,182,none⟩),.pointer (some ⟨w.heap.size,0,none⟩),.int .u64 150] 239)).alloc (.cells #[.pointer (some ⟨2,182,none⟩),.pointer (some ⟨w.heap.size,0,none⟩),.int .u64 150] 239)).alloc (.cells #[.pointer (some e)] 139)).setCell t (.pointer (some e)):=by
 have h6:= @run_callFunc_extern prog 145 _ (λargs=>ReflectliteValue.unpack (args.getD 0 (.tuple #[]))) func145 Qy Qy Qy Qy
 have h7 := @run_callFunc_extern prog 146 _ (ReflectliteValue.methodAny (ReflectliteValue.valueError "reflectlite.Value.Type" 0) (fun t _ _ _ => ReflectliteType.toType t)) func146 (by kernel_rfl) (by kernel_rfl) (by kernel_rfl) (by kernel_rfl)
 have h8 := @run_callFunc_extern prog 147 _ (ReflectliteValue.method (ReflectliteValue.valueError "reflectlite.Value.IsNil" 0) ReflectliteValue.isNil) func147 (by kernel_rfl) (by kernel_rfl) (by kernel_rfl) (by kernel_rfl)
 have ag:= @run_callFunc_extern prog 297 _ (ReflectliteType.abiMethod λt=>do pure (.int .u8 (<-Rtype.kind t))) func297 Qy Qy Qy Qy;have ai:= @run_callFunc_extern prog 310 _ (ReflectliteType.method ReflectliteType.elem) func310 Qy Qy Qy Qy
 have aj := @run_callFunc_extern prog 311 _ (ReflectliteType.relation "Implements" ReflectliteType.implements_) func311 (by kernel_rfl) (by kernel_rfl) (by kernel_rfl) (by kernel_rfl)
 have Z:= @run_callFunc_extern prog 50 _ ReflectliteType.typeOf func50 Qy Qy Qy Qy
 have ah := @run_callFunc_extern prog 308 _ (ReflectliteType.relation "AssignableTo" ReflectliteType.assignableTo) func308 (by kernel_rfl) (by kernel_rfl) (by kernel_rfl) (by kernel_rfl)
 have ae := @run_callFunc_extern prog 210 _ (ReflectliteValue.method (ReflectliteValue.valueError "reflectlite.Value.Elem" 0) ReflectliteValue.elem) func210 (by kernel_rfl) (by kernel_rfl) (by kernel_rfl) (by kernel_rfl)
 have af:= @run_callFunc_extern prog 211 _ ReflectliteValue.set func211 Qy Qy Qy Qy;have tO:=Vn;have mA:=Ve;have a25:=UY;have v25:=Vo;have f6:=Vp;have f7:=Vm;have mK:=Vh;have mE:=Vf;have mI:=Vg;have aw:=Vd;have au:=Vc;have U:=V5;have aq:=Va;have n8:=Vb ⟨w.heap.size,0,none⟩ t ((w.alloc (.cells #[.pointer (some t)] 182)).alloc (.cells #[.pointer (some ⟨2,182,none⟩),.pointer (some ⟨w.heap.size,0,none⟩),.int .u64 150] 239)) Qx;have O:0<w.heap.size:=by
  rcases ZeF 0 w.heap.size with h|h
  .exact h
  .simp[World.cell?,ZeG h] at J
 have ak:((w.alloc (.cells #[.pointer (some t)] 182)).alloc (.cells #[.pointer (some ⟨2,182,none⟩),.pointer (some ⟨w.heap.size,0,none⟩),.int .u64 150] 239)).cell? ⟨0,0,none⟩=some (.iface 184 (.agg #[.pointer (some ⟨2,31,none⟩)])):=by rw[Zec _ _ ⟨0,0,none⟩ (by simp<;>omega),Zec _ _ ⟨0,0,none⟩ O];exact J
 have F:t.block<w.heap.size:=by
  rcases ZeF t.block w.heap.size with h|h
  .exact h
  .simp[World.cell?,ZeG h] at C
 have el:=V9 ⟨w.heap.size,0,none⟩ t (((w.alloc (.cells #[.pointer (some t)] 182)).alloc (.cells #[.pointer (some ⟨2,182,none⟩),.pointer (some ⟨w.heap.size,0,none⟩),.int .u64 150] 239)).alloc (.cells #[.pointer (some ⟨2,182,none⟩),.pointer (some ⟨w.heap.size,0,none⟩),.int .u64 150] 239)) (by rw[Zec _ _ ⟨w.heap.size,0,none⟩ (by simp;omega)];simp);have st:=Vl t ⟨w.heap.size+1+1+1,0,none⟩ e old ((((w.alloc (.cells #[.pointer (some t)] 182)).alloc (.cells #[.pointer (some ⟨2,182,none⟩),.pointer (some ⟨w.heap.size,0,none⟩),.int .u64 150] 239)).alloc (.cells #[.pointer (some ⟨2,182,none⟩),.pointer (some ⟨w.heap.size,0,none⟩),.int .u64 150] 239)).alloc (.cells #[.pointer (some e)] 139))
  (by rw[World.cell?_alloc_at _ _ _ _ Qx];rfl)
  (by rw[Zec _ _ t (by simp;omega),Zec _ _ t (by simp;omega),Zec _ _ t (by simp;omega),Zec _ _ t F];exact C)
  (by rw[Zfj _ _ t (by simp;omega),Zfj _ _ t (by simp;omega),Zfj _ _ t (by simp;omega),Zfj _ _ t (Nat.ne_of_lt F)];exact M)
 go_enter func102,ntmps102;go_wp2;refine Zfi 1 ?_;rw[Zfn];go_wp2;go_ret;exact⟨rfl,rfl⟩
def F0(e t:Addr)(old:Qt)(w:Qs)(M:w.cell? ⟨0,0,none⟩=some (.iface 184 (.agg #[.pointer (some ⟨2,31,none⟩)])))(C:w.cell? t=some old)(F:w.frozen? t=false):Calls prog 102 #[.iface 139 (.pointer (some e)),.iface 182 (.pointer (some t))] w λev w'=>ev=.returned true/\w'.cell? t=some (.pointer (some e))/\Fr [t.block] w w':=by
 go_fit (Vq e t old w M C F);rintro ev w' ⟨rfl,rfl⟩;have J:t.block<w:=by
  rcases ZeF t.block w with h|h
  .omega
  .simp[World.cell?,ZeG h] at C
 refine⟨rfl,?_,(((((Fr.refl _ _).alloc _).alloc _).alloc _).alloc _).setCell (Zv Qx) _⟩;refine Zgs _ _ _ ?_;rw[Zec _ _ t (by simp;omega),Zec _ _ t (by simp;omega),Zec _ _ t (by simp;omega),Zec _ _ t J,C];rfl
def Ty(w:Qs):Prop:=w.cell? ⟨0,0,none⟩=some (.iface 184 (.agg #[.pointer (some ⟨2,31,none⟩)]))
def Ty.lt(h:Ty w):0<w.heap.size:=by
 rcases ZeF 0 w with h1|h1
 .omega
 .simp[Ty,World.cell?,ZeG h1] at h
def Ty.below(h:Ty w)(hb:Below w w w'):Ty w':=by unfold Ty at h⊢;rw[<-h];exact hb.cell (p:=⟨0,0,none⟩) (Ty.lt h)
variable{L1 X Y:List Nat}{w1 w2:World}
def BT(p d gh:Nat)(v:Qt)(P':Pw)(D':Dk)(w w':Qs):Prop:=
 ∃v',Y6 w' p P'/\Y7 w' p d gh v' D'/\Fr (p::d::gh::QV v) w w'/\(v'.ownBlock=v.ownBlock∨∀g,v'.ownBlock=some g->w.heap.size<=g)
def BT.same{v:Qt}{P:Pw}{D:Dk}(F:Y6 w p P)(h:Y7 w p d gh v D)(hb:Below w w w'):BT p d gh v P D w w':=by have C:Fr [] w w':=Z1 hb;exact⟨v,F.fr C Qx,h.fr C Qx Qx Qx,C.mono Qx,Zv rfl⟩
def X8(P:Pw)(D:Dk)(a:Int)(s:Qq):Int:=if rdy P D a=0 then(if s.size=64 then(if P.can then 0 else 10) else 1) else rdy P D a
def XB(P:Pw)(D:Dk)(a:Int)(s:Qq):Pw:=if rdy P D a=0/\s.size=64 then P.act else P
def wdk(P:Pw)(D:Dk)(a:Int)(s:Qq):Dk:=if X8 P D a s=0 then{D with wait:=D.wait++[(a.toNat,s)]} else D
def Ja(P:Pw)(D:Dk):Int:=if rdy P D 0=0 then(if P.can then 0 else 10) else rdy P D 0
def JC(P:Pw)(D:Dk):Pw:=if rdy P D 0=0 then P.act else P
def fdk(P:Pw)(D:Dk):Dk:=if Ja P D=0 then D.ZaR else D
def LZ{P:Pw}{D:Dk}(ok:D.ok n)(h:rdy P D a=0):P.gone=false/\D.dead=false/\0<=a/\a<n:=by
 have C:P.gone=false:=by unfold rdy at h;cases J:P.gone<;>simp[J] at h⊢
 have M:D.dead=false:=by unfold rdy at h;rw[C] at h;cases F:D.dead<;>simp[F] at h⊢
 rw[Et C M ok.len] at h;simp_all
section
variable{v:Qt}{P:Pw}{D:Dk}
def Z8K(J:Y6 w p P)(pok:P.ok)(h:Y7 w p d gh v D)(ok:D.ok n)(a:Int)(s:Qq)(ae:D.wait.length<1099511627776):Calls prog 190 #[d,a,.string s] w λe w'=>∃ev,e=.returned ev/\XP w w' ev (X8 P D a s)/\BT p d gh v (XB P D a s) (wdk P D a s) w w':=by
 by_cases C:rdy P D a=0
 .have⟨hg,hd,ah,ai⟩:=LZ ok C;by_cases hs:s.size=64
  .cases hc:P.can
   .have e1:X8 P D a s=10:=by unfold X8;rw[Zx C,Zx hs,hc];rfl
    have e2:XB P D a s=P.act:=by unfold XB;rw[Zx ⟨C,hs⟩]
    have F:wdk P D a s=D:=by unfold wdk;rw[e1];rfl
    rw[e1,e2,F];go_fit (Z8O p d gh v P D n a s w J pok h ok C hs hc);rintro e w' ⟨b,rfl,M,O,ag,Z,hf⟩;exact⟨_,rfl,XP.err Qw M O,v,ag,Z,hf.mono (λi hi _=>by simp at hi;simp[hi]),Zv rfl⟩
   .have e1:X8 P D a s=0:=by unfold X8;rw[Zx C,Zx hs,hc];rfl
    have e2:XB P D a s=P.act:=by unfold XB;rw[Zx ⟨C,hs⟩]
    have F:wdk P D a s={D with wait:=D.wait++[(a.toNat,s)]}:=by unfold wdk;rw[e1];rfl
    rw[e1,e2,F];obtain⟨m,rfl⟩:∃m:Nat,a=(m:Int):=⟨a.toNat,Qw⟩;go_fit (Z8Q p d gh v P D n m s w J pok h ok C hs hc ae);rintro e w' ⟨v',rfl,ag,Z,hf,af⟩;exact⟨_,rfl,Z9E _ _,v',ag,Z,hf.mono (λi hi _=>by simp at hi⊢;rcases hi with h|h|h<;>simp[h]),af⟩
  .have e1:X8 P D a s=1:=by unfold X8;rw[Zx C,Zw hs]
   have e2:XB P D a s=P:=by unfold XB;rw[Zw (λh=>hs h.2)]
   have F:wdk P D a s=D:=by unfold wdk;rw[e1];rfl
   rw[e1,e2,F];go_fit (Z8N p d gh v P D n a s w J h ok C hs);rintro e w' ⟨b,rfl,M,O,U⟩;exact⟨_,rfl,XP.err Qw M O,BT.same J h U⟩
 .have e1:X8 P D a s=rdy P D a:=by unfold X8;rw[Zw C]
  have e2:XB P D a s=P:=by unfold XB;rw[Zw (λh=>C h.1)]
  have F:wdk P D a s=D:=by unfold wdk;rw[e1,Zw C]
  rw[e1,e2,F];go_fit (Z8M p d gh v P D n a s w J h ok C);rintro e w' ⟨b,rfl,M,O,U⟩;exact⟨_,rfl,XP.err C M O,BT.same J h U⟩
def Z1P(J:Y6 w p P)(pok:P.ok)(h:Y7 w p d gh v D)(ok:D.ok n):Calls prog 191 #[d] w λe w'=>∃ev,e=.returned ev/\XP w w' ev (Ja P D)/\BT p d gh v (JC P D) (fdk P D) w w':=by
 by_cases C:rdy P D 0=0
 .cases hc:P.can
  .have e1:Ja P D=10:=by unfold Ja;rw[Zx C,hc];rfl
   have e2:JC P D=P.act:=by unfold JC;rw[Zx C]
   have F:fdk P D=D:=by unfold fdk;rw[e1];rfl
   rw[e1,e2,F];go_fit (Z1R p d gh v P D n w J pok h ok C hc);rintro e w' ⟨b,rfl,M,O,Z,U,hf⟩;exact⟨_,rfl,XP.err Qw M O,v,Z,U,hf.mono (λi hi _=>by simp at hi;simp[hi]),Zv rfl⟩
  .have e1:Ja P D=0:=by unfold Ja;rw[Zx C,hc];rfl
   have e2:JC P D=P.act:=by unfold JC;rw[Zx C]
   have F:fdk P D=D.ZaR:=by unfold fdk;rw[e1];rfl
   rw[e1,e2,F];go_fit (Z1S p d gh v P D n w J pok h ok C hc);rintro e w' ⟨rfl,Z,U,hf⟩;exact⟨_,rfl,Z9E _ _,_,Z,U,hf.mono (λi hi _=>by simp at hi;rcases hi with h|h|h<;>simp[h]),Zy (by simp[Value.ownBlock])⟩
 .have e1:Ja P D=rdy P D 0:=by unfold Ja;rw[Zw C]
  have e2:JC P D=P:=by unfold JC;rw[Zw C]
  have F:fdk P D=D:=by unfold fdk;rw[e1,Zw C]
  rw[e1,e2,F];go_fit (Z1Q p d gh v P D n w J h ok C);rintro e w' ⟨b,rfl,M,O,ae⟩;exact⟨_,rfl,XP.err C M O,BT.same J h ae⟩
def AH(P:Pw)(D:Dk)(a:Int):Qq:=if rdy P D a=0 then D.reads a.toNat else⟨#[]⟩
def Z5w(F:Y6 w p P)(h:Y7 w p d gh v D)(ok:D.ok n)(a:Int):Calls prog 73 #[d,a] w λe w'=>∃ev,e=.returned (.tuple #[.string (AH P D a),ev])/\XP w w' ev (rdy P D a)/\Below w w w':=by
 by_cases C:rdy P D a=0
 .have⟨hg,hd,U,Z⟩:=LZ ok C;obtain⟨m,rfl⟩:∃m:Nat,a=(m:Int):=⟨a.toNat,Qw⟩;go_fit (Z5y p d gh v P D n m w F h ok C Qw);rintro e w' ⟨rfl,hb⟩;refine⟨_,?_,by rw[C];exact Z9E _ _,hb⟩;unfold AH;rw[Zx C];rfl
 .go_fit (Z5x p d gh v P D n a w F h ok C);rintro e w' ⟨b,rfl,J,M,O⟩;refine⟨_,?_,XP.err C J M,O⟩;unfold AH;rw[Zw C]
end
theorem Z9X{P:Pw}(ok:P.ok):P.act.ok:=by
 unfold Pw.act;have⟨f0,f1⟩:=ok;split
 .exact⟨f0,f1⟩
 .refine⟨?_,?_⟩
  .grind
  .grind
def Za8{D:Dk}(ok:D.ok n)(a:Nat)(s:Qq)(ha:a<n)(hs:s.size=64)(h:D.wait.length<1099511627776):Dk.ok {D with wait:=D.wait++[(a,s)]} n:=⟨ok.len,ok.n1,ok.n2,by intro x hx;simp at hx;rcases hx with hx|rfl;exact ok.at_ x hx;exact ha,by intro x hx;simp at hx;rcases hx with hx|rfl;exact ok.size x hx;exact hs,by simp;omega,ok.Zbt,ok.ZbG⟩
def Z9Z{D:Dk}(ok:D.ok n):D.ZaR.ok n:=⟨KR _ _ n ok.len (λx hx=>⟨ok.at_ x hx,ok.size x hx⟩),ok.n1,ok.n2,by simp[Dk.ZaR],by simp[Dk.ZaR],by simp[Dk.ZaR],ok.Zbt,ok.ZbG⟩
def Z8J{P:Pw}(ok:P.ok)(D:Dk)(a:Int)(s:Qq):(XB P D a s).ok:=by
 unfold XB;split
 .exact Z9X ok
 .omega
def Z1X{P:Pw}(ok:P.ok)(D:Dk):(JC P D).ok:=by
 unfold JC;split
 .exact Z9X ok
 .omega
theorem Z8u{P:Pw}{D:Dk}{s:Qq}(h:X8 P D a s=0):rdy P D a=0/\s.size=64/\P.can=true:=by unfold X8 at h;grind
def Uj{P:Pw}{D:Dk}(ok:D.ok n)(a:Int)(s:Qq)(C:D.wait.length<1099511627776):(wdk P D a s).ok n:=by
 unfold wdk;split
 .rename_i h;have⟨F,hs,_⟩:=Z8u h;have⟨_,_,J,M⟩:=LZ ok F;exact Za8 ok _ s Qw hs C
 .omega
def OM{P:Pw}{D:Dk}(ok:D.ok n):(fdk P D).ok n:=by
 unfold fdk;split
 .exact Z9Z ok
 .omega
def XP.v{v:Qt}(h:XP B w v c):QK w B c v:=by
 rcases h with ⟨rfl,rfl⟩|⟨hc,b,rfl,hB,C⟩
 .exact QK.nil _ _
 .exact Zy ⟨hc,1,b,0,.nilIface,rfl,hB,C,Zv rfl⟩
structure PD(B:Nat)(w:Qs)(p d n:Nat)(P:Pw)(D:Dk)(L:Qj):Prop where
 pw:Y6 w p P
 pok:P.ok
 dk:∃gh v,L=d::gh::QV v/\Y7 w p d gh v D
 ok:D.ok n
 bp:B<=p
 bL:∀k,k∈L->B<=k
structure Did(B:Nat)(p d n:Nat)(L X:Qj)(P':Pw)(D':Dk)(w w':Qs)(L':Qj):Prop where
 pd:PD B w' p d n P' D' L'
 fr:Fr (X++p::L) w w'
 ZaT:∀k,k∈L'->k∈L∨w.heap.size<=k
theorem PD.lt{P:Pw}{D:Dk}(h:PD B w p d n P D L):p<w/\d<w/\∀k,k∈L->k<w.heap.size:=by
 obtain⟨gh,v,rfl,F⟩:=h.dk;refine⟨Row.lt h.pw,Row.lt F.top,λk C=> ?_⟩;simp[YV] at C;rcases C with rfl|rfl|C
 .exact Row.lt F.top
 .exact Row.lt F.bytes.row
 .rcases F.late.2 with ⟨hv,_⟩|⟨J,cap,cur,hv,_,hh,_⟩
  .rw[hv] at C;cases C
  .rw[hv] at C;simp[Value.ownBlock] at C;grind
def PD.Zap{P:Pw}{D:Dk}(h:PD B w p d n P D L){g:Nat}{e:Qu}{l:Qk}(C:Row w g e l)(J:e≠112)(M:e≠109)(O:e≠5)(U:e≠194):g∉p::L:=by
 obtain⟨gh,v,rfl,F⟩:=h.dk;intro hm;simp[YV] at hm;rcases hm with rfl|rfl|rfl|hm
 .exact Row.ne C h.pw J rfl
 .exact Row.ne C F.top M rfl
 .exact Row.ne C F.bytes.row O rfl
 .exact Row.Zbk C F.late U hm
def PD.Zb9{P:Pw}{D:Dk}(h:PD B w p d n P D L){g:Nat}{es:Array MapEntry}{M:Nat}(J:w.heap[g]? =some (.map es M)):g∉p::L:=by
 obtain⟨gh,v,rfl,F⟩:=h.dk;intro hm;simp[YV] at hm;rcases hm with rfl|rfl|rfl|hm
 .have⟨f,C,_⟩:=h.pw;rw[J] at C;cases C
 .have⟨f,C,_⟩:=F.top;rw[J] at C;cases C
 .have:=F.bytes;unfold Y2 at this;rw[J] at this;cases this
 .rcases F.late.2 with ⟨hv,_⟩|⟨O,cap,cur,hv,_,hh,_⟩
  .rw[hv] at hm;cases hm
  .rw[hv] at hm;simp[Value.ownBlock] at hm;simp_all
def PD.fr{P:Pw}{D:Dk}(h:PD B w p d n P D L){X:Qj}(F:Fr X w w')(C:∀k,k∈X->k∉p::L):PD B w' p d n P D L:=by obtain⟨gh,v,rfl,J⟩:=h.dk;refine⟨h.pw.fr F (λhm=>C _ hm Qx),h.pok,⟨gh,v,rfl,J.fr F (λhm=>C _ hm Qx) (λhm=>C _ hm Qx) (λg M hm=>C _ hm ?_)⟩,h.ok,h.bp,h.bL⟩;simp[YV,M]
def PD.after{P:Pw}{D:Dk}(h:PD B w p d n P D L)(hb:Below w w w'):PD B w' p d n P D L:=h.fr (Z1 (L:=[]) hb) Qx
def Did.same{P:Pw}{D:Dk}(h:PD B w p d n P D L)(X:Qj)(hb:Below w w w'):Did B p d n L X P D w w' L:=⟨h.after hb,Z1 hb,λk C=>Zv C⟩
def Did.trans{P1 P2:Pw}{D1 D2:Dk}{C:Qj}(h:Did B p d n L X P1 D1 w w1 L1)(k:Did B p d n L1 X P2 D2 w1 w2 C):Did B p d n L X P2 D2 w w2 C:=
 ⟨k.pd,h.fr.trans k.fr (λi hi F=>by
  simp[Zj,Zk] at hi⊢;rcases hi with hi|hi|hi
  .exact Zv hi
  .exact Zy (Zv hi)
  .rcases h.ZaT i hi with hg|hg
   .exact Zy (Zy hg)
   .omega),λi hi=>by
  rcases k.ZaT i hi with hg|hg
  .exact h.ZaT i hg
  .exact Zy (Zq h.fr.size hg)⟩
def Did.wider{P1:Pw}{D1:Dk}(h:Did B p d n L X P1 D1 w w1 L1)(C:∀k,k∈X->k∈Y):Did B p d n L Y P1 D1 w w1 L1:=⟨h.pd,h.fr.mono (λi hi _=>by simp at hi⊢;exact hi.imp (C i) id),h.ZaT⟩
def Did.from{P1:Pw}{D1:Dk}{w0:Qs}(h:Did B p d n L X P1 D1 w w1 L1)(hb:Below w0 w0 w):Did B p d n L X P1 D1 w0 w1 L1:=⟨h.pd,(Z1 (L:=X++p::L) hb).trans h.fr (λi hi _=>hi),λi hi=>(h.ZaT i hi).imp id (λC=>Zq hb.size C)⟩
def Did.after{P1:Pw}{D1:Dk}(h:Did B p d n L X P1 D1 w w1 L1)(hb:Below w1 w1 w2):Did B p d n L X P1 D1 w w2 L1:=⟨h.pd.after hb,h.fr.trans (Z1 (L:=[]) hb) Qx,h.ZaT⟩
def Did.frame{P1:Pw}{D1:Dk}(h:Did B p d n L X P1 D1 w w1 L1)(F:Fr Y w1 w2)(J:∀k,k∈Y->k∉p::L1)(C:∀k,k∈Y->k∈X∨w.heap.size<=k):Did B p d n L X P1 D1 w w2 L1:=
 ⟨h.pd.fr F J,h.fr.trans F (λi hi M=>by
  rcases C i hi with C|C
  .simp[C]
  .omega),h.ZaT⟩
def Did.row{P P1:Pw}{D D1:Dk}(h:Did B p d n L X P1 D1 w w1 L1)(F:PD B w p d n P D L){g:Nat}{e:Qu}{l:Qk}(C:Row w g e l)(Z:g∉X)(J:e≠112)(M:e≠109)(O:e≠5)(U:e≠194):Row w1 g e l:=C.fr h.fr (by simp only[Zj,not_or];exact⟨Z,F.Zap C J M O U⟩)
theorem BT.did{v:Qt}{P P':Pw}{D D':Dk}(hl:BT p d gh v P' D' w w')(h:PD B w p d n P D (d::gh::QV v))(hB:B<=w)(pok:P'.ok)(ok:D'.ok n):∃L',Did B p d n (d::gh::QV v) [] P' D' w w' L':=by
 have⟨v',J,F,M,O⟩:=hl;refine⟨d::gh::QV v',⟨J,pok,⟨gh,v',rfl,F⟩,ok,h.bp,λk C=> ?_⟩,by simpa using M,λk C=> ?_⟩
 .simp[YV] at C;rcases C with rfl|rfl|C
  .exact h.bL _ Qx
  .exact h.bL _ Qx
  .rcases O with e|e
   .exact h.bL _ (by simp[YV,<-e,C])
   .grind
 .simp[YV] at C⊢;grind
def QK.zero{v:Qt}(h:QK w B 0 v):v=.nilIface:=by
 rcases h with ⟨_,rfl⟩|⟨h,_⟩
 .rfl
 .omega
def QK.split{v:Qt}(h:QK w B c v):(c=0/\v=.nilIface)∨(c≠0/\∃b,v=.iface 139 (b:Nat)):=by
 rcases h with ⟨rfl,rfl⟩|⟨hc,n,C⟩
 .simp
 .match n,C with
  |n+1,⟨b,_,_,hv,_⟩=>exact Zy ⟨hc,b,hv⟩
def QK.fr{v:Qt}(h:QK w B c v){L:Qj}(F:Fr L w w')(C:∀k,k∈L->k<B):QK w' B c v:=by
 have key:∀ (n:Nat) (v:Qt),Jx w B c n v->Jx w' B c n v:=by
  intro n
  induction n with
  |zero=>intro v h;exact h
  |succ n ih=>rintro v ⟨b,a,i,hv,hB,M,hi⟩;exact⟨b,a,i,hv,hB,M.fr F (λhm=>by have:=C b hm;omega),hi.imp id (ih i)⟩
 exact h.imp id λ⟨hc,n,J⟩=>⟨hc,n,key n v J⟩
def Ans(B:Nat)(c:Int)(Q:Qs->Prop)(e:Qv)(w':Qs):Prop:=∃ev,e=.returned ev/\QK w' B c ev/\Q w'
section
variable{P:Pw}{D:Dk}
def Z9P(h:PD B w p d n P D L)(hB:B<=w)(a:Int)(s:Qq)(C:D.wait.length<1099511627776):Calls prog 190 #[d,a,.string s] w (Ans w (X8 P D a s) λw'=>∃L',Did B p d n L [] (XB P D a s) (wdk P D a s) w w' L'):=by obtain⟨gh,v,rfl,F⟩:=h.dk;go_fit (Z8K h.pw h.pok F h.ok a s C);rintro e w' ⟨ev,rfl,he,hl⟩;exact⟨ev,rfl,he.v,hl.did h hB (Z8J h.pok D a s) (Uj h.ok a s C)⟩
def Zai(h:PD B w p d n P D L)(hB:B<=w):Calls prog 191 #[d] w (Ans w (Ja P D) λw'=>∃L',Did B p d n L [] (JC P D) (fdk P D) w w' L'):=by obtain⟨gh,v,rfl,C⟩:=h.dk;go_fit (Z1P h.pw h.pok C h.ok);rintro e w' ⟨ev,rfl,he,hl⟩;exact⟨ev,rfl,he.v,hl.did h hB (Z1X h.pok D) (OM h.ok)⟩
def PD.read(h:PD B w p d n P D L)(a:Int):Calls prog 73 #[d,a] w λe w'=>∃ev,e=.returned (.tuple #[.string (AH P D a),ev])/\QK w' w (rdy P D a) ev/\Below w w w':=by obtain⟨gh,v,rfl,C⟩:=h.dk;exact(Z5w h.pw C h.ok a).mono λe w' ⟨ev,he,hv,hb⟩=>⟨ev,he,hv.v,hb⟩
end
inductive DOp where
 |wr (a:Nat) (s:Qq)
 |fl
def DOp.code(P:Pw)(D:Dk):DOp->Int
 |.wr a s=>X8 P D a s
 |.fl=>Ja P D
def DOp.pow(P:Pw)(D:Dk):DOp->Pw
 |.wr a s=>XB P D a s
 |.fl=>JC P D
def DOp.dk(P:Pw)(D:Dk):DOp->Dk
 |.wr a s=>wdk P D a s
 |.fl=>fdk P D
def QH:List DOp->Pw->Dk->Int×Pw×Dk
 |[],P,D=>(0,P,D)
 |o::l,P,D=>if o.code P D=0 then QH l (o.pow P D) (o.dk P D) else(o.code P D,o.pow P D,o.dk P D)
def CQ(o:DOp)(l:List DOp)(P:Pw)(D:Dk):QH (o::l) P D=if o.code P D=0 then QH l (o.pow P D) (o.dk P D) else(o.code P D,o.pow P D,o.dk P D):=rfl
def G1(a b:List DOp)(P:Pw)(D:Dk):QH (a++b) P D=if(QH a P D).1=0 then QH b (QH a P D).2.1 (QH a P D).2.2 else QH a P D:=by
 induction a generalizing P D with
 |nil=>simp[QH]
 |cons o l ih=>
  rw[Zef,CQ];by_cases h:o.code P D=0
  .rw[Zx h,ih,show QH (o::l) P D=QH l (o.pow P D) (o.dk P D) from by rw[CQ,Zx h]]
  .rw[Zw h,show QH (o::l) P D=(o.code P D,o.pow P D,o.dk P D) from by rw[CQ,Zw h],Zw h]
def G3(o:DOp)(P:Pw)(D:Dk):QH [o] P D=(o.code P D,o.pow P D,o.dk P D):=by simp[QH];simp_all
def SR(a:List DOp)(o:DOp)(P Q:Pw)(D E:Dk)(h:QH a P D=(0,Q,E)):QH (a++[o]) P D=(o.code Q E,o.pow Q E,o.dk Q E):=by rw[G1,h];simp;exact G3 o Q E
def Z65(a b:List DOp)(P Q:Pw)(D E:Dk)(c:Int)(h:QH a P D=(c,Q,E))(hc:c≠0):QH (a++b) P D=(c,Q,E):=by rw[G1,h];simp[Zw hc]
def Z64(a:List DOp)(i:Nat)(P Q:Pw)(D E:Dk)(c:Int)(h:QH (a.take i) P D=(c,Q,E))(hc:c≠0):QH a P D=(c,Q,E):=by have:=Z65 (a.take i) (a.drop i) P Q D E c h hc;simp_all
def Mf(a b:List DOp)(P Q:Pw)(D E:Dk)(h:QH a P D=(0,Q,E)):QH (a++b) P D=QH b Q E:=by rw[G1,h];simp
def DOp.few(P:Pw)(D:Dk)(o:DOp):(o.dk P D).wait.length<=D.wait.length+1:=by
 cases o with
 |wr a s=>show(wdk P D a s).wait.length<=_;unfold wdk;split<;>simp
 |fl=>show(fdk P D).wait.length<=_;unfold fdk;split<;>simp[Dk.ZaR]
theorem SP(l:List DOp)(P:Pw)(D:Dk):(QH l P D).2.2.wait.length<=D.wait.length+l.length:=by
 induction l generalizing P D with
 |nil=>simp[QH]
 |cons o l ih=>have:=DOp.few P D o;simp[QH];grind
def Ran(B p d n:Nat)(L X:Qj)(l:List DOp)(P:Pw)(D:Dk)(w w':Qs):Prop:=∃L',Did B p d n L X (QH l P D).2.1 (QH l P D).2.2 w w' L'
def Ran.one{o:DOp}{P:Pw}{D:Dk}(h:∃L',Did B p d n L X (o.pow P D) (o.dk P D) w w' L'):Ran B p d n L X [o] P D w w':=by unfold Ran;rw[G3];exact h
def Ran.go{a b:List DOp}{P P1:Pw}{D D1:Dk}(e:QH a P D=(0,P1,D1))(h:Did B p d n L X P1 D1 w w1 L1)(k:Ran B p d n L1 X b P1 D1 w1 w2):Ran B p d n L X (a++b) P D w w2:=by unfold Ran;rw[Mf a b P P1 D D1 e];have⟨C,k⟩:=k;exact⟨C,h.trans k⟩
def Ran.stop{a b:List DOp}{P:Pw}{D:Dk}(hc:(QH a P D).1≠0)(h:Ran B p d n L X a P D w w1):Ran B p d n L X (a++b) P D w w1:=by unfold Ran;rw[G1,Zw hc];exact h
def Ran.after{a:List DOp}{P:Pw}{D:Dk}(h:Ran B p d n L X a P D w w1)(hb:Below w1 w1 w2):Ran B p d n L X a P D w w2:=by have⟨L',h⟩:=h;exact⟨L',h.after hb⟩
def CB{a b:List DOp}{P P1:Pw}{D D1:Dk}(e:QH a P D=(0,P1,D1)):(QH (a++b) P D).1=(QH b P1 D1).1:=by rw[Mf a b P P1 D D1 e]
def Fc{a b:List DOp}{P:Pw}{D:Dk}(hc:(QH a P D).1≠0):(QH (a++b) P D).1=(QH a P D).1:=by rw[G1,Zw hc]
def Sg{l:List DOp}{P:Pw}{D:Dk}(h:(QH l P D).1=0):QH l P D=(0,(QH l P D).2.1,(QH l P D).2.2):=QA
structure Stg(B p d n:Nat)(L X:Qj)(A:List DOp)(P:Pw)(D:Dk)(w:Qs)(P1:Pw)(D1:Dk)(L1:Qj)(w1:Qs):Prop where
 run:QH A P D=(0,P1,D1)
 did:Did B p d n L X P1 D1 w w1 L1
section
variable{A:List DOp}{P:Pw}{D:Dk}{P1:Pw}{D1:Dk}
def Stg.start(h:PD B w p d n P D L)(X:Qj)(hb:Below w w w1):Stg B p d n L X [] P D w P D L w1:=⟨rfl,Did.same h X hb⟩
def Stg.size(h:Stg B p d n L X A P D w P1 D1 L1 w1):w<=w1.heap.size:=h.did.fr.size
def Stg.few(h:Stg B p d n L X A P D w P1 D1 L1 w1):D1.wait.length<=D.wait.length+A.length:=by have:=SP A P D;rw[h.run] at this;exact this
def Stg.after(h:Stg B p d n L X A P D w P1 D1 L1 w1){w2:Qs}(hb:Below w1 w1 w2):Stg B p d n L X A P D w P1 D1 L1 w2:=⟨h.run,h.did.after hb⟩
def Stg.frame(h:Stg B p d n L X A P D w P1 D1 L1 w1){Y:Qj}{w2:Qs}(J:Fr Y w1 w2)(C:∀k,k∈Y->k∉p::L1)(F:∀k,k∈Y->k∈X∨w.heap.size<=k):Stg B p d n L X A P D w P1 D1 L1 w2:=⟨h.run,h.did.frame J C F⟩
def Stg.next(h:Stg B p d n L X A P D w P1 D1 L1 w1){b:List DOp}{w2:Qs}(hc:(QH b P1 D1).1=0)(F:Ran B p d n L1 [] b P1 D1 w1 w2):∃P2 D2 C,Stg B p d n L X (A++b) P D w P2 D2 C w2:=by have⟨C,F⟩:=F;exact⟨_,_,C,by rw[Mf _ _ _ _ _ _ h.run];exact Sg hc,h.did.trans (F.wider Qx)⟩
def Stg.fail(h:Stg B p d n L X A P D w P1 D1 L1 w1){b:List DOp}{w2:Qs}{ev:Qt}(he:QK w2 w1 (QH b P1 D1).1 ev)(C:Ran B p d n L1 [] b P1 D1 w1 w2):Ans w (QH (A++b) P D).1 (Ran B p d n L X (A++b) P D w) (.returned ev) w2:=by have⟨F,C⟩:=C;exact⟨ev,rfl,by rw[CB h.run];exact he.base h.size,Ran.go h.run h.did ⟨F,C.wider Qx⟩⟩
def WN{S:Nat}{l r:List DOp}{e:Qv}(hc:(QH l P D).1≠0)(h:Ans S (QH l P D).1 (Ran B p d n L X l P D w) e w2):Ans S (QH (l++r) P D).1 (Ran B p d n L X (l++r) P D w) e w2:=by have⟨ev,he,hv,C⟩:=h;exact⟨ev,he,by rw[Fc hc];exact hv,C.stop hc⟩
def Stg.Zb7(h:Stg B p d n L X A P D w P1 D1 L1 w1){b:List DOp}(hc:(QH b P1 D1).1≠0):(QH (A++b) P D).1≠0:=by rw[CB h.run];exact hc
def Stg.ok(h:Stg B p d n L X A P D w P1 D1 L1 w1)(S:Nat):Ans S (QH A P D).1 (Ran B p d n L X A P D w) (.returned .nilIface) w1:=⟨_,rfl,by rw[h.run];exact QK.nil _ _,L1,by rw[h.run];exact h.did⟩
end
def Wp{l r:List DOp}{P:Pw}{D:Dk}(hc:(QH l P D).1≠0):(QH (l++r) P D).1≠0:=by rw[Fc hc];exact hc
def Cm(u:UInt8)(k:Nat):UInt8:=u^^^UInt8.ofNat (2^k)
def Z7O(u:UInt8)(b:Nat):bits .xor .u8 (u.toNat:Int) (IntKind.u8.wrap (2^((b:Int)%8).toNat))=((Cm u (b%8)).toNat:Int):=by
 rw[show((b:Int)%8).toNat=b%8 from Qw];have h:b%8<8:=Zg0 _ Qw;generalize b%8=k at h;have hw:IntKind.u8.wrap (2^k)=((2^k:Nat):Int)/\2^k<256:=by
  rw[IntKind.wrap_u8]
  match k,h with
  |0,_|1,_|2,_|3,_|4,_|5,_|6,_|7,_=>decide
 rw[hw.1,u8_xor_nat _ _ u.toNat_lt hw.2];unfold Cm;rw[UInt8.toNat_xor,UInt8.toNat_ofNat',ZeY hw.2]
def Dk.ZaU(D:Dk)(a b:Nat):Dk:={D with has:=D.has.set (a*64+b / 8) (Cm (D.has.getD (a*64+b / 8) 0) (b%8))}
def Za2{D:Dk}(ok:D.ok n)(a b:Nat):(D.ZaU a b).ok n:=⟨by simp[Dk.ZaU,ok.len],ok.n1,ok.n2,ok.at_,ok.size,ok.few,ok.Zbt,ok.ZbG⟩
def Z5O(p d gh:Nat)(v:Qt)(D:Dk)(n a b:Nat)(w:Qs)(h:Y7 w p d gh v D)(ok:D.ok n)(O:D.dead=false)(ha:a<n)(hb:b<512):Calls prog 104 #[d,(a:Int),(b:Int)] w λe w'=>e=.returned .nilIface/\Y7 w' p d gh v (D.ZaU a b)/\Fr [gh] w w':=by
 have c3:=h.top.c3;rw[O] at c3;have H:=ZI h;have F:=ZI ok;have n2:=ok.n2;have C:a*64+b / 8<D.has.length:=by rw[ok.len];omega
 have cb:w.cell? ⟨gh,a*64+b / 8,none⟩=some (.int .u8 (D.has[a*64+b / 8].toNat:Int)):=h.bytes.row.cell (Bq _ _ C);have fb:w.frozen? ⟨gh,a*64+b / 8,none⟩=false:=h.bytes.row.free (by rw[Wd];exact C);have U:=ZI C;have J:Y7 w.drew p d gh v D:=h.fr (L:=[]) ((Fr.refl [] w).drew) Qx Qx Qx;have M:=ZI J;clear h ok O J;go_enter func104,ntmps104;go_wp2_with (first|(go_at_call 138;refine(BK p d gh v D n _ H.o F.o.len n2).mono ?_;rintro e w' ⟨rfl,rfl⟩)|(go_at_call 103;refine(DM p d gh v D n a _ H.o F.o.len n2 ha).mono ?_;rintro e w' ⟨rfl,rfl⟩));go_still_tail 12,Qy
 repeat still_step
 still_call (BN (DM p d gh v D n a _ M.o F.o.len n2 ha))
 repeat still_step
 rw[Zr ((b:Int) / 8) Qw];refine wpStill_step (λK hK=> ?_);go_simp;rw[Zx Qw,show((b:Int) / 8).toNat=b / 8 from Qw];refine⟨rfl,hK _ ?_⟩;clear hK K
 repeat still_step
 rw[Zgn (by omega:(0:Int)<=b),show((b:Int)%8)=((b%8:Nat):Int) from Qw]
 repeat still_step
 refine wpStill_step (λK hK=> ?_);go_simp;rw[Zx Qw,show((b:Int) / 8).toNat=b / 8 from Qw];refine⟨rfl,hK _ ?_⟩;clear hK K;refine Zfw ?_;rw[Z7O];change wpList _ _ _ _ _ w.drew;go_wp2;go_ret;have s1:=H.o;have hF:Fr [gh] w (w.drew.setCell ⟨gh,a*64+b / 8,none⟩ (.int .u8 ((Cm D.has[a*64+b / 8] (b%8)).toNat:Int))):=((Fr.refl _ w).drew).setCell (Zv Qx) _;have dg:=H.o.top.ne H.o.bytes.row Qz;have gv:=H.o.bytes.row.Zbk H.o.late Qz;have ht:=H.o.top.fr hF (by simpa using dg)
 have hl:=Xy H.o.late hF (λg hg=>by
  simp only[Z6];rintro rfl;exact gv hg)
 have Z:D.has.getD (a*64+b / 8) 0=D.has[a*64+b / 8]:=by rw[Z7,Z8 U.o,Ze7];rfl
 refine⟨rfl,⟨?_,?_,hl⟩,hF⟩
 .unfold Dk.ZaU;simp only[List.length_set];exact ht
 .unfold Dk.ZaU;simp only[Z];rw[<-K3];exact M.o.bytes.set _ _
def Y2.setCells(C:Qk):∀ (a l:Qk) (w:Qs),Y2 w g e (a++l)->l.length=C.length->Y2 (w.setCells g a.length C) g e (a++C):=by
 induction C with
 |nil=>intro a l w h hl;rw[Zes,ZdW] at hl;subst hl;exact h
 |cons v C ih=>
  intro a l w h hl
  match l,hl with
  |x::l,hl=>have F:=h.set a.length v;have e1:(a++x::l).set a.length v=(a++[v])++l:=Qx;rw[e1] at F;have J:=ih (a++[v]) l _ F (by simpa using hl);rw[Zb,ZeC,Zd,Zf7] at J;exact J
def Fr.setCells(C:Qk):∀ (o:Nat) {a w:Qs},Fr L a w->g∈L->Fr L a (w.setCells g o C):=by
 induction C with
 |nil=>intro o a w h _;exact h
 |cons v C ih=>intro o a w h F;exact ih (o+1) (h.setCell (p:=⟨g,o,none⟩) (Zv F) v) F
def Z95(w:Qs):(zeroValue 5).run prog w=.ok (.int .u8 0) w:=Qy
def Z9U{D:Dk}(ok:D.ok n)(hl:D.Zaq<4611686018427387904):D.ZaJ.ok n:=⟨by simp[Dk.ZaJ,ok.len],ok.n1,ok.n2,by simp[Dk.ZaJ],by simp[Dk.ZaJ],by simp[Dk.ZaJ],by have:=ok.Zbt;simp[Dk.ZaJ];omega,by simp[Dk.ZaJ];omega⟩
def Za1{D:Dk}(ok:D.ok n)(hl:D.Zaq<4611686018427387904):D.ZaV.ok n:=⟨ok.len,ok.n1,ok.n2,by simp[Dk.ZaV],by simp[Dk.ZaV],by simp[Dk.ZaV],by have:=ok.Zbt;simp[Dk.ZaV];omega,by simp[Dk.ZaV];omega⟩
def Z5F(p d gh:Nat)(v:Qt)(D:Dk)(n:Nat)(w:Qs)(h:Y7 w p d gh v D)(ok:D.ok n):Calls prog 23 #[d] w λe w'=>e=.returned (.tuple #[])/\Y7 w' p d gh (.slice none 0 0) D.ZaJ/\Fr [d,gh] w w':=by
 have c1:=h.top.c1;have c2:=h.top.c2;have r2:=h.top.free (j:=2) Qx;have c3:=h.top.c3;have r3:=h.top.free (j:=3) Qx;have c4:=h.top.c4;have r4:=h.top.free (j:=4) Qx;have l0:=ok.Zbt;have l1:=ok.ZbG;have dg:=h.top.ne h.bytes.row Qz;have hlen:=ok.len;have n1:=ok.n1;have ah:∀ty (W:Qs),Y2 W gh 5 (QJ D.has)->(Builtin.clear_ #[75] ty #[.slice gh D.has.length D.has.length]).run prog W=.ok (.tuple #[]) (W.setCells gh 0 (List.replicate D.has.length (.int .u8 0))):=λty W hW=>
  Lib.run_clear_slice W 75 5 ty (.int .u8 0) underlying75 Z95 rfl rfl gh 0 D.has.length D.has.length Qw
   (λj O=>by rw[Ze5,hW.row.cell (Bq _ j O)];rfl) (λj O=>by rw[Ze5];exact hW.row.free (by rw[Wd];exact O))
 have⟨w2,F⟩:=ZL ((w.setCell ⟨d,3,none⟩ (.bool false)).setCell ⟨d,2,none⟩ (.slice none 0 0));have M:Fr [d] w w2:=by rw[F];exact((Fr.refl _ _).setCell (Zv Qx) _).setCell (Zv Qx) _
 have J:Row w2 d 109 [p,.slice gh D.has.length D.has.length,(),false,(D.Zaq:Int)]:=by rw[F];exact(h.top.set 3 (.bool false)).set 2 (.slice none 0 0)
 have hb:=h.bytes.fr M (by simpa using λe=>dg e.symm);have U:=λty=>ah ty w2 hb;have Z:=Y2.setCells (g:=gh) (e:=5) (List.replicate D.has.length (Value.int .u8 0)) [] (QJ D.has) w2 hb (by simp[Wd]);have ag:Fr [d,gh] w (w2.setCells gh 0 (List.replicate D.has.length (Value.int .u8 0))):=Fr.setCells _ 0 (M.mono Qx) Qx;have C:Row (w2.setCells gh 0 (List.replicate D.has.length (Value.int .u8 0))) d 109 [.pointer p,.slice gh D.has.length D.has.length,.slice none 0 0,.bool false,.int .i64 D.Zaq]:=J.fr (Fr.setCells _ 0 (Fr.refl [gh] w2) Qx) (by simpa using dg);have k1:=J.c1;have k4:=C.c4;have aj:=C.free (j:=4) Qx;have H:=ZI h;have OK:=ZI ok;have HS:=ZI Z;have ae:=ZI ag;have af:=ZI C;clear h ok ah Z ag C J hb M hlen n1;rw[F] at U k1 k4 aj HS ae af;clear F w2;go_enter func23,ntmps23;go_wp2_with (simp[U]);go_end0;have hx:=af.o.set 4 (.int .i64 (D.Zaq+1));have ai:=ae.o.setCell (p:=⟨d,4,none⟩) (Zv Qx) (.int .i64 (D.Zaq+1));refine⟨rfl,⟨?_,?_,ZA _ _ _ _⟩,ai⟩
 .simpa[Dk.ZaJ] using hx
 .have:=HS.o.fr ((Fr.refl [d] _).setCell (p:=⟨d,4,none⟩) (Zv Qx) (.int .i64 (D.Zaq+1))) (by simpa using λe=>dg e.symm);simpa[Dk.ZaJ,QJ] using this
def Fr.cell(h:Fr L w w'){a:Addr}(ha:a.block<w)(C:a.block∉L):w'.cell? a=w.cell? a:=by unfold World.cell?;rw[h.block a.block ha C]
def N5(w:Qs)(gh:Nat)(ka:Qm)(keep:Qn):Prop:=∀i (h:i<keep.length),∃kb ko,ka=some ⟨kb,ko,none⟩/\kb≠gh/\w.cell? ⟨kb,ko+i,none⟩=some (.bool keep[i])
def Dk.losing(D:Dk)(keep:Qn)(t0:Nat):Nat->List UInt8×Nat
 |0=>(D.has,t0)
 |k+1=>
  let r:=D.losing keep t0 k
  match D.wait[k]? with
  |none=>r
  |some x=>if keep[k]? =some true then(WZ r.1 x,r.2) else(WE r.1 (x.1*64) (x.2.data.toList.take r.2),0)
def Xs(t:Int):Nat:=(min (max t 0) 64).toNat
def Dk.lost(D:Dk)(keep:Qn)(t:Int):Dk:={D with has:=(D.losing keep (Xs t) D.wait.length).1,wait:=[]}
def Mg(T:Qu)(h:P.underlying T=some .string)(s:Qq)(n:Nat)(C:n<=s.size)(W:Qs):(Instr.slice T (.string s) none (some (.int .i64 (n:Int))) none).run P W=.ok (.string (s.extract 0 n)) W:=by rw[run_slice_string_to_if W T s .i64 n h,Zx ⟨Qw,Qw⟩];simp
def Z1D(s:Qq)(n:Nat)(h:n<=s.size):(s.extract 0 n).size=n:=by simp;omega
def OI(s:Qq)(n:Nat):(s.extract 0 n).data.toList=s.data.toList.take n:=by simp[ZgU]
def Z5J{k:IntKind}{b:Int}(h:a=b):Value.int k a=.int k b:=by rw[h]
def MI(t:Int):Xs t<=64:=by unfold Xs;omega
def Dk.Zcq(D:Dk)(keep:Qn)(t0:Nat)(h:t0<=64)(k:Nat):(D.losing keep t0 k).2<=64:=by
 induction k with
 |zero=>exact h
 |succ k ih=>
  simp[Dk.losing];split
  .exact ih
  .split
   .exact ih
   .simp
def Dk.Zc5(D:Dk)(n:Nat)(ok:D.ok n)(keep:Qn)(t0:Nat)(k:Nat):(D.losing keep t0 k).1.length=64*n:=by
 induction k with
 |zero=>exact ok.len
 |succ k ih=>
  simp[Dk.losing];split
  .exact ih
  .rename_i x hx;have hm:=Zfa hx;have h:=ok.at_ x hm;have:x.2.data.toList.length=64:=(by simpa using ok.size x hm);split
   .exact Ho _ _ _ ih h (ok.size x hm)
   .rw[Ek _ _ _ (by rw[Zg,ih];omega),ih]
def Z3J{D:Dk}(h:Y7 w p d gh (.slice none 0 0) D)(hw:D.wait=[])(keep:Qn)(t:Int):Ending.returned (.tuple #[])=Ending.returned (.tuple #[])/\Y7 (w.setCell ⟨d,2,none⟩ (.slice none 0 0)) p d gh (.slice none 0 0) (D.lost keep t)/\Fr [d,gh] w (w.setCell ⟨d,2,none⟩ (.slice none 0 0)):=by
 have hF:Fr [d] w (w.setCell ⟨d,2,none⟩ (.slice none 0 0)):=(Fr.refl [d] w).setCell (Zv Qx) _;have dg:=h.top.ne h.bytes.row Qz;have e1:D.lost keep t=D:=by unfold Dk.lost;rw[hw];rcases D with ⟨C,F,J,M⟩;simp only at hw;subst hw;rfl
 rw[e1];exact⟨rfl,⟨h.top.set 2 (.slice none 0 0),h.bytes.fr hF (by simpa using λe=>dg e.symm),by rw[hw];exact ZA _ _ _ _⟩,hF.mono (λi hi _=>by simp at hi;simp[hi])⟩
def Z3I(p d gh:Nat)(v:Qt)(P:Pw)(D:Dk)(n:Nat)(ka:Qm)(kc:Nat)(keep:Qn)(t:Int)(w:Qs)(hp:Y6 w p P)(h:Y7 w p d gh v D)(ok:D.ok n)(hk:N5 w gh ka keep):Calls prog 53 #[d,.slice ka keep.length kc,t] w λe w'=>e=.returned (.tuple #[])/\Y7 w' p d gh (.slice none 0 0) (D.lost keep t)/\Fr [d,gh] w w':=by
 have k2:=h.top.c2;have H:=ZI h;have HP:=ZI hp;have OK:=ZI ok;have HK:=ZI hk;have hv:D.wait.length=0/\v=.slice none 0 0∨∃g cap,v=.slice (g:Nat) D.wait.length cap:=by
  rcases h.late.2 with ⟨h1,h2⟩|⟨g,cap,cur,hv,_⟩
  .exact Zv ⟨h2,h1⟩
  .exact Zy ⟨g,cap,hv⟩
 have dm:=ok.few;clear h hp ok hk;rcases hv with ⟨h0,rfl⟩|⟨g,cap,rfl⟩
 .have hw:D.wait=[]:=ZdW.1 h0;have dt:=ZI hw;clear hw h0;have du:=H.o.top.free (j:=2) Qx;go_enter func53,ntmps53;go_wp2
  all_goals refine Zfi 1 ?_
  all_goals rw[Zfn]
  all_goals go_wp2
  all_goals go_end0
  all_goals exact Z3J H.o dt.o keep t
 .go_enter func53,ntmps53;go_wp2
  all_goals go_loopw [2,16] (λC i wr=>∃k:Nat,k<=D.wait.length/\i=(k:Int)/\C=.int .i64 (D.losing keep (Xs t) k).2/\Y6 wr p P/\Y7 wr p d gh (.slice (g:Nat) D.wait.length cap) {D with has:=(D.losing keep (Xs t) k).1}/\Fr [gh] w wr) (λ_ i _=>D.wait.length- (intOf i).toNat)
  all_goals try exact⟨0,Qw,rfl,Z5J (by show _=((Xs t:Nat):Int);unfold Xs;omega),HP.o,H.o,Fr.refl _ _⟩
  all_goals
   obtain⟨k,hk,rfl,rfl,ct,F,bh⟩:=hrel;have de:=ZI ct;have ak:=ZI F;have bq:=ZI bh;have Z:=sep HP.o H.o;by_cases bf:k<D.wait.length
   .have c3:wr.cell? ⟨g,k*2,none⟩=(D.wait[k].1:Int):=Cc F.late rfl (by rw[Ze0];exact(EL _ _ bf).1);have c4:wr.cell? ⟨g,k*2+1,none⟩=some (.string D.wait[k].2):=Cc F.late rfl (by rw[Ze0];exact(EL _ _ bf).2);have cw:=OK.o.at_ _ (Zl bf);have cy:=OK.o.size _ (Zl bf);have hlen:=D.Zc5 n OK.o keep (Xs t) k;have bj:=D.Zcq keep (Xs t) (MI t) k;have ag:D.losing keep (Xs t) (k+1)=if keep[k]? =some true then(WZ (D.losing keep (Xs t) k).1 D.wait[k],(D.losing keep (Xs t) k).2) else(WE (D.losing keep (Xs t) k).1 (D.wait[k].1*64) (D.wait[k].2.data.toList.take (D.losing keep (Xs t) k).2),0):=(by simp only[Dk.losing,Z8 bf]);obtain⟨has,ai⟩:=ZL (D.losing keep (Xs t) k).1;obtain⟨C,cu⟩:=ZL (D.losing keep (Xs t) k).2;rw[<-ai,<-cu] at ag;rw[<-ai] at hlen F ak;rw[<-cu] at bj⊢;have dh:∀o,Y7 (wr.alloc o).drew p d gh (.slice (g:Nat) D.wait.length cap) {D with has:=has}:=λo=>F.fr (L:=[]) (((Fr.refl [] wr).alloc o).drew) Qx Qx Qx;have n2:=OK.o.n2;obtain⟨at_,bz⟩:=ZL D.wait[k].1;obtain⟨str,aj⟩:=ZL D.wait[k].2;rw[<-bz] at cw c3;rw[<-aj] at cy c4;have ah:D.losing keep (Xs t) (k+1)=if keep[k]? =some true then(WE has (at_*64) str.data.toList,C) else(WE has (at_*64) (str.data.toList.take C),0):=by rw[ag,bz,aj];rfl
    have cz:=ZI dh;have af:=ZI hlen;have aq:=ZI cy;have HN:=ZI ah;have az:(k<keep.length/\∃M ko,ka=some ⟨M,ko,none⟩/\∃b,keep[k]? =some b/\∀o,(wr.alloc o).cell? ⟨M,ko+k,none⟩=some (.bool b))∨(¬k<keep.length/\keep[k]? =none):=by
     by_cases au:k<keep.length
     .obtain⟨M,ko,e1,e2,e3⟩:=HK.o k au;have dq:M<w.heap.size:=by
       unfold World.cell? at e3;by_cases h9:M<w.heap.size
       .exact h9
       .rw[ZeG (by show w.heap.size<=M;omega)] at e3;cases e3
      exact Zv ⟨au,M,ko,e1,keep[k],by rw[Z8 au],λo=>((bh.alloc o).cell (a:=⟨M,ko+k,none⟩) dq (by simpa using e2)).trans e3⟩
     .exact Zy ⟨au,Zei Qw⟩
    clear ct F bh dh hlen bz aj cy ag ah ai cu;rcases az with ⟨au,M,ko,rfl,b,ay,dw⟩|⟨au,ay⟩
    case' inl=>
     cases b
     case' true=>
      have HB:=ZI ay;clear ay;go_wp2_with fail;have r5:=Z2 wr 194 [.int .i64 (at_:Int),.string str];have c5:=r5.c0;have c6:=r5.c1;have O:=cz.o (.cells #[(at_:Int),.string str] 194);have U:=(Fr.refl [] wr).alloc (.cells #[(at_:Int),.string str] 194);obtain⟨w2,bg⟩:=ZL (wr.alloc (.cells #[(at_:Int),.string str] 194));simp only[List.toArray] at c5 c6;rw[<-bg] at c5 c6 O U⊢;have aw:=ZI O;have bm:=ZI U;clear r5 O U bg;go_still_tail 6,Qy
      still_call (BN (DM p d gh _ _ n at_ _ aw.o af.o n2 cw))
      repeat still_step
      refine Zfw ?_;change wpList _ _ _ _ _ w2.drew;go_wp2_with (refine MY rfl (.tmp 34) (.tmp 36) 75 9 rfl 5 underlying75 AM gh (at_*64) 64 _ rfl str rfl has aw.o.bytes (by rw[aq.o];omega) (by rw[aq.o,af.o];omega) ?_;intro ae);have bu:=ZI ae;clear ae;go_wp2;go_roundw
      .have cr:(str.data.toList).length=64:=(by simpa using aq.o);have hF:Fr [gh] wr (w2.drew.setRow gh (QJ (WE has (at_*64) (str.data.toList))).toArray):=((bm.o.mono Qx).drew).setRow (Zv Qx) _;have np:p∉[gh]:=by simp only[Z6];exact λe=>Z.pg e.symm
       have J:=HN.o;rw[HB.o] at J;simp at J;refine⟨k+1,Qw,QC,by rw[J],Y6.fr de.o hF np,?_,?_⟩
       .rw[J]
        have cn:(WE has (at_*64) (str.data.toList)).length=has.length:=Ek _ _ _ (by
         rw[af.o];omega)
        refine⟨?_,bu.o,Xy ak.o.late hF (λg' cj=>by
         have:=Z.gv
         simp only[Z6];rintro rfl;exact this cj)⟩
        have ht:=ak.o.top.fr hF (by simpa using Z.dg);simp only at ht⊢;rw[cn];exact ht
       .exact bq.o.trans hF (λi hi _=>by simp at hi;simp[hi])
      simp[intOf];omega
    all_goals
     have HB:=ZI ay;clear ay;go_wp2_with fail;have r5:=Z2 wr 194 [.int .i64 (at_:Int),.string str];have c5:=r5.c0;have c6:=r5.c1;have O:=cz.o (.cells #[(at_:Int),.string str] 194);have U:=(Fr.refl [] wr).alloc (.cells #[(at_:Int),.string str] 194);obtain⟨w2,bg⟩:=ZL (wr.alloc (.cells #[(at_:Int),.string str] 194));simp only[List.toArray] at c5 c6;rw[<-bg] at c5 c6 O U⊢;have aw:=ZI O;have bm:=ZI U;clear r5 O U bg;go_still_tail 8,Qy;have dx:=λW=>Mg (P:=prog) 9 underlying9 str C (by rw[aq.o];exact bj) W;have dj:=ZJ (Z1D str C (by rw[aq.o];exact bj)) (OI str C);have df:=ZI dj;clear dj
     still_call (BN (DM p d gh _ _ n at_ _ aw.o af.o n2 cw))
     repeat still_step
     refine Zfw ?_;change wpList _ _ _ _ _ w2.drew;go_wp2_with (refine MY rfl (.tmp 41) (.tmp 45) 75 9 rfl 5 underlying75 AM gh (at_*64) 64 _ rfl (str.extract 0 C) rfl has aw.o.bytes (by rw[df.1];exact bj) (by rw[df.1,af.o];omega) ?_;intro ae;rw[OI] at ae);have bu:=ZI ae;clear ae;go_wp2;go_roundw
     .have cr:((str.data.toList.take C)).length=C:=by rw[Zg,show str.data.toList.length=64 from by simpa using aq.o];omega
      have hF:Fr [gh] wr (w2.drew.setRow gh (QJ (WE has (at_*64) ((str.data.toList.take C)))).toArray):=((bm.o.mono Qx).drew).setRow (Zv Qx) _;have np:p∉[gh]:=by simp only[Z6];exact λe=>Z.pg e.symm
      have J:=HN.o;rw[HB.o] at J;simp at J;refine⟨k+1,Qw,QC,by rw[J];rfl,Y6.fr de.o hF np,?_,?_⟩
      .rw[J];simp only[]
       have cn:(WE has (at_*64) ((str.data.toList.take C))).length=has.length:=Ek _ _ _ (by
        rw[af.o];omega)
       refine⟨?_,bu.o,Xy ak.o.late hF (λg' cj=>by
        have:=Z.gv
        simp only[Z6];rintro rfl;exact this cj)⟩
       have ht:=ak.o.top.fr hF (by simpa using Z.dg);simp only at ht⊢;rw[cn];exact ht
      .exact bq.o.trans hF (λi hi _=>by simp at hi;simp[hi])
     simp[intOf];omega
   .have dy:=F.top.c2;have du:=F.top.free (j:=2) Qx;clear ct F bh;go_wp2;go_end0;have dp:k=D.wait.length:=Qw;have hF:Fr [d] wr (wr.setCell ⟨d,2,none⟩ (.slice none 0 0)):=(Fr.refl [d] wr).setCell (Zv Qx) _;have ng:gh∉[d]:=by simp only[Z6];exact λe=>Z.dg e.symm
    refine⟨rfl,?_,(bq.o.mono (λi hi _=>by simp at hi;simp[hi])).trans hF (λi hi _=>by simp at hi;simp[hi])⟩;have hd:=ak.o;rw[dp] at hd;exact⟨hd.top.set 2 (.slice none 0 0),hd.bytes.fr hF ng,ZA _ _ _ _⟩
def sec(l:Ql)(a:Nat):Ql:=(l.drop (a*64)).take 64
theorem Ci(l:Ql)(a i:Nat):(sec l a)[i]? =if i<64 then l[a*64+i]? else none:=by unfold sec;grind
theorem Le(l:Ql)(o:Nat)(s:Ql)(i:Nat)(h:o<=l.length):(WE l o s)[i]? =if i<o then l[i]? else if i<o+s.length then s[i-o]? else l[i]?:=by unfold WE;grind
theorem To(l:Ql)(a b:Nat)(s:Ql)(h:a*64<=l.length)(hs:s.length<=64)(C:a≠b):sec (WE l (a*64) s) b=sec l b:=by
 apply ZeB;intro i;rw[Ci,Ci];by_cases hi:i<64
 .rw[Zx hi,Zx hi,Le l _ s _ h];grind
 .grind
theorem Tp(l:Ql)(a:Nat)(s:Ql)(h:a*64<=l.length)(hs:s.length<=64):sec (WE l (a*64) s) a=s++(sec l a).drop s.length:=by
 apply ZeB;intro i;rw[Ci];by_cases C:i<s.length
 .rw[Za C,Zx Qw,Le l _ s _ h,Zw Qw,Zx Qw];simp
 .rw[ZdD Qw,Zf2,Ci,show s.length+(i-s.length)=i from Qw];by_cases hi:i<64
  .rw[Zx hi,Zx hi,Le l _ s _ h,Zw Qw,Zw Qw]
  .grind
def Ij(l:Ql)(n a:Nat)(h:l.length=64*n)(ha:a<n):(sec l a).length=64:=by unfold sec;rw[Zg,Zek];omega
def Z6L(l:Ql)(n a:Nat)(s:Ql)(h:l.length=64*n)(ha:a<n)(hs:s.length=64):sec (WE l (a*64) s) a=s:=by rw[Tp l a s Qw Qw,ZeH (by rw[Ij l n a h ha];omega),ZdJ]
def Eo(D:Dk)(a:Nat):D.ZaB a=⟨(sec D.has a).toArray⟩:=rfl
def Vy(s:Qq):(⟨s.data.toList.toArray⟩:Qq)=s:=by rfl
def DI(l:List (Nat×Qq))(a:Nat)(s:Qq):Qq:=l.foldl (λs x=>if x.1=a then x.2 else s) s
def Sq(D:Dk)(a:Nat):D.reads a=DI D.wait a (D.ZaB a):=rfl
def Z5z(l:List (Nat×Qq))(a b:Nat)(s t:Qq):DI (l++[(b,t)]) a s=if b=a then t else DI l a s:=by unfold DI;simp
def Z3x(has:Ql)(x:Nat×Qq)(n a:Nat)(h:has.length=64*n)(hx:x.1<n)(hs:x.2.size=64):(⟨(sec (WZ has x) a).toArray⟩:Qq)=if x.1=a then x.2 else⟨(sec has a).toArray⟩:=by
 have hl:x.2.data.toList.length=64:=QB;unfold WZ;by_cases e:x.1=a
 .rw[Zx e,<-e,Z6L has n x.1 _ h hx hl,Vy]
 .rw[Zw e,To has x.1 a _ Qw Qw e]
def OR(l:List (Nat×Qq))(has:Ql)(n a:Nat)(h:has.length=64*n)(hx:∀x,x∈l->x.1<n/\x.2.size=64):(⟨(sec (l.foldl WZ has) a).toArray⟩:Qq)=DI l a ⟨(sec has a).toArray⟩:=by
 induction l generalizing has with
 |nil=>rfl
 |cons x l ih=>unfold DI;rw[ZdI,ZdI,ih (WZ has x) (Ho has x n h (hx x Qx).1 (hx x Qx).2) (λy C=>hx y QA),Z3x has x n a h (hx x Qx).1 (hx x Qx).2];rfl
variable{a b:BitVec 32}{c:UInt8}
@[irreducible] def uv (x:Qp):Int:=(x.toNat:Int)
@[irreducible] def ub (a:Int):Qp:=BitVec.ofInt 32 a
def YX(x:Qp):uv x=(x.toNat:Int):=by unfold uv;rfl
def DR(x:Qp):0<=uv x:=by rw[YX];omega
def DQ(x:Qp):uv x<4294967296:=by rw[YX];have:=x.isLt;omega
def TZ(x:Qp):ub (uv x)=x:=by rw[YX];unfold ub;simp
def Z8c{x y:Qp}(h:uv x=uv y):x=y:=by rw[<-TZ x,h,TZ]
def IG(h:n<4294967296):uv (BitVec.ofNat 32 n)=(n:Int):=by rw[YX,BitVec.toNat_ofNat];omega
def DS(x y:Qp):bits .xor .u32 (uv x) (uv y)=uv (x^^^y):=by rw[YX,YX,YX,u32_xor_nat _ _ Qw Qw,BitVec.toNat_xor]
def Ud(x y:Qp):bits .and .u32 (uv x) (uv y)=uv (x&&&y):=by rw[YX,YX,YX,u32_and_nat _ _ Qw Qw,BitVec.toNat_and]
def Z8d(x y:Qp):bits .or .u32 (uv x) (uv y)=uv (x|||y):=by rw[YX,YX,YX,u32_or_nat _ _ Qw Qw,BitVec.toNat_or]
def EI(x y:Qp):(uv x+uv y)%4294967296=uv (x+y):=by rw[YX,YX,YX,BitVec.toNat_add];omega
def Gj(x:Qp)(k:Nat):uv x / 2^k=uv (x>>>k):=by rw[YX,YX,ZgB,Zgt];rfl
def Z8e(x:Qp)(k:Nat):uv x*2^k%4294967296=uv (x<<<k):=by rw[YX,YX,ZfP,Zfk];rfl
def Z89(x y:Qp):(uv x==uv y)=(x==y):=by rw[Zgd];simp;exact⟨Z8c,λh=>by rw[h]⟩
theorem Ue(x:Qp):(bits .and .u32 (uv x) 1==1)=x.getLsbD 0:=by rw[show(1:Int)=uv 1#32 from by rw[YX];rfl,Ud,Z89];have:x&&&1#32=BitVec.setWidth 32 (BitVec.ofBool (x.getLsbD 0)):=QA;grind
def Ay(r:Qp):Qp:=if r.getLsbD 0 then(r>>>1)^^^0x82F63B78#32 else r>>>1
def AV:Nat->BitVec 32->BitVec 32
 |0,r=>r
 |n+1,r=>AV n (Ay r)
def Dg(b:UInt8):Qp:=BitVec.ofNat 32 b.toNat
def AW(r:Qp)(b:UInt8):Qp:=AV 8 (r^^^Dg b)
def Bt(sum:Qp)(l:Ql):Qp:= ~~~ (l.foldl AW (~~~ sum))
def crc(l:Ql):Qp:=Bt 0#32 l
theorem Z0C(h:Ay a=Ay b):a=b:=by
 have:∀x:Qp,(Ay x).getLsbD 31=x.getLsbD 0:=by unfold Ay;grind
 have C:a.getLsbD 0=b.getLsbD 0:=QA;have hs:a>>>1=b>>>1:=by
  unfold Ay at h;cases hb:b.getLsbD 0
  .simp_all
  .simp_all
 apply BitVec.eq_of_getLsbD_eq;intro i hi
 match i with
 |0=>exact C
 |i+1=>have:=ZF (λx:Qp=>x.getLsbD i) hs;grind
def Oe(n:Nat):∀{a b:Qp},AV n a=AV n b->a=b:=by
 induction n with
 |zero=>exact λh=>h
 |succ n ih=>intro a b h;exact Z0C (ih h)
def Z0E(h:AW a c=AW b c):a=b:=by have:=Oe 8 h;simp_all
def Z01{a b:UInt8}(h:Dg a=Dg b):a=b:=by have:=ZF BitVec.toNat h;simp[Dg] at this;exact UInt8.toNat_inj.1 Qw
def Z0F{d:UInt8}(h:AW a c=AW a d):c=d:=by have:=Oe 8 h;simp at this;exact Z01 this
def Z0G(l:Ql):∀{a b:Qp},l.foldl AW a=l.foldl AW b->a=b:=by
 induction l with
 |nil=>exact λh=>h
 |cons c l ih=>intro a b h;exact Z0E (ih h)
def Z0H(a b:Ql){c d:UInt8}(F:c≠d):crc (a++c::b)≠crc (a++d::b):=by intro h;unfold crc Bt at h;have C:=ZF (λx:Qp=> ~~~ x) h;simp at C;exact F (Z0F (Z0G b C))
def QI(n:Nat):Ql:=[UInt8.ofNat (n / 16777216),UInt8.ofNat (n / 65536),UInt8.ofNat (n / 256),UInt8.ofNat n]
def Wl(n:Nat):(QI n).length=4:=rfl
def Wz(l:Ql):Nat:=(l.getD 0 0).toNat*16777216+(l.getD 1 0).toNat*65536+(l.getD 2 0).toNat*256+(l.getD 3 0).toNat
def toNat_ofNat(n:Nat):(UInt8.ofNat n).toNat=n%256:=by rfl
def I8(n:Nat)(r:Ql):Wz (QI n++r)=n%4294967296:=by simp[Wz,QI];omega
def B5(n:Nat)(h:n<4294967296)(r:Ql):Wz (QI n++r)=n:=by rw[I8];omega
def Z5r(l:Ql):Wz l<4294967296:=by unfold Wz;have:=(l.getD 0 0).toNat_lt;have:=(l.getD 1 0).toNat_lt;have:=(l.getD 2 0).toNat_lt;have:=(l.getD 3 0).toNat_lt;omega
def TY{a b:Nat}(ha:a<4294967296)(hb:b<4294967296)(h:QI a=QI b):a=b:=by have:=B5 a ha [];rw[h,B5 b hb] at this;omega
def XG(l:List Ql):Ql:=l.flatMap λs=>QI s.length++s
def Y8(l:List Ql):Ql:=QI l.length++XG l
def Yy(l:List Ql):Nat:=(l.map λs=>4+s.length).sum
def Lo(s:Ql)(l:List Ql):XG (s::l)=QI s.length++(s++XG l):=by rfl
def Hr(l:List Ql):(XG l).length=Yy l:=by
 induction l with
 |nil=>rfl
 |cons s l ih=>rw[Lo];simp[ih,Wl,Yy];omega
def Xo(l:List Ql):(Y8 l).length=4+Yy l:=by simp[Y8,Hr,Wl]
def Ln(a b:List Ql):XG (a++b)=XG a++XG b:=by simp[XG]
def Hq(a b:List Ql):Yy (a++b)=Yy a+Yy b:=by simp[Yy]
def YR(s:Ql)(l:List Ql):Yy (s::l)=4+s.length+Yy l:=by rfl
def PZ(l:List Ql)(k:Nat):Yy (l.take k)<=Yy l:=by have:=Hq (l.take k) (l.drop k);simp_all
def Ep(l:List Ql):4*l.length<=Yy l:=by
 induction l with
 |nil=>simp
 |cons s l ih=>rw[YR,Ze];omega
theorem Rv{l:List Ql}{s:Ql}(h:s∈l):4+s.length<=Yy l:=by
 induction l with
 |nil=>simp at h
 |cons x l ih=>rw[YR];grind
def Ex{a b:Qt}(h:a=b):Ending.returned a=.returned b:=by rw[h]
def Bf{k:IntKind}{a b:Int}(h:a=b):Value.int k a=.int k b:=by rw[h]
def Z02(b:UInt8):(b.toNat:Int)=uv (Dg b):=by unfold Dg;have:=b.toNat_lt;rw[IG Qw]
def Z0D(n:Nat)(r:Qp):AV (n+1) r=Ay (AV n r):=by
 induction n generalizing r with
 |zero=>rfl
 |succ n ih=>rw[AV,ih (Ay r),AV]
def Z8b(x:Qp)(h:x.getLsbD 0=true):bits .xor .u32 (uv (x>>>1)) 2197175160=uv (Ay x):=by unfold Ay;rw[h,show(2197175160:Int)=uv 0x82F63B78#32 from by rw[YX];rfl,DS];rfl
def Z8a(x:Qp)(h:x.getLsbD 0=false):uv (x>>>1)=uv (Ay x):=by unfold Ay;rw[h];rfl
def Z6Y(r:Qp)(b:UInt8)(w:Qs):Calls prog 241 #[.int .u32 (uv r),.int .u8 (b.toNat:Int)] w λe w'=>e=.returned (.int .u32 (uv (AW r b)))/\w=w':=by
 have hb:=b.toNat_lt;have⟨y,M⟩:=ZK (Dg b);have:=Z02 b;have:AW r b=AV 8 (r^^^y):=by rw[<-M];rfl
 have:=DR y;have:=DQ y;have x1:=DS r y;have J:=ZI x1;clear x1;go_enter func241,ntmps241;go_wp2;go_loop [0,9] (λO i=>∃k:Nat,k<=8/\i=(k:Int)/\O=.int .u32 (uv (AV k (r^^^y)))) (λ_ i=>8- (intOf i).toNat)
 .exact⟨0,Qw,rfl,Bf J.o⟩
 obtain⟨k,Z,rfl,rfl⟩:=hrel;have hs:=Z0D k (r^^^y);have⟨x,hx⟩:=ZK (AV k (r^^^y));rw[hx] at hs⊢;by_cases U:k<8
 .cases hl:x.getLsbD 0
  .have hb:=Ue x;rw[hl] at hb;have C:=ZI hs;clear hs;have h:=ZI hl;clear hl;have F:=ZI hx;clear hx;go_wp2;go_round
   .exact⟨k+1,Qw,QC,by rw[C.o,<-Z8a x h.o,<-Gj x 1];rfl⟩
   simp[intOf];omega
  .have hb:=Ue x;rw[hl] at hb;have C:=ZI hs;clear hs;have h:=ZI hl;clear hl;have F:=ZI hx;clear hx;go_wp2;go_round
   .exact⟨k+1,Qw,QC,by rw[C.o,<-Z8b x h.o,<-Gj x 1];rfl⟩
   simp[intOf];omega
 .obtain rfl:k=8:=by omega
  have F:=ZI hx;clear hx hs;go_wp2;go_ret;exact⟨by rw[F.o];rfl,rfl⟩
def E4(q:Qp)(l:Ql):Qp:=l.foldl AW q
def Ly(sum:Qp)(s:Qq)(w:Qs)(hs:s.size<=maxLen):Calls prog 186 #[.int .u32 (uv sum),.string s] w λe w'=>e=.returned (.int .u32 (uv (Bt sum s.data.toList)))/\w=w':=by
 unfold maxLen at hs;go_enter func186,ntmps186;go_wp2;have e0:bits BinOp.xor IntKind.u32 IntKind.u32.max (uv sum)=uv (~~~ sum):=by rw[show IntKind.u32.max=uv 0xFFFFFFFF#32 from by rw[YX];rfl,DS];rfl
 rw[e0];have C:∀q:Qp,bits BinOp.xor IntKind.u32 IntKind.u32.max (uv q)=uv (~~~ q):=by intro q;rw[show IntKind.u32.max=uv 0xFFFFFFFF#32 from by rw[YX];rfl,DS];rfl
 have F:=ZI C;clear C;go_loop [0,10] (λM i=>∃k:Nat,k<=s.size/\i=(k:Int)/\M=.int .u32 (uv (E4 (~~~ sum) (s.data.toList.take k)))) (λ_ i=>s.size- (intOf i).toNat)
 .exact⟨0,Qw,rfl,by simp[E4]⟩
 obtain⟨k,U,rfl,rfl⟩:=hrel;by_cases O:k<s.size
 .have h:E4 (~~~ sum) (s.data.toList.take (k+1))=AW (E4 (~~~ sum) (s.data.toList.take k)) s[k]:=by unfold E4;rw[Zc QB,Zeh,ZdI,List.foldl_nil];rfl
  have⟨x,hx⟩:=ZK (E4 (~~~ sum) (s.data.toList.take k));have J:=ZI h;clear h hx;go_wp2_with (go_at_call 241;go_fit (Z6Y _ _ _);rintro e w' ⟨rfl,rfl⟩);go_round
  .exact⟨k+1,Qw,QC,by rw[J.o]⟩
  simp[intOf];omega
 .obtain rfl:k=s.size:=by omega
  have:s.data.toList.take s.size=s.data.toList:=Zi Qx;go_wp2;go_ret;exact⟨Ex (Bf (F.o _)),rfl⟩
def Ge(s:Qq)(w:Qs)(hs:s.size<=maxLen):Calls prog 130 #[.string s] w λe w'=>e=.returned (.int .u32 (uv (crc s.data.toList)))/\w=w':=by
 have z:(0:Int)=uv 0#32:=by rw[YX];rfl
 have Z:=ZI z;clear z;go_enter func130,ntmps130;go_wp2_with (go_at_call 186;rw[Z.o];go_fit (Ly 0#32 _ _ hs);rintro e w' ⟨rfl,rfl⟩);go_ret;exact⟨rfl,rfl⟩
def s32(n:Nat):Qq:=⟨(QI n).toArray⟩
def Jh(n:Nat):(s32 n).size=4:=rfl
def Ig(n:Nat):(s32 n).data.toList=QI n:=rfl
def Cn(n:Nat)(F:n<9223372036854775808)(w:Qs):Calls prog 181 #[(n:Int)] w λe w'=>e=.returned (.string (s32 n))/\Below w w w':=by
 go_enter func181,ntmps181;have hc:=λ(W:Qs) (h:Row W w 5 (QJ (QI n)))=>BJ (P:=prog) W 75 9 5 underlying75 underlying5 underlying9 h 0 4 4 (QI n) rfl (by simp[QJ,QI]);go_wp2;have C:=Z2 w 5 (QJ (QI n));have eb:(QJ (QI n)).toArray= #[Value.int IntKind.u8 (↑n / 16777216%256),Value.int IntKind.u8 (↑n / 65536%256),Value.int IntKind.u8 (↑n / 256%256),Value.int IntKind.u8 (↑n%256)]:=by simp[QJ,QI]
 rw[eb] at C;rw[hc _ C];go_wp2;go_ret;exact⟨rfl,(Zu _ _).alloc (Zt _) _⟩
def Pq(a b:Nat)(ha:a<9223372036854775808)(hb:b<9223372036854775808):bits .or .i64 (a:Int) (b:Int)=((a|||b:Nat):Int):=by have h:(BitVec.ofInt 64 (a:Int)).toNat=a:=QA;have C:(BitVec.ofInt 64 (b:Int)).toNat=b:=QA;have:a|||b<2^63:=Nat.or_lt_two_pow Qw Qw;show IntKind.i64.wrap ((BitVec.ofInt 64 (a:Int)|||BitVec.ofInt 64 (b:Int)).toNat:Int)=_;rw[BitVec.toNat_or,h,C];refine Zr _ ⟨?_,?_⟩<;>omega
def LP(k a b:Nat)(hb:b<2^k)(ha:a*2^k<4611686018427387904)(h:k<=32):bits .or .i64 ((a*2^k:Nat):Int) (b:Int)=((a*2^k+b:Nat):Int):=by have:b<4294967296:=Zp hb (Nat.pow_le_pow_right (n:=2) Qw h);rw[Pq _ _ Qw Qw,<-Zfk,Zfo hb]
theorem I3(a b c d:Nat)(ha:a<256)(hb:b<256)(hc:c<256)(h:d<256):IntKind.i64.wrap (a:Int)=(a:Int)/\IntKind.i64.wrap (b:Int)=(b:Int)/\IntKind.i64.wrap (c:Int)=(c:Int)/\IntKind.i64.wrap (d:Int)=(d:Int)/\ IntKind.i64.wrap ((a:Int)*16777216)=(a:Int)*16777216/\IntKind.i64.wrap ((b:Int)*65536)=(b:Int)*65536/\IntKind.i64.wrap ((c:Int)*256)=(c:Int)*256/\ bits .or .i64 ((a:Int)*16777216) ((b:Int)*65536)=(a:Int)*16777216+(b:Int)*65536/\ bits .or .i64 ((a:Int)*16777216+(b:Int)*65536) ((c:Int)*256)=(a:Int)*16777216+(b:Int)*65536+(c:Int)*256/\ bits .or .i64 ((a:Int)*16777216+(b:Int)*65536+(c:Int)*256) (d:Int)=(a:Int)*16777216+(b:Int)*65536+(c:Int)*256+d:=by
 refine⟨Zr _ Qw,Zr _ Qw,Zr _ Qw,Zr _ Qw,Zr _ Qw,Zr _ Qw,Zr _ Qw,?_,?_,?_⟩
 .have:=LP 24 a (b*65536) Qw Qw Qw;simp_all
 .have:=LP 16 (a*256+b) (c*256) Qw Qw Qw;grind
 .have:=LP 8 (a*65536+b*256+c) d Qw Qw Qw;grind
def M5(s:Qq)(hs:4<=s.size)(w:Qs):Calls prog 214 #[.string s] w λe w'=>e=.returned (Wz s.data.toList:Int)/\∃q,w'=w.drewN q:=by
 have:0<s.size:=Qw;have:(1:Int)<(s.size:Int):=Qw;have:(2:Int)<(s.size:Int):=Qw;have:(3:Int)<(s.size:Int):=Qw;have:(Wz s.data.toList:Int)=(s[0].toNat:Int)*16777216+(s[1].toNat:Int)*65536+(s[2].toNat:Int)*256+(s[3].toNat:Int):=by
  have g:∀i (h:i<s.size),s.data.toList.getD i 0=s[i]:=by intro i h;have C:i<s.data.toList.length:=QB;rw[Z7,Z8 C];rfl
  unfold Wz;rw[g 0 Qw,g 1 Qw,g 2 Qw,g 3 Qw];omega
 have⟨e1,e2,J,M,O,U,Z,e8,e9,F⟩:=I3 s[0].toNat s[1].toNat s[2].toNat s[3].toNat s[0].toNat_lt s[1].toNat_lt s[2].toNat_lt s[3].toNat_lt;go_enter func214,ntmps214;go_wp2;go_quiet (fail);go_wp2;go_ret;exact⟨Ex (Bf Qw),_,rfl⟩
variable{s:ByteArray}
def YE{a:Qs}(h:Below B a w)(q:Nat):Below B a (w.drewN q):=⟨h.os,h.tape,h.output,h.size,h.block⟩
def B1{base:Nat}{size:Nat}{v:Qt}(h:w.ownsRow base e size v n xs)(hb:Below w w w'):w'.ownsRow base e size v n xs:=Xy h (Z1 (L:=[]) hb) Qx
def Ic(s:Qq)(hs:4<=s.size)(w:Qs):Calls prog 214 #[.string s] w λe w'=>e=.returned (Wz s.data.toList:Int)/\Below w w w':=(M5 s hs w).mono λ_ _ ⟨he,q,hw⟩=>⟨he,by rw[hw];exact YE (Zu _ _) q⟩
def KO(c a:Int)(hc:c≠0)(w:Qs):Calls prog 180 #[c,a] w λe w'=>∃v,e=.returned v/\QK w' w c v/\v≠.nilIface/\Below w w w':=by go_enter func180,ntmps180;go_wp2;go_ret;exact⟨_,rfl,Zy ⟨hc,1,⟨w.heap.size,a,.nilIface,rfl,Zt _,Z2 w _ [.int .i64 c,.int .i64 a,.nilIface],Zv rfl⟩⟩,Qx,(Zu _ _).alloc (Zt _) _⟩
def FY(e n:Int):Bool:=decide (0<=e)&&(decide (e<=4611686018427387904)&&(decide (0<=n)&&decide (n<=4294967295)))
def Ft(e n:Int)(w:Qs):Calls prog 213 #[e,n] w λr w'=>r=.returned (.bool (FY e n))/\w=w':=by
 go_enter func213,ntmps213;go_wp2
 all_goals go_ret
 all_goals (refine⟨?_,rfl⟩;unfold FY;simp_all)
 all_goals (intros;omega)
def OV(e n:Nat)(he:e<=4611686018427387904)(h:n<=4294967295):FY e n=true:=by unfold FY;simp;omega
def QQ(n:Nat):Nat:=(24+n+63) / 64*64
def KC(n:Nat)(h:n<=1000000000000)(w:Qs):Calls prog 215 #[(n:Int)] w λe w'=>e=.returned (QQ n:Int)/\w=w':=by go_enter func215,ntmps215;go_wp2;go_ret;refine⟨Ex (Bf ?_),rfl⟩;unfold QQ;omega
def U7(s:Qq)(e n:Int)(w:Qs)(h:s.size=0∨s.data.toList.getD 0 0≠1):Calls prog 154 #[.string s,.int .i64 e,.int .i64 n] w λr w'=>∃v,r=.returned (.tuple #[.string ⟨#[]⟩,.int .i64 0,v])/\QK w' w.heap.size 20 v/\v≠.nilIface/\Below w.heap.size w w':=by
 have hs0:24<=s.size->∃O:0<s.size,((s[0].toNat:Int) !=1)=true:=by
  intro M;refine⟨Qw,?_⟩;rcases h with h|h
  .omega
  .have:s.data.toList.getD 0 0=s[0]:=by
    have J:0<s.data.toList.length:=by simp;omega
    rw[Z7,Z8 J];exact Hb s 0 Qw J
   rw[this] at h;simp[bne_iff_ne,ne_eq];intro e1;apply h
   exact UInt8.toNat_inj.1 (by have:s[0].toNat=1:=by omega
                               rw[this];rfl)
 have H:=ZI hs0;clear hs0 h;cases C:FY e n
 .go_enter func154,ntmps154;go_wp2_with (first|(go_at_call 213;refine(Ft _ _ _).mono ?_;rw[C];rintro e w' ⟨rfl,rfl⟩)|(go_at_call 180;go_fit (KO _ _ Qw _);rintro e w' ⟨v,rfl,hv,F,hb⟩));go_ret3;simp_all
 .by_cases M:s.size<24
  .go_enter func154,ntmps154;go_wp2_with (first|(go_at_call 213;refine(Ft _ _ _).mono ?_;rw[C];rintro e w' ⟨rfl,rfl⟩)|(go_at_call 180;go_fit (KO _ _ Qw _);rintro e w' ⟨v,rfl,hv,F,hb⟩));go_ret3;simp_all
  .have⟨O,U⟩:=H.o Qw;go_enter func154,ntmps154;go_wp2_with (first|(go_at_call 213;refine(Ft _ _ _).mono ?_;rw[C];rintro e w' ⟨rfl,rfl⟩)|(go_at_call 180;go_fit (KO _ _ Qw _);rintro e w' ⟨v,rfl,hv,F,hb⟩));go_ret3;simp_all
def JU(e n len:Nat):Ql:=QI len++QI n++QI (e / 4294967296)++QI e
def Am(e n:Nat)(p:Ql):Nat:=(Bt (crc (JU e n p.length)) p).toNat
def QO(e n:Nat)(p:Ql):Ql:=[1,0,0,0]++JU e n p.length++QI (Am e n p)++p++List.replicate (QQ p.length- (24+p.length)) 0
def KB(n:Nat):24+n<=QQ n:=by unfold QQ;omega
def Dj(n:Nat):QQ n%64=0:=by unfold QQ;omega
def Ce(e n:Nat)(p:Ql):(QO e n p).length=QQ p.length:=by have:=KB p.length;simp[QO,JU,Wl];omega
def GM{a m r:Ql}(h:s.data.toList=a++m++r)(i j:Nat)(hi:i=a.length)(C:j=a.length+m.length):s.extract i j=⟨m.toArray⟩:=by apply ZgA;apply Zg1.1;simp_all
def Z6w(a b c:Nat):(⟨(QI a++QI b++QI c).toArray⟩:Qq)=s32 a++s32 b++s32 c:=by rfl
def CV{l:Ql}(h:s.data.toList=l):s.size=l.length:=by rw[<-h];simp
def Z4Q(e n:Nat)(p r:Ql):(QO e n p++r=[1,0,0,0]++(QI p.length++(QI n++QI (e / 4294967296)++QI e++(QI (Am e n p)++(p++(List.replicate (QQ p.length- (24+p.length)) 0++r)))))):=by simp[QO,JU]
def U8(s:Qq)(e n:Nat)(p r:Ql)(w:Qs)(h:s.data.toList=QO e n p++r)(he:e<=4000000000)(hn:n<=4000000000)(hp:p.length<=60000)(hs:s.size<=140737488355328):Calls prog 154 #[.string s,(e:Int),(n:Int)] w λx w'=>x=.returned (.tuple #[.string ⟨p.toArray⟩,(QQ p.length:Int),.nilIface])/\Below w w w':=by
 have hr:=OV e n Qw Qw;have hlen:s.size=QQ p.length+r.length:=by rw[CV h,Zb,Ce]
 have aw:=KB p.length;have ak:24<=s.size:=Qw;have h0:0<s.size:=Qw;have h1:((s[0].toNat:Int) !=1)=false:=by
  have:s.data.toList.getD 0 0=s[0]:=by
   have h2:0<s.data.toList.length:=by simp;omega
   rw[Z7,Z8 h2];exact Hb s 0 Qw h2
  rw[h] at this;have e1:s[0]=1:=by rw[<-this];rfl
  rw[e1];rfl
 rw[Z4Q] at h;have⟨E,hE⟩:=ZK (e / 4294967296);rw[hE] at h;have Z:=ZI hE;clear hE;have⟨t4,i4⟩:=ZK (s.extract 4 s.size);have d4:t4.data.toList=QI p.length++(QI n++QI (E)++QI e++(QI (Am e n p)++(p++(List.replicate (QQ p.length- (24+p.length)) 0++r)))):=by rw[<-i4,Lib.extract_to_end,h];rfl
 have ay:Wz t4.data.toList=p.length:=by rw[d4,B5 _ Qw]
 have bu:4<=t4.size:=by rw[CV d4];simp[Wl]
 have i8:s.extract 8 20=s32 n++s32 (E)++s32 e:=by rw[<-Z6w];exact GM (a:=[1,0,0,0]++QI p.length) (r:=QI (Am e n p)++(p++(List.replicate (QQ p.length- (24+p.length)) 0++r))) (by rw[h];simp) 8 20 rfl rfl
 have⟨t20,J⟩:=ZK (s.extract 20 s.size);have d20:t20.data.toList=QI (Am e n p)++(p++(List.replicate (QQ p.length- (24+p.length)) 0++r)):=by rw[<-J,Lib.extract_to_end,h];rfl
 have⟨c,hc⟩:=ZK (Bt (crc (JU e n p.length)) p);have af:((Wz t20.data.toList:Nat):Int)=uv c:=by rw[d20,B5 _ (by unfold Am;exact BitVec.isLt _),YX];unfold Am;rw[hc]
 have ai:4<=t20.size:=by rw[CV d20];simp[Wl]
 have⟨O,M⟩:=ZK (s.extract 4 20);have F:O=⟨(JU e n p.length).toArray⟩:=by rw[<-M];exact GM (a:=[1,0,0,0]) (m:=JU e n p.length) (r:=QI (Am e n p)++(p++(List.replicate (QQ p.length- (24+p.length)) 0++r))) (by rw[h];simp[JU,Z.o]) 4 20 rfl rfl
 have ip:s.extract 24 (24+p.length)=⟨p.toArray⟩:=
  GM (a:=[1,0,0,0]++JU e n p.length++QI (Am e n p)) (r:=List.replicate (QQ p.length- (24+p.length)) 0++r) (by rw[h];simp[JU,Z.o]) _ _ rfl rfl
 have aj:O.size<=maxLen:=by rw[F];show 16<=_;unfold maxLen;omega
 have lp:(⟨p.toArray⟩:Qq).size<=maxLen:=by show p.length<=_;unfold maxLen;omega
 have cj:(⟨p.toArray⟩:Qq).size<=140737488355328:=by show p.length<=_;omega
 have au:crc O.data.toList=crc (JU e n p.length):=by rw[F]
 have bg:=ZI i4;have bm:=ZI ay;have HL:=ZI hlen;have H:=ZI h;have D4:=ZM d4 d20;have az:=ZI F;have HC:=ZI hc;have ah:=ZI af;have bf:=ZI au;have bh:=ZI i8;have ag:=ZI J;have ae:=ZI M;have bj:=ZI ip;clear i4 ay hlen h d4 d20 F hc af au i8 J M ip;have c0:=DR c;have c1:=DQ c;go_enter func154,ntmps154;go_wp2_with (first|(go_at_call 213;refine(Ft _ _ _).mono ?_;rw[hr];rintro e w' ⟨rfl,rfl⟩)|(go_at_call 214;rw[bg.o];refine(M5 _ bu _).mono ?_;rw[bm.o];rintro e w' ⟨rfl,q,rfl⟩));have i20:(20:Int)<=(s.size:Int):=Qw;have cu:(24:Int)+(p.length:Int)<=(s.size:Int):=by have:=HL.o;omega
 have⟨w1,U⟩:=ZL (w.drewN q);have bq:Below w w w1:=by rw[U];exact YE (Zu _ _) _
 rw[<-U];clear U;have HH:=ZQ he hn hp hs aw ak;have g1:decide ((60000:Int)<(p.length:Int))=false:=ZC Qw;have g2:decide (s.size<QQ p.length)=false:=ZC (by rw[HL.o];omega);have ct:(e:Int) / 4294967296=(E:Int):=by have:=Z.o;omega
 have cn:∀W,(Op.stringOp .add (s32 n) (s32 (E))).run prog W=.ok (.string (s32 n++s32 (E))) W:=λW=>ZdO W _ _ (by rw[Jh,Jh];omega);have cr:∀W,(Op.stringOp .add (s32 n++s32 (E)) (s32 e)).run prog W=.ok (.string (s32 n++s32 (E)++s32 e)) W:=λW=>ZdO W _ _ (by rw[Zep,Jh,Jh,Jh];omega);have wc:IntKind.i64.wrap (uv c)=uv c:=Zr _ Qw;have wp1:IntKind.i64.wrap (24+(p.length:Int))=24+(p.length:Int):=Zr _ Qw;have wp2:0<=24+(p.length:Int):=Qw;have wp3:(24:Int)<=24+(p.length:Int):=Qw;have wp4:(24+(p.length:Int)).toNat=24+p.length:=Qw;have k8:=bh.o;have cw:=ag.o;have bz:=ae.o;have kp:=bj.o;clear he hn hp hs aw ak;go_region_held3 (λw'=>Below w w w') (first|assumption|exact bq.drew)
  (first|(go_at_call 215;refine(KC _ (by have:=HH.o;omega) _).mono ?_;rintro e w8 ⟨rfl,rfl⟩)|(go_at_call 181;refine(Cn _ (by have:=HH.o;omega) _).mono ?_;rintro e w8 ⟨rfl,C⟩;have aq:Below w w w8:=Below.trans (by assumption) (C.mono (Below.size (by assumption)));clear C)|(go_at_call 214;refine(M5 _ ai _).mono ?_;rw[ah.o];rintro e w8 ⟨rfl,q8,rfl⟩;have aq:=YE (B:=w.heap.size) (a:=w) (by assumption) q8)|(go_at_call 130;refine(Ge _ _ aj).mono ?_;rw[bf.o];rintro e w8 ⟨rfl,rfl⟩)|(go_at_call 186;refine(Ly _ _ _ lp).mono ?_;rw[show(⟨p.toArray⟩:Qq).data.toList=p from rfl,HC.o];rintro e w8 ⟨rfl,rfl⟩))
 all_goals go_wp2_with (first|(go_at_call 216;go_fit (Kg _ _ cj);rintro e w8 ⟨rfl,C⟩;have aq:Below w w w8:=Below.trans (by assumption) (C.mono (Below.size (by assumption)));clear C)|(go_at_call 215;refine(KC _ (by have:=HH.o;omega) _).mono ?_;rintro e w8 ⟨rfl,rfl⟩))
 all_goals go_ret3
 all_goals exact⟨rfl,by assumption⟩
abbrev Bs:=Ql
def str(l:Bs):Qq:=⟨l.toArray⟩
instance:Coe (List UInt8) Value:=⟨λs=>.string (str s)⟩
def Yp(l:Bs):(str l).data.toList=l:=rfl
def QW(l:Bs):(str l).size=l.length:=by rfl
def MA(s:Qq):str s.data.toList=s:=rfl
def Iu{a b:Bs}(h:str a=str b):a=b:=by have:=ZF (λs:Qq=>s.data.toList) h;simpa[str] using this
def YY:Qq:=str (List.replicate 64 0)
def Ya(l:Bs)(i:Nat):Qq:=str (sec l i)
def wrs(a:Nat)(l:Bs):List DOp:=(List.range (l.length / 64)).map λi=>.wr (a+i) (Ya l i)
def Yk:Bs:=[106,111,117,114,110,97,108]
structure Jn where
 half:Nat
 second:Bool
 Zar:Nat
 many:Nat
 next:Nat
 closed:Bool
def Jn.at_(J:Jn)(second:Bool)(k:Nat):Nat:=if second then k+J.half else k
def Yl(l:Bs):Bs:=0::l.drop 1
def Jn.clean(J:Jn)(second:Bool)(k:Nat):List DOp:=if J.half<=k then[] else[.wr (J.at_ second k) YY]
def Jn.lay(J:Jn)(second:Bool)(k:Nat)(l:Bs):List DOp:=
 wrs (J.at_ second k) (Yl l)++J.clean second (k+l.length / 64)++[.fl]++wrs (J.at_ second k) (l.take 64)++[.fl]
def Z3(half:Nat):List DOp:=
 let J:Jn:=⟨half,false,1,0,1,false⟩
 J.clean true 0++J.lay false 0 (QO 1 0 Yk)
def Jn.first(half:Nat):Jn:=⟨half,false,1,0,1,false⟩
def Jn.ZaM(J:Jn)(r:Bs):List DOp:=J.lay J.second J.next (QO J.Zar (J.many+1) r)
def Jn.appended(J:Jn)(r:Bs):Jn:={J with many:=J.many+1,next:=J.next+QQ r.length / 64}
def Jn.ZaI(J:Jn)(r:Bs):List DOp:=
 wrs (J.at_ (!J.second) 1) (QO (J.Zar+1) 1 r)++J.clean (!J.second) (1+QQ r.length / 64)++wrs (J.at_ (!J.second) 0) (Yl (QO (J.Zar+1) 0 Yk))++[.fl]
  ++wrs (J.at_ (!J.second) 0) (QO (J.Zar+1) 0 Yk)++[.fl]
def Jn.reset(J:Jn)(r:Bs):Jn:={J with second:= !J.second,Zar:=J.Zar+1,many:=1,next:=1+QQ r.length / 64}
def Xg(e m:Nat):List Bs->Bs
 |[]=>[]
 |r::rs=>QO e (m+1) r++Xg e (m+1) rs
def Z4p(t:Bs):Prop:=t=[]∨t.getD 0 0≠1
def N7(t:Bs)(e:Nat)(rs:List Bs):Prop:=∃rest,t=QO e 0 Yk++(Xg e 0 rs++rest)/\Z4p rest
def Yf(rs:List Bs):Nat:=(rs.map λr=>QQ r.length / 64).sum
def Dk.text(D:Dk)(a n:Nat):Bs:=(List.range n).flatMap λi=>(D.reads (a+i)).data.toList
structure Ent where
 size:Nat
 sum:Nat
 runs:List (Nat×Nat)
def Ent.Zat(e:Ent):Qj:=e.runs.flatMap λr=>List.range' r.1 r.2
abbrev Dir:=List (Bs×Ent)
def Dir.get:Dir->Bs->Option Ent
 |[],_=>none
 |x::r,n=>if x.1=n then some x.2 else Dir.get r n
def Dir.del(d:Dir)(n:Bs):Dir:=d.filter λx=>x.1 !=n
def Dir.ins(n:Bs)(e:Ent):Dir->Dir
 |[]=>[(n,e)]
 |x::r=>if n<x.1 then(n,e)::x::r else x::Dir.ins n e r
def Dir.put(d:Dir)(n:Bs)(e:Ent):Dir:=Dir.ins n e (d.del n)
def Dir.Zax(d:Dir):Prop:=d.Pairwise λa b=>a.1<b.1
def Dir.names(d:Dir):List Bs:=d.map (·.1)
def Dir.Zat(d:Dir):Qj:=d.flatMap λx=>x.2.Zat
structure Ac where
 kind:Nat
 name:Bs
 «to»:Bs
 value:Bs
def Ac.ZaA(a:Ac):Bool:=
 if a.kind=3 then !(decide (1<=a.to.length)&&decide (a.to.length<=220))|| !a.value.isEmpty|| !(decide (1<=a.name.length)&&decide (a.name.length<=220))
 else if a.kind=2 then !a.value.isEmpty|| !(decide (1<=a.name.length)&&decide (a.name.length<=220))|| !a.to.isEmpty
 else if a.kind=1 then !(decide (1<=a.name.length)&&decide (a.name.length<=220))|| !a.to.isEmpty||decide (12000<a.value.length)
 else true
abbrev QF:=List (Bs×Nat)
def QF.del(f:QF)(n:Bs):QF:=f.filter λx=>x.1 !=n
def QF.has(f:QF)(n:Bs):Bool:=f.any λx=>x.1==n
def WD(v:Bs):Nat:=(crc v).toNat
def Xv(k:Nat)(a:Ac)(d:Dir)(f:QF):Option (Dir×QF):=
 match a.kind with
 |1=>some ((d.del a.name).put a.name ⟨a.value.length,WD a.value,[]⟩,f.del a.name++[(a.name,k)])
 |2=>match d.get a.name with
  |some _=>some (d.del a.name,f.del a.name)
  |none=>none
 |3=>match d.get a.name with
  |some e=>if a.to=a.name∨f.has a.name=true then none else some ((d.del a.name).put a.to e,(f.del a.name).del a.to)
  |none=>none
 |_=>none
def Wi:List Ac->Nat->Dir->QF->Option (Dir×QF)
 |[],_,d,f=>some (d,f)
 |a::r,k,d,f=>match Xv k a d f with
  |some (d',f')=>Wi r (k+1) d' f'
  |none=>none
def Yu(n:Nat):Nat:=(n+63) / 64
def XZ(rs:List (Nat×Nat))(a:Nat):List (Nat×Nat):=
 match rs.getLast? with
 |some (f,m)=>if f+m=a then rs.dropLast++[(f,m+1)] else rs++[(a,1)]
 |none=>[(a,1)]
def Wh(l:Qj):List (Nat×Nat):=l.foldl XZ []
def XE(used:Qn):Qj:=(List.range used.length).filter λi=> !used.getD i true
def WF(free:Qj):QF->Dir->Option Dir
 |[],d=>some d
 |x::r,d=>match d.get x.1 with
  |some e=>if Yu e.size<=free.length then WF (free.drop (Yu e.size)) r (d.put x.1 {e with runs:=Wh (free.take (Yu e.size))}) else none
  |none=>none
def JZ(v:Bs):Qq:=str (v.take 64++List.replicate (64- (v.take 64).length) 0)
def W7:List Nat->Bs->List DOp
 |[],_=>[]
 |a::r,v=>.wr a (JZ v)::W7 r (v.drop 64)
def Wb(d:Dir)(Zan:List Ac)(f:QF):List DOp:=
 f.flatMap λx=>match d.get x.1 with
  |some e=>W7 e.Zat (Zan.getD x.2 ⟨0,[],[],[]⟩).value
  |none=>[]
def Wq(d:Dir)(Zan:List Ac)(f:QF):List DOp:=if(Wb d Zan f).isEmpty then[] else Wb d Zan f++[.fl]
def YT(l:List (Nat×Nat)):Bs:=l.flatMap λr=>QI r.1++QI r.2
def Ent.tail(e:Ent):Bs:=QI e.size++QI e.sum++YT e.runs
def XM:Bs:=[97,108,108]
def XT:Bs:=[115,111,109,101]
def Xi(d:Dir):Bs:=Y8 (XM::d.map λx=>Y8 [x.1,x.2.tail])
def Dir.both(a b:Dir):Dir:=b.foldl (λd x=>d.put x.1 x.2) a
def chg(was now:Dir)(f:QF)(n:Bs):Option (Bs×Option Ent):=
 match now.get n with
 |some e=>match was.get n with
  |some o=>if f.has n=false/\e.tail=o.tail then none else some (n,some e)
  |none=>some (n,some e)
 |none=>some (n,none)
def YD(was now:Dir)(f:QF):List (Bs×Option Ent):=(was.both now).names.filterMap (chg was now f)
def YM(x:Bs×Option Ent):Bs:=match x.2 with
 |some e=>Y8 [x.1,e.tail]
 |none=>Y8 [x.1]
def JI(l:List (Bs×Option Ent)):Bs:=Y8 (XT::l.map YM)
structure Sto where
 n:Nat
 half:Nat
 j:Jn
 dir:Dir
 used:Qn
def YA(n half:Nat)(d:Dir):Qn:=(List.range n).map λi=>decide (i<2*half)||d.Zat.contains i
structure Ent.Ok(n half:Nat)(e:Ent):Prop where
 many:∀r∈e.runs,1<=r.2/\2*half<=r.1/\r.1+r.2<=n
 Zat:e.Zat.length=Yu e.size
 size:e.size<=12000
 sum:e.sum<4294967296
structure Dir.Ok(n half:Nat)(d:Dir):Prop where
 sorted:d.Zax
 ent:∀x∈d,Ent.Ok n half x.2
 name:∀x∈d,1<=x.1.length/\x.1.length<=220
 apart:d.Zat.Nodup
def Sto.ZaQ(S:Sto)(Zan:List Ac):Option (Dir×QF):=
 match Wi Zan 0 S.dir [] with
 |some (d,f)=>match WF (XE S.used) f d with
  |some d'=>some (d',f)
  |none=>none
 |none=>none
def Sto.Zbe(S:Sto)(d:Dir)(f:QF):List DOp:=
 if QQ (JI (YD S.dir d f)).length / 64<=S.j.half-S.j.next then S.j.ZaM (JI (YD S.dir d f)) else S.j.ZaI (Xi d)
def Sto.Zbp(S:Sto)(d:Dir)(f:QF):Jn:=
 if QQ (JI (YD S.dir d f)).length / 64<=S.j.half-S.j.next then S.j.appended (JI (YD S.dir d f)) else S.j.reset (Xi d)
def Sto.ops(S:Sto)(Zan:List Ac)(d:Dir)(f:QF):List DOp:=Wq d Zan f++S.Zbe d f
def Sto.done(S:Sto)(d:Dir)(f:QF):Sto:={S with j:=S.Zbp d f,dir:=d,used:=YA S.n S.half d}
def Dk.value(D:Dk)(e:Ent):Bs:=(e.Zat.flatMap λa=>(D.reads a).data.toList).take e.size
def WV(P:Pw)(D:Dk):Int:=if P.gone then 10 else if D.dead then 11 else 0
theorem Z4{d:Dir}{n:Bs}{e:Ent}(h:d.get n=some e):(n,e)∈d:=by
 induction d with
 |nil=>cases h
 |cons x r ih=>unfold Dir.get at h;grind
theorem Z9m{d:Dir}{n:Bs}:d.get n=none↔∀x∈d,x.1≠n:=by
 induction d with
 |nil=>simp[Dir.get]
 |cons x r ih=>unfold Dir.get;grind
def Av(a:Bs):¬a<a:=List.lt_irrefl a
def DZ{a b c:Bs}(h:a<b)(k:b<c):a<c:=List.lt_trans h k
theorem K9(a b:Bs):a<b∨a=b∨b<a:=by grind
theorem Z9k{d:Dir}(hs:d.Zax){n:Bs}{e:Ent}(h:(n,e)∈d):d.get n=some e:=by
 induction d with
 |nil=>cases h
 |cons x r ih=>
  have⟨C,F⟩:=Ze9.1 hs;unfold Dir.get;rcases Zk.1 h with e1|hm
  .grind
  .have:x.1≠n:=by intro e1;have:=C _ hm;rw[e1] at this;exact Av _ this
   rw[Zw this];exact ih F hm
theorem Z99(d:Dir)(n m:Bs):(d.del n).get m=if m=n then none else d.get m:=by
 unfold Dir.del
 induction d with
 |nil=>simp[Dir.get]
 |cons x r ih=>
  rw[Zfl];by_cases hx:x.1=n
  .have:(x.1 !=n)=false:=(by simp[hx]);rw[this];simp;rw[Dir.get];grind
  .have:(x.1 !=n)=true:=(by simp[hx]);rw[this];simp;rw[Dir.get,Dir.get];grind
theorem Za6{d:Dir}(n:Bs)(e:Ent)(m:Bs)(h:d.get n=none):(Dir.ins n e d).get m=if m=n then some e else d.get m:=by
 induction d with
 |nil=>simp[Dir.ins,Dir.get,eq_comm]
 |cons x r ih=>
  unfold Dir.ins;split
  .rw[Dir.get];grind
  .rw[Dir.get] at h⊢;split at h
   .grind
   .rename_i hx;rw[Dir.get];grind
def Z9b(d:Dir)(n:Bs)(e:Ent)(m:Bs):(d.put n e).get m=if m=n then some e else d.get m:=by unfold Dir.put;rw[Za6 n e m (by rw[Z99,Zx rfl]),Z99];simp_all
def Z9e{d:Dir}(h:d.Zax)(n:Bs):(d.del n).Zax:=Zg8 _ h
theorem Z9L{d:Dir}{n:Bs}{e:Ent}{x:Bs×Ent}:x∈Dir.ins n e d↔x=(n,e)∨x∈d:=by
 induction d with
 |nil=>simp[Dir.ins]
 |cons y r ih=>unfold Dir.ins;grind
def Z9j{d:Dir}{n:Bs}{x:Bs×Ent}:x∈d.del n↔x∈d/\x.1≠n:=by simp[Dir.del]
def Z9o{d:Dir}{n:Bs}{e:Ent}{x:Bs×Ent}:x∈d.put n e↔x=(n,e)∨(x∈d/\x.1≠n):=by unfold Dir.put;rw[Z9L,Z9j]
theorem Z9T{d:Dir}(h:d.Zax)(n:Bs)(e:Ent)(O:d.get n=none):(Dir.ins n e d).Zax:=by
 induction d with
 |nil=>simp[Dir.ins,Dir.Zax]
 |cons x r ih=>
  have⟨U,M⟩:=Ze9.1 h;have J:=Z9m.1 O;unfold Dir.ins;split
  .rename_i F;refine Ze9.2 ⟨λy C=> ?_,h⟩;grind
  .rename_i F;refine Ze9.2 ⟨λy C=> ?_,ih M (Z9m.2 λy C=>J y (Zh _ C))⟩;rcases Z9L.1 C with rfl|C
   .grind
   .grind
def Z9l{d:Dir}(h:d.Zax)(n:Bs)(e:Ent):(d.put n e).Zax:=Z9T (Z9e h n) n e (by rw[Z99,Zx rfl])
theorem Dir.ext{a b:Dir}(ha:a.Zax)(hb:b.Zax)(h:∀n,a.get n=b.get n):a=b:=by
 induction a generalizing b with
 |nil=>
  cases b with
  |nil=>rfl
  |cons y r=>have:=h y.1;simp[Dir.get] at this
 |cons x r ih=>
  cases b with
  |nil=>have:=h x.1;simp[Dir.get] at this
  |cons y s=>
   have⟨J,a2⟩:=Ze9.1 ha;have⟨b1,b2⟩:=Ze9.1 hb;have key:x.1=y.1:=by
    rcases K9 x.1 y.1 with k|k|k
    .exfalso;have e1:=h x.1;rw[Dir.get,Zx rfl] at e1;have:=Z4 e1.symm;grind
    .omega
    .exfalso;have e1:=h y.1;rw[Dir.get.eq_2 y.1 y s,Zx rfl] at e1;have:=Z4 e1;grind
   have e0:=h x.1;rw[Dir.get,Dir.get] at e0;have F:x=y:=QA;subst F;rw[ih a2 b2];intro n;by_cases C:x.1=n
   .subst C;rw[Z9m.2,Z9m.2]
    .grind
    .grind
   .have:=h n;rwa[Dir.get,Zw C,Dir.get,Zw C] at this
open Go.ChangeShapes Go.WideShapes Go.Deep
variable{H:Type}{W:World}{a:Option Addr}{cs:List Value}{fuel:Nat}
structure En where
 key:Int
 val:Qq
 gone:Bool
structure En.ok(x:En):Prop where
 k0: -9223372036854775808<=x.key
 k1:x.key<=9223372036854775807
 v:x.val.size<=maxLen
def En.cells(x:En):Qk:=[.int .i64 x.key,.string x.val,.bool x.gone]
def Ap(w:Qs)(a:Qm)(l:List En):Prop:=∀i (h:i<l.length),l[i].ok/\∃b o,a=some ⟨b,o,none⟩/\b<w.heap.size/\∀j v,l[i].cells[j]? =some v->w.cell? ⟨b,o+i*3+j,none⟩=some v
def Ap.after{l:List En}(h:Ap w a l)(hb:Below w w w'):Ap w' a l:=λi hi=>by have⟨F,b,o,J,C,M⟩:=h i hi;exact⟨F,b,o,J,Zp C hb.size,λj v O=>(hb.cell (p:=⟨b,o+i*3+j,none⟩) C).trans (M j v O)⟩
def GG{b o:Nat}{v:Qt}(h:w.cell? ⟨b,o,none⟩=some v):b<w:=Z9 w ⟨b,o,none⟩ h
section
variable{enc:Qu×Qt->H}
theorem ON{t:Qu}{C:Array Field}{x:DataW H×List MemPlace}(ht:prog.underlying t=some (.struct C))(J:oneCellFields prog C=true)(U:prog.cellsOf t=C.size)(h:DataW.trod enc prog W 0 (λ_=>true) true fuel t cs=some x):cs.length=C.size/\∀ (j:Nat) (T:Qu),(C.map (·.type))[j]? =some T->∃ (v:Qt) (y:DataW H×List MemPlace) (n:Nat),cs[j]? =some v/\DataW.trod enc prog W 0 (λ_=>true) true n T [v]=some y:=by have⟨xs,n,_,_,hl,hx,Z⟩:=DataW.trod_struct ht h;refine⟨hl.trans U,λj T F=> ?_⟩;rw[Array.getElem?_map,ZeI] at F;obtain⟨f,F,rfl⟩:=F;have⟨ho,hk⟩:=hone_of J j f F;have:j<C.size:=QA;have O:=Z j f F;have M:j<cs.length:=Qw;rw[ho,hk,Ze1 M,Z8 Qw] at O;grind
def FC{v:Qt}{y:DataW H×List MemPlace}(h:DataW.trod enc prog W 0 (λ_=>true) true n 3 [v]=some y):∃m:Int,v=(m:Int)/\ -9223372036854775808<=m/\m<=9223372036854775807:=by have⟨m,C,_,hw⟩:=DataW.trod_int underlying3 h;simp[Lit.wf,IntKind.min,IntKind.signed,IntKind.bits] at hw;simp_all
def Z7r{v:Qt}{y:DataW H×List MemPlace}(h:DataW.trod enc prog W 0 (λ_=>true) true n 9 [v]=some y):∃s:Qq,v=.string s/\s.size<=maxLen:=by have⟨s,C,_,hw⟩:=DataW.trod_string underlying9 h;simp_all
def VS{v:Qt}{y:DataW H×List MemPlace}(h:DataW.trod enc prog W 0 (λ_=>true) true n 4 [v]=some y):∃b:Bool,v=.bool b:=by have⟨b,C,_⟩:=DataW.trod_bool underlying4 h;simp_all
def Z1m{x:DataW H×List MemPlace}(h:DataW.trod enc prog W 0 (λ_=>true) true fuel 74 cs=some x):∃e:En,cs=e.cells/\e.ok:=by
 obtain⟨C,O,M,hC,J⟩:∃C,prog.underlying 74=some (.struct C)/\oneCellFields prog C=true/\prog.cellsOf 74=C.size/\C.map (·.type)= #[3,9,4]:=⟨_,underlying74,Qy,Qy,Qy⟩;have⟨hl,F⟩:=ON O M hC h;have hs:C.size=3:=by have:=ZF Array.size J;simpa using this
 rw[J] at F;rw[hs] at hl
 match cs,hl with
 |[c0,c1,c2],_=>have⟨_,_,_,e0,U⟩:=F 0 _ rfl;have⟨_,_,_,e1,Z⟩:=F 1 _ rfl;have⟨_,_,_,e2,h2⟩:=F 2 _ rfl;obtain rfl:c0=_:=ZdZ e0;obtain rfl:c1=_:=ZdZ e1;obtain rfl:c2=_:=ZdZ e2;obtain⟨m0,rfl,a0,b0⟩:=FC U;obtain⟨s,rfl,hs⟩:=Z7r Z;obtain⟨b,rfl⟩:=VS h2;exact⟨⟨m0,s,b⟩,rfl,⟨a0,b0,hs⟩⟩
theorem KF{len cap:Nat}{y:DataW H×List MemPlace}(hf:DataW.trod enc prog W 0 (λ_=>true) true fuel 29 [.slice a len cap]=some y):∃l:List En,len=l.length/\len<=cap/\cap<=maxLen/\Ap W a l:=by
 rcases open_slice underlying29 hf with ⟨h,_⟩|⟨x,l,c,m,n,D,Pl,h,_,hl,hm,af,_,hi⟩
 .simp at h;obtain⟨rfl,rfl,rfl⟩:=h;exact⟨[],rfl,Zt _,ZeT _,λi hi=>by simp at hi⟩
 .simp at h;obtain⟨rfl,rfl,rfl⟩:=h;simp at af;have h3:prog.cellsOf 74=3:=Qy;rw[h3] at hi;have hex:∀i,i<len->∃e:En,e.ok/\∀j v,e.cells[j]? =some v->W.cell? ((x.add (i*3)).add j)=some v:=by intro i ae;have⟨ag,hc,ht⟩:=hi i Qw;obtain⟨e,rfl,F⟩:=Z1m ht;have⟨_,ai,ah⟩:=World.cells?_some hc;grind
  have:Inhabited En:=⟨⟨0,⟨#[]⟩,false⟩⟩;have⟨f,C⟩:=choose_lt (α:=En) hex;refine⟨(List.range len).map f,Qx,hl,hm,λi ae=> ?_⟩;have O:i<len:=QB;have e0:((List.range len).map f)[i]=f i:=Qx;rw[e0];have⟨F,J⟩:=C i O;have U:=J 0 _ rfl;have Z:=(C 0 Qw).2 0 _ rfl;have⟨b,o,spot⟩:=x;have M:spot=none:=by simpa[Addr.add] using ZgS Z
  subst M;have ea:∀j,((⟨b,o,none⟩:Addr).add (i*3)).add j=⟨b,o+i*3+j,none⟩:=by intro j;unfold Addr.add;grind
  refine⟨F,b,o,rfl,?_,λj v hj=> ?_⟩
  .have:=U;rw[ea] at this;exact GG this
  .simp_all
end
def IM(B:Nat)(c:Int)(v:Qt)(w:Qs)(h:QK w B c v)(ht:Ty w):Calls prog 151 #[v] w λe w'=>∃v',e=.returned v'/\QK w' (min B w.heap.size) c v'/\Below w w w':=by
 rcases h with ⟨rfl,rfl⟩|⟨hc,n,hn⟩
 .go_enter func151,ntmps151;go_wp2_with (go_at_call 102;refine(K0 _ _).mono ?_;rintro e w' ⟨rfl,rfl⟩);go_ret;exact⟨_,rfl,QK.nil _ _,(Zu _ _).alloc (Zt _) _⟩
 .match n,hn with
  |n+1,⟨b,at_,inner,hv,hB,F,hi⟩=>subst hv;have c0:=F.c0;have ah:=F.lt;have af:Ty (w.alloc (.cells #[.pointer none] 139)):=ht.below ((Zu _ _).alloc (Zt _) _);have U:(w.alloc (.cells #[.pointer none] 139)).cell? ⟨w,0,none⟩=some (.pointer none):=Qx;have ae:(w.alloc (.cells #[.pointer none] 139)).frozen? ⟨w,0,none⟩=false:=Qx;have O:=ZM F hi;clear F hi;go_enter func151,ntmps151;go_wp2_with fail;refine(F0 _ _ (.pointer none) _ af U ae).mono ?_;rintro e w1 ⟨rfl,ag,Z⟩;have M:Fr [w.heap.size] w w1:=((Fr.refl _ w).alloc _).trans Z Qx;have J:Below w w w1:=M.below (Zt _) Qx;have c1:w1.cell? b=(c:Int):=(O.1.after J).c0;have C:=ZM M J;clear M J Z af U ae c0;go_wp2;go_ret;exact⟨_,rfl,Zy ⟨hc,n+2,w1.heap.size,0,_,rfl,by have:=C.1.size;omega,Z2 w1 _ _,Zy ⟨b,at_,inner,rfl,Qw,(O.1.after C.2).alloc _,O.2.imp id (λh=>(h.below (B':=0) C.2).below (B':=0) ((Zu _ _).alloc (Zt _) _)|>.base Qw)⟩⟩,C.2.alloc (by have:=C.1.size;omega) _⟩
def IN(B:Nat)(c:Int)(v:Qt)(w:Qs)(h:QK w B c v)(ht:Ty w):Calls prog 93 #[v] w λe w'=>∃v',e=.returned v'/\QK w' (min B w.heap.size) c v'/\Below w w w':=by
 rcases h with ⟨rfl,rfl⟩|⟨hc,n,hn⟩
 .go_enter func93,ntmps93;go_wp2_with (go_at_call 102;refine(K0 _ _).mono ?_;rintro e w' ⟨rfl,rfl⟩);go_ret;exact⟨_,rfl,QK.nil _ _,(Zu _ _).alloc (Zt _) _⟩
 .match n,hn with
  |n+1,⟨b,at_,inner,hv,hB,F,hi⟩=>subst hv;have c0:=F.c0;have ah:=F.lt;have af:Ty (w.alloc (.cells #[.pointer none] 139)):=ht.below ((Zu _ _).alloc (Zt _) _);have U:(w.alloc (.cells #[.pointer none] 139)).cell? ⟨w,0,none⟩=some (.pointer none):=Qx;have ae:(w.alloc (.cells #[.pointer none] 139)).frozen? ⟨w,0,none⟩=false:=Qx;have O:=ZM F hi;clear F hi;go_enter func93,ntmps93;go_wp2_with fail;refine(F0 _ _ (.pointer none) _ af U ae).mono ?_;rintro e w1 ⟨rfl,ag,Z⟩;have M:Fr [w.heap.size] w w1:=((Fr.refl _ w).alloc _).trans Z Qx;have J:Below w w w1:=M.below (Zt _) Qx;have c1:w1.cell? b=(c:Int):=(O.1.after J).c0;have C:=ZM M J;clear M J Z af U ae c0;go_wp2;go_ret;exact⟨_,rfl,Zy ⟨hc,n+2,w1.heap.size,0,_,rfl,by have:=C.1.size;omega,Z2 w1 _ _,Zy ⟨b,at_,inner,rfl,Qw,(O.1.after C.2).alloc _,O.2.imp id (λh=>(h.below (B':=0) C.2).below (B':=0) ((Zu _ _).alloc (Zt _) _)|>.base Qw)⟩⟩,C.2.alloc (by have:=C.1.size;omega) _⟩
def Gn(B:Nat)(c:Int)(v:Qt)(w:Qs)(h:QK w B c v)(ht:Ty w):Calls prog 49 #[v] w λe w'=>∃v',e=.returned v'/\QK w' (min B w.heap.size) c v'/\Below w w w':=by
 rcases h with ⟨rfl,rfl⟩|⟨hc,n,hn⟩
 .go_enter func49,ntmps49;go_wp2_with (go_at_call 102;refine(K0 _ _).mono ?_;rintro e w' ⟨rfl,rfl⟩);go_ret;exact⟨_,rfl,QK.nil _ _,(Zu _ _).alloc (Zt _) _⟩
 .match n,hn with
  |n+1,⟨b,at_,inner,hv,hB,F,hi⟩=>subst hv;have c0:=F.c0;have ah:=F.lt;have af:Ty (w.alloc (.cells #[.pointer none] 139)):=ht.below ((Zu _ _).alloc (Zt _) _);have U:(w.alloc (.cells #[.pointer none] 139)).cell? ⟨w,0,none⟩=some (.pointer none):=Qx;have ae:(w.alloc (.cells #[.pointer none] 139)).frozen? ⟨w,0,none⟩=false:=Qx;have O:=ZM F hi;clear F hi;go_enter func49,ntmps49;go_wp2_with fail;refine(F0 _ _ (.pointer none) _ af U ae).mono ?_;rintro e w1 ⟨rfl,ag,Z⟩;have M:Fr [w.heap.size] w w1:=((Fr.refl _ w).alloc _).trans Z Qx;have J:Below w w w1:=M.below (Zt _) Qx;have c1:w1.cell? b=(c:Int):=(O.1.after J).c0;have C:=ZM M J;clear M J Z af U ae c0;go_wp2;go_ret;exact⟨_,rfl,Zy ⟨hc,n+2,w1.heap.size,0,_,rfl,by have:=C.1.size;omega,Z2 w1 _ _,Zy ⟨b,at_,inner,rfl,Qw,(O.1.after C.2).alloc _,O.2.imp id (λh=>(h.below (B':=0) C.2).below (B':=0) ((Zu _ _).alloc (Zt _) _)|>.base Qw)⟩⟩,C.2.alloc (by have:=C.1.size;omega) _⟩
def DOp.app(D:Dk):DOp->Dk
 |.wr a s=>{D with wait:=D.wait++[(a,s)]}
 |.fl=>D.ZaR
def Yn(l:List DOp)(D:Dk):Dk:=l.foldl DOp.app D
def DOp.In(n:Nat):DOp->Prop
 |.wr a s=>a<n/\s.size=64
 |.fl=>True
def DOp.rd(R:Nat->ByteArray):DOp->Nat->ByteArray
 |.wr a s=>λb=>if a=b then s else R b
 |.fl=>R
def Y0(l:List DOp)(R:Nat->ByteArray):Nat->ByteArray:=l.foldl DOp.rd R
def Pw.lets(P:Pw)(k:Nat):Prop:=P.gone=false/\(P.Zas<0∨(k:Int)<=P.Zas)
def Pw.less(P Q:Pw)(k:Nat):Prop:=Q.gone=false/\Q.Zas=(if P.Zas<0 then P.Zas else P.Zas-k)
def Nv(a b:List DOp)(D:Dk):Yn (a++b) D=Yn b (Yn a D):=by simp[Yn]
def XS(a b:List DOp)(R:Nat->ByteArray):Y0 (a++b) R=Y0 b (Y0 a R):=by simp[Y0]
def Ib{P:Pw}{D:Dk}{a:Nat}(C:P.gone=false)(h:D.dead=false)(hl:D.has.length=64*n)(ha:a<n):rdy P D a=0:=by rw[Et C h hl,Zw Qw]
structure Dk.Fit(D:Dk)(n:Nat):Prop where
 len:D.has.length=64*n
 n1:1<=n
 Zcc:∀x,x∈D.wait->x.1<n/\x.2.size=64
def Dk.ok.fit{D:Dk}(h:D.ok n):D.Fit n:=⟨h.len,h.n1,λx hx=>⟨h.at_ x hx,h.size x hx⟩⟩
def Dk.Fit.app{D:Dk}(h:D.Fit n)(o:DOp)(C:o.In n):(o.app D).Fit n:=by
 cases o with
 |wr a s=>exact⟨h.len,h.n1,by intro x hx;simp[DOp.app] at hx;rcases hx with hx|rfl;exact h.Zcc x hx;exact C⟩
 |fl=>exact⟨KR _ _ n h.len h.Zcc,h.n1,by simp[DOp.app,Dk.ZaR]⟩
def Dk.Fit.apps{D:Dk}{l:List DOp}(h:D.Fit n)(hl:∀o∈l,o.In n):(Yn l D).Fit n:=by
 induction l generalizing D with
 |nil=>exact h
 |cons o l ih=>exact ih (h.app o (hl o Qx)) (λq C=>hl q QA)
def EZ(D:Dk)(o:DOp):(o.app D).dead=D.dead:=by cases o<;>rfl
def IX(D:Dk)(l:List DOp):(Yn l D).dead=D.dead:=by
 induction l generalizing D with
 |nil=>rfl
 |cons o l ih=>exact(ih _).trans (EZ D o)
def US(D:Dk)(o:DOp):(o.app D).Zaq=D.Zaq:=by cases o<;>rfl
def UR(D:Dk)(l:List DOp):(Yn l D).Zaq=D.Zaq:=by
 induction l generalizing D with
 |nil=>rfl
 |cons o l ih=>exact(ih _).trans (US D o)
theorem Gw{P:Pw}(C:P.gone=false)(F:P.Zas<0∨1<=P.Zas):P.can=true/\P.act.gone=false/\P.act.Zas=if P.Zas<0 then P.Zas else P.Zas-1:=by
 have h:P.Zas≠0:=Qw;refine⟨by simp[Pw.can,h],?_,?_⟩
 .unfold Pw.act;rw[Zw h];exact C
 .unfold Pw.act;rw[Zw h];grind
def Mw{P:Pw}{D:Dk}{o:DOp}(h:D.Fit n)(F:P.gone=false)(M:D.dead=false)(J:o.In n)(O:P.Zas<0∨1<=P.Zas):o.code P D=0/\o.pow P D=P.act/\o.dk P D=o.app D:=by
 have hc:=(Gw F O).1;cases o with
 |wr a s=>
  have C:=Ib F M h.len J.1;have e1:X8 P D a s=0:=by unfold X8;rw[Zx C,Zx J.2,hc];rfl
  refine⟨e1,?_,?_⟩
  .show XB P D a s=_;unfold XB;rw[Zx ⟨C,J.2⟩]
  .show wdk P D a s=_;unfold wdk;rw[Zx e1];rfl
 |fl=>
  have C:rdy P D 0=0:=Ib F M h.len (a:=0) (by have:=h.n1;omega);have e1:Ja P D=0:=by unfold Ja;rw[Zx C,hc];rfl
  refine⟨e1,?_,?_⟩
  .show JC P D=_;unfold JC;rw[Zx C]
  .show fdk P D=_;unfold fdk;rw[Zx e1];rfl
def TM{P:Pw}{D:Dk}{o:DOp}(h:D.Fit n)(O:P.gone=false)(J:D.dead=false)(F:o.In n)(M:P.Zas=0):o.code P D=10/\(o.pow P D).gone=true/\o.dk P D=D:=by
 have hc:P.can=false:=by simp[Pw.can,M]
 have ha:P.act.gone=true:=by unfold Pw.act;rw[Zx M]
 cases o with
 |wr a s=>
  have C:=Ib O J h.len F.1;have e1:X8 P D a s=10:=by unfold X8;rw[Zx C,Zx F.2,hc];rfl
  refine⟨e1,?_,?_⟩
  .show(XB P D a s).gone=_;unfold XB;rw[Zx ⟨C,F.2⟩];exact ha
  .show wdk P D a s=_;unfold wdk;rw[e1];rfl
 |fl=>
  have C:rdy P D 0=0:=Ib O J h.len (a:=0) (by have:=h.n1;omega);have e1:Ja P D=10:=by unfold Ja;rw[Zx C,hc];rfl
  refine⟨e1,?_,?_⟩
  .show(JC P D).gone=_;unfold JC;rw[Zx C];exact ha
  .show fdk P D=_;unfold fdk;rw[e1];rfl
theorem CR{l:List DOp}{P:Pw}{D:Dk}(h:D.Fit n)(J:D.dead=false)(C:∀o∈l,o.In n)(hl:P.lets l.length):∃Q,QH l P D=(0,Q,Yn l D)/\P.less Q l.length:=by
 induction l generalizing P D with
 |nil=>exact⟨P,rfl,hl.1,by split<;>simp⟩
 |cons o l ih=>
  have⟨M,U⟩:=hl;simp at U;have F:P.Zas<0∨1<=P.Zas:=Qw;have⟨e1,e2,O⟩:=Mw h M J (C o Qx) F;have⟨_,a2,a3⟩:=Gw M F;have⟨Q,Z,q2,q3⟩:=ih (P:=P.act) (D:=o.app D) (h.app o (C o Qx)) (by rw[EZ,J]) (λq hq=>C q QA) ⟨a2,by rw[a3];split<;>omega⟩;refine⟨Q,?_,q2,?_⟩
  .simp[QH];rw[Zx e1,e2,O,Z];rfl
  .grind
def SO{l:List DOp}{P:Pw}{D:Dk}(h:D.Fit n)(M:D.dead=false)(C:∀o∈l,o.In n)(O:P.gone=false)(k:Nat)(F:P.Zas=k)(hl:k<l.length):∃Q,QH l P D=(10,Q,Yn (l.take k) D)/\Q.gone=true:=by
 induction l generalizing P D k with
 |nil=>simp at hl
 |cons o l ih=>
  match k,F,hl with
  |0,F,_=>have⟨e1,e2,J⟩:=TM h O M (C o Qx) F;exact⟨o.pow P D,by simp[QH];rw[e1,J];rfl,e2⟩
  |k+1,F,hl=>have U:P.Zas<0∨1<=P.Zas:=Qw;have⟨e1,e2,J⟩:=Mw h O M (C o Qx) U;have⟨_,a2,a3⟩:=Gw O U;have⟨Q,Z,q2⟩:=ih (P:=P.act) (D:=o.app D) (h.app o (C o Qx)) (by rw[EZ,M]) (λq hq=>C q QA) a2 k Qw QB;exact⟨Q,by simp[QH];rw[Zx e1,e2,J,Z];rfl,q2⟩
def UT{D:Dk}(h:D.Fit n)(o:DOp):(o.app D).reads=o.rd D.reads:=by
 cases o with
 |wr a s=>funext b;show Dk.reads {D with wait:=D.wait++[(a,s)]} b=_;rw[Sq,Z5z];rfl
 |fl=>
  funext b
  exact OR D.wait D.has n b h.len h.Zcc
def Bo{D:Dk}{l:List DOp}(h:D.Fit n)(C:∀o∈l,o.In n):(Yn l D).reads=Y0 l D.reads:=by
 induction l generalizing D with
 |nil=>rfl
 |cons o l ih=>show(Yn l (o.app D)).reads=_;rw[ih (h.app o (C o Qx)) (λq F=>C q QA),UT h o];rfl
def EY(l:List DOp)(D:Dk):(Yn (l++[.fl]) D).wait=[]:=by rw[Nv];rfl
def B6{D:Dk}(h:D.wait=[])(a:Nat):D.reads a=D.ZaB a:=by rw[Sq,h];rfl
variable{R R':Nat->ByteArray}{a b e m:Nat}{rs:List Bs}
def WJ(s:Qq):UInt8:=s.data.toList.getD 0 0
def Bm(R:Nat->ByteArray)(e:Nat):Nat->Nat->List Bs->Prop
 |_,_,[]=>True
 |a,m,r::rs=>(∀q,q<QQ r.length / 64->R (a+q)=Ya (QO e (m+1) r) q)/\Bm R e (a+QQ r.length / 64) (m+1) rs
structure N8(R:Nat->ByteArray)(base half e:Nat)(rs:List Bs):Prop where
 head:R base=str (QO e 0 Yk)
 Zau:Bm R e (base+1) 0 rs
 fits:1+Yf rs<=half
 stop:1+Yf rs<half->WJ (R (base+(1+Yf rs)))≠1
def Dd(R:Nat->ByteArray)(base e:Nat):Prop:=WJ (R base)≠1∨∃e',e'<e/\R base=str (QO e' 0 Yk)
structure Wm(R:Nat->ByteArray)(J:Jn)(rs:List Bs):Prop where
 on:N8 R (J.at_ J.second 0) J.half J.Zar rs
 off:Dd R (J.at_ (!J.second) 0) J.Zar
 many:J.many=rs.length
 next:J.next=1+Yf rs
 Zar:1<=J.Zar
def Z6I(l:Bs)(i n:Nat)(h:l.length=64*n)(hi:i<n):(Ya l i).size=64:=by unfold Ya;rw[QW,Ij l n i h hi]
def N1:YY.size=64:=by rfl
def AA:WJ YY≠1:=by unfold WJ YY;rw[Yp];decide
def Jj(l:Bs)(h:l≠[]):(Yl l).length=l.length:=by
 cases l with
 |nil=>exact absurd rfl h
 |cons x r=>simp[Yl]
def Z6M(l:Bs)(i:Nat)(hi:1<=i):sec (Yl l) i=sec l i:=by
 unfold sec;cases l with
 |nil=>obtain⟨m,hm⟩:∃m,i*64=m+1:=⟨i*64-1,Qw⟩;rw[hm];simp[Yl]
 |cons x r=>obtain⟨m,hm⟩:∃m,i*64=m+1:=⟨i*64-1,Qw⟩;rw[hm];simp[Yl]
def Ee(l:Bs):WJ (Ya (Yl l) 0)≠1:=by unfold WJ Ya sec;rw[Yp];simp[Yl]
def EO(a:Nat)(l:Bs):(wrs a l).length=l.length / 64:=by simp[wrs]
def Gp{l:Bs}(hl:l.length%64=0)(h:a+l.length / 64<=n):∀o∈wrs a l,o.In n:=by intro o C;simp[wrs] at C;obtain⟨i,hi,rfl⟩:=C;exact⟨Qw,Z6I l i (l.length / 64) Qw hi⟩
def Z5u{o:DOp}(h:∀a s,o=.wr a s->a≠b):o.rd R b=R b:=by
 cases o with
 |wr a s=>show(if a=b then s else R b)=_;rw[Zw (h a s rfl)]
 |fl=>rfl
def FT{l:List DOp}(h:∀a s,.wr a s∈l->a≠b):Y0 l R b=R b:=by
 induction l generalizing R with
 |nil=>rfl
 |cons o l ih=>show Y0 l (o.rd R) b=_;rw[ih (λa s hm=>h a s QA),Z5u (λa s e=>h a s QB)]
theorem DH(a:Nat)(l:Bs)(R:Nat->ByteArray)(b:Nat):Y0 (wrs a l) R b=if a<=b/\b<a+l.length / 64 then Ya l (b-a) else R b:=by
 unfold wrs;generalize l.length / 64=m
 induction m with
 |zero=>rw[Zw Qx];rfl
 |succ m ih=>rw[ZdX,Zo,XS];show(if a+m=b then Ya l m else _)=_;grind
def Bm.congr(h:Bm R e a m rs)(C:∀b,a<=b->b<a+Yf rs->R' b=R b):Bm R' e a m rs:=by
 induction rs generalizing a m with
 |nil=>trivial
 |cons r rs ih=>have⟨F,J⟩:=h;have:Yf (r::rs)=QQ r.length / 64+Yf rs:=rfl;exact⟨λq M=>by rw[C _ Qx Qw];exact F q M,ih J (λb O U=>C b Qw Qw)⟩
def M7(a b:List Bs):Yf (a++b)=Yf a+Yf b:=by simp[Yf]
theorem Bm.snoc{r:Bs}(h:Bm R e a m rs)(F:∀q,q<QQ r.length / 64->R (a+Yf rs+q)=Ya (QO e (m+rs.length+1) r) q):Bm R e a m (rs++[r]):=by
 induction rs generalizing a m with
 |nil=>exact⟨λq C=>F q C,trivial⟩
 |cons x rs ih=>have⟨J,M⟩:=h;refine⟨J,ih M (λq C=> ?_)⟩;have:=F q C;rw[show Yf (x::rs)=QQ x.length / 64+Yf rs from rfl] at this;grind
theorem Wm.congr{J:Jn}(h:Wm R J rs)(F:∀b,b<2*J.half->R' b=R b)(h1:1<=J.half):Wm R' J rs:=by
 have C:∀s k,k<J.half->J.at_ s k<2*J.half:=λs k hk=>by unfold Jn.at_;split<;>omega
 have M:∀s k,J.at_ s 0+k=J.at_ s k:=λs k=>by unfold Jn.at_;split<;>omega
 have e0:=F _ (C J.second 0 Qw);have e1:=F _ (C (!J.second) 0 Qw);have O:=h.on.fits;refine⟨⟨by rw[e0];exact h.on.head,h.on.Zau.congr (λb U Z=>F b ?_),O,λhs=> ?_⟩,?_,h.many,h.next,h.Zar⟩
 .have:=C J.second (J.half-1) Qw;grind
 .have:=C J.second (1+Yf rs) Qw;rw[<-M] at this;rw[F _ this];exact h.on.stop hs
 .unfold Dd;rw[e1];exact h.off
def B4(e n:Nat)(r:Bs):QO e n r≠[]:=by unfold QO;simp
def DE(e n:Nat)(r:Bs):(QO e n r).length / 64=QQ r.length / 64/\(QO e n r).length%64=0:=by rw[Ce];exact⟨rfl,Dj _⟩
def Fj(n:Nat):1<=QQ n / 64:=by unfold QQ;omega
def Xw(e:Nat):(QO e 0 Yk).length=64:=by rfl
def Tl(l:Bs)(h:l.length=64):sec l 0=l:=by unfold sec;rw[ZfC,Zey,Zi Qw]
def Tq(l:Bs):sec (l.take 64) 0=sec l 0:=by unfold sec;rw[ZfC,Zey,Zey,ZfQ];rfl
theorem Sp(J:Jn)(s:Bool)(k:Nat)(l:Bs)(R:Nat->ByteArray)(hl:l.length%64=0)(C:l≠[])(b:Nat):Y0 (J.lay s k l) R b=if J.at_ s k<=b/\b<J.at_ s k+l.length / 64 then Ya l (b-J.at_ s k) else if b=J.at_ s (k+l.length / 64)/\k+l.length / 64<J.half then YY else R b:=by
 have:64<=l.length:=by have:0<l.length:=QA;omega
 have:J.at_ s (k+l.length / 64)=J.at_ s k+l.length / 64:=by unfold Jn.at_;split<;>omega
 have:(l.take 64).length=64:=QB;unfold Jn.lay;rw[XS,XS,XS,XS];show Y0 (wrs (J.at_ s k) (l.take 64)) _ b=_;rw[DH];by_cases h:b=J.at_ s k
 .rw[Zx Qw,Zx Qw,h,Zgm];unfold Ya;rw[Tq]
 .rw[Zw Qw];show Y0 (J.clean s (k+l.length / 64)) _ b=_;have hw:∀R,Y0 (wrs (J.at_ s k) (Yl l)) R b=if J.at_ s k<=b/\b<J.at_ s k+l.length / 64 then Ya l (b-J.at_ s k) else R b:=by
   intro R;rw[DH,Jj l C];split
   .unfold Ya;rw[Z6M _ _ Qw]
   .rfl
  unfold Jn.clean;by_cases hc:J.half<=k+l.length / 64
  .rw[Zx hc,show Y0 [] (Y0 (wrs (J.at_ s k) (Yl l)) R) b=Y0 (wrs (J.at_ s k) (Yl l)) R b from rfl,hw];grind
  .rw[Zw hc];show(if J.at_ s (k+l.length / 64)=b then YY else Y0 (wrs (J.at_ s k) (Yl l)) R b)=_;grind
def Wm.append{J:Jn}(h:Wm R J rs)(r:Bs)(hr:QQ r.length / 64<=J.half-J.next):Wm (Y0 (J.ZaM r) R) (J.appended r) (rs++[r]):=by
 have:=h.next
 have:=h.on.fits;have⟨m1,m2⟩:=DE J.Zar (J.many+1) r;have key:=λb=>Sp J J.second J.next (QO J.Zar (J.many+1) r) R m2 (B4 _ _ _) b
 change∀b,Y0 (J.ZaM r) R b=_ at key;have C:∀s k,J.at_ s k=J.at_ s 0+k:=λs k=>by unfold Jn.at_;split<;>omega
 have:J.at_ (!J.second) 0+J.half<=J.at_ J.second 0∨J.at_ J.second 0+J.half<=J.at_ (!J.second) 0:=by unfold Jn.at_;cases J.second<;>simp
 have F:Yf (rs++[r])=Yf rs+QQ r.length / 64:=by rw[M7];rfl
 have same:∀b,(b<J.at_ J.second 0+J.next∨J.at_ J.second 0+J.half<=b)->Y0 (J.ZaM r) R b=R b:=QA;refine⟨⟨?_,?_,?_,?_⟩,?_,?_,?_,h.Zar⟩
 .show Y0 (J.ZaM r) R (J.at_ J.second 0)=_;rw[same _ Qw];exact h.on.head
 .show Bm _ J.Zar (J.at_ J.second 0+1) 0 (rs++[r]);refine(h.on.Zau.congr (λb O U=>same b Qw)).snoc (λq hq=> ?_);rw[key,C J.second J.next,Zx Qw];rw[show J.at_ J.second 0+1+Yf rs+q- (J.at_ J.second 0+J.next)=q from Qw,h.many,Ze5]
 .show 1+Yf (rs++[r])<=J.half;omega
 .intro hs;change 1+Yf (rs++[r])<J.half at hs;show WJ (Y0 (J.ZaM r) R (J.at_ J.second 0+(1+Yf (rs++[r]))))≠1;rw[key,C J.second J.next,C J.second (J.next+_),Zw Qw,Zx Qw];exact AA
 .show Dd _ (J.at_ (!J.second) 0) J.Zar;have e:=same (J.at_ (!J.second) 0) Qw;unfold Dd;rw[e];exact h.off
 .show J.many+1=_;rw[h.many,Zb];rfl
 .show J.next+QQ r.length / 64=_;rw[F];omega
theorem Wm.reset{J:Jn}(h:Wm R J rs)(r:Bs)(Z:1+QQ r.length / 64<=J.half):Wm (Y0 (J.ZaI r) R) (J.reset r) [r]:=by
 have⟨m1,m2⟩:=DE (J.Zar+1) 1 r;have C:∀s k,J.at_ s k=J.at_ s 0+k:=λs k=>by unfold Jn.at_;split<;>omega
 have:J.at_ (!J.second) 0+J.half<=J.at_ J.second 0∨J.at_ J.second 0+J.half<=J.at_ (!J.second) 0:=by unfold Jn.at_;cases J.second<;>simp
 have:(QO (J.Zar+1) 0 Yk).length / 64=1:=by rw[Xw]
 have:(Yl (QO (J.Zar+1) 0 Yk)).length / 64=1:=by rw[Jj _ (B4 _ _ _),Xw]
 have key:∀b,Y0 (J.ZaI r) R b=if b=J.at_ (!J.second) 0 then str (QO (J.Zar+1) 0 Yk)
   else if b=J.at_ (!J.second) 0+(1+QQ r.length / 64)/\1+QQ r.length / 64<J.half then YY
   else if J.at_ (!J.second) 0+1<=b/\b<J.at_ (!J.second) 0+1+QQ r.length / 64 then Ya (QO (J.Zar+1) 1 r) (b- (J.at_ (!J.second) 0+1)) else R b:=by
  intro b;unfold Jn.ZaI;rw[XS,XS,XS,XS,XS];show Y0 (wrs (J.at_ (!J.second) 0) (QO (J.Zar+1) 0 Yk)) _ b=_;rw[DH];by_cases hb:b=J.at_ (!J.second) 0
  .rw[Zx Qw,Zx hb,hb,Zgm];unfold Ya;rw[Tl _ (Xw _)]
  .rw[Zw Qw,Zw hb];show Y0 (wrs (J.at_ (!J.second) 0) (Yl (QO (J.Zar+1) 0 Yk))) _ b=_;rw[DH,Zw Qw];unfold Jn.clean;by_cases hc:J.half<=1+QQ r.length / 64
   .rw[Zx hc,Zw Qw];show Y0 (wrs (J.at_ (!J.second) 1) (QO (J.Zar+1) 1 r)) R b=_;rw[DH,m1,C (!J.second) 1]
   .rw[Zw hc];show(if J.at_ (!J.second) (1+QQ r.length / 64)=b then YY else Y0 (wrs (J.at_ (!J.second) 1) (QO (J.Zar+1) 1 r)) R b)=_;rw[C (!J.second) (1+_)];by_cases F:b=J.at_ (!J.second) 0+(1+QQ r.length / 64)
    .simp_all
    .rw[Zw (λe=>F e.symm),Zw (λe=>F e.1),DH,m1,C (!J.second) 1]
 have M:Yf [r]=QQ r.length / 64:=by rfl
 refine⟨⟨?_,⟨λq U=> ?_,trivial⟩,?_,λhs=> ?_⟩,?_,rfl,?_,?_⟩
 .show Y0 (J.ZaI r) R (J.at_ (!J.second) 0)=str (QO (J.Zar+1) 0 Yk);simp_all
 .show Y0 (J.ZaI r) R (J.at_ (!J.second) 0+1+q)=Ya (QO (J.Zar+1) 1 r) q;grind
 .show 1+Yf [r]<=J.half;omega
 .change 1+Yf [r]<J.half at hs;show WJ (Y0 (J.ZaI r) R (J.at_ (!J.second) 0+(1+Yf [r])))≠1;rw[key,Zw Qx,M,Zx ⟨rfl,Qw⟩];exact AA
 .refine Zy ⟨J.Zar,by show J.Zar<J.Zar+1;omega,?_⟩;show Y0 (J.ZaI r) R (J.at_ (!!J.second) 0)=_;rw[Bool.not_not,key,Zw Qw,Zw Qw,Zw Qw];exact h.on.head
 .rfl
 .show 1<=J.Zar+1;omega
def Z9M(R:Nat->ByteArray)(half:Nat)(hh:2<=half):Wm (Y0 (Z3 half) R) (Jn.first half) []:=by
 have key:=λb=>Sp ⟨half,false,1,0,1,false⟩ false 0 (QO 1 0 Yk) (Y0 (Jn.clean ⟨half,false,1,0,1,false⟩ true 0) R) (by rfl) (B4 _ _ _) b;rw[Xw] at key;have e:∀b,Y0 (Z3 half) R b=_:=λb=>by
  have:Y0 (Z3 half) R=Y0 (Jn.lay ⟨half,false,1,0,1,false⟩ false 0 (QO 1 0 Yk)) (Y0 (Jn.clean ⟨half,false,1,0,1,false⟩ true 0) R):=by unfold Z3;rw[XS]
  rw[this,key]
 simp[Jn.at_] at e;refine⟨⟨?_,trivial,?_,λhs=> ?_⟩,Zv ?_,rfl,rfl,?_⟩
 .show Y0 (Z3 half) R 0=_;rw[e];unfold Ya;rw[Tl _ (Xw _)];rfl
 .show 1+0<=half;omega
 .show WJ (Y0 (Z3 half) R (0+(1+0)))≠1;rw[e,Zw Qx,Zx Qw];exact AA
 .show WJ (Y0 (Z3 half) R (0+half))≠1;rw[Ze5,e,Zw Qw,Zw Qw];unfold Jn.clean;rw[Zw QA];show WJ (if 0+half=half then YY else R half)≠1;rw[Zx Qx];exact AA
 .exact Zt 1
variable{D:Dk}{P:Pw}{a b:ByteArray}{j:Nat}
def Z5K(h:a=b):Ending.returned (.string a)=.returned (.string b):=by rw[h]
def JAt(w:Qs)(j d:Nat)(J:Jn):Prop:=Row w j 225 [d,(0:Int),(J.half:Int),J.second,(J.Zar:Int),(J.many:Int),(J.next:Int),J.closed]
def JAt.after{J:Jn}(h:JAt w j d J)(hb:Below w w w'):JAt w' j d J:=Row.after h hb
def JAt.did{P1:Pw}{D1:Dk}{J:Jn}(h:Did B p d n L X P1 D1 w w1 L1)(C:PD B w p d n P D L)(M:JAt w j d J)(F:j∉X):JAt w1 j d J:=h.row C M F Qx Qx Qx Qx
structure Jn.Fit(J:Jn):Prop where
 half:J.half<=100000
 Zar:J.Zar<=3000000000
 many:J.many<=100000
 next:J.next<=100000
def Vs(J:Jn)(s:Bool)(k:Nat):J.at_ s k<=k+J.half:=by unfold Jn.at_;split<;>omega
def Hk(j d:Nat)(J:Jn)(s:Bool)(k:Nat)(w:Qs)(h:JAt w j d J)(C:k<=100000000)(hh:J.half<=100000):Calls prog 212 #[j,s,(k:Int)] w λe w'=>e=.returned (.int .i64 (J.at_ s k:Nat))/\w=w':=by
 have c1:=h.c1;have c2:=h.c2;cases s
 .go_enter func212,ntmps212;go_wp2;go_ret;exact⟨A7 (by rfl),rfl⟩
 .go_enter func212,ntmps212;go_wp2;go_ret;exact⟨A7 (by rfl),rfl⟩
def JJ(h:a.data.toList=b.data.toList):a=b:=ZgA (Zg1.1 h)
def Mz(a b:Qq):a++b=str (a.data.toList++b.data.toList):=by rfl
def U6(s:Qq)(w:Qs)(hs:1<=s.size)(hm:s.size<=1000000):Calls prog 245 #[.string s] w λe w'=>e=.returned (.string (str (Yl s.data.toList)))/\w=w':=by go_enter func245,ntmps245;go_wp2;go_ret;exact⟨Z5K (JJ (by rw[Yp];simp[Yl];exact Zi Qx)),rfl⟩
def VJ(w:Qs):Calls prog 250 #[] w λe w'=>e=.returned (.string YY)/\Below w w w':=by have⟨i0,hi,M,O,U⟩:=ZE Be;obtain⟨q,Z⟩:∃q:Nat,q=64:=⟨64,rfl⟩;have F:=λW=>EA (P:=prog) 75 5 i0 underlying75 hi M O U q Qw W;have C:=λ(W:Qs) (h:Row W w 5 (QJ (List.replicate q 0)))=>BJ (P:=prog) W 75 9 5 underlying75 underlying5 underlying9 h 0 q q (List.replicate q 0) Qx (by rw[Zey,Zi (by simp[Wd])]);have:=C _ (Z2 w 5 (QJ (List.replicate q 0)));have J:(64:Int)=(q:Int):=Qw;have ae:=F w;rw[<-J] at ae;have HQ:=ZI Z;clear hi M O U F C Z J;go_enter func250,ntmps250;go_wp2;go_ret;refine⟨?_,(Zu _ _).alloc (Zt _) _⟩;rw[HQ.o];rfl
def Ju(s:Qq):s.data.toList.length=s.size:=by rfl
def Z6K(s:Qq)(i:Nat):s.extract (64*i) (64*i+64)=Ya s.data.toList i:=by apply JJ;rw[Zet];unfold Ya sec;rw[Yp,Ze0,show i*64+64-i*64=64 from Qw]
def Z1C(s:Qq)(a:Nat)(ha:a+64<=s.size):(s.extract a s.size).extract 0 64=s.extract a (a+64):=by apply JJ;rw[Zet,Zet,Zet,Zey,ZfQ];simp
def Z8V(a:Nat)(l:Bs)(i:Nat)(hi:i<l.length / 64):(wrs a l).take (i+1)=(wrs a l).take i++[.wr (a+i) (Ya l i)]:=by
 have hl:i<(wrs a l).length:=by rw[EO];exact hi
 rw[Zc hl];simp[wrs]
def FD(B p d n j:Nat)(P:Pw)(D:Dk)(L:Qj)(J:Jn)(sd:Bool)(k:Nat)(s:Qq)(w:Qs)(h:PD B w p d n P D L)(hB:B<=w)(Z:JAt w j d J)(hm:s.size%64=0)(hs:s.size<=1000000)(hk:k<=100000)(hh:J.half<=100000)(bz:D.wait.length<=1000000000):Calls prog 244 #[j,sd,(k:Int),.string s] w (Ans w (QH (wrs (J.at_ sd k) s.data.toList) P D).1 (Ran B p d n L [] (wrs (J.at_ sd k) s.data.toList) P D w)):=by
 obtain⟨m,ay⟩:∃m,s.size=64*m:=⟨s.size / 64,Qw⟩;have bh:s.data.toList.length / 64=m:=by rw[Ju s,ay];omega
 have cy:m<=100000:=Qw;obtain⟨ops,ho⟩:=ZK (wrs (J.at_ sd k) s.data.toList);have bj:ops.length=m:=by rw[<-ho,EO,bh]
 have ai:∀i,i<m->ops.take (i+1)=ops.take i++[.wr (J.at_ sd k+i) (Ya s.data.toList i)]:=λi hi=>by rw[<-ho];exact Z8V _ _ i Qw
 have cw:=Vs J sd k;have af:∀i,J.at_ sd (k+i)=J.at_ sd k+i:=λi=>by unfold Jn.at_;split<;>omega
 have ae:ops.take m=ops:=Zi Qw;rw[ho];have H:=ZM h Z;have HB:=ZI hB;have ak:=ZX ai af ae;have bf:=ZI ay;have HO:=ZM ho bj;clear h Z hB ai af ae hm bh ho bj ay;go_enter func244,ntmps244;go_wp2;go_loopw [2,3] (λkk ss wr=>∃i,i<=m/\kk=((k+i:Nat):Int)/\ss=.string (s.extract (64*i) s.size)/\∃F C Lr,QH (ops.take i) P D=(0,F,C)/\Did B p d n L [] F C w wr Lr) (λkk _ _=>k+m- (intOf kk).toNat)
 .exact⟨0,Qw,Qx,by rw[Nat.mul_zero];congr 1;apply JJ;rw[Lib.extract_to_end];rfl,P,D,L,rfl,Did.same H.1 [] (Zu _ _)⟩
 obtain⟨i,hi,rfl,rfl,F,C,Lr,O,U⟩:=hrel;by_cases cj:i<m
 .have bq:(s.extract (64*i) s.size).size=s.size-64*i:=by rw[ZdU];omega
  have az:=bf.o;have cn:0<s.size-64*i:=Qw;have cu:(64:Int)<=((s.size-64*i:Nat):Int):=Qw;have aw:(s.extract (64*i) s.size).extract 0 64=Ya s.data.toList i:=by rw[Z1C s _ Qw,Z6K]
  have cr:(QH (ops.take i) P D).2.2.wait.length<=1000000000+i:=by have:=SP (ops.take i) P D;have:=List.length_take_le i ops;omega
  rw[O] at cr;have Z:JAt wr j d J:=JAt.did U H.1 H.2 Qx;have bu:B<=wr:=Zq HB.o U.fr.size;have c0:=Z.c0;clear az;go_wp2_with fail;have S0:=ZM Z U;go_still_tail 10,Qy
  still_call (BN (Hk j d J sd (k+i) _ S0.1 Qw hh))
  repeat still_step
  refine Zfw ?_;change wpList _ _ _ _ _ wr.drew;have bg:Did B p d n L [] F C w wr.drew Lr:=S0.2.after ((Zu _ _).drew);have ai:=ak.1 i cj;have aq:=ak.2 i;rw[aq];have S1:=ZX bg ai aq;have ag:=U;clear ai aq bg c0 Z U;go_wp2_with fail;refine(Z9P S1.1.pd (show B<=wr.drew.heap.size from bu) ((J.at_ sd k+i:Nat):Int) (Ya s.data.toList i) Qw).mono ?_;rintro e w1 ⟨ev,rfl,he,L1,au⟩;have aj:Did B p d n L [] (XB F C ((J.at_ sd k+i:Nat):Int) (Ya s.data.toList i)) (wdk F C ((J.at_ sd k+i:Nat):Int) (Ya s.data.toList i)) w w1 L1:=S1.1.trans au;rcases he.split with ⟨hc,rfl⟩|⟨hc,b,rfl⟩
  .have ah:QH (ops.take (i+1)) P D=(0,XB F C ((J.at_ sd k+i:Nat):Int) (Ya s.data.toList i),wdk F C ((J.at_ sd k+i:Nat):Int) (Ya s.data.toList i)):=by rw[S1.2,SR _ _ P F D C O];exact ZF (λc=>(c,_,_)) hc
   have bm:(s.extract (64*i) s.size).extract 64 (s.size-64*i)=s.extract (64*(i+1)) s.size:=by apply JJ;rw[Zet,Lib.extract_to_end,Lib.extract_to_end,Zf3,Zi (by simp;omega)];congr 1
   have M:=ZN ah aj bm;clear ah aj bm he au hc O;go_wp2;go_roundw
   .exact⟨i+1,Qw,QC,by rw[<-M.2.2],_,_,L1,M.1,M.2.1⟩
   simp[intOf];omega
  .have ah:QH ops P D=(X8 F C ((J.at_ sd k+i:Nat):Int) (Ya s.data.toList i),XB F C ((J.at_ sd k+i:Nat):Int) (Ya s.data.toList i),wdk F C ((J.at_ sd k+i:Nat):Int) (Ya s.data.toList i)):=by refine Z64 ops (i+1) P _ D _ _ ?_ hc;rw[S1.2,SR _ _ P F D C O];rfl
   have M:=ZN ah aj he;have ct:=ag.fr.size;clear ah aj he au hc O aw bq;go_wp2;go_ret;refine⟨_,rfl,?_,L1,?_⟩
   .rw[M.1];exact M.2.2.base ct
   .rw[M.1];exact M.2.1
 .obtain rfl:i=m:=by omega
  have bq:(s.extract (64*i) s.size).size=0:=by rw[ZdU,bf.o];omega
  have ae:=ak.3;rw[ae] at O;have M:=ZM O U;clear O U ae;go_wp2;go_ret;rw[show QH ops P D=(0,F,C) from M.1];exact⟨_,rfl,QK.nil _ _,Lr,by rw[M.1];exact M.2⟩
def Ke(B p d n j:Nat)(P:Pw)(D:Dk)(L:Qj)(J:Jn)(sd:Bool)(k:Nat)(w:Qs)(h:PD B w p d n P D L)(hB:B<=w)(O:JAt w j d J)(hk:k<=100000)(hh:J.half<=100000)(ae:D.wait.length<=1000100000):Calls prog 209 #[j,sd,(k:Int)] w (Ans w (QH (J.clean sd k) P D).1 (Ran B p d n L [] (J.clean sd k) P D w)):=by
 have c0:=O.c0;have c2:=O.c2;have H:=ZM h O;have HB:=ZI hB;by_cases U:J.half<=k
 .have e:J.clean sd k=[]:=by unfold Jn.clean;rw[Zx U]
  rw[e];go_enter func209,ntmps209;go_wp2;go_ret;exact⟨_,rfl,QK.nil _ _,L,Did.same H.1 [] (Zu _ _)⟩
 .have e:J.clean sd k=[.wr (J.at_ sd k) YY]:=by unfold Jn.clean;rw[Zw U]
  rw[e];go_enter func209,ntmps209;go_wp2;have M:=ZM (H.1.after ((Zu w w).drew)) (JAt.after H.2 ((Zu w w).drew));go_region_held3 (λw'=>w'.cell? j=d) (first|assumption|exact S1.1.2.c0|exact S2.o.c0)
   (first|((go_at_call 212;go_fit (Hk j d J sd k _ M.2 Qw hh);rintro e w1 ⟨rfl,rfl⟩))|((go_at_call 250;go_fit (VJ _);rintro e w1 ⟨rfl,C⟩;have S1:=ZM (ZJ (M.1.after C) (JAt.after M.2 C)) C;clear C))|((go_at_call 190;go_fit (Z9P S1.1.1 (Zq HB.o S1.2.size) _ YY Qw);rintro e w2 ⟨ev,rfl,he,L1,F⟩;have S2:=ZI (JAt.did F S1.1.1 S1.1.2 Qx);have Z:=ZM he (F.from (w0:=w) (((Zu w w).drew).trans S1.2));have af:=S1.2.size;clear he F)))
  go_wp2;go_ret;refine⟨_,rfl,?_,Ran.one ⟨L1,Z.2⟩⟩;rw[G3];exact Z.1.base af
def Z9y(h:PD B w p d n P D L)(hB:B<=w):Calls prog 191 #[d] w (Ans w (QH [.fl] P D).1 (Ran B p d n L [] [.fl] P D w)):=(Zai h hB).mono λe w' ⟨ev,he,hv,C⟩=>⟨ev,he,by rw[G3];exact hv,Ran.one C⟩
def PT(B p d n j:Nat)(P:Pw)(D:Dk)(L:Qj)(J:Jn)(sd:Bool)(k:Nat)(s:Qq)(w:Qs)(h:PD B w p d n P D L)(hB:B<=w)(hj:JAt w j d J)(hm:s.size%64=0)(h1:64<=s.size)(hs:s.size<=100000)(hk:k<=50000)(hh:J.half<=100000)(aw:D.wait.length<=1000000):Calls prog 195 #[j,sd,(k:Int),.string s] w (Ans w (QH (J.lay sd k s.data.toList) P D).1 (Ran B p d n L [] (J.lay sd k s.data.toList) P D w)):=by
 have ai:s.data.toList≠[]:=by intro e;have:=Ju s;rw[e] at this;simp at this;omega
 have ah:(Yl s.data.toList).length=s.size:=by rw[Jj _ ai,Ju]
 have ak:(str (Yl s.data.toList)).size=s.size:=by rw[QW,ah]
 have aj:s.data.toList.length / 64=s.size / 64:=by rfl
 have hx:s.extract 0 64=str (s.data.toList.take 64):=by apply JJ;rw[Zet,Yp];rfl
 have aq:(str (s.data.toList.take 64)).size=64:=by rw[QW,Zg,Ju];omega
 have bh:(64:Int)<=s.size:=Qw;unfold Jn.lay;rw[aj];obtain⟨A1,ae⟩:=ZK (wrs (J.at_ sd k) (Yl s.data.toList));obtain⟨A2,af⟩:=ZK (J.clean sd (k+s.size / 64));obtain⟨A4,ag⟩:=ZK (wrs (J.at_ sd k) (s.data.toList.take 64));have bm:A1.length<=5000:=by rw[<-ae,EO,ah];omega
 have bq:A2.length<=1:=by rw[<-af];unfold Jn.clean;split<;>simp
 rw[ae,af,ag];have c0:=hj.c0;have H:=ZM h hj;have O:=ZI hB;have HA:=ZX ae af ag;have HU:=ZM ak aq;clear h hj hB ae af ag ak aq ah aj ai;go_enter func195,ntmps195;go_wp2_with (go_at_call 245;refine(U6 s _ Qw Qw).mono ?_;rintro e w' ⟨rfl,rfl⟩);refine(FD B p d n j P D L J sd k _ w H.1 O.o H.2 (by rw[HU.1];exact hm) (by rw[HU.1];omega) Qw hh Qw).mono ?_;rw[Yp,HA.1];rintro e w1 ⟨ev,rfl,he,F⟩;have T0:=Stg.start H.1 [] (Zu _ w);rcases he.split with ⟨hc,rfl⟩|⟨hc,b,rfl⟩
 case inr=>have C:=ZM hc (T0.fail he F);clear hc he F T0;go_wp2;go_ret;exact WN (Wp (Wp (Wp C.1))) (WN (Wp (Wp C.1)) (WN (Wp C.1) (WN C.1 C.2)))
 obtain⟨P1,D1,L1,M⟩:=T0.next hc F
 rw[Ze3] at M;have S1:=ZI M;have c1:=(JAt.did M.did H.1 H.2 Qx).c0;have ay:=M.size;have bj:=M.few;clear T0 hc he F M c0;go_wp2_with fail;refine(Ke B p d n j P1 D1 L1 J sd (k+s.size / 64) w1 S1.o.did.pd (Zq O.o ay) (JAt.did S1.o.did H.1 H.2 Qx) Qw hh Qw).mono ?_;rw[HA.2];rintro e w2 ⟨ev,rfl,he,F⟩;rcases he.split with ⟨hc,rfl⟩|⟨hc,b,rfl⟩
 case inr=>have C:=ZM (S1.o.Zb7 hc) (S1.o.fail he F);clear hc he F;go_wp2;go_ret;exact WN (Wp (Wp C.1)) (WN (Wp C.1) (WN C.1 C.2))
 obtain⟨P2,D2,L2,T2⟩:=S1.o.next hc F
 have S2:=ZI T2;have c2:=(JAt.did T2.did H.1 H.2 Qx).c0;have az:=T2.size;clear hc he F T2 c1;go_wp2_with fail;refine(Z9y S2.o.did.pd (Zq O.o az)).mono ?_;rintro e w3 ⟨ev,rfl,he,F⟩;rcases he.split with ⟨hc,rfl⟩|⟨hc,b,rfl⟩
 case inr=>have C:=ZM (S2.o.Zb7 hc) (S2.o.fail he F);clear hc he F;go_wp2;go_ret;exact WN (Wp C.1) (WN C.1 C.2)
 obtain⟨P3,D3,L3,Z⟩:=S2.o.next hc F
 have U:=ZI Z;have c3:=(JAt.did Z.did H.1 H.2 Qx).c0;have bf:=Z.size;have au:=Z.few;simp only[Zb,Ze,Zes] at au;clear hc he F Z c2;go_wp2_with fail;refine(FD B p d n j P3 D3 L3 J sd k _ w3 U.o.did.pd (Zq O.o bf) (JAt.did U.o.did H.1 H.2 Qx) (by rw[HU.2]) (by rw[HU.2];omega) Qw hh Qw).mono ?_;rw[Yp,HA.3];rintro e w4 ⟨ev,rfl,he,F⟩;rcases he.split with ⟨hc,rfl⟩|⟨hc,b,rfl⟩
 case inr=>have C:=ZM (U.o.Zb7 hc) (U.o.fail he F);go_wp2;go_ret;exact WN C.1 C.2
 obtain⟨P4,D4,L4,T4⟩:=U.o.next hc F
 have S4:=ZI T4;have c4:=(JAt.did T4.did H.1 H.2 Qx).c0;have bg:=T4.size;go_wp2_with fail;refine(Z9y S4.o.did.pd (Zq O.o bg)).mono ?_;rintro e w5 ⟨ev,rfl,he,F⟩;have C:=ZI (S4.o.fail he F);go_wp2;go_ret;exact C.o
