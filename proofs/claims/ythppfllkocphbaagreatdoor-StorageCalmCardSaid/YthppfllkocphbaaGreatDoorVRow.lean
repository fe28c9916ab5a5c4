/- The statement: StorageCalm. For every input the call returns true and each argument reads afterwards as it read before. -/
import Derived.Test.YthppfllkocphbaaGreatDoorCards
import Derived.Test.YthppfllkocphbaaGreatDoorTie
import Derived.Test.YthppfllkocphbaaGreatDoorV14
import Derived.ProofKit
import Derived.OpenShut
import Derived.ShutString
namespace Go.Proofs.YthppfllkocphbaaGreatDoor.storageCalm
open Go.Proofs.Tryz Go.ChangeShapes Go.WideShapes Go.ChangeAt Go.RowKit Go.WideMaps Go.WideElems
open Go.ChangeMaps (setBlock shut_map_nil open_string shut_string keptBut_setBlock frozen?_setBlock heap_setBlock_same)
theorem own:ownKnob prog.godebug=none:=by kernel_rfl
theorem laidOut:laidOutB prog=true:=by kernel_rfl
theorem et : prog.globalNamed "errors.errorType" = some 0 := by kernel_rfl
theorem rt : (prog.cutTypes.find? (·.1 == "internal/reflectlite.rtype")).map (·.2) = some 184 := by kernel_rfl
theorem oneRow:((List.range 383).filter fun t=>prog.rowNamed t [101,114,114,111,114])=[31]:=by kernel_rfl
theorem tsize:prog.types.size=383:=by kernel_rfl
theorem handle_of_laid{W:World}(h:laidMetH prog (Rows.storageCalmRow.laid) W):W.cell? ⟨0,0,none⟩=some (.iface 184 (.agg #[.pointer (some ⟨2,31,none⟩)])):=by
 have h':laidMet prog [] W∧handlesMet prog Rows.storageCalmRow.laid W:=h
 obtain⟨name,u,ty,e1,e2,e3,e4,e5⟩:=h'.2 _ (List.mem_singleton.2 rfl)
 have en:name=[101,114,114,111,114]:=(Option.some.inj e1).symm
 subst en
 obtain rfl:=Option.some.inj (rt.symm.trans e2)
 have hm:ty∈(List.range 383).filter fun t=>prog.rowNamed t [101,114,114,111,114]:=List.mem_filter.2 ⟨List.mem_range.2 (by rw[←tsize];exact e3),e4⟩
 rw[oneRow] at hm
 obtain rfl:=List.mem_singleton.1 hm
 have hh:typeHandle prog 31=.pointer (some ⟨2,31,none⟩):=by kernel_rfl
 rw[hh] at e5
 simpa using World.var?_cell et e5 0
noncomputable def laidWorld(os:Os):World:=
 let w0:=World.holding prog os ⟨#[],#[],[]⟩
 {w0 with heap:=w0.heap.modify 0 fun
   |.cells _ t frozen=>.cells #[.iface 184 (.agg #[.pointer (some ⟨2,31,none⟩)])] t frozen
   |o=>o}
theorem laidWorld_met(os:Os)(args:Array Value):laidMetH prog Rows.storageCalmRow.laid ((laidWorld os).forCall (fun _ _=>0) ⟨#[],args,[]⟩).memory:=
 laidMetH_of_parts (laidMet_nil _ _) (by kernel_rfl)
set_option maxRecDepth 100000 in
set_option maxHeartbeats 8000000 in
theorem lifted(os:Os)(started:os.Started)(H:Type)(enc:TypeId×Value→H):
  ReturnsInHanded {} checked os 6 .any (fun w args=>(Rows.storageCalmSpec.pre enc prog f6 [] false w args∧laidMetH prog Rows.storageCalmRow.laid w)∧sizedMet enc prog f6 (OpenSpec.ofChange Rows.storageCalmSpec) false w args)
   (Rows.storageCalmSpec.post enc prog f6 false true false false):=by
 refine returnsInHanded_of_change_and (C:=checked) (X:=fun w _=>laidMetH prog Rows.storageCalmRow.laid w) (fun _ _ _ hh h=>h.of_heap hh) own started (by as_aux_lemma=>kernel_rfl) func6
  (ChangeSpec.witness_at (enc:=enc) (C:=checked) (os:=os) (X:=fun w _=>laidMetH prog Rows.storageCalmRow.laid w) false (laidWorld os) #[.int .i64 0,.int .i64 0,.slice none 0 0,.slice none 0 0] 8 rfl (by as_aux_lemma=>kernel_rfl) (by as_aux_lemma=>kernel_rfl) (by as_aux_lemma=>kernel_rfl) (by as_aux_lemma=>kernel_rfl) (by as_aux_lemma=>kernel_rfl) (laidWorld_met os _)) ?_
 intro W base args ds gs before hval0 hW hcnd _ hL _
 have hval:∀ (j:Nat) t v,f6.params[j]? =some t→args[j]? =some v→Value.okWide prog W .any base t v:=hval0
 have hW':=hW
 obtain⟨p,q,hA0,hV0,rfl,hfz,hnd⟩:=hW
 have hA:DataW.TrodAll enc prog W 0 (fun _=>true) true f6.params.toList args.toList ds p:=hA0
 have hV:DataW.TrodVars enc prog W (fun _=>true) [] gs q:=hV0
 rw[params6] at hA hval
 obtain⟨v0,vs0,d0,ds0,p0,q0,hargs,rfl,rfl,h0,r0⟩:=trodAll_cons hA
 obtain⟨v1,vs1,d1,ds1,p1,q1,rfl,rfl,rfl,h1,r1⟩:=trodAll_cons r0
 obtain⟨v2,vs2,d2,ds2,p2,q2,rfl,rfl,rfl,h2,r2⟩:=trodAll_cons r1
 obtain⟨v3,vs3,d3,ds3,p3,q3,rfl,rfl,rfl,h3,r3⟩:=trodAll_cons r2
 obtain⟨rfl,rfl,rfl⟩:=trodAll_nil r3
 obtain rfl:args= #[v0,v1,v2,v3]:=by cases args;simp_all
 obtain⟨rfl,rfl⟩:gs=[]∧q=[]:=by
  cases gs with
  |nil=>exact⟨rfl,hV⟩
  |cons g r=>exact absurd hV (by intro h;cases h)
 obtain⟨a0,rfl,rfl,rfl,w0⟩:=open_int underlying3 (hval 0 3 v0 rfl rfl) h0
 have b0:=w0
 simp[Lit.wf,IntKind.min,IntKind.max,IntKind.signed,IntKind.bits] at b0
 obtain⟨a1,rfl,rfl,rfl,w1⟩:=open_int underlying3 (hval 1 3 v1 rfl rfl) h1
 have b1:=w1
 simp[Lit.wf,IntKind.min,IntKind.max,IntKind.signed,IntKind.bits] at b1
 obtain⟨a2,len2,cap2,rfl⟩:=okWide_slice underlying59 (hval 2 59 v2 rfl rfl)
 obtain⟨a3,len3,cap3,rfl⟩:=okWide_slice underlying46 (hval 3 46 v3 rfl rfl)
 have lt2:∀x∈p2,x.block<W.heap.size:=by obtain⟨m,hm⟩:=h2;exact DataW.trod_lt m _ _ _ hm
 have lt3:∀x∈p3,x.block<W.heap.size:=by obtain⟨m,hm⟩:=h3;exact DataW.trod_lt m _ _ _ hm
 obtain⟨l2,e2,g2,m2,w2⟩:=turns_open h2
 obtain⟨l3,e3,m3,w3,z3⟩:=ints_open h3
 subst e2 e3
 have hg:Ty W:=handle_of_laid hL
 clear hA0 hval0
 refine(calm_walk a0 a1 a2 cap2 l2 a3 cap3 l3 (by omega) (by omega) (by omega) (by omega) W w2 (Nat.le_trans g2 m2) w3 m3 z3 hg).mono fun e W' ⟨he,bel⟩=> ?_
 subst he
 exact⟨_,rfl,_,_,_,[],_,[],hW',trodAll_mk1 (shut_bool underlying4 _),(trodAll_cons_mk (shut_int underlying3 w0) (trodAll_cons_mk (shut_int underlying3 w1) (trodAll_cons_mk (Below.trod laidOut (by kernel_rfl) (of_decide_eq_true (by kernel_rfl)) h2 bel lt2) (trodAll_cons_mk (Below.trod laidOut (by kernel_rfl) (of_decide_eq_true (by kernel_rfl)) h3 bel lt3) trodAll_mk0)))),rfl,bel.frame _,fun h=>by cases h⟩
theorem and_tt{a b:Bool}(ha:a=true)(hb:b=true):(a&&b)=true:=by rw[ha,hb];rfl
set_option maxHeartbeats 8000000 in
theorem closed:joinedFacts checked.prog 6 f6 Rows.storageCalmSpec Rows.storageCalmRow=true:=by
 unfold joinedFacts
 repeat' (with_reducible refine and_tt ?_ ?_)
 all_goals (as_aux_lemma=>kernel_rfl)
theorem named:checked.prog.funcNamed Rows.storageCalmRow.func=some 6:=by kernel_rfl
theorem plainInst:(f6).isInstance checked.prog Rows.storageCalmRow.origin Rows.storageCalmRow.targs:=of_decide_eq_true (by kernel_rfl)
theorem wrapped:(f6).isWrapper checked.prog Rows.storageCalmRow.wrapper Rows.storageCalmRow.mainSum:=by unfold Func.isWrapper;first|(rw[if_pos (by decide+kernel)];kernel_rfl)|(rw[if_neg (by decide+kernel)];exact⟨rfl,rfl⟩)
theorem bare:Rows.StorageCalmSaid:=
 OpenClaim.holds_of_wide 6 f6 rfl rfl rfl rfl rfl rfl rfl ⟨rfl,rfl,rfl,rfl,rfl⟩ rfl rfl rfl rfl rfl named func6 closed plainInst wrapped
  (fun os started H enc _=>lifted os started H enc)
theorem proved:Rows.StorageCalmCardSaid:=
 Claim7.holds_tied_plain_at .later [] [.handle] true (true, "f1ef87e999e440c143a0b51e1efd823de63b90ee25da11266b0a5ab7af6e6796") true
  bare (fun _ h=>by cases h) (by kernel_rfl) (fun _ h=>by cases h) storageCalm_row_tie rfl ⟨rfl,rfl⟩ (by kernel_rfl) rfl
  (fun f fn hf hfn=>by
   obtain rfl:f=6:=Option.some.inj (named.symm.trans hf)|>.symm
   obtain rfl:fn=f6:=(Option.some.inj (func6.symm.trans hfn)).symm
   exact⟨by kernel_rfl,fun j t ht=>by
    have hj:j<4:=by
     rcases Nat.lt_or_ge j 4 with h|h
     ·exact h
     ·rw[params6] at ht;rw[Array.getElem?_eq_none (by simpa using h)] at ht;cases ht
    rw[params6] at ht
    match j,hj with
    |0,_=>obtain rfl:3=t:=by simpa using ht
          exact(show prog.wantsStandIn 3=false by kernel_rfl)
    |1,_=>obtain rfl:3=t:=by simpa using ht
          exact(show prog.wantsStandIn 3=false by kernel_rfl)
    |2,_=>obtain rfl:59=t:=by simpa using ht
          exact(show prog.wantsStandIn 59=false by kernel_rfl)
    |3,_=>obtain rfl:46=t:=by simpa using ht
          exact(show prog.wantsStandIn 46=false by kernel_rfl)⟩)
  (by kernel_rfl)
#print axioms proved
end Go.Proofs.YthppfllkocphbaaGreatDoor.storageCalm
