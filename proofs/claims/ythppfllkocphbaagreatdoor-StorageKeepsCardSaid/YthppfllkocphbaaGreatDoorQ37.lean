/-
  Part 38 of the proof: lemmas about what the program computes.
-/
import Derived.Sort.LotA
import Derived.Laws.StructEq
import Derived.Test.YthppfllkocphbaaGreatDoorQ19
namespace Go.Proofs.YthppfllkocphbaaGreatDoor
set_option linter.unusedVariables false
set_option linter.unusedSimpArgs false
set_option maxHeartbeats 25600000
set_option maxRecDepth 100000
open Tryz
section
open Go.RowKit Go.Maps Go.WideMaps
variable{w:World}
theorem ZfH(fv:Value)(w:World):Calls prog 263 #[.slice none 0 0,.int .i64 0,.int .i64 0,fv] w fun e w'=>e=.returned (.tuple #[])/\w'=w:=by
 go_enter func263,ntmps263
 go_wp2_with fail
 go_loopw [8] (fun iv wr=>iv=.int .i64 1/\wr=w) (fun _ _=>0)
 case atStart=>exact⟨rfl,rfl⟩
 case round=>
  obtain⟨rfl,rfl⟩:=hrel
  go_wp2_with fail
  go_end0
  exact⟨rfl,rfl⟩
theorem Zgi(fv:Value)(l:Int)(w:World):Calls prog 242 #[.slice none 0 0,.int .i64 0,.int .i64 0,.int .i64 l,fv] w fun e w'=>e=.returned (.tuple #[])/\w'=w:=by
 go_enter func242,ntmps242
 go_wp2_with fail
 go_loopw [1,2] (fun av bv wr=>av=.int .i64 0/\bv=.int .i64 0/\wr=w) (fun _ _ _=>0)
 case atStart=>exact⟨rfl,rfl,rfl⟩
 case round=>
  obtain⟨rfl,rfl,rfl⟩:=hrel
  go_wp2_with (go_at_call 263;refine(ZfH fv _).mono ?_;rintro e w' ⟨rfl,rfl⟩)
  exact bodyPost_ret (results_none (by rfl) _ _ _) rfl ⟨rfl,rfl⟩
theorem ZeL(fv:Value)(w:World):Calls prog 187 #[.slice none 0 0,fv] w fun e w'=>e=.returned (.tuple #[])/\w'=w:=by
 have hl:(0:Int)<=18446744073709551615:=by omega
 go_enter func187,ntmps187
 go_wp2_with (first
  |(go_at_call 123;refine(Tryz.bits_Len 0 _ (by omega) hl).mono ?_;rintro e w' ⟨rfl,rfl⟩)
  |(go_at_call 242;refine(Zgi fv _ _).mono ?_;rintro e w' ⟨rfl,rfl⟩))
 go_end0
 exact⟨rfl,rfl⟩
theorem Zz.at_none{b n:Nat}{f:Bs->Option Value}{t e:TypeId}(h:Zz w b n f)(ht:prog.underlying t=some (.map 9 e)){z:Value}(hz:(zeroValue e).run prog w=.ok z w){k:Bs}(hk:k.length<=maxLen)(hf:f k=none):
  (Instr.lookup t (.map (some b)) (.string (str k)) false).run prog w=.ok z w:=by
 obtain⟨D,h1,h2⟩:=h
 obtain⟨v',ps,ae,hv⟩:=h1.lookup JD ht hz (zd:=.held z) (zp:=[]) rfl (Z4w k hk)
 have hh:Maps.has D (.string k)=false:=by rw[(h2 k).1,hf];rfl
 rw[atKey_of_not_has hh] at hv
 simp only[Xm,ZjJ,Prod.mk.injEq,DataW.held.injEq] at hv
 rw[ae,hv.1]
abbrev Nm:={l:Bs // l.length<=maxLen}
instance:Inhabited Nm:=⟨⟨[],by simp⟩⟩
def Z7a(x:Nm):Value:=.string (str x.1)
def ixN(f:Z1)(x:Bs):Int:=((f.by x).getD 0:Nat)
def cfN(f:Z1)(x y:Nm):Int:=ixN f x.1-ixN f y.1
theorem Zeg(pb q fb n2:Nat)(f:Z1)(x y:Bs)(W:World)(h0:W.cell? ⟨pb,0,none⟩=some (.pointer (some ⟨q,0,none⟩)))(h1:W.cell? ⟨q,1,none⟩=some (.map (some fb)))(hm:Zz W fb n2 (QA f))(hx:x.length<=maxLen)(hy:y.length<=maxLen)(hi:∀p∈f,p.2<=100000):
  Calls prog 188 #[.string (str x),.string (str y),.pointer (some ⟨pb,0,none⟩)] W fun e w'=>e=.returned (.int .i64 (ixN f x-ixN f y))/\∃q,w'=W.drewN q:=by
 have hb:∀z,0<=ixN f z/\ixN f z<=100000:=fun z=>by
  unfold ixN
  cases hz:f.by z with
  |none=>simp
  |some i=>have:=hi _ (Z1.mem_by hz);simp only[Option.getD_some] at this⊢;omega
 have hl:∀z:Bs,z.length<=maxLen->(Instr.lookup 165 (.map (some fb)) (.string (str z)) false).run prog W.drew=.ok (.int .i64 (ixN f z)) W.drew:=fun z hz=>by
  have af:=hm.after ((Below.refl _ W).drew)
  unfold ixN
  cases hb:f.by z with
  |some i=>exact af.at_some underlying165 (Z2I _) hz (by unfold QA;rw[hb];rfl)
  |none=>exact af.at_none underlying165 (Z2I _) hz (by unfold QA;rw[hb];rfl)
 have l1:=hl x hx
 have l2:=hl y hy
 obtain⟨b1,b2⟩:=hb x
 obtain⟨b3,b4⟩:=hb y
 obtain⟨a,ha⟩:∃a,ixN f x=a:=⟨_,rfl⟩
 obtain⟨b,ae⟩:∃b,ixN f y=b:=⟨_,rfl⟩
 rw[ha] at l1 b1 b2⊢
 rw[ae] at l2 b3 b4⊢
 have wr:IntKind.i64.wrap (a-b)=a-b:=Zk2 _ (by omega)
 clear hl hb ha ae hm hi
 go_enter func188,ntmps188
 go_wp2_with fail
 go_region
 go_wp2_with fail
 go_ret
 exact⟨rfl,1,rfl⟩
theorem ZaQ{f:Z1}(hn:(f.map (·.1)).Nodup)(ha:(f.map (·.2)).Pairwise (·<·)){d d':Array Nm}(hm:∀k,k∈d.toList.map (·.1)↔k∈f.map (·.1))(hd:(d.toList.map (·.1)).Nodup)(hp:Go.Sort.PermIn 0 d.size d d')(hs:Go.Sort.SortedIn (ltOf (cfN f)) 0 d.size d'):d'.toList.map (·.1)=f.map (·.1):=by
 obtain⟨p1,p2,p3⟩:=hp
 have ae:d'.toList.Perm d.toList:=by
  rw[Array.toList_extract,Array.toList_extract] at p3
  have t1:d'.toList.take d.size=d'.toList:=ZjT (by simp[p1])
  have t2:d.toList.take d.size=d.toList:=ZjT (by simp)
  simp at p3
  rw[t1,t2] at p3
  exact p3
 have af:∀i (h:i<f.length),ixN f (f[i]).1=((f[i]).2:Int):=fun i h=>by
  unfold ixN
  rw[Z1.by_mem hn (ZjW h)];rfl
 have ah:∀a b,a∈f.map (·.1)->b∈f.map (·.1)->ixN f a<=ixN f b->ixN f b<=ixN f a->a=b:=fun a b h1 h2 h3 h4=>by
  obtain⟨x,hx,rfl⟩:=List.mem_map.1 h1
  obtain⟨y,hy,rfl⟩:=List.mem_map.1 h2
  obtain⟨i,hi,rfl⟩:=List.getElem_of_mem hx
  obtain⟨j,hj,rfl⟩:=List.getElem_of_mem hy
  rw[af i hi,af j hj] at h3 h4
  rw[List.pairwise_iff_getElem] at ha
  rcases Nat.lt_trichotomy i j with h|h|h
  ·have:=ha i j (by simpa using hi) (by simpa using hj) h
   simp at this;omega
  ·subst h;rfl
  ·have:=ha j i (by simpa using hj) (by simpa using hi) h
   simp at this;omega
 have ai:(d'.toList.map (·.1)).Perm (f.map (·.1)):=(ae.map _).trans ((List.perm_ext_iff_of_nodup hd hn).2 hm)
 refine List.Perm.eq_of_pairwise (le:=fun a b=>ixN f a<=ixN f b) (fun a b h1 h2 h3 h4=>ah a b (ai.mem_iff.1 h1) h2 h3 h4) ?_ ?_ ai
 ·rw[List.pairwise_map,List.pairwise_iff_getElem]
  intro i j hi hj ag
  have:=hs i j (by omega) ag (by simp at hj;omega)
  unfold ltOf cfN at this
  simp only[decide_eq_false_iff_not] at this
  have e1:d'[i]! =d'.toList[i]:=by simp at hi;simp[hi]
  have e2:d'[j]! =d'.toList[j]:=by simp at hj;simp[hj]
  rw[e1,e2] at this
  omega
 ·rw[List.pairwise_map]
  rw[List.pairwise_iff_getElem]
  intro i j hi hj ag
  rw[af i hi,af j hj]
  rw[List.pairwise_iff_getElem] at ha
  have:=ha i j (by simpa using hi) (by simpa using hj) ag
  simp at this;omega
theorem Zj2{ae m:Nat}{enc:Nm->Value}{d:Array Nm}{os:Array Obj}:Fr [ae] w (Go.Sort.grow (Go.Sort.putRow enc (Go.Sort.ahead w m) ae 0 d) os):=by
 refine⟨rfl,rfl,rfl,?_,fun k hk af=> ?_⟩
 ·simp[Go.Sort.grow,Go.Sort.putRow,Go.Sort.mapBlock,Go.Sort.ahead]
 ·rw[Go.Sort.heap_grow_old _ _ (by simp[Go.Sort.putRow,Go.Sort.mapBlock,Go.Sort.ahead,hk])]
  show(w.heap.modify ae (Go.Sort.onCells (Go.Sort.putCells enc 0 d)))[k]? =_
  rw[Array.getElem?_modify,if_neg (fun e=>af (by simp[e]))]
theorem ZhV(w:World)(ae:Nat)(d:Array Nm):Go.Sort.putRow Z7a w ae 0 d=Go.Sort.putRow encStr w ae 0 (d.toList.map (·.1)).toArray:=by
 unfold Go.Sort.putRow
 congr 1
 funext c
 unfold Go.Sort.putCells
 congr 1
 funext k x
 by_cases h:0<=k/\k<0+d.size
 ·rw[if_pos h,if_pos (by simpa using h)]
  have hk:k<d.size:=by omega
  have e1:d[k-0]! =d[k]:=by simp[hk]
  have e2:(d.toList.map (·.1)).toArray[k-0]! =(d[k]).1:=by simp[hk]
  rw[e1,e2];rfl
 ·rw[if_neg h,if_neg (by simpa using h)]
theorem Z3m(q db fb ga oa na ca:Nat)(us:Value)(acts:List Ac)(d:Dir)(f:Z1)(n1 n2:Nat)(w:World)(h:PlA w q db fb ga oa na ca us acts d f n1 n2)(hn:(f.map (·.1)).Nodup)(ha:(f.map (·.2)).Pairwise (·<·))(eo:f.length<=12)(hi:∀p∈f,p.2<=100000)(dp:∀p∈f,p.1.length<=220):
  Calls prog 131 #[.pointer (some ⟨q,0,none⟩)] w fun e w'=>∃v,e=.returned v/\Strs w' w.heap.size v (f.map (·.1))/\Below w.heap.size w w':=by
 have aw:∀k,(QA f k).isSome=true↔k∈f.map (·.1):=fun k=>by
  have e0:(QA f k).isSome=(f.by k).isSome:=by unfold QA;cases f.by k<;>rfl
  rw[e0]
  constructor
  ·intro hk
   obtain⟨i,hi⟩:=Option.isSome_iff_exists.1 hk
   exact List.mem_map.2 ⟨(k,i),Z1.mem_by hi,rfl⟩
  ·intro hk
   obtain⟨x,hx,rfl⟩:=List.mem_map.1 hk
   rw[Z1.by_mem hn hx];rfl
 have hm:=h.fsh
 have c1:=h.row.cell (j:=1) rfl
 have fq:=h.row.lt
 have HP:=Zka h
 have HF:=Zka (Zkb hn (Zkb ha (Zkb hi (Zkb dp aw))))
 clear h hn ha hi dp aw
 have eg:∀args w,(callFunc 188 args).run prog w=.ok (.enter 188 args) w:=enters_of func188 (by kernel_rfl) rfl
 have dx:=Zka eg
 clear eg
 go_enter func131,ntmps131
 have dr:=Row.new w 159 [.pointer (some ⟨q,0,none⟩)]
 have bm:=(Below.refl w.heap.size w).alloc Zk8 (.cells #[.pointer (some ⟨q,0,none⟩)] 159)
 have dm:=hm.after bm
 have HB:=Zka (Zkb dr bm)
 clear dr bm hm
 go_wp2_with (at_range;refine Z1y _ rfl _ 165 rfl 3 underlying165 fb n2 (QA f) rfl dm ?_;intro w1 ee aj bj cn)
 obtain⟨w0,bg⟩:∃w0,w0=w.alloc (.cells #[.pointer (some ⟨q,0,none⟩)] 159):=⟨_,rfl⟩
 have bh:w0.heap.size=w.heap.size+1:=by rw[bg];simp
 have M0:Met w0 fb (w.heap.size+1) n2 (QA f) (fun k=>(QA f k).isSome) ee (.slice none 0 0) [] w1:=by
  rw[<-bg] at bj aj
  exact⟨by rw[<-bh];exact aj,Strs.nil _ _,bj,by omega,by simp,fun k=>by cases QA f k<;>simp⟩
 have ct:=Zka M0
 rw[<-bg] at HB
 obtain⟨r,hr⟩:∃r,w.heap.size+1=r:=⟨_,rfl⟩
 rw[hr] at ct
 rw[show(Value.pointer (some ⟨w.heap.size+1,0,none⟩))=Value.pointer (some ⟨r,0,none⟩) from by rw[hr]]
 obtain⟨pb,b9⟩:∃pb,w.heap.size=pb:=⟨_,rfl⟩
 have ai:=Zka b9
 rw[b9] at HB bh
 rw[show(Value.pointer (some ⟨w.heap.size,0,none⟩))=Value.pointer (some ⟨pb,0,none⟩) from by rw[b9]]
 have az:=Zka bh
 clear M0 aj bj cn dm bg hr b9 bh
 go_loopw [3] (fun v wq=>∃ (todo:Bs->Bool) (l:List Bs) (ae:Nat),Met w0 fb r n2 (QA f) todo ae v l wq) (fun _ wq=>wq.rangeLeft fb r)
 case atStart=>exact⟨_,_,_,ct.out⟩
 case round=>
  obtain⟨todo,l,ae,hS⟩:=hrel
  have af:=hS.rg
  have hlen:l.length<=12:=Zk1 (hS.few (f.map (·.1)) (fun k hk=>(HF.out.2.2.2.2 k).1 hk)) (by rw[ZjN];exact eo)
  have HS:=Zka hS
  have dy:Hid (World.rangeLeft _ fb r=ae):=Zka af.left_eq
  clear hS
  go_wp2_with (at_next;refine Z1x _ rfl _ rfl fb r n2 (QA f) todo ae rfl af ?_ ?_)
  ·intro ag
   have au:∀k,k∈l↔k∈f.map (·.1):=fun k=>by rw[HS.out.mem k,ag k,HF.out.2.2.2.2 k];simp
   have ay:=Zka au
   clear ag af au
   rcases HS.out.own.2 with ⟨hv,h0⟩|⟨g,cap,cur,hv,_⟩
   ·rw[hv]
    have fa:l=[]:=List.length_eq_zero_iff.1 h0
    have ey:f.map (·.1)=[]:=by
     refine List.eq_nil_iff_forall_not_mem.2 (fun k hk=> ?_)
     have:=(ay.out k).2 hk
     rw[fa] at this;cases this
    go_wp2_with (go_at_call 187;refine(ZeL _ _).mono ?_;rintro e w' ⟨rfl,rfl⟩)
    go_ret
    refine⟨_,rfl,by rw[ey];exact Strs.nil _ _,?_⟩
    rw[ai.out]
    exact HB.out.2.trans (HS.out.below.mono (by have:=az.out;omega))
   ·have ho:=HS.out.own
    rw[hv] at ho⊢
    obtain⟨hH,dh,fm,ew⟩:=ho.holds
    have fj:pb+1<=g:=by have:=Xa ho rfl;have:=az.out;omega
    have fe:∀x∈l,x.length<=maxLen:=fun x hx=>by
     obtain⟨p,hp,rfl⟩:=List.mem_map.1 ((ay.out x).1 hx)
     have:=HF.out.2.2.2.1 p hp
     unfold maxLen;omega
    obtain⟨dl,al⟩:∃dl:List Nm,dl.map (·.1)=l:=⟨l.pmap (fun x h=>⟨x,h⟩) fe,by simp[List.map_pmap]⟩
    have bf:dl.toArray.size=l.length:=by rw[<-al];simp
    have cu:Go.Sort.Holds Z7a wr g 0 dl.toArray:=fun j hj=>by
     have bz:j<dl.length:=by simpa using hj
     have:=hH j (by rw[<-al];simpa using bz)
     have e1:dl.toArray[j]! =dl[j]:=by simp[bz]
     have e2:l.toArray[j]! =(dl[j]).1:=by subst al;simp[bz]
     rw[e2] at this
     rw[e1];exact this
    have fi:fb<wr.heap.size:=HS.out.rg.owns.lt
    have ah:Below w0.heap.size w0 wr:=HS.out.below
    have er:wr.cell? ⟨pb,0,none⟩=some (.pointer (some ⟨q,0,none⟩)):=(HB.out.1.after ah).cell (j:=0) rfl
    have eu:wr.cell? ⟨q,1,none⟩=some (.map (some fb)):=by
     have h1:=HP.out.row.after (HB.out.2.mono (by have:=ai.out;omega))
     exact(h1.after ah).cell (j:=1) rfl
    have fo:q<g:=by have:=ai.out;omega
    have bq:fb≠g:=fun e=>by
     obtain⟨es,cl,hb⟩:=HS.out.rg.owns.block
     subst e
     obtain⟨eh,fg,hc⟩:=ho.cells rfl
     rw[hc] at hb;cases hb
    have ak:CmpReads prog 188 #[.pointer (some ⟨pb,0,none⟩)] Z7a (cfN f) g 0 dl.toArray.size wr:=fun m os dk hd x y=>by
     have de:Fr [g] wr (sortWorld Z7a wr g 0 m dk os):=Zj2
     have cz:∀b i,b<wr.heap.size->b≠g->(sortWorld Z7a wr g 0 m dk os).cell? ⟨b,i,none⟩=wr.cell? ⟨b,i,none⟩:=fun b i hb ff=>World.cell?_of_block (a:=⟨b,i,none⟩) (de.block b hb (by simpa using ff))
     exact Zeg pb q fb n2 f x.1 y.1 _ (by rw[cz pb 0 (by have:=dh;omega) (by omega)];exact er) (by rw[cz q 1 (by omega) (by omega)];exact eu) (HS.out.rg.owns.fr de (by simpa using bq)) x.2 y.2 HF.out.2.2.1
    have cj:=Tryz.slices_SortFunc_small (α:=Nm) Z7a (fun x=>rfl) (cfN f) 188 #[.pointer (some ⟨pb,0,none⟩)] g 0 cap dl.toArray wr dx.out ak cu (by rw[bf];exact hlen) (fun n W hn=>(Tryz.bits_Len n W (by omega) (by omega)).mono fun e w' h=>⟨⟨_,h.1⟩,h.2⟩)
    have ax:Go.Sort.SWO (ltOf (cfN f)):=⟨fun x=>by unfold ltOf cfN;simp,fun x y z h1 h2=>by unfold ltOf cfN at*;simp at*;omega,fun x y z h1 h2=>by unfold ltOf cfN at*;simp at*;omega⟩
    obtain⟨dq,du⟩:=Go.Sort.insertionSort_holds (lt:=ltOf (cfN f)) ax dl.toArray 0 dl.toArray.size (Nat.zero_le _) Zk8
    have aq:=ZaQ HF.out.1 HF.out.2.1 (d:=dl.toArray) (by intro k;rw[show dl.toArray.toList=dl from rfl,al];exact ay.out k) (by rw[show dl.toArray.toList=dl from rfl,al];exact HS.out.nodup) dq du
    rw[ZhV,aq,bf] at cj
    have dz:=Zka cj
    have HO:=Zka (Zkb ho dh)
    clear cj ak aq dq du ax cu hH ho
    go_wp2_with (go_at_call 187;refine dz.out.mono ?_;rintro e w' ⟨rfl,m,rfl⟩)
    have fc:(f.map (·.1)).length=l.length:=((List.perm_ext_iff_of_nodup HF.out.1 HS.out.nodup).2 (fun k=>(ay.out k).symm)).length_eq
    obtain⟨s1,s2⟩:=HO.out.1.sorted (q:=m) (os:= #[]) fc
    have ek:∀W:World,Go.Sort.grow W #[]=W:=fun W=>by simp[Go.Sort.grow]
    rw[ek] at s1 s2
    go_ret
    refine⟨_,rfl,by exact s1.mono (by have:=az.out;have:=ai.out;omega),?_⟩
    rw[ai.out]
    have cy:Below pb w wr:=HB.out.2.trans (ah.mono (by have:=az.out;omega))
    exact cy.trans (s2.below (Zk1 (Nat.le_of_eq ai.out.symm) (by have:=cy.size;exact this)) (fun i hi=>by rw[ZjD] at hi;subst hi;omega))
  ·intro k x w2 ef ez dw df aj dj bu bf fh
   have cw:∀o,Below w2.heap.size w2 (w2.alloc o):=fun o=>(Below.refl _ w2).alloc Zk8 o
   have HN:=Zka (Zkb dw (Zkb df (Zkb aj (Zkb bu dj))))
   have fp:w0.heap.size<=w2.heap.size:=Zk1 HS.out.below.size bu.size
   clear af dw df aj bu dj ez bf
   go_wp2_with (at_builtin;refine Z6X _ rfl (.tmp 14) (.tmp 16) rfl w0.heap.size _ l rfl (HS.out.own2 HN.out.2.2.2.1 (cw _)).1 w2.heap.size k rfl (heap_alloc_new w2 _) (by simp;omega) (by omega) ?_;intro v' w3 dt dc;have M3:=HS.out.next HN.out.1 HN.out.2.1 HN.out.2.2.1 HN.out.2.2.2.1 (cw _) dt dc;have cr:=Zka M3;clear M3 dt dc)
   go_roundw
   case rel=>exact⟨_,_,_,cr.out⟩
   case measure=>rw[cr.out.rg.left_eq,dy.out];exact HN.out.2.2.2.2
end
section
open Go.RowKit Go.Maps Go.WideMaps
variable{g n:Nat}{l:List Bs}{ts:List Value}{v:Value}{w w' wr:World}
theorem Z18(g c:Nat)(l:List Bs)(sp:List Value)(w:World)(h:Row w g 9 (Z6 (l.map str)++sp))(ae:(Zv l).length<=60000):
  Calls prog 126 #[.slice (some ⟨g,0,none⟩) l.length c] w fun e w'=>e=.returned (.tuple #[.string (str (Zv l)),.nilIface])/\Below w.heap.size w w':=by
 have hR:Zw w (some ⟨g,0,none⟩) (l.map str):=fun j hj=>⟨g,0,rfl,by
  rw[Nat.zero_add]
  refine h.cell ?_
  have af:j<l.length:=by simpa using hj
  rw[ZjH (by simp[Z6];omega)]
  simp[Z6,af]⟩
 have:=ZhG g 0 c (l.map str) w hR (by rw[Z17];rw[ZF] at ae;exact ae)
 rw[ZjN,Z17] at this
 exact this
theorem Z4m(base:Nat)(v:Value)(l:List Bs)(w:World)(h:Strs w base v l)(ae:l≠[])(af:(Zv l).length<=60000):
  Calls prog 126 #[v] w fun e w'=>e=.returned (.tuple #[.string (str (Zv l)),.nilIface])/\Below w.heap.size w w':=by
 obtain⟨g,cap,sp,rfl,_,_,_,hr⟩:=Qs h (List.length_pos_iff.2 ae)
 exact Z18 g cap l sp w hr af
theorem YW{ops:Array Oper}{rest:List Oper}{o:Oper}{a:Act}{Q:Exit->Act->World->Prop}(w:World)(hg:o.guard=none)(s x:Operand)(ho:o.op=.call {callee:=.builtin .append,args:= #[s,x],argTypes:= #[96,96]})
  (base:Nat) (v:Value) (l:List Bs) (hs:a.eval s=v) (ae:Strs w base v l) (p:Nat) (t:Bs) (hx:a.eval x=.slice (some ⟨p,0,none⟩) 1 1) (hc:w.heap[p]? =some (.cells #[.string (str t)] 9 (0,0)))
  (hb:base<=w.heap.size) (hl:l.length<=1000000)
  (hK:∀g cap w',Strs w' base (.slice (some ⟨g,0,none⟩) (l.length+1) cap) (l++[t])->Fr (ZE v) w w'->(v.ownBlock=some g∨g=w.heap.size)->wpList prog ops Q rest (a.put o.dst (.slice (some ⟨g,0,none⟩) (l.length+1) cap)) w'):wpList prog ops Q (o::rest) a w:=by
 obtain⟨j0,af,ag,ah,ai⟩:=info_parts XK
 refine wpList_append_lies w hg s x 96 ho base 9 j0 _ 1 16 underlying96 af ag ah ai rfl (by omega) v l.length _ hs ae ⟨p,0,none⟩ 1 1 [.string (str t)] hx rfl (World.news_of_block hc) (by simp[Value.oneCell']) (by omega) (by unfold maxLen;omega) (by omega) hb w.heap.size rfl ?_
 intro g cap w' h1 h2 h3 _
 refine hK g cap w' ?_ ((Fr.refl (ZE v) w).grown h2 (fun k hk=>Or.inl (ZG.2 hk))) h3
 unfold Strs
 rw[ZjI,ZjZ]
 have e:Z6 (l.map str++[str t])=Z6 (l.map str)++[.string (str t)]:=by simp[Z6]
 show w'.ownsRow base 9 1 _ (l.length+1) (Z6 (l.map str++[str t]))
 rw[e];exact h1
structure WhS(w:World)(g:Nat)(ts:List Value)(v:Value)(l:List Bs)(wr:World):Prop where
 own:Strs wr w.heap.size v l
 txt:Row wr g 9 ts
 bel:Below w.heap.size w wr
 no:v.ownBlock≠some g
theorem WhS.after(h:WhS w g ts v l wr)(hb:Below wr.heap.size wr w'):WhS w g ts v l w':=⟨h.own.after hb,h.txt.after hb,h.bel.trans (hb.mono h.bel.size),h.no⟩
theorem WhS.next{v':Value}{l':List Bs}(h:WhS w g ts v l wr)(hs:Strs w' w.heap.size v' l')(hf:Fr (ZE v) wr w')(hn:v'.ownBlock≠some g):WhS w g ts v' l' w':=
 ⟨hs,h.txt.fr hf (fun hm=>h.no (ZG.1 hm)),h.bel.trans (hf.below h.bel.size (fun i hi=>h.own.ge i hi)),hn⟩
theorem Z8T{b:Nat}{d:Dir}(h:Zy w b n d){k:Bs}{e:Ent}(hg:d.get k=some e)(hk:k.length<=maxLen):∃ (a:Option Addr) (l c:Nat),(∀W,Below w.heap.size w W->(Instr.lookup 155 (.map (some b)) (.string (str k)) false).run prog W=.ok (.agg #[.int .i64 (e.size:Int),.int .u32 (e.sum:Int),.slice a l c]) W)/\WF w (.agg #[.int .i64 (e.size:Int),.int .u32 (e.sum:Int),.slice a l c]) e:=by
 obtain⟨fv,m1,m2,m3⟩:=h
 obtain⟨v,hv,a,l,c,rfl,hr⟩:=m3 k e hg
 exact⟨a,l,c,fun W hW=>(m1.after hW).at_some underlying155 (Z07 W) hk hv,a,l,c,rfl,hr⟩
def J7(x:Bs×Ent):Bs:=Zv [x.1,x.2.tail]
theorem Zbt{h:Bs}{x:Bs}(hx:x∈l):x.length<=(Zv (h::l)).length:=by
 have:=Z1S (l:=h::l) (s:=x) (ZjS _ hx)
 rw[ZF];omega
theorem Ent.Ok.tailb{half:Nat}{e:Ent}(h:Ent.Ok n half e)(hn:n<=8192):e.size<=4294967295/\e.sum<=4294967295/\(∀r∈e.runs,r.1<=4294967295/\r.2<=4294967295)/\e.runs.length<=100000:=by
 refine⟨by have:=h.size;omega,by have:=h.sum;omega,fun r hr=>by have:=h.many r hr;omega,?_⟩
 have h4:e.runs.length<=e.secs.length:=Z2M e.runs (fun r hr=>(h.many r hr).1)
 have h1:=h.secs
 have h2:=h.size
 unfold ZH at h1;omega
theorem ZeZ(n half q db fb ga oa na ca:Nat)(us:Value)(acts:List Ac)(d:Dir)(f:Z1)(n1 n2:Nat)(w:World)(h:PlA w q db fb ga oa na ca us acts d f n1 n2)(cr:d.Ok n half)(dh:n<=8192)(bz:d≠[])(aq:(Y5 d).length<=60000):
  Calls prog 89 #[.pointer (some ⟨q,0,none⟩)] w fun e w'=>e=.returned (.tuple #[.string (str (Y5 d)),.nilIface])/\Below w.heap.size w w':=by
 have au:Y5 d=Zv (W5::d.map J7):=rfl
 have dr:d.length<=20000:=by
  have:=Yv (W5::d.map J7)
  rw[au,ZF] at aq
  rw[ZjM,ZjN] at this;omega
 have cn:d.names.length=d.length:=ZjN ..
 have de:0<d.length:=List.length_pos_iff.2 bz
 have c0:=h.row.cell (j:=0) rfl
 have HP:=Zka h
 have HO:=Zka (Zkb cr (Zkb au cn))
 have dt:=h.row.lt
 rw[au] at aq
 have HZ:=Zka aq
 clear h cr au cn bz aq
 go_enter func89,ntmps89
 have dj:=Row.new w 9 [.string (str W5)]
 have bj:=(Below.refl w.heap.size w).alloc Zk8 (.cells #[.string (str W5)] 9)
 have S0:Strs (w.alloc (.cells #[.string (str W5)] 9)) w.heap.size (.slice (some ⟨w.heap.size,0,none⟩) 1 1) [W5]:=⟨rfl,Or.inr ⟨w.heap.size,1,#[.string (str W5)],rfl,Zk8,heap_alloc_new w _,Zk8,by simp[maxLen],rfl,rfl⟩⟩
 have aj:=Zka (Zkb S0 bj)
 clear dj bj S0
 go_wp2_with (go_at_call 132;refine(Z3D db n1 d _ (HP.out.dir.after aj.out.2) HO.out.1.sorted (by omega)).mono ?_;rintro e w1 ⟨v,rfl,hv,aw⟩;obtain⟨g,cap,sp,rfl,bq,dp,dq,ct⟩:=Qs hv (by rw[HO.out.2.2];exact de);have S1:=Zka (Zkb (aj.out.1.after aw) (Zkb ct (aj.out.2.trans (aw.mono aj.out.2.size))));have cw:=Zka (show w.heap.size+1<=g by simpa using bq);clear hv ct aw bq)
 obtain⟨ts,b9⟩:∃ts,Z6 (d.names.map str)++sp=ts:=⟨_,rfl⟩
 have cu:∀k (hk:k<d.length),ts[k]? =some (.string (str (d[k]).1)):=fun k hk=>by
  rw[<-b9,ZjH (by simp[Z6,Dir.names];omega)]
  simp[Z6,Dir.names,hk]
 have W0:WhS w g ts (.slice (some ⟨w.heap.size,0,none⟩) 1 1) [W5] w1:=⟨S1.out.1,by rw[<-b9];exact S1.out.2.1,S1.out.2.2,fun e=>by
  simp only[Value.ownBlock,ZjJ] at e
  have:=cw.out
  omega⟩
 have cz:=Zka W0
 have cy:=Zka cu
 rw[HO.out.2.2]
 clear b9 cu W0
 go_loopw [4,16] (fun lv iv wr=>∃k:Nat,k<=d.length/\iv=.int .i64 k/\WhS w g ts lv (W5::(d.take k).map J7) wr) (fun _ iv _=>d.length- (intOf iv).toNat)
 case atStart=>exact⟨0,by omega,rfl,cz.out⟩
 case round=>
  obtain⟨k,hk,rfl,hW⟩:=hrel
  have HW:=Zka hW
  by_cases ay:k<d.length
  ·have ag:=hW.txt.cell (cy.out k ay)
   have ae:d[k]∈d:=ZjW ay
   have ah:d.get (d[k]).1=some (d[k]).2:=Dir.mem_get HO.out.1.sorted ae
   have cj:(d[k]).1.length<=maxLen:=by have:=HO.out.1.name _ ae;unfold maxLen;omega
   have bm:=HO.out.1.ent _ ae
   obtain⟨t1,t2,t3,t4⟩:=bm.tailb dh
   obtain⟨a,ln,c,hl,ax⟩:=Z8T (HP.out.dir.after hW.bel) ah cj
   have df:=hl _ Zk9
   have hit:(J7 d[k]).length<=60000:=Zk1 (Zbt (h:=W5) (List.mem_map_of_mem ae)) HZ.out
   have af:(d.take (k+1)).map J7=(d.take k).map J7++[J7 d[k]]:=by
    rw[ZjK ay,ZjZ];rfl
   have bu:((d.take k).map J7).length=k:=by rw[ZjN,ZjO];omega
   obtain⟨x,hx⟩:∃x,d[k]=x:=⟨_,rfl⟩
   rw[hx] at ag df cj ax hit af t1 t2 t3 t4
   have dm:=(HP.out.row.after hW.bel).cell (j:=0) rfl
   have HX:=Zka (Zkb ax (Zkb hit (Zkb af (Zkb t3 bu))))
   clear hW hl ae ah bm hx ax hit af t3 bu
   go_wp2_with (first
    |(go_at_call 133;refine(Z3G _ x.2 _ HX.out.1 t1 t2 HX.out.2.2.2.1 t4).mono ?_;rintro r w3 ⟨rfl,bf⟩;have S3:=Zka (HW.out.after bf);clear bf)
    |(go_at_call 126;refine(Z18 w3.heap.size 2 [x.1,x.2.tail] [] _ (Row.new w3 _ [.string (str x.1),.string (str x.2.tail)]) HX.out.2.1).mono ?_;rintro r w4 ⟨rfl,bg⟩;have S4:=Zka ((S3.out.after ((Below.refl w3.heap.size w3).alloc Zk8 _)).after bg);clear bg)
    |(at_builtin;refine YW _ rfl (.tmp 36) (.tmp 38) rfl w.heap.size u4 (W5::(d.take k).map J7) rfl (S4.out.own.after (Zk9.alloc Zk8 _)) w4.heap.size (J7 x) rfl (heap_alloc_new w4 _) (by have:=S4.out.bel.size;simp;omega) (by have:=HX.out.2.2.2.2;simp;omega) ?_;intro g5 dc w5 ai ak al;have S5:=Zka (Zkb ai (Zkb ak al));clear ai ak al))
   go_roundw
   case measure=>simp[intOf];omega
   case rel=>
    refine⟨k+1,by omega,by go_num,?_⟩
    obtain⟨ai,ak,al⟩:=S5.out
    have hlen:(W5::(d.take k).map J7).length=k+1:=by rw[ZjM,HX.out.2.2.2.2]
    rw[hlen] at ai
    have W4:=S4.out.after ((Below.refl w4.heap.size w4).alloc Zk8 (.cells #[.string (str (J7 x))] 9))
    refine W4.next (by rw[HX.out.2.2.1];exact ai) ak (fun e=> ?_)
    simp only[Value.ownBlock,ZjJ] at e
    subst e
    rcases al with h1|h1
    ·exact W4.no h1
    ·have h9:g5=(w4.alloc (.cells #[.string (str (J7 x))] 9)).heap.size:=h1
     have:=W4.txt.lt
     omega
  ·obtain rfl:k=d.length:=by omega
   rw[Zk5] at HW
   have hz:=HZ.out
   have az:=HW.out.own
   clear hW
   go_wp2_with (go_at_call 126;refine(Z4m w.heap.size u4 (W5::d.map J7) _ az (by simp) hz).mono ?_;rintro r w6 ⟨rfl,bh⟩;have S6:=Zka bh;clear bh)
   go_ret2
   exact⟨by rw[HO.out.2.1];rfl,HW.out.bel.trans (S6.out.mono HW.out.bel.size)⟩
end
section
variable{D:Dk}{base e half n:Nat}{rs:List Bs}
theorem Z0Q(D:Dk)(a m k:Nat):D.text a (m+k)=D.text a m++D.text (a+m) k:=by
 unfold Dk.text
 rw[List.range_add,List.flatMap_append,List.flatMap_map]
 congr 1
 have:(fun i=>(D.reads (a+(m+i))).data.toList)=fun i=>(D.reads (a+m+i)).data.toList:=funext fun i=>by rw[Nat.add_assoc]
 exact congrArg (fun g=>(List.range k).flatMap g) this
theorem Z3H(D:Dk)(a:Nat):D.text a 1=(D.reads a).data.toList:=by
 unfold Dk.text;simp[List.range_succ]
theorem Zii{l:Bs}{k:Nat}(hl:l.length=64*k):∀{a:Nat},(∀q,q<k->D.reads (a+q)=ZJ l q)->D.text a k=l:=by
 induction k generalizing l with
 |zero=>intro a _;have:l=[]:=List.length_eq_zero_iff.1 (by omega);rw[this];rfl
 |succ k ih=>
  intro a h
  rw[Nat.add_comm,Z0Q,Z3H]
  have h0:=h 0 (by omega)
  rw[Nat.add_zero] at h0
  rw[h0]
  have:=ih (l:=l.drop 64) (by rw[List.length_drop];omega) (a:=a+1) (fun q hq=>by
   have:=h (1+q) (by omega)
   rw[<-Nat.add_assoc] at this
   rw[this]
   unfold ZJ
   congr 1
   unfold sec
   rw[List.drop_drop]
   congr 2
   omega)
  rw[this]
  show sec l 0++l.drop 64=l
  unfold sec
  rw[Nat.zero_mul,List.drop_zero]
  exact Zk4 64 l
theorem ZeQ:∀{a m:Nat},Jz D.reads e a m rs->D.text a (Zg rs)=Yz e m rs:=by
 induction rs with
 |nil=>intro a m _;rfl
 |cons r rs ih=>
  intro a m h
  obtain⟨h1,h2⟩:=h
  obtain⟨p1,p2⟩:=Jg e (m+1) r
  rw[show Zg (r::rs)=Z8 r.length / 64+Zg rs from rfl,Z0Q,Yz,ih h2]
  congr 1
  exact Zii (by omega) h1
theorem Z7L(ok:D.ok n){a k:Nat}(ha:a<n)(hk:1<=k):(D.text a k).getD 0 0=WV (D.reads a):=by
 obtain⟨q,rfl⟩:∃q,k=1+q:=⟨k-1,by omega⟩
 rw[Z0Q,Z3H]
 have hz:=Z0t ok ha
 unfold WV
 have:(D.reads a).data.toList.length=64:=by simpa using hz
 cases hd:(D.reads a).data.toList with
 |nil=>rw[hd] at this;simp at this
 |cons x r=>rfl
theorem Zhw(ok:D.ok n)(hb:base+half<=n)(h:ZgW D.reads base half e rs):Zdq (D.text base half) e rs:=by
 have hf:=h.fits
 refine⟨D.text (base+(1+Zg rs)) (half- (1+Zg rs)),?_,?_⟩
 ·obtain⟨q,hq⟩:∃q,half=1+(Zg rs+q):=⟨half-1-Zg rs,by omega⟩
  rw[show half- (1+Zg rs)=q from by omega,hq,Z0Q,Z0Q,Z3H,h.head,ZeQ h.recs]
  rw[show base+1+Zg rs=base+(1+Zg rs) from by omega]
  rfl
 ·by_cases ae:1+Zg rs<half
  ·right
   rw[Z7L ok (by omega) (by omega)]
   exact h.stop ae
  ·left
   rw[show half- (1+Zg rs)=0 from by omega];rfl
theorem Zj0(ok:D.ok n)(hb:base+half<=n)(h1:1<=half)(h:Z5O D.reads base e):Z8y (D.text base half) e:=by
 rcases h with h|⟨e',h2,h3⟩
 ·left;rw[Z7L ok (by omega) h1];exact h
 ·right
  obtain⟨q,rfl⟩:∃q,half=1+q:=⟨half-1,by omega⟩
  exact⟨e',D.text (base+1) q,h2,by rw[Z0Q,Z3H,h3];rfl⟩
theorem ZhC{J:Jn}(ok:D.ok n)(h:Yk D.reads J rs)(h1:1<=J.half)(h2:2*J.half<=n)(he:J.epoch<=3000000000)(hs:∀r∈rs,r.length<=60000)(hc:J.closed=false):JRd D J rs:=by
 have hl:∀s,J.at_ s 0+J.half<=n:=fun s=>by unfold Jn.at_;split<;>omega
 exact⟨Zhw ok (hl _) h.on,Zj0 ok (hl _) h1 h.off,h.many,h.next,h.epoch,he,h.on.fits,hs,hc⟩
end
section
open Go.RowKit Go.Maps Go.WideMaps
theorem Zb8(B p d n:Nat)(P:Pw)(D:Dk)(L:List Nat)(s half j b nm:Nat)(uv:Value)(dir:Dir)(rc:Rec)(w:World)(h:PD B w p d n P D L)
  (ae:Row w s 157 [.pointer (some ⟨d,0,none⟩),.pointer (some ⟨j,0,none⟩),.int .i64 half,.map (some b),uv,.bool false]) (hd:Zy w b nm dir) (ai:nm<=1000000) (h2:2*half<=n) (hr:rc.Ok n half) (ag:(Rec.app dir rc).Ok n half) (ah:rc.enc.length<=60000):
  Calls prog 109 #[.pointer (some ⟨s,0,none⟩),.string (str rc.enc)] w fun r w'=>r=.returned (.bool true)/\(∃aj ak,Row w' s 157 [.pointer (some ⟨d,0,none⟩),.pointer (some ⟨j,0,none⟩),.int .i64 half,.map (some b),aj,.bool false]/\Zy w' b ak (Rec.app dir rc)/\JA w' aj (ZV n half (Rec.app dir rc)))/\Fr [s,b] w w':=by
 cases rc with
 |all d'=>
  obtain⟨h1,af⟩:=hr
  have e1:Rec.enc (.all d')=Zv (W5::(d'.map fun x=>(x.1,some x.2)).map Qk):=Zbj d'
  have e2:Rec.app dir (.all d')=XL [] (d'.map fun x=>(x.1,some x.2)):=by
   unfold XL;rw[List.foldl_map];rfl
  rw[e1] at ah⊢
  rw[e2] at ag⊢
  refine Zb7 B p d n P D L s half j b nm uv dir _ w h ae hd ai (by rw[ZjN];exact List.length_pos_iff.2 af) h2 ?_ ?_ ?_ ag ah
  ·rw[List.map_map,List.pairwise_map];exact h1.sorted
  ·intro x hx
   obtain⟨y,hy,rfl⟩:=List.mem_map.1 hx
   exact⟨(h1.name y hy).1,(h1.name y hy).2,fun e he=>by simp only[ZjJ] at he;rw[<-he];exact h1.ent y hy⟩
  ·intro x hx
   obtain⟨y,hy,rfl⟩:=List.mem_map.1 hx
   simp
 |some l=>
  obtain⟨af,h1,h3⟩:=hr
  exact Za2 B p d n P D L s half j b nm uv dir l w h ae hd ai (List.length_pos_iff.2 af) h2 h1 h3 trivial ag ah
structure OpS(w:World)(s b g d j:Nat)(J:Jn)(ts:List Value)(dir:Dir)(wr:World):Prop where
 row:∃uv,Row wr s 157 [.pointer (some ⟨d,0,none⟩),.pointer (some ⟨j,0,none⟩),.int .i64 100,.map (some b),uv,.bool false]/\JA wr uv (ZV 800 100 dir)
 dir:Zy wr b dir.length dir
 jn:JAt wr j d J
 txt:Row wr g 9 ts
 bel:Below w.heap.size w wr
theorem ZgE(B p d:Nat)(P:Pw)(D:Dk)(L:List Nat)(S:Sto)(recs:List Rec)(w:World)(h:PD B w p d 800 P D L)(hr:Xr P D=0)(hi:YL 800 100 D.reads S recs)(he:S.j.epoch<=3000000000)(ey:recs≠[]):
  Calls prog 62 #[.pointer (some ⟨d,0,none⟩)] w fun e w'=>∃s,e=.returned (.tuple #[.pointer (some ⟨s,0,none⟩),.nilIface])/\Z1D w.heap.size w' s d S/\Below w.heap.size w w':=by
 have cr:JRd D S.j (recs.map Rec.enc):=ZhC h.ok hi.img (by rw[hi.jhalf];omega) (by rw[hi.jhalf];omega) he (fun r hr=>by
  obtain⟨x,hx,rfl⟩:=List.mem_map.1 hr
  exact hi.small x hx) hi.open_
 have H:=Zka (Zkb h (Zkb hr cr))
 have HI:=Zka hi
 have ew:=hi.jhalf
 have ct:0<recs.length:=List.length_pos_iff.2 ey
 have ff:recs.length<=1000:=by
  have h1:=cr.fits
  have h2:=Jt (recs.map Rec.enc)
  rw[ZjN] at h2;omega
 clear h hr hi cr
 go_enter func62,ntmps62
 go_wp2_with fail
 refine(Z1u B p d P D L w H.out.1).mono ?_
 rintro e w1 ⟨s,b,rfl,cu,dh,dz,az,bm⟩
 have c2:=cu.cell (j:=2) rfl
 have ez:=bm.size
 have S1:=Zka (Zkb cu (Zkb dh (Zkb dz (Zkb az bm))))
 have cn:=ZfM B p d 800 P D L S.j (recs.map Rec.enc) w1 (H.out.1.after bm) (by omega) (by omega) H.out.2.1 H.out.2.2
 rw[ew,show((2*100:Nat):Int)=200 from rfl] at cn
 have eh:=Zka cn
 clear cn cu dh dz az bm c2
 have c2:=S1.out.1.cell (j:=2) rfl
 go_wp2_with fail
 refine eh.out.mono ?_
 rintro e w2 ⟨jv,lv,rfl,⟨j,rfl,dt,cj⟩,hown,hb2⟩
 obtain⟨g,cap,sp,rfl,dr,_,_,cy⟩:=Qs hown (by rw[ZjN];exact ct)
 rw[ZjN]
 have ax:=S1.out.1.after hb2
 have bz:=S1.out.2.1.after hb2
 have f12:=ax.free (j:=1) (by simp)
 have fc:=ax.cell (j:=1) rfl
 have fe:=ax.cell (j:=3) rfl
 have ag:Below w.heap.size w w2:=S1.out.2.2.2.2.trans (hb2.mono ez)
 obtain⟨w3,df⟩:∃w3,w3=w2.setCell ⟨s,1,none⟩ (.pointer (some ⟨j,0,none⟩)):=⟨_,rfl⟩
 have bf:Fr [s] w2 w3:=by rw[df];exact(Fr.refl _ _).setCell (Or.inl (by simp)) _
 have ne2:∀{g:Nat} {et:TypeId} {l:List Value},et≠157->Row w2 g et l->g∉[s]:=fun het hl hm=>by
  rw[ZjD] at hm
  subst hm
  exact het (Yf hl ax)
 have cw:Row w3 s 157 [.pointer (some ⟨d,0,none⟩),.pointer (some ⟨j,0,none⟩),.int .i64 100,.map (some b),.slice none 0 0,.bool false]:=by rw[df];exact ax.set 1 _
 have du:JAt w3 j d S.j:=Row.fr cj bf (ne2 (by decide) cj)
 have dq:=cy.fr bf (ne2 (by decide) cy)
 have bu:b∉[s]:=fun hm=>by
  rw[ZjD] at hm
  obtain⟨fv,m1,_⟩:=bz
  obtain⟨es,cl,hb⟩:=m1.block
  subst hm
  exact Y9 ax hb
 have dj:Zy w3 b 0 []:=bz.fr bf bu (fun k hk l hl=>ne2 (by decide) hl hk)
 have au:Below w.heap.size w w3:=ag.trans (bf.below ag.size (fun i hi=>by rw[ZjD] at hi;subst hi;exact S1.out.2.2.1))
 have er:=cw.cell (j:=3) rfl
 have S3:=Zka (Zkb cw (Zkb du (Zkb dq (Zkb dj (Zkb au (Zkb dt dr))))))
 have fg:=hb2.size
 have HW:=Zka df
 have ef:=Zka bu
 clear ax bz cw du dq dj au ag dt cj hown cy dr bf ne2 bu hb2
 go_wp2_with (go_at_call 94;rw[<-HW.out];refine(Z1b B p d 800 P D L s 100 b 0 [] _ (H.out.1.after S3.out.2.2.2.2.1) (S3.out.1.cell (j:=0) rfl) (S3.out.1.cell (j:=2) rfl) S3.out.2.2.2.1 Z62 (by omega)).mono ?_;rintro r w9 ⟨fi,rfl,⟨g9,rfl,dy⟩,ay⟩;have R9:=S3.out.1.after ay;have f49:=R9.free (j:=4) (by simp);have d49:=R9.cell (j:=4) rfl;have S9:=Zka (Zkb R9 (Zkb dy ay));clear ay R9 dy)
 have ah:Fr [s] w9 (w9.setCell ⟨s,4,none⟩ (.slice (some ⟨g9,0,none⟩) (ZV 800 100 []).length (ZV 800 100 []).length)):=(Fr.refl _ _).setCell (Or.inl (by simp)) _
 have bh:∀{g:Nat} {et:TypeId} {l:List Value},et≠157->Row w9 g et l->g∉[s]:=fun het hl hm=>by
  rw[ZjD] at hm
  subst hm
  exact het (Yf hl S9.out.1)
 obtain⟨ts,dc⟩:∃ts,Z6 ((recs.map Rec.enc).map str)++sp=ts:=⟨_,rfl⟩
 have ee:∀k,k<recs.length->ts[k]? =some (.string (str (recs.getD k (.all [])).enc)):=fun k hk=>by
  rw[<-dc,ZjH (by simp[Z6];omega)]
  simp only[Z6,List.getElem?_map,ZjF hk,Option.map_some,ZjE,Option.getD_some]
 have ay:=S3.out.2.2.2.2.1.trans (S9.out.2.2.mono S3.out.2.2.2.2.1.size)
 have O0:OpS w s b g d j S.j ts [] (w9.setCell ⟨s,4,none⟩ (.slice (some ⟨g9,0,none⟩) (ZV 800 100 []).length (ZV 800 100 []).length)):=
  ⟨⟨_,S9.out.1.set 4 _,g9,rfl,S9.out.2.1.fr ah (bh (by decide) S9.out.2.1)⟩,
   (S3.out.2.2.2.1.after S9.out.2.2).fr ah ef.out (fun k hk l hl=>bh (by decide) hl hk),
   Row.fr (S3.out.2.1.after S9.out.2.2) ah (bh (by decide) (S3.out.2.1.after S9.out.2.2)),
   by rw[<-dc];exact(S3.out.2.2.1.after S9.out.2.2).fr ah (bh (by decide) (S3.out.2.2.1.after S9.out.2.2)),
   ay.setCell (p:=⟨s,4,none⟩) S1.out.2.2.1 _⟩
 generalize (w9.setCell ⟨s,4,none⟩ (.slice (some ⟨g9,0,none⟩) (ZV 800 100 []).length (ZV 800 100 []).length))=fj at*
 have HO:=Zka O0
 have ek:=Zka ee
 clear O0 ah bh dc ee ay f49 d49 er
 go_loopw [51] (fun kv wr=>∃k:Nat,k<=recs.length/\kv=.int .i64 k/\OpS w s b g d j S.j ts ((recs.take k).foldl Rec.app []) wr) (fun kv _=>recs.length- (intOf kv).toNat)
 case atStart=>exact⟨0,by omega,rfl,HO.out⟩
 case round=>
  obtain⟨k,hk,rfl,hO⟩:=hrel
  by_cases bg:k<recs.length
  ·have b9:=hO.txt.cell (ek.out k bg)
   obtain⟨rc,ak⟩:∃rc,recs.getD k (.all [])=rc:=⟨_,rfl⟩
   rw[ak] at b9
   have cz:rc∈recs:=by rw[<-ak,ZjE,ZjF bg];exact ZjW bg
   have al:(recs.take (k+1)).foldl Rec.app []=Rec.app ((recs.take k).foldl Rec.app []) rc:=by
    rw[ZjK bg,List.foldl_append,<-ak,ZjE,ZjF bg];rfl
   have bq:=HI.out.pre (k+1) (by omega)
   rw[al] at bq
   have dp:=HI.out.few k (by omega)
   obtain⟨dk,dm⟩:∃dk,(recs.take k).foldl Rec.app []=dk:=⟨_,rfl⟩
   rw[dm] at bq dp hO al
   obtain⟨uv,ae,de⟩:=hO.row
   have dx:=H.out.1.after hO.bel
   have aw:=Zb8 B p d 800 P D L s 100 j b dk.length uv dk rc wr dx ae hO.dir (by omega) (by omega) (HI.out.recs rc cz) bq (HI.out.small rc cz)
   have HC:=Zka aw
   have HK:=Zka (Zkb al (Zkb hO ae))
   clear aw dx ae de hO dm ak al bq dp cz
   go_wp2_with (go_at_call 109;refine HC.out.mono ?_;rintro r fm ⟨rfl,⟨fa,fh,aj,ai,aq⟩,af⟩;have eo:=Zka (Zkb aj (Zkb ai (Zkb aq af)));clear aj ai aq af)
   go_roundw
   case measure=>simp[intOf];omega
   case rel=>
    refine⟨k+1,by omega,by go_num,?_⟩
    rw[HK.out.1]
    obtain⟨aj,ai,aq,af⟩:=eo.out
    obtain⟨_,hO,ae⟩:=HK.out
    have dw:∀{g:Nat} {et:TypeId} {l:List Value},et≠157->Row wr g et l->g∉[s,b]:=fun het hl hm=>by
     simp only[ZjV,Zk3,or_false] at hm
     rcases hm with rfl|rfl
     ·exact het (Yf hl ae)
     ·obtain⟨fv,m1,_⟩:=hO.dir
      obtain⟨es,cl,eu⟩:=m1.block
      exact Y9 hl eu
    exact⟨⟨fa,aj,aq⟩,ai.tight,Row.fr hO.jn af (dw (by decide) hO.jn),hO.txt.fr af (dw (by decide) hO.txt),hO.bel.trans (af.below hO.bel.size (fun i hi=>by
     simp only[ZjV,Zk3,or_false] at hi
     rcases hi with rfl|rfl
     ·exact S1.out.2.2.1
     ·exact S1.out.2.2.2.1))⟩
  ·obtain rfl:k=recs.length:=by omega
   rw[Zk5,HI.out.dir] at hO
   have bj:=Zka hO
   clear hO
   go_wp2_with fail
   go_ret2
   obtain⟨uv,ae,de⟩:=bj.out.row
   refine⟨s,rfl,⟨S1.out.2.2.1,j,b,uv,?_,by rw[HI.out.hh];exact ae,bj.out.jn,bj.out.dir,by rw[HI.out.used];exact de⟩,bj.out.bel⟩
   have:=S3.out.2.2.2.2.2.1;omega
end
section
open Go.RowKit
variable{D:Dk}{L O:List Nat}{Ls Os:Nat->List Nat}{M:Option Sto}{P:Pw}{S:Sto}{d g n p s x:Nat}{e:TypeId}{l:List Value}{w1:World}
def Zs(w:World)(X:List Nat)(ts:List TypeId):Prop:=∀k∈X,∃cs e fr,w.heap[k]? =some (.cells cs e fr)/\e∈ts
section
variable{w w':World}{X Y:List Nat}{ts us:List TypeId}
theorem Zs.row_ne(h:Zs w X ts){g:Nat}{e:TypeId}{l:List Value}(hr:Row w g e l)(he:e∉ts):g∉X:=fun hm=>by
 obtain⟨cs,e',fr,hh,hi⟩:=h g hm
 obtain⟨f,hg,_⟩:=hr
 rw[hh] at hg
 simp only[ZjJ,Obj.cells.injEq] at hg
 exact he (hg.2.1▸hi)
theorem Zs.map_ne(h:Zs w X ts){g:Nat}{es:Array MapEntry}{cl:Nat}(hr:w.heap[g]? =some (.map es cl)):g∉X:=fun hm=>by
 obtain⟨cs,e',fr,hh,hi⟩:=h g hm
 rw[hh] at hr;cases hr
theorem Zs.disj(h:Zs w X ts)(k:Zs w Y us)(hd:∀e∈ts,e∉us):∀i∈X,i∉Y:=fun i hi hj=>by
 obtain⟨cs,e,fr,hh,he⟩:=h i hi
 obtain⟨ag,e',ah,ae,af⟩:=k i hj
 rw[hh] at ae
 simp only[ZjJ,Obj.cells.injEq] at ae
 exact hd e he (ae.2.1▸af)
theorem Zs.mono(h:Zs w X ts)(hX:∀i∈Y,i∈X)(ht:∀e∈ts,e∈us):Zs w Y us:=fun k hk=>by
 obtain⟨cs,e,fr,hh,he⟩:=h k (hX k hk);exact⟨cs,e,fr,hh,ht e he⟩
theorem Zs.append(h:Zs w X ts)(k:Zs w Y ts):Zs w (X++Y) ts:=fun i hi=>by
 rcases ZjU.1 hi with hi|hi
 ·exact h i hi
 ·exact k i hi
theorem Zs.row(hr:Row w g e l)(he:e∈ts):Zs w [g] ts:=fun k hk=>by
 rw[ZjD] at hk
 subst hk
 obtain⟨f,hg,_⟩:=hr
 exact⟨_,e,_,hg,he⟩
theorem Zs.cons(hr:Row w g e l)(he:e∈ts)(h:Zs w X ts):Zs w (g::X) ts:=(Zs.row hr he).append h
theorem Zs.lt(h:Zs w X ts):∀k∈X,k<w.heap.size:=fun k hk=>by
 obtain⟨cs,e,fr,hh,he⟩:=h k hk
 exact(ZjQ.1 hh).1
end
def ZfS:List TypeId:=[109,5,194]
def Z4f:List TypeId:=112::ZfS
def Z68:List TypeId:=[157,225,91]
def Z3c:List TypeId:=78::(Z4f++Z68)
theorem PD.typedL{B:Nat}{w:World}(h:PD B w p d n P D L):Zs w L ZfS:=by
 obtain⟨gh,v,rfl,hd⟩:=h.dk
 intro k hk
 simp only[ZjV,ZG] at hk
 rcases hk with rfl|rfl|hk
 ·obtain⟨f,hg,_⟩:=hd.top;exact⟨_,_,_,hg,by decide⟩
 ·have:=hd.bytes;unfold ZC at this;exact⟨_,_,_,this,by decide⟩
 ·rcases hd.late.2 with ⟨hv,_⟩|⟨g',cap,cur,hv,_,hh,_⟩
  ·rw[hv] at hk;cases hk
  ·rw[hv] at hk
   simp only[Value.ownBlock,ZjJ] at hk
   subst hk
   exact⟨_,_,_,hh,by decide⟩
theorem PD.typed{B:Nat}{w:World}(h:PD B w p d n P D L):Zs w (p::L) Z4f:=Zs.cons h.pw (by decide) (h.typedL.mono (fun _ hi=>hi) (fun e he=>by unfold Z4f;exact ZjS _ he))
theorem PD.power{B:Nat}{w w':World}{P':Pw}(h:PD B w p d n P D L){X:List Nat}(hf:Fr X w w')(hX:∀k∈L,k∉X)(hp:Zo w' p P')(pok:P'.ok):PD B w' p d n P' D L:=by
 obtain⟨gh,v,rfl,hd⟩:=h.dk
 exact⟨hp,pok,⟨gh,v,rfl,hd.fr hf (hX _ (by simp)) (hX _ (by simp)) (fun g hg=>hX _ (by simp[ZG,hg]))⟩,h.ok,h.bp,h.bL⟩
def Wi(w:World)(s j d:Nat)(S:Sto):Prop:=∃b uv,Row w s 157 [.pointer (some ⟨d,0,none⟩),.pointer (some ⟨j,0,none⟩),.int .i64 S.half,.map (some b),uv,.bool false]/\JAt w j d S.j/\Zy w b S.dir.length S.dir/\JA w uv S.used
theorem Wi.at_{w:World}{j:Nat}(h:Wi w s j d S):Yg w s d S:=by
 obtain⟨b,uv,h⟩:=h;exact⟨j,b,uv,h⟩
theorem Z1D.j{B:Nat}{w:World}(h:Z1D B w s d S):B<=s/\∃j,B<=j/\Wi w s j d S:=by
 obtain⟨h0,j,b,uv,hj,h⟩:=h;exact⟨h0,j,hj,b,uv,h⟩
theorem Wi.fr{w w':World}{j:Nat}(h:Wi w s j d S){X:List Nat}{ts:List TypeId}(hf:Fr X w w')(ht:Zs w X ts)(h1:197∉ts)(h2:4∉ts)(hs:s∉X)(hj:j∉X):Wi w' s j d S:=by
 obtain⟨b,uv,r1,r2,r3,g,hv,r4⟩:=h
 have ae:b∉X:=by
  obtain⟨fv,m1,_⟩:=r3
  obtain⟨es,cl,hb⟩:=m1.block
  exact ht.map_ne hb
 exact⟨b,uv,r1.fr hf hs,Row.fr r2 hf hj,r3.fr hf ae (fun k hk l hl=>ht.row_ne hl h1 hk),g,hv,r4.fr hf (ht.row_ne r4 h2)⟩
theorem Wi.lt{w:World}{j:Nat}(h:Wi w s j d S):s<w.heap.size/\j<w.heap.size:=by
 obtain⟨b,uv,r1,r2,_⟩:=h;exact⟨r1.lt,Row.lt r2⟩
def Z2Y(w:World)(x d:Nat)(D:Dk):Option Sto->List Nat->Prop
 |some S,O=>∃s j,O=[x,s,j]/\Row w x 91 [.pointer (some ⟨d,0,none⟩),.pointer (some ⟨s,0,none⟩),.int .i64 D.life,.bool true]/\Wi w s j d S/\D.dead=false
 |none,O=>∃sv lf inn,O=[x]/\Row w x 91 [.pointer (some ⟨d,0,none⟩),sv,.int .i64 lf,.bool inn]/\(inn=true->D.dead=true∨D.life≠lf)
theorem Z2Y.typed{w:World}(h:Z2Y w x d D M O):Zs w O Z68:=by
 cases M with
 |none=>obtain⟨sv,lf,inn,rfl,hr,_⟩:=h;exact Zs.row hr (by decide)
 |some S=>
  obtain⟨s,j,rfl,hr,⟨b,uv,r1,r2,_⟩,_⟩:=h
  exact Zs.cons hr (by decide) (Zs.cons r1 (by decide) (Zs.row r2 (by decide)))
theorem Z2Y.fr{w w':World}(h:Z2Y w x d D M O){X:List Nat}{ts:List TypeId}(hf:Fr X w w')(ht:Zs w X ts)(h1:197∉ts)(h2:4∉ts)(hO:∀k∈O,k∉X):Z2Y w' x d D M O:=by
 cases M with
 |none=>obtain⟨sv,lf,inn,rfl,hr,hi⟩:=h;exact⟨sv,lf,inn,rfl,hr.fr hf (hO _ (by simp)),hi⟩
 |some S=>
  obtain⟨s,j,rfl,hr,hs,hd⟩:=h
  exact⟨s,j,rfl,hr.fr hf (hO _ (by simp)),hs.fr hf ht h1 h2 (hO _ (by simp)) (hO _ (by simp)),hd⟩
def upd{α:Type}(f:Nat->α)(i:Nat)(a:α):Nat->α:=fun j=>if j=i then a else f j
theorem Zn{α:Type}(f:Nat->α)(i:Nat)(a:α):upd f i a i=a:=by simp[upd]
theorem Z7{α:Type}(f:Nat->α){i j:Nat}(a:α)(h:j≠i):upd f i a j=f j:=by simp[upd,h]
structure Eg where
 n:Nat
 p:Nat
 s:Nat
 ms:Nat
 cap:Nat
 xs:Nat->Nat
 ds:Nat->Nat
structure Ev where
 k:Nat
 m:Nat
 gen:Int
 P:Pw
 Ds:Nat->Dk
 Ms:Nat->Option Sto
def Wm(n:Nat)(xs:Nat->Nat):List Value:=(List.range n).map fun i=>.pointer (some ⟨xs i,0,none⟩)
theorem Z1U(n:Nat)(xs:Nat->Nat)(i:Nat)(h:i<n):(Wm n xs)[i]? =some (.pointer (some ⟨xs i,0,none⟩)):=by simp[Wm,h]
theorem JG(n:Nat)(xs:Nat->Nat):(Wm n xs).length=n:=by simp[Wm]
structure Q0(B:Nat)(w:World)(G:Eg)(V:Ev)(Ls Os:Nat->List Nat):Prop where
 set:Row w G.s 78 [.int .i64 V.k,.int .i64 V.m,.slice (some ⟨G.ms,0,none⟩) G.n G.cap,.int .i64 V.gen,.bool false]
 mem:∃sp,Row w G.ms 92 (Wm G.n G.xs++sp)
 n1:1<=G.n
 n16:G.n<=16
 pd:∀i,i<G.n->PD B w G.p (G.ds i) 800 V.P (V.Ds i) (Ls i)
 dap:∀i j,i<G.n->j<G.n->i≠j->∀k∈Ls i,k∉Ls j
 at_:∀i,i<G.n->Z2Y w (G.xs i) (G.ds i) (V.Ds i) (V.Ms i) (Os i)
 oap:∀i j,i<G.n->j<G.n->i≠j->∀k∈Os i,k∉Os j
 bO:∀i,i<G.n->∀k∈Os i,B<=k
 bs:B<=G.s
def WU(G:Eg)(Ls Os:Nat->List Nat):List Nat:=G.s::((List.range G.n).flatMap Ls++(List.range G.n).flatMap Os)
theorem QT{G:Eg}{k:Nat}:k∈WU G Ls Os↔k=G.s∨(∃i,i<G.n/\k∈Ls i)∨∃i,i<G.n/\k∈Os i:=by
 unfold WU
 simp only[ZjV,ZjU,List.mem_flatMap,List.mem_range]
def EAt(B:Nat)(w:World)(G:Eg)(V:Ev)(bl:List Nat):Prop:=∃Ls Os,bl=WU G Ls Os/\Q0 B w G V Ls Os
def Zf(B:Nat)(G:Eg)(bl:List Nat)(V:Ev)(w w':World):Prop:=∃bl',EAt B w' G V bl'/\(∀k∈bl',k∈bl∨w.heap.size<=k)/\Fr (G.p::bl) w w'
section
variable{B:Nat}{w w':World}{G:Eg}{V:Ev}{bl:List Nat}
theorem Q0.pw(h:Q0 B w G V Ls Os):Zo w G.p V.P:=(h.pd 0 h.n1).pw
theorem Q0.typed(h:Q0 B w G V Ls Os):Zs w (G.p::WU G Ls Os) Z3c:=by
 intro k hk
 rcases ZjV.1 hk with rfl|hk
 ·obtain⟨f,hg,_⟩:=h.pw;exact⟨_,_,_,hg,by decide⟩
 ·rcases QT.1 hk with rfl|⟨i,hi,hk⟩|⟨i,hi,hk⟩
  ·obtain⟨f,hg,_⟩:=h.set;exact⟨_,_,_,hg,by decide⟩
  ·exact(h.pd i hi).typedL.mono (us:=Z3c) (fun _ hi=>hi) (by decide) k hk
  ·exact(h.at_ i hi).typed.mono (us:=Z3c) (fun _ hi=>hi) (by decide) k hk
theorem EAt.typed(h:EAt B w G V bl):Zs w (G.p::bl) Z3c:=by
 obtain⟨Ls,Os,rfl,h⟩:=h;exact h.typed
theorem EAt.row_ne(h:EAt B w G V bl){g:Nat}{e:TypeId}{l:List Value}(hr:Row w g e l)(he:e∉Z3c):g∉G.p::bl:=h.typed.row_ne hr he
theorem EAt.ge(h:EAt B w G V bl):∀k∈G.p::bl,B<=k:=by
 obtain⟨Ls,Os,rfl,h⟩:=h
 intro k hk
 rcases ZjV.1 hk with rfl|hk
 ·exact(h.pd 0 h.n1).bp
 ·rcases QT.1 hk with rfl|⟨i,hi,hk⟩|⟨i,hi,hk⟩
  ·exact h.bs
  ·exact(h.pd i hi).bL k hk
  ·exact h.bO i hi k hk
theorem EAt.bw(h:EAt B w G V bl):B<=w.heap.size:=Zk1 (h.ge G.p (by simp)) (Nat.le_of_lt (h.typed.lt G.p (by simp)))
theorem Q0.fr(h:Q0 B w G V Ls Os){X:List Nat}{ts:List TypeId}(hf:Fr X w w')(ht:Zs w X ts)(h1:197∉ts)(h2:4∉ts)(h3:92∉ts)(hX:∀k∈G.p::WU G Ls Os,k∉X):Q0 B w' G V Ls Os:=by
 have hb:∀k∈WU G Ls Os,k∉X:=fun k hk=>hX k (ZjS _ hk)
 obtain⟨sp,hm⟩:=h.mem
 refine⟨h.set.fr hf (hb _ (by simp[WU])),⟨sp,hm.fr hf (ht.row_ne hm h3)⟩,h.n1,h.n16,fun i hi=>(h.pd i hi).fr hf (fun k hk hm=> ?_),h.dap,fun i hi=>(h.at_ i hi).fr hf ht h1 h2 (fun k hk=>hb k (QT.2 (Or.inr (Or.inr ⟨i,hi,hk⟩)))),h.oap,h.bO,h.bs⟩
 rcases ZjV.1 hm with rfl|hm
 ·exact hX _ (by simp) hk
 ·exact hb k (QT.2 (Or.inr (Or.inl ⟨i,hi,hm⟩))) hk
theorem EAt.fr(h:EAt B w G V bl){X:List Nat}{ts:List TypeId}(hf:Fr X w w')(ht:Zs w X ts)(h1:197∉ts)(h2:4∉ts)(h3:92∉ts)(hX:∀k∈G.p::bl,k∉X):EAt B w' G V bl:=by
 obtain⟨Ls,Os,rfl,h⟩:=h;exact⟨Ls,Os,rfl,h.fr hf ht h1 h2 h3 hX⟩
theorem EAt.after(h:EAt B w G V bl)(hb:Below w.heap.size w w'):EAt B w' G V bl:=h.fr (Fr.of_below (L:=[]) hb) (ts:=[]) (fun k hk=>by cases hk) (by simp) (by simp) (by simp) (by simp)
theorem EAt.setCell(h:EAt B w G V bl){a:Addr}{e:TypeId}{l:List Value}(hr:Row w a.block e l)(he:e∉Z3c)(h1:e≠197)(h2:e≠4)(h3:e≠92)(v:Value):EAt B (w.setCell a v) G V bl:=
 h.fr (X:=[a.block]) (ts:=[e]) ((Fr.refl _ _).setCell (Or.inl (by simp)) v) (Zs.row hr (by simp)) (by simpa using h1.symm) (by simpa using h2.symm) (by simpa using h3.symm) (fun k hk hm=>by rw[ZjD] at hm;subst hm;exact h.row_ne hr he hk)
theorem Zf.same(h:EAt B w G V bl)(hb:Below w.heap.size w w'):Zf B G bl V w w':=⟨bl,h.after hb,fun k hk=>Or.inl hk,Fr.of_below hb⟩
theorem Zf.trans{V1 V2:Ev}{w2:World}{ae:List Nat}(h1:EAt B w1 G V1 ae/\(∀k∈ae,k∈bl∨w.heap.size<=k)/\Fr (G.p::bl) w w1)(h2:Zf B G ae V2 w1 w2):Zf B G bl V2 w w2:=by
 obtain⟨af,e2,g2,f2⟩:=h2
 refine⟨af,e2,fun k hk=> ?_,h1.2.2.trans f2 (fun i hi ag=> ?_)⟩
 ·rcases g2 k hk with h|h
  ·exact h1.2.1 k h
  ·exact Or.inr (Zk1 h1.2.2.size h)
 ·rcases ZjV.1 hi with rfl|hi
  ·simp
  ·rcases h1.2.1 i hi with h|h
   ·exact ZjS _ h
   ·omega
theorem Zf.after{V1:Ev}(h:Zf B G bl V1 w w1)(hb:Below w1.heap.size w1 w'):Zf B G bl V1 w w':=by
 obtain⟨ae,e1,g1,f1⟩:=h
 exact⟨ae,e1.after hb,g1,f1.trans (Fr.of_below (L:=[]) hb) (by simp)⟩
theorem Zf.from{V1:Ev}{w0:World}(h:Zf B G bl V1 w w')(hb:Below w0.heap.size w0 w):Zf B G bl V1 w0 w':=by
 obtain⟨ae,e1,g1,f1⟩:=h
 exact⟨ae,e1,fun k hk=>(g1 k hk).imp id (fun h=>Zk1 hb.size h),(Fr.of_below (L:=G.p::bl) hb).trans f1 (fun i hi _=>hi)⟩
theorem Zf.row{V1:Ev}(h:Zf B G bl V1 w w')(h0:EAt B w G V bl){g:Nat}{e:TypeId}{l:List Value}(hr:Row w g e l)(he:e∉Z3c):Row w' g e l:=by
 obtain⟨ae,e1,g1,f1⟩:=h
 exact hr.fr f1 (h0.row_ne hr he)
theorem Zf.below{V1:Ev}(h:Zf B G bl V1 w w')(h0:EAt B w G V bl):Below B w w':=by
 obtain⟨ae,e1,g1,f1⟩:=h
 exact f1.below h0.bw h0.ge
theorem Q0.step(h:Q0 B w G V Ls Os){i:Nat}(hi:i<G.n){X:List Nat}{P':Pw}{D':Dk}{M':Option Sto}{L' O':List Nat}(hf:Fr (X++G.p::Ls i) w w')(hX:∀k∈X,k∈Os i)(hp:PD B w' G.p (G.ds i) 800 P' D' L')(hM:Z2Y w' (G.xs i) (G.ds i) D' M' O')
  (hL:∀k∈L',k∈Ls i∨w.heap.size<=k) (hO:∀k∈O',k∈Os i∨w.heap.size<=k):Zf B G (WU G Ls Os) {V with P:=P',Ds:=upd V.Ds i D',Ms:=upd V.Ms i M'} w w':=by
 have al:B<=w.heap.size:=EAt.bw ⟨Ls,Os,rfl,h⟩
 have ai:Zs w X Z68:=(h.at_ i hi).typed.mono hX (fun _ he=>he)
 have af:Zs w (X++G.p::Ls i) (Z4f++Z68):=(ai.mono (fun _ h=>h) (fun e he=>List.mem_append_right _ he)).append ((h.pd i hi).typed.mono (fun _ h=>h) (fun e he=>List.mem_append_left _ he))
 have aj:∀j,j<G.n->j≠i->∀k∈Ls j,k∉X++G.p::Ls i:=fun j hj ah k hk hm=>by
  rcases ZjU.1 hm with hm|hm
  ·exact ai.disj ((h.pd j hj).typedL) (by decide) k hm hk
  ·rcases ZjV.1 hm with rfl|hm
   ·exact(h.pd j hj).typedL.row_ne (h.pd i hi).pw (by decide) hk
   ·exact h.dap j i hj hi ah k hk hm
 have ak:∀j,j<G.n->j≠i->∀k∈Os j,k∉X++G.p::Ls i:=fun j hj ah k hk hm=>by
  rcases ZjU.1 hm with hm|hm
  ·exact h.oap j i hj hi ah k hk (hX k hm)
  ·exact(h.at_ j hj).typed.disj (h.pd i hi).typed (by decide) k hk hm
 obtain⟨sp,ag⟩:=h.mem
 refine⟨WU G (upd Ls i L') (upd Os i O'),⟨_,_,rfl,h.set.fr hf (af.row_ne h.set (by decide)),⟨sp,ag.fr hf (af.row_ne ag (by decide))⟩,h.n1,h.n16,fun j hj=> ?_,fun a b ha hb ae k hk=> ?_,fun j hj=> ?_,fun a b ha hb ae k hk=> ?_,fun j hj k hk=> ?_,h.bs⟩,fun k hk=> ?_,hf.mono (fun k hk _=> ?_)⟩
 ·by_cases e:j=i
  ·subst e;simp only[Zn];exact hp
  ·simp only[Z7 _ _ e]
   exact(h.pd j hj).power hf (aj j hj e) hp.pw hp.pok
 ·by_cases ea:a=i
  ·subst ea
   rw[Zn] at hk
   rw[Z7 _ _ (fun e=>ae e.symm)]
   rcases hL k hk with h1|h1
   ·exact h.dap a b ha hb ae k h1
   ·intro h2
    have:=(h.pd b hb).typedL.lt k h2
    omega
  ·rw[Z7 _ _ ea] at hk
   by_cases eb:b=i
   ·subst eb
    rw[Zn]
    intro h2
    rcases hL k h2 with h1|h1
    ·exact h.dap a b ha hb ae k hk h1
    ·have:=(h.pd a ha).typedL.lt k hk
     omega
   ·rw[Z7 _ _ eb];exact h.dap a b ha hb ae k hk
 ·by_cases e:j=i
  ·subst e;simp only[Zn];exact hM
  ·simp only[Z7 _ _ e]
   exact(h.at_ j hj).fr hf af (by decide) (by decide) (ak j hj e)
 ·by_cases ea:a=i
  ·subst ea
   rw[Zn] at hk
   rw[Z7 _ _ (fun e=>ae e.symm)]
   rcases hO k hk with h1|h1
   ·exact h.oap a b ha hb ae k h1
   ·intro h2
    have:=(h.at_ b hb).typed.lt k h2
    omega
  ·rw[Z7 _ _ ea] at hk
   by_cases eb:b=i
   ·subst eb
    rw[Zn]
    intro h2
    rcases hO k h2 with h1|h1
    ·exact h.oap a b ha hb ae k hk h1
    ·have:=(h.at_ a ha).typed.lt k hk
     omega
   ·rw[Z7 _ _ eb];exact h.oap a b ha hb ae k hk
 ·by_cases e:j=i
  ·subst e
   rw[Zn] at hk
   rcases hO k hk with h1|h1
   ·exact h.bO j hj k h1
   ·omega
  ·rw[Z7 _ _ e] at hk;exact h.bO j hj k hk
 ·rcases QT.1 hk with rfl|⟨j,hj,hk⟩|⟨j,hj,hk⟩
  ·exact Or.inl (by simp[WU])
  ·by_cases e:j=i
   ·subst e
    rw[Zn] at hk
    exact(hL k hk).imp (fun h1=>QT.2 (Or.inr (Or.inl ⟨j,hj,h1⟩))) id
   ·rw[Z7 _ _ e] at hk
    exact Or.inl (QT.2 (Or.inr (Or.inl ⟨j,hj,hk⟩)))
  ·by_cases e:j=i
   ·subst e
    rw[Zn] at hk
    exact(hO k hk).imp (fun h1=>QT.2 (Or.inr (Or.inr ⟨j,hj,h1⟩))) id
   ·rw[Z7 _ _ e] at hk
    exact Or.inl (QT.2 (Or.inr (Or.inr ⟨j,hj,hk⟩)))
 ·rcases ZjU.1 hk with hk|hk
  ·exact ZjS _ (QT.2 (Or.inr (Or.inr ⟨i,hi,hX k hk⟩)))
  ·rcases ZjV.1 hk with rfl|hk
   ·simp
   ·exact ZjS _ (QT.2 (Or.inr (Or.inl ⟨i,hi,hk⟩)))
end
end
section
variable{N:List Bs}{e:Ent}{f:Z1}{half n:Nat}
def Dir.Sm(N:List Bs)(d:Dir):Prop:=∀x∈d,x.1∈N/\x.2.size<=500/\1<=x.2.size
structure Ac.Sm(N:List Bs)(a:Ac):Prop where
 name:a.name∈N
 «to»:a.kind=3->a.to∈N
 value:a.value.length<=500
 pos:a.kind=1->1<=a.value.length
theorem Zfg{d d':Dir}{f':Z1}{k:Nat}{a:Ac}(h:Dir.Sm N d)(ha:Ac.Sm N a)(hd:YU k a d f=some (d',f')):Dir.Sm N d'/\f'.length<=f.length+1:=by
 have ae:∀ (g:Z1) (n:Bs),(g.del n).length<=g.length:=fun g n=>List.length_filter_le _ _
 unfold YU at hd
 split at hd
 ·rename_i h1
  simp only[ZjJ,Prod.mk.injEq] at hd
  obtain⟨rfl,rfl⟩:=hd
  refine⟨fun x hx=> ?_,by rw[ZjI];have:=ae f a.name;simp;omega⟩
  rcases Dir.mem_put.1 hx with rfl|⟨hx,_⟩
  ·exact⟨ha.name,ha.value,ha.pos h1⟩
  ·exact h x (Dir.mem_del.1 hx).1
 ·split at hd
  ·simp only[ZjJ,Prod.mk.injEq] at hd
   obtain⟨rfl,rfl⟩:=hd
   exact⟨fun x hx=>h x (Dir.mem_del.1 hx).1,by have:=ae f a.name;omega⟩
  ·cases hd
 ·rename_i h3
  split at hd
  ·rename_i e0 af
   split at hd
   ·cases hd
   ·simp only[ZjJ,Prod.mk.injEq] at hd
    obtain⟨rfl,rfl⟩:=hd
    refine⟨fun x hx=> ?_,by have h1:=ae f a.name;have h2:=ae (f.del a.name) a.to;omega⟩
    rcases Dir.mem_put.1 hx with rfl|⟨hx,_⟩
    ·exact⟨ha.to h3,(h _ (Dir.get_some_mem af)).2⟩
    ·exact h x (Dir.mem_del.1 hx).1
  ·cases hd
 ·cases hd
theorem ZdR{l:List Ac}(ha:∀a∈l,Ac.Sm N a):∀{k:Nat} {d d':Dir} {f f':Z1},Dir.Sm N d->Ql l k d f=some (d',f')->Dir.Sm N d'/\f'.length<=f.length+l.length:=by
 induction l with
 |nil=>intro k d d' f f' h hd;simp only[Ql,ZjJ,Prod.mk.injEq] at hd;obtain⟨rfl,rfl⟩:=hd;exact⟨h,by simp⟩
 |cons a r ih=>
  intro k d d' f f' h hd
  rw[Ql] at hd
  split at hd
  ·rename_i d1 f1 ae
   obtain⟨h1,h2⟩:=Zfg h (ha a (by simp)) ae
   obtain⟨h3,h4⟩:=ih (fun b hb=>ha b (by simp[hb])) h1 hd
   exact⟨h3,by rw[ZjM];omega⟩
  ·cases hd
theorem Zgl(todo:Z1):∀{free:List Nat} {d d':Dir},Dir.Sm N d->Yp free todo d=some d'->Dir.Sm N d':=by
 induction todo with
 |nil=>intro free d d' h hp;simp only[Yp,ZjJ] at hp;subst hp;exact h
 |cons x r ih=>
  intro free d d' h hp
  rw[Yp] at hp
  split at hp
  ·rename_i e he
   split at hp
   ·refine ih (fun y hy=> ?_) hp
    rcases Dir.mem_put.1 hy with rfl|⟨hy,_⟩
    ·have h9:=h _ (Dir.get_some_mem he)
     exact⟨h9.1,h9.2⟩
    ·exact h y hy
   ·cases hp
  ·cases hp
theorem ZcQ(todo:Z1):∀{free:List Nat} {d:Dir},(∀x∈todo,∃e,d.get x.1=some e/\e.size<=500)->8*todo.length<=free.length->∃d',Yp free todo d=some d':=by
 induction todo with
 |nil=>intro free d _ _;exact⟨d,rfl⟩
 |cons x r ih=>
  intro free d h hl
  obtain⟨e,he,hs⟩:=h x (by simp)
  rw[ZjM] at hl
  have h8:ZH e.size<=8:=by unfold ZH;omega
  obtain⟨d',af⟩:=ih (free:=free.drop (ZH e.size)) (d:=d.put x.1 {e with runs:=ZY (free.take (ZH e.size))}) (fun y hy=>by
   obtain⟨e2,ag,ah⟩:=h y (by simp[hy])
   rw[Dir.get_put]
   by_cases ae:y.1=x.1
   ·rw[if_pos ae];exact⟨_,rfl,hs⟩
   ·rw[if_neg ae];exact⟨e2,ag,ah⟩) (by rw[List.length_drop];omega)
  refine⟨d',?_⟩
  rw[Yp,he]
  simp only
  rw[if_pos (by omega)]
  exact af
theorem Z1a{d:Dir}(h:Dir.Sm N d)(hs:d.Sorted):d.length<=N.length:=by
 have h1:=(Dir.names_nodup hs).length_le_of_subset (l₂:=N) (fun n hn=>by
  obtain⟨x,hx,rfl⟩:=List.mem_map.1 hn
  exact(h x hx).1)
 rwa[show d.names.length=d.length from ZjN ..] at h1
theorem Z9U(rs:List (Nat×Nat))(h:∀r∈rs,1<=r.2):rs.length<=(Z9 rs).length:=by
 unfold Z9
 induction rs with
 |nil=>simp
 |cons x l ih=>
  have h1:=h x (by simp)
  have h2:=ih (fun r hr=>h r (by simp[hr]))
  rw[ZjX,ZjI,List.length_range',ZjM]
  omega
theorem Z7E(h:Ent.Ok n half e)(hs:e.size<=500):e.secs.length<=8:=by
 rw[h.secs];unfold ZH;omega
theorem Z7F(h:Ent.Ok n half e)(hs:e.size<=500):e.tail.length<=72:=by
 have h1:=Z7E h hs
 have h2:e.runs.length<=e.secs.length:=Z9U e.runs (fun r hr=>(h.many r hr).1)
 have h3:∀l:List (Nat×Nat),(Qi l).length=8*l.length:=fun l=>by
  induction l with
  |nil=>rfl
  |cons x l ih=>unfold Qi at ih⊢;rw[ZjX,ZjI,ih,ZjI,Zq,Zq,ZjM];omega
 unfold Ent.tail
 rw[ZjI,ZjI,Zq,Zq,h3]
 omega
theorem ZdQ{d:Dir}(h:∀x∈d,Ent.Ok n half x.2/\x.2.size<=500):d.secs.length<=8*d.length:=by
 unfold Dir.secs
 induction d with
 |nil=>simp
 |cons x r ih=>
  have h1:=Z7E (h x (by simp)).1 (h x (by simp)).2
  have h2:=ih (fun y hy=>h y (by simp[hy]))
  rw[ZjX,ZjI,ZjM]
  omega
theorem Z7m(l:List Bs)(b:Nat)(h:∀x∈l,x.length<=b):Zt l<=(4+b)*l.length:=by
 induction l with
 |nil=>simp[Zt]
 |cons x r ih=>
  have h1:=h x (by simp)
  have h2:=ih (fun y hy=>h y (by simp[hy]))
  rw[Zc,ZjM,Nat.mul_succ]
  omega
theorem Z9c{a b:Bs}(ha:a.length<=12)(hb:b.length<=72):(Zv [a,b]).length<=96:=by
 rw[ZF,Zc,Zc]
 simp[Zt]
 omega
theorem Zbk{d:Dir}(hN:∀m∈N,m.length<=12)(ae:N.length<=40)(h:Dir.Sm N d)(ok:d.Ok n half):(Y5 d).length<=4100:=by
 have h1:=Z1a h ok.sorted
 unfold Y5
 rw[ZF,Zc]
 have h2:=Z7m (d.map fun x=>Zv [x.1,x.2.tail]) 96 (fun t ht=>by
  obtain⟨x,hx,rfl⟩:=List.mem_map.1 ht
  exact Z9c (hN _ (h x hx).1) (Z7F (ok.ent x hx) (h x hx).2.1))
 rw[ZjN] at h2
 have h3:W5.length=3:=rfl
 omega
theorem Zd9{was d:Dir}(hN:∀m∈N,m.length<=12)(aj:N.length<=40)(hw:Dir.Sm N was)(h:Dir.Sm N d)(ai:was.Ok n half)(ok:d.Ok n half):(Ja (QF was d f)).length<=4100:=by
 have hb:=Dir.both_sorted ai.sorted d
 have ae:∀m∈(was.both d).names,m∈N:=fun m hm=>by
  have hg:=QC.1 hm
  rw[Dir.both_get _ ok.sorted] at hg
  cases hd:d.get m with
  |some e=>exact(h _ (Dir.get_some_mem hd)).1
  |none=>
   rw[hd] at hg
   simp only at hg
   cases af:was.get m with
   |some e=>exact(hw _ (Dir.get_some_mem af)).1
   |none=>exact absurd af hg
 have h1:=(Dir.names_nodup hb).length_le_of_subset (l₂:=N) ae
 have h4:(QF was d f).length<=(was.both d).names.length:=by unfold QF;exact List.length_filterMap_le _ _
 unfold Ja
 rw[ZF,Zc]
 have h2:=Z7m ((QF was d f).map Qk) 96 (fun t ht=>by
  obtain⟨x,hx,rfl⟩:=List.mem_map.1 ht
  unfold QF at hx
  obtain⟨m,hm,ah⟩:=List.mem_filterMap.1 hx
  obtain⟨e1,e2⟩:=Z0F ah
  have hn:=hN _ (ae m hm)
  rw[<-e1] at hn
  unfold Qk
  cases ag:x.2 with
  |none=>simp only;rw[ZF,Zc];simp[Zt];omega
  |some e=>
   simp only
   rw[ag] at e2
   have hm:=Dir.get_some_mem e2.symm
   exact Z9c hn (Z7F (ok.ent _ hm) (h _ hm).2.1))
 rw[ZjN] at h2
 have h3:Yj.length=4:=rfl
 omega
theorem Zhl{was d:Dir}(hd:d.Sorted){m:Bs}(h:(d.get m≠none/\f.by m≠none)∨(was.get m≠none/\d.get m=none)):QF was d f≠[]:=by
 intro h0
 unfold QF at h0
 have hm:m∈(was.both d).names:=by
  rw[QC,Dir.both_get _ hd]
  rcases h with ⟨h1,_⟩|⟨h1,h2⟩
  ·cases hg:d.get m with
   |none=>exact absurd hg h1
   |some e=>simp
  ·rw[h2];exact h1
 rw[List.filterMap_eq_nil_iff] at h0
 have h9:=h0 m hm
 unfold chg at h9
 rcases h with ⟨h1,h2⟩|⟨h1,h2⟩
 ·cases hg:d.get m with
  |none=>exact h1 hg
  |some e=>
   rw[hg] at h9
   have hb:f.has m=true:=by rw[Z1.has_by];cases hf:f.by m with
    |none=>exact absurd hf h2
    |some k=>rfl
   cases hw:was.get m with
   |none=>rw[hw] at h9;simp at h9
   |some o=>rw[hw] at h9;simp[hb] at h9
 ·rw[h2] at h9;simp at h9
theorem Z4d{R:Nat->ByteArray}{S:Sto}{recs:List Rec}{acts:List Ac}{d0:Dir}(h:YL 800 100 R S recs)(hN:∀m∈N,m.length<=12)(ak:N.length<=40)(ah:Dir.Sm N S.dir)(hw:∀a∈acts,a.wrong=false)(ha:∀a∈acts,Ac.Sm N a)(hl:acts.length<=12)
  (hd:Ql acts 0 S.dir []=some (d0,f)) (aq:∃m,f.by m≠none∨(S.dir.get m≠none/\d0.get m=none)) (ai:d0≠[]):∃d,S.plan acts=some (d,f)/\Z47 S d f/\Dir.Sm N d/\f.length<=12:=by
 have ok:=h.ok
 have au:Z45 800 100 S.dir acts S.dir []:=⟨ok.sorted,ok.name,ok.apart,fun i hi=>hi,by simp,by simp,fun m e hm _=>ok.get hm⟩
 obtain⟨p1, -⟩:=Z71 (R:=R) acts 0 rfl au hw hd
 obtain⟨s1,s2⟩:=ZdR ha ah hd
 simp only[List.length_nil,Nat.zero_add] at s2
 have aw:=Zcs ok (by omega:2*100<=800)
 have h8:=ZdQ (n:=800) (half:=100) (d:=S.dir) (fun x hx=>⟨ok.ent x hx,(ah x hx).2.1⟩)
 have ax:=Z1a ah ok.sorted
 obtain⟨d,ag⟩:=ZcQ f (free:=Wr S.used) (d:=d0) (fun x hx=>by
  obtain⟨e,he,_⟩:=p1.fresh x hx
  exact⟨e,he,(s1 _ (Dir.get_some_mem he)).2.1⟩) (by rw[h.used];omega)
 have ae:S.plan acts=some (d,f):=by unfold Sto.plan;rw[hd];simp only;rw[ag]
 have pk:=YO R ok h.used hw ae
 have hs:=Zgl f s1 ag
 have az:=Zbk hN ak hs pk.ok
 have ay:=Zd9 (f:=f) hN ak ah hs ok pk.ok
 have af:∀{m:Bs},d0.get m=none->d.get m=none:=fun{m} hm=>by
  have aj:∀x∈f,x.1≠m:=fun x hx e9=>by
   obtain⟨e,he,_⟩:=p1.fresh x hx
   rw[e9,hm] at he;cases he
  have h9:=Z6d (n:=800) (half:=100) f (Wr S.used) d0 d ag p1.sorted p1.name p1.apart (Z0W _)
   (fun i hi hm=>by rw[h.used] at hi;exact(X5.1 hi).2.2 (p1.sub i hm)) (fun i hi=>by rw[h.used] at hi;have:=X5.1 hi;exact⟨this.2.1,this.1⟩) p1.fr (fun x hx=>by
     obtain⟨e,k1,k2,k3,k4,k5,k6⟩:=p1.fresh x hx
     exact⟨e,k1,k2,k5,by rw[k4];exact Z56 _⟩)
  rw[h9.2.2.2.2.1 m aj];exact hm
 refine⟨d,ae,⟨by omega,by omega,?_,?_,?_,?_⟩,hs,by omega⟩
 ·rw[h.jhalf];unfold Z8;omega
 ·obtain⟨m,hm⟩:=aq
  refine Zhl pk.ok.sorted (m:=m) ?_
  rcases hm with hm|⟨h1,h2⟩
  ·left
   cases hb:f.by m with
   |none=>exact absurd hb hm
   |some k=>
    obtain⟨e,he,_⟩:=pk.fresh _ (Z1.mem_by hb)
    exact⟨by rw[he];simp,by simp⟩
  ·exact Or.inr ⟨h1,af h2⟩
 ·intro e0
  subst e0
  cases al:d0 with
  |nil=>exact ai al
  |cons x r=>
   have hx:x∈d0:=by rw[al];simp
   have hg:=Dir.mem_get p1.sorted (n:=x.1) (e:=x.2) hx
   cases hb:f.by x.1 with
   |some k=>
    obtain⟨e,he,_⟩:=pk.fresh _ (Z1.mem_by hb)
    cases he
   |none=>
    have aj:∀y∈f,y.1≠x.1:=fun y hy e9=>by
     rw[<-e9,Z1.by_mem p1.fr hy] at hb;cases hb
    have h9:=Z6d (n:=800) (half:=100) f (Wr S.used) d0 [] ag p1.sorted p1.name p1.apart (Z0W _)
     (fun i hi hm=>by rw[h.used] at hi;exact(X5.1 hi).2.2 (p1.sub i hm)) (fun i hi=>by rw[h.used] at hi;have:=X5.1 hi;exact⟨this.2.1,this.1⟩) p1.fr (fun x hx=>by
      obtain⟨e,k1,k2,k3,k4,k5,k6⟩:=p1.fresh x hx
      exact⟨e,k1,k2,k5,by rw[k4];exact Z56 _⟩)
    have h8:=h9.2.2.2.2.1 x.1 aj
    rw[hg] at h8;cases h8
 ·have:=Z1a hs pk.ok.sorted;omega
end
section
open Go.RowKit
theorem Z63{a b:List ByteArray}(hl:a.length=b.length)(h:∀i,i<a.length->a.getD i ⟨#[]⟩=b.getD i ⟨#[]⟩):a=b:=by
 apply List.ext_getElem hl
 intro i h1 h2
 have:=h i h1
 rw[ZjE,ZjE,ZjF h1,ZjF h2,Option.getD_some,Option.getD_some] at this
 exact this
open Go.RowKit
end
end Go.Proofs.YthppfllkocphbaaGreatDoor
