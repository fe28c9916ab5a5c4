/-
  Part 11 of the proof: lemmas about what the program computes.
-/
import Derived.Maps.RangeWalk
import Derived.Maps.OwnSet
import Derived.Maps.StringElems
import Derived.Sort.MapsRangeIn
import Derived.StringKeys
import Derived.Test.YthppfllkocphbaaGreatDoorQ09
namespace Go.Proofs.YthppfllkocphbaaGreatDoor
set_option linter.unusedVariables false
set_option linter.unusedSimpArgs false
set_option maxHeartbeats 25600000
set_option maxRecDepth 100000
open Tryz
section
open Go.RowKit Go.Maps Go.WideMaps
variable{D:DataW Value}{L:List Nat}{cnt r:Nat}{todo:Bs->Bool}{w':World}
def Xm(v:Value):Option (DataW Value×List MemPlace):=some (.held v,[])
theorem JD:Maps.Keyed prog 9:=string_keyed underlying9
def Z27(D:DataW Value)(f:Bs->Option Value):Prop:=∀k:Bs,Maps.has D (.string k)=(f k).isSome/\∀v,f k=some v->∀z,D.atKey (.string k) z=.held v
def Zz(w:World)(b n:Nat)(f:Bs->Option Value):Prop:=∃D:DataW Value,w.ownsMap prog 9 Xm b n D/\Z27 D f
theorem ZcM{w:World}{k:TypeId}{b n:Nat}(h:w.ownsMap prog k Xm b n D)(hf:Fr L w w')(hb:b∉L):w'.ownsMap prog k Xm b n D:=by
 have ae:=h.lt
 obtain⟨es,cl,hh,r⟩:=h
 exact⟨es,cl,(hf.block b ae hb).trans hh,r⟩
theorem Zz.fr{w:World}{b n:Nat}{f:Bs->Option Value}(h:Zz w b n f)(hf:Fr L w w')(hb:b∉L):Zz w' b n f:=by
 obtain⟨D,h1,h2⟩:=h;exact⟨D,ZcM h1 hf hb,h2⟩
theorem Zz.after{w:World}{b n:Nat}{f:Bs->Option Value}(h:Zz w b n f)(hb:Below w.heap.size w w'):Zz w' b n f:=h.fr (Fr.of_below (L:=[]) hb) (by simp)
theorem Zz.lt{w:World}{b n:Nat}{f:Bs->Option Value}(h:Zz w b n f):b<w.heap.size:=by obtain⟨D,h1,_⟩:=h;exact h1.lt
theorem Zz.block{w:World}{b n:Nat}{f:Bs->Option Value}(h:Zz w b n f):∃es cl,w.heap[b]? =some (.map es cl):=by obtain⟨D,⟨es,cl,hh,_⟩,_⟩:=h;exact⟨es,cl,hh⟩
theorem Zz.congr{w:World}{b n:Nat}{f g:Bs->Option Value}(h:Zz w b n f)(ae:∀k,f k=g k):Zz w b n g:=by
 have:f=g:=funext ae
 rw[<-this];exact h
theorem Zh3(a b:Bs):Lit.sameKey (.string a) (.string b)=decide (a=b):=by
 simp only[Lit.sameKey]
 by_cases h:a=b
 ·subst h;simp
 ·simp[h]
theorem Z4w(k:Bs)(hk:k.length<=maxLen):keyOf prog 9 (.string (str k))=some (.string k):=keyOf_string_mk (s:=str k) underlying9 (by rw[Z5];exact hk)
section
variable{w:World}{b n:Nat}{f:Bs->Option Value}{t e:TypeId}
theorem Zz.made(w:World):Zz (w.alloc (.map #[] 0)) w.heap.size 0 (fun _=>none):=
 ⟨.map [],World.ownsMap_made _ _ _ _,fun k=>⟨rfl,fun v h=>by cases h⟩⟩
theorem Zz.look_some(h:Zz w b n f)(ht:prog.underlying t=some (.map 9 e)){z:Value}(hz:(zeroValue e).run prog w=.ok z w){k:Bs}(hk:k.length<=maxLen){v:Value}(hf:f k=some v):
  (Instr.lookup t (.map (some b)) (.string (str k)) true).run prog w=.ok (.tuple #[v,.bool true]) w:=by
 obtain⟨D,h1,h2⟩:=h
 obtain⟨v',ps,ae,hv⟩:=h1.look_ok JD ht hz (zd:=.held z) (zp:=[]) rfl (Z4w k hk)
 rw[(h2 k).2 v hf] at hv
 simp only[Xm,ZjJ,Prod.mk.injEq,DataW.held.injEq] at hv
 rw[ae,(h2 k).1,hf,hv.1];rfl
theorem Zz.look_none(h:Zz w b n f)(ht:prog.underlying t=some (.map 9 e)){z:Value}(hz:(zeroValue e).run prog w=.ok z w){k:Bs}(hk:k.length<=maxLen)(hf:f k=none):
  (Instr.lookup t (.map (some b)) (.string (str k)) true).run prog w=.ok (.tuple #[z,.bool false]) w:=by
 obtain⟨D,h1,h2⟩:=h
 obtain⟨v',ps,ae,hv⟩:=h1.look_ok JD ht hz (zd:=.held z) (zp:=[]) rfl (Z4w k hk)
 have hh:Maps.has D (.string k)=false:=by rw[(h2 k).1,hf];rfl
 rw[atKey_of_not_has hh] at hv
 simp only[Xm,ZjJ,Prod.mk.injEq,DataW.held.injEq] at hv
 rw[ae,hh,hv.1]
theorem Zz.at_some(h:Zz w b n f)(ht:prog.underlying t=some (.map 9 e)){z:Value}(hz:(zeroValue e).run prog w=.ok z w){k:Bs}(hk:k.length<=maxLen){v:Value}(hf:f k=some v):
  (Instr.lookup t (.map (some b)) (.string (str k)) false).run prog w=.ok v w:=by
 obtain⟨D,h1,h2⟩:=h
 obtain⟨v',ps,ae,hv⟩:=h1.lookup JD ht hz (zd:=.held z) (zp:=[]) rfl (Z4w k hk)
 rw[(h2 k).2 v hf] at hv
 simp only[Xm,ZjJ,Prod.mk.injEq,DataW.held.injEq] at hv
 rw[ae,hv.1]
end
section
variable(w:World){ops:Array Oper}{rest:List Oper}{o:Oper}{a:Act}{Q:Exit->Act->World->Prop}
theorem Z27.put{f:Bs->Option Value}(h:Z27 D f)(hm:IsMap D)(k:Bs)(v:Value):Z27 (D.put (.string k) (.held v)) (fun m=>if m=k then some v else f m):=by
 intro m
 by_cases e:m=k
 ·subst e
  simp only[if_true]
  exact⟨by rw[has_put_same hm (show WideAt.IsKeyLit (.string m) from trivial)];rfl,fun u hu z=>by rw[atKey_put_same hm (show WideAt.IsKeyLit (.string m) from trivial)];cases hu;rfl⟩
 ·simp only[if_neg e]
  have ae:(Lit.string m)≠.string k:=by intro h2;injection h2 with h2;exact e h2
  exact⟨by rw[has_put_other ae];exact(h m).1,fun u hu z=>by rw[atKey_put_other ae];exact(h m).2 u hu z⟩
theorem Z27.del{f:Bs->Option Value}(h:Z27 D f)(k:Bs):Z27 (D.del (.string k)) (fun m=>if m=k then none else f m):=by
 intro m
 by_cases e:m=k
 ·subst e
  simp only[if_true]
  exact⟨by rw[has_del_same];rfl,fun u hu=>by cases hu⟩
 ·simp only[if_neg e]
  have ae:(Lit.string m)≠.string k:=by intro h2;injection h2 with h2;exact e h2
  exact⟨by rw[has_del_other ae];exact(h m).1,fun u hu z=>by rw[atKey_del_other ae];exact(h m).2 u hu z⟩
theorem Zdk(hg:o.guard=none)(m x v:Operand)(t:TypeId)(af:o.op=Op.mapUpdate t m x v)(e:TypeId)(ht:prog.underlying t=some (.map 9 e))(b n:Nat)(f:Bs->Option Value)
  (hm:a.eval m=.map (some b)) (h:Zz w b n f) (hn:n<maxLen) (k:Bs) (hk:k.length<=maxLen) (val:Value) (hx:a.eval x=.string (str k)) (hv:a.eval v=val)
  (hK:∀w',Zz w' b (n+1) (fun m=>if m=k then some val else f m)->w.grownBy w' (some b)->wpList prog ops Q rest (a.put o.dst undef) w'):wpList prog ops Q (o::rest) a w:=by
 obtain⟨D,h1,h2⟩:=h
 exact wpList_mapUpdate_own w hg m x v t af 9 e JD ht Xm b n D hm h1 hn _ val (.string k) hx hv (Z4w k hk) (.held val) [] rfl (fun w' ho ae=>hK w' ⟨_,ho,h2.put h1.isMap k val⟩ ae)
def YJ(w:World)(b r n:Nat)(f:Bs->Option Value)(todo:Bs->Bool)(cnt:Nat):Prop:=
 ∃ (D:DataW Value) (left:Lit->Bool),w.ranges prog 9 Xm b r n D left cnt/\Z27 D f/\∀k,left (.string k)=todo k
theorem YJ.owns{w:World}{b n:Nat}{f:Bs->Option Value}(h:YJ w b r n f todo cnt):Zz w b n f:=by
 obtain⟨D,l,h1,h2,_⟩:=h;exact⟨D,h1.owns,h2⟩
theorem YJ.left_eq{w:World}{b n:Nat}{f:Bs->Option Value}(h:YJ w b r n f todo cnt):w.rangeLeft b r=cnt:=by
 obtain⟨D,l,h1,h2,_⟩:=h;exact h1.left_eq
theorem YJ.fr{w:World}{b n:Nat}{f:Bs->Option Value}(h:YJ w b r n f todo cnt)(hf:Fr L w w')(hb:b∉L)(hr:r∉L):YJ w' b r n f todo cnt:=by
 obtain⟨D,l,h1,h2,h3⟩:=h
 have k1:=h1.owns.lt
 have k2:=h1.lt
 obtain⟨es,clock,since,seen,c0,ae,F,hs,hD,af,rest⟩:=h1
 exact⟨D,l,⟨es,clock,since,seen,c0,(hf.block b k1 hb).trans ae,F,hs,hD,(hf.block r k2 hr).trans af,rest⟩,h2,h3⟩
theorem YJ.after{w:World}{b n:Nat}{f:Bs->Option Value}(h:YJ w b r n f todo cnt)(hb:Below w.heap.size w w'):YJ w' b r n f todo cnt:=h.fr (Fr.of_below (L:=[]) hb) (by simp) (by simp)
theorem YJ.iter{w:World}{b n:Nat}{f:Bs->Option Value}(h:YJ w b r n f todo cnt):∃a b' c d,w.heap[r]? =some (.mapIter a b' c d):=by
 obtain⟨D,l,⟨es,clock,since,seen,c0,af,F,hs,hD,ae,rest⟩,_⟩:=h
 exact⟨_,_,_,_,ae⟩
theorem Z1y(hg:o.guard=none)(m:Operand)(t:TypeId)(af:o.op=Op.range t m)(e:TypeId)(ht:prog.underlying t=some (.map 9 e))(b n:Nat)(f:Bs->Option Value)(hm:a.eval m=.map (some b))(h:Zz w b n f)
  (hK:∀w' cnt,YJ w' b w.heap.size n f (fun k=>(f k).isSome) cnt->Below w.heap.size w w'->w'.heap.size=w.heap.size+1->wpList prog ops Q rest (a.put o.dst (.pointer (some ⟨w.heap.size,0,none⟩))) w'):wpList prog ops Q (o::rest) a w:=by
 obtain⟨D,h1,h2⟩:=h
 refine wpList_range_own w hg m t af 9 e JD ht Xm b n D hm h1 (fun w' hr ae hs=>hK w' _ ⟨D,_,hr,h2,fun k=>(h2 k).1⟩ ?_ hs)
 exact Fr.nil_below ((Fr.refl [] w).grown ae (fun k hk=>by cases hk))
theorem Z1x(hg:o.guard=none)(it:Operand)(au:o.op=Op.next it false)(b r n:Nat)(f:Bs->Option Value)(todo:Bs->Bool)(cnt:Nat)
  (hit:a.eval it=.pointer (some ⟨r,0,none⟩)) (h:YJ w b r n f todo cnt)
  (af:(∀k,todo k=false)->wpList prog ops Q rest (a.put o.dst (.tuple #[.bool false])) w)
  (ag:∀ (k:Bs) (v:Value) (w':World) (ae:Nat),k.length<=maxLen->todo k=true->f k=some v->YJ w' b r n f (fun m=>todo m&& !decide (m=k)) ae->ae<cnt->Fr [r] w w'->w'.heap.size=w.heap.size->
   (Instr.entry (.pointer (some ⟨r,0,none⟩))).run prog w'=.ok (.tuple #[.string (str k),v]) w'->wpList prog ops Q rest (a.put o.dst (.tuple #[.bool true,.string (str k),v])) w'):
  wpList prog ops Q (o::rest) a w:=by
 obtain⟨D,left,h1,h2,h3⟩:=h
 refine wpList_next_ranges (α:=ByteArray) (β:=Value) w hg it au 9 JD Xm .string id (fun key kl hk=> ?_) (fun v y _=>⟨v,rfl⟩) b r n D left cnt hit h1 (fun _ hl=>af (fun k=>by rw[<-h3];exact hl _)) ?_
 ·exact Maps.keyOf_string_inv underlying9 hk
 ·intro s v kl y w' ae ai hl hv ah aw aq ak ay aj
  have hs:s.size<=maxLen/\kl=.string s.data.toList:=by
   obtain⟨s',e1,e2,e3⟩:=string_of_keyOf underlying9 ai
   injection e1 with e1
   subst e1
   exact⟨e3,e2⟩
  obtain⟨ax,rfl⟩:=hs
  have al:(f s.data.toList).isSome=true:=by
   rw[<-(h2 _).1]
   by_cases hh:Maps.has D (.string s.data.toList)=true
   ·exact hh
   ·exfalso
    have hh:Maps.has D (.string s.data.toList)=false:=by simpa using hh
    have a1:=ah (.nil)
    have a2:=ah (.held undef)
    rw[atKey_of_not_has hh] at a1 a2
    rw[<-a1] at a2;cases a2
  obtain⟨u,hu⟩:=Option.isSome_iff_exists.1 al
  have az:v=u:=by
   have a1:=ah (.nil)
   rw[(h2 _).2 u hu] at a1
   simp only[Xm,id,ZjJ] at hv
   rw[<-hv] at a1
   simpa using a1.symm
  subst az
  refine ag s.data.toList v w' ae (by simpa using ax) (by rw[<-h3];exact hl) hu ⟨D,_,aw,h2,fun m=> ?_⟩ aq ((Fr.refl [r] w).grown ak (fun k hk=>by cases hk;exact Or.inl (by simp))) ay aj
  show(left (.string m)&& !Lit.sameKey (.string m) (.string s.data.toList))=_
  rw[h3,Zh3]
end
end
section
open Go.RowKit
structure ZgX(B p d n j:Nat)(L:List Nat)(ops:List DOp)(J1 J2:Jn)(P:Pw)(D:Dk)(w w':World):Prop where
 ran:Ran B p d n L [j] ops P D w w'
 ok:(Z2 ops P D).1=0->JAt w' j d J1
 bad:(Z2 ops P D).1≠0->JAt w' j d J2
theorem Ty.set{w:World}(h:Ty w){a:Addr}(ha:a.block≠0)(v:Value):Ty (w.setCell a v):=by
 unfold Ty at h⊢
 rw[World.cell?_setCell_far w a _ v ha];exact h
theorem Z81(e n:Nat)(r:ByteArray)(E:Nat)(hE:Z8 r.size=64*E):(str (Zb e n r.data.toList)).size=64*E:=by
 rw[Z5,Yx,Qo,hE]
theorem Z9d(d j:Nat)(J:Jn)(r:ByteArray)(w:World)(hj:JAt w j d J)(al:J.closed=false)(ag:J.Fit)(bf:J.next<=J.half)(hr:r.size<=60000)(ah:J.half-J.next<Z8 r.size / 64):
  Calls prog 136 #[.pointer (some ⟨j,0,none⟩),.string r] w fun e w'=>∃b,e=.returned (.iface 139 (.pointer (some ⟨b,0,none⟩)))/\Zu w' w.heap.size 12 (.iface 139 (.pointer (some ⟨b,0,none⟩)))/\Below w.heap.size w w':=by
 obtain⟨f1,f2,f3,f4⟩:=ag
 obtain⟨E,hE⟩:∃E,Z8 r.size=64*E:=⟨Z8 r.size / 64,by have:=XB r.size;omega⟩
 have aj:Z8 r.size / 64=E:=by omega
 rw[aj] at ah
 have bg:E<=1000:=by have:Z8 r.size<=60100:=(by unfold Z8;omega);omega
 obtain⟨m1,au⟩:∃m1,m1=J.many+1:=⟨_,rfl⟩
 have aw:(J.many:Int)+1=(m1:Int):=by omega
 have ax:=Zk2 ((J.many:Int)+1) (by omega)
 rw[aw] at ax
 have ae:=Z81 J.epoch m1 r E hE
 obtain⟨pk,ai⟩:∃pk,str (Zb J.epoch m1 r.data.toList)=pk:=⟨_,rfl⟩
 rw[ai] at ae
 have bh:((64*E:Nat):Int) / 64=(E:Int):=by omega
 have c4:=hj.cell (j:=4) rfl
 have c5:=hj.cell (j:=5) rfl
 have c7:=hj.cell (j:=7) rfl
 rw[al] at c7
 have H:=Zka hj
 have HP:=Zka (Zkb ai ae)
 have HM:=Zka au
 have b9:m1<=4000000000:=by omega
 have az:J.epoch<=4000000000:=by omega
 clear hj al hE aj au ai ae
 go_enter func136,ntmps136
 go_wp2_with fail
 go_region_held3 (fun w'=>w'.cell? ⟨j,4,none⟩=some (.int .i64 J.epoch)/\w'.cell? ⟨j,5,none⟩=some (.int .i64 J.many)) (first|assumption|exact⟨c4,c5⟩|exact⟨S1.out.1.cell (j:=4) rfl,S1.out.1.cell (j:=5) rfl⟩)
  (((go_at_call 193;refine(Z2K J.epoch m1 r _ az b9 hr).mono ?_;rintro e w1 ⟨rfl,af⟩;have aq:JAt w1 j d J:=JAt.after (w:=w.drew) H.out af;have S1:=Zka (Zkb aq af);clear aq af)))
 rw[show(⟨(Zb J.epoch m1 r.data.toList).toArray⟩:ByteArray)=pk from HP.out.1]
 have ae:=HP.out.2
 clear aw ax
 go_wp2_with fail
 refine(Z7R j d J _ S1.out.1 bf (by omega)).mono ?_
 rintro e w2 ⟨rfl,q,rfl⟩
 have bj:((J.half-J.next:Nat):Int)<(E:Int):=by omega
 go_wp2_with fail
 refine(Z6B 12 (by decide) _).mono ?_
 rintro e w3 ⟨b,rfl,he,ak⟩
 have S3:=Zka (Zkb he ak)
 have ay:=S1.out.2.size
 clear he ak
 go_wp2
 go_ret
 exact⟨b,rfl,S3.out.1.base ay,(Below.drew Zk9).trans (S1.out.2.trans ((Zp Zk9 q).trans (S3.out.2.mono (show w.drew.heap.size<=w1.heap.size from ay))))⟩
theorem ZaM(B p d n j:Nat)(P:Pw)(D:Dk)(L:List Nat)(J:Jn)(r:ByteArray)(w:World)(h:PD B w p d n P D L)(hB:B<=w.heap.size)(hj:JAt w j d J)(cu:B<=j)(ht:Ty w)(hg:0<B)
  (ay:J.closed=false) (az:J.Fit) (hr:r.size<=60000) (dm:J.next<=J.half) (b9:Z8 r.size / 64<=J.half-J.next) (dw:J.next<=40000) (de:D.wait.length<=100000):
  Calls prog 136 #[.pointer (some ⟨j,0,none⟩),.string r] w (Ans w.heap.size (Z2 (J.appendOps r.data.toList) P D).1 (ZgX B p d n j L (J.appendOps r.data.toList) (J.appended r.data.toList) {J with closed:=true} P D w)):=by
 obtain⟨f1,f2,f3,f4⟩:=az
 obtain⟨E,hE⟩:∃E,Z8 r.size=64*E:=⟨Z8 r.size / 64,by have:=XB r.size;omega⟩
 have aw:Z8 r.size / 64=E:=by omega
 rw[aw] at b9
 have dr:E<=1000:=by have:Z8 r.size<=60100:=(by unfold Z8;omega);omega
 have dq:1<=E:=by have:=WZ r.size;omega
 obtain⟨m1,bh⟩:∃m1,m1=J.many+1:=⟨_,rfl⟩
 have dh:(J.many:Int)+1=(m1:Int):=by omega
 have cw:=Zk2 ((J.many:Int)+1) (by omega)
 rw[dh] at cw
 have ag:=Z81 J.epoch m1 r E hE
 obtain⟨pk,au⟩:∃pk,str (Zb J.epoch m1 r.data.toList)=pk:=⟨_,rfl⟩
 rw[au] at ag
 have dt:((64*E:Nat):Int) / 64=(E:Int):=by omega
 obtain⟨A,hA⟩:∃A,J.appendOps r.data.toList=A:=⟨_,rfl⟩
 have bu:J.lay J.second J.next pk.data.toList=A:=by rw[<-hA,<-au,Ze,bh];rfl
 have af:J.appended r.data.toList={J with many:=m1,next:=J.next+E}:=by
  unfold Jn.appended;rw[Qo,aw,bh]
 obtain⟨nx,aj⟩:∃nx,J.next+E=nx:=⟨_,rfl⟩
 have du:(J.next:Int)+(E:Int)=(nx:Int):=by omega
 rw[aj] at af
 rw[hA,af]
 have c4:=hj.cell (j:=4) rfl
 have c5:=hj.cell (j:=5) rfl
 have c7:=hj.cell (j:=7) rfl
 rw[ay] at c7
 have H:=Zka (Zkb h (Zkb hj (Zkb ht hB)))
 have HP:=Zka (Zkb au (Zkb ag (Zkb bu hE)))
 have dj:m1<=4000000000:=by omega
 have dc:J.epoch<=4000000000:=by omega
 have HL:=Zka (Zkb h.bp (Zkb h.bL (Zkb hg (Zkb cu ay))))
 clear h hj hE aw bh au ag ht hB hA bu af hg cu ay aj
 go_enter func136,ntmps136
 go_wp2_with fail
 go_region_held3 (fun w'=>w'.cell? ⟨j,4,none⟩=some (.int .i64 J.epoch)/\w'.cell? ⟨j,5,none⟩=some (.int .i64 J.many)) (first|assumption|exact⟨c4,c5⟩|exact⟨S1.out.1.cell (j:=4) rfl,S1.out.1.cell (j:=5) rfl⟩)
  (((go_at_call 193;refine(Z2K J.epoch m1 r _ dc dj hr).mono ?_;rintro e w1 ⟨rfl,ax⟩;have cr:JAt w1 j d J:=JAt.after (w:=w.drew) H.out.2.1 ax;have S1:=Zka (Zkb cr ax);clear cr ax)))
 rw[show(⟨(Zb J.epoch m1 r.data.toList).toArray⟩:ByteArray)=pk from HP.out.1]
 have ag:=HP.out.2.1
 clear cw c4 c5
 have bz:Below w.heap.size w w1:=(Below.drew Zk9).trans S1.out.2
 have cz:=Zka bz
 clear bz
 go_wp2_with fail
 refine(Z7R j d J _ S1.out.1 dm (by omega)).mono ?_
 rintro e w2 ⟨rfl,q,rfl⟩
 have df:decide (((J.half-J.next:Nat):Int)<(E:Int))=false:=by simp;omega
 have bg:¬ ((J.half-J.next:Nat):Int)<(E:Int):=by omega
 obtain⟨w2,bq⟩:∃w2,w2=w1.drewN q:=⟨_,rfl⟩
 rw[<-bq]
 have ah:Below w.heap.size w w2:=by rw[bq];exact Zp cz.out q
 have al:JAt w2 j d J:=JAt.after H.out.2.1 ah
 have T2:=Stg.start H.out.1 [j] ah
 have dp:=ah.size
 have S2:=Zka (Zkb T2 (Zkb al ah))
 have c3:=al.cell (j:=3) rfl
 have c6:=al.cell (j:=6) rfl
 clear ah al T2 bq
 go_wp2_with fail
 go_still_tail 10,(by kernel_rfl)
 change wpList _ _ _ _ _ w2.drew
 have T3:Stg B p d n L [j] [] P D w P D L w2.drew:=S2.out.1.after (Zk9.drew)
 have ct:JAt w2.drew j d J:=JAt.after S2.out.2.1 (Zk9.drew)
 have S3:=Zka (Zkb T3 ct)
 clear T3 ct c3 c6 df bg
 go_wp2_with fail
 refine(Zbv B p d n j P D L J J.second J.next pk w2.drew S3.out.1.did.pd (show B<=w2.heap.size from Zk1 H.out.2.2.2 dp) S3.out.2 (by rw[ag];omega) (by rw[ag];omega) (by rw[ag];omega) (by omega) (by omega) (by omega)).mono ?_
 rw[HP.out.2.2.1]
 rintro e w4 ⟨ev,rfl,he,hr⟩
 have dx:w2.heap.size<=w4.heap.size:=by obtain⟨_,q⟩:=hr;exact q.fr.size
 have ae:JAt w4 j d J:=by obtain⟨_,q⟩:=hr;exact JAt.did q S3.out.1.did.pd S3.out.2 (by simp)
 have r5:=ae.free (j:=5) (by simp)
 have r6:=ae.free (j:=6) (by simp)
 have c5:=ae.cell (j:=5) rfl
 have c6:=ae.cell (j:=6) rfl
 rcases he.split with ⟨hc,rfl⟩|⟨hc,b,rfl⟩
 case inr=>
  have hX:=S3.out.1.fail he hr
  obtain⟨L4,bj⟩:=hr
  have bm:Ty w4:=Ty.did (Ty.did H.out.2.2.1 S3.out.1.did HL.out.2.2.1 HL.out.1 HL.out.2.1 (by simp;exact HL.out.2.2.2.1)) bj HL.out.2.2.1 HL.out.1 HL.out.2.1 (by simp)
  have ak:Ty (w4.setCell ⟨j,7,none⟩ (.bool true)):=Ty.set bm (by show j≠_;have:=HL.out.2.2.1;have:=HL.out.2.2.2.1;omega) _
  have bf:j<w2.drew.heap.size:=Row.lt S3.out.2
  have HZ:=Zka (Zkb hc (Zkb hX (Zkb he (Zkb bj ae))))
  clear hc he hX bj ae c5 c6 r5 r6
  go_wp2_with fail
  refine(Z6q j d J _ _ _ w4 HZ.out.2.2.2.2 HZ.out.2.2.1 bf bm ak).mono ?_
  rintro e w5 ⟨v3,rfl,cj,ai,cn⟩
  have H3:=Zka (Zkb cj (Zkb ai cn))
  clear cj ai cn bm ak
  go_wp2
  go_ret
  obtain⟨_,_,_,L5,q⟩:=HZ.out.2.1
  have aq:j∉p::L5:=JAt.ne q.pd HZ.out.2.2.2.2
  exact⟨v3,rfl,H3.out.1.base (by show w.heap.size<=min w2.heap.size w4.heap.size;omega),⟨L5,q.frame H3.out.2.2 (by simpa using aq) (by simp)⟩,fun h0=>absurd h0 HZ.out.1,fun _=>H3.out.2.1⟩
 have hX:=S3.out.1.fail he hr
 rw[List.nil_append] at hX
 obtain⟨_,_,_,L5,q⟩:=hX
 have aq:j∉p::L5:=JAt.ne q.pd ae
 have cy:Fr [j] w4 ((w4.setCell ⟨j,5,none⟩ (.int .i64 m1)).setCell ⟨j,6,none⟩ (.int .i64 (nx:Int))):=((Fr.refl _ _).setCell (Or.inl (by simp)) _).setCell (Or.inl (by simp)) _
 have ai:JAt ((w4.setCell ⟨j,5,none⟩ (.int .i64 m1)).setCell ⟨j,6,none⟩ (.int .i64 (nx:Int))) j d {J with many:=m1,next:=nx}:=(Row.set ae 5 (.int .i64 m1)).set 6 (.int .i64 (nx:Int))
 have HZ:=Zka (Zkb hc (Zkb (q.frame cy (by simpa using aq) (by simp)) ai))
 clear hc he hr q aq cy ai ae
 go_wp2
 go_ret
 exact⟨_,rfl,by rw[HZ.out.1];exact Zu.nil _ _,⟨L5,HZ.out.2.1⟩,fun _=>HZ.out.2.2,fun h0=>absurd HZ.out.1 h0⟩
theorem Zf7(B p d n j:Nat)(P:Pw)(D:Dk)(L:List Nat)(J:Jn)(r:Bs)(g c:Nat)(w:World)(h:PD B w p d n P D L)(hB:B<=w.heap.size)(hj:JAt w j d J)
  (af:w.cell? ⟨g,0,none⟩=some (.string (str (Zb (J.epoch+1) 1 r)))) (cj:J.Fit) (hr:r.length<=60000) (du:D.wait.length<=100000):
  Calls prog 197 #[.pointer (some ⟨j,0,none⟩),.slice (some ⟨g,0,none⟩) 1 c] w (Ans w.heap.size (Z2 (J.resetOps r) P D).1 (Ran B p d n L [] (J.resetOps r) P D w)):=by
 obtain⟨f1,f2,f3,f4⟩:=cj
 obtain⟨E,hE⟩:∃E,Z8 r.length=64*E:=⟨Z8 r.length / 64,by have:=XB r.length;omega⟩
 have cw:Z8 r.length / 64=E:=by omega
 have ef:E<=1000:=by have:Z8 r.length<=60100:=(by unfold Z8;omega);omega
 obtain⟨e1,bz⟩:∃e1,J.epoch+1=e1:=⟨_,rfl⟩
 have ek:(J.epoch:Int)+1=(e1:Int):=by omega
 have dj:e1<=4000000000:=by omega
 rw[bz] at af
 have ah:(str (Zb e1 1 r)).size=64*E:=by rw[Z5,Yx,hE]
 obtain⟨pk,cn⟩:∃pk,str (Zb e1 1 r)=pk:=⟨_,rfl⟩
 have cy:pk.data.toList=Zb e1 1 r:=by rw[<-cn];rfl
 obtain⟨hd,bh⟩:∃hd,str (Zb e1 0 ZI)=hd:=⟨_,rfl⟩
 have ag:hd.size=64:=by rw[<-bh,Z5,Qx]
 have bj:hd.data.toList=Zb e1 0 ZI:=by rw[<-bh];rfl
 have ct:(str (ZA hd.data.toList)).size=64:=by rw[Z5,Qh _ (by rw[bj];exact WN _ _ _),bj,Qx]
 rw[cn] at ah af
 obtain⟨A1,az⟩:∃A1,wrs (J.at_ (!J.second) 1) pk.data.toList=A1:=⟨_,rfl⟩
 obtain⟨A2,b9⟩:∃A2,J.clean (!J.second) (1+E)=A2:=⟨_,rfl⟩
 obtain⟨A3,bf⟩:∃A3,wrs (J.at_ (!J.second) 0) (ZA hd.data.toList)=A3:=⟨_,rfl⟩
 obtain⟨A5,bg⟩:∃A5,wrs (J.at_ (!J.second) 0) hd.data.toList=A5:=⟨_,rfl⟩
 have aw:J.resetOps r=A1++A2++A3++[.fl]++A5++[.fl]:=by
  rw[<-az,<-b9,<-bf,<-bg,cy,bj,<-bz,<-cw];rfl
 have eo:A1.length<=1000:=by rw[<-az,Jx,Qo,ah];omega
 have er:A2.length<=1:=by rw[<-b9];unfold Jn.clean;split<;>simp
 have eu:A3.length<=1:=by
  have:(ZA hd.data.toList).length=64:=by rw[<-Z5];exact ct
  rw[<-bf,Jx,this];omega
 have ew:A5.length<=1:=by rw[<-bg,Jx,Qo,ag];omega
 rw[aw]
 have eh:((64*E:Nat):Int) / 64=(E:Int):=by omega
 have c0:=hj.cell (j:=0) rfl
 have c3:=hj.cell (j:=3) rfl
 have c4:=hj.cell (j:=4) rfl
 have T0:=Stg.start h [] (Below.refl _ w)
 have S0:=Zka T0
 have H:=Zka (Zkb h hj)
 have HB:=Zka hB
 have cz:=Zka az
 have dc:=Zka b9
 have de:=Zka bf
 have df:=Zka bg
 have HP:=Zka (Zkb ah (Zkb bh (Zkb ag ct)))
 have ey:pk.size<=70000:=by omega
 clear h hj hB az b9 bf bg aw ah cn bh ag ct bj cy hE cw bz T0
 go_enter func197,ntmps197
 go_wp2
 refine wp_loop_rounds 2 ?_
 rw[rounds_succ]
 go_wp2_with fail
 refine(Z0n B p d n j P D L J (!J.second) 1 pk w H.out.1 HB.out H.out.2 (by rw[HP.out.1];omega) (by omega) (by omega) (by omega) (by omega)).mono ?_
 rw[cz.out]
 rintro e w1 ⟨ev,rfl,he,hr⟩
 rcases he.split with ⟨hc,rfl⟩|⟨hc,b,rfl⟩
 case inr=>
  have HZ:=Zka (Zkb (S0.out.code_ne hc) (S0.out.fail he hr))
  clear hc he hr
  go_wp2
  go_ret
  exact Q9 (ZN (ZN (ZN (ZN (HZ.out.1))))) (Q9 (ZN (ZN (ZN (HZ.out.1)))) (Q9 (ZN (ZN (HZ.out.1))) (Q9 (ZN (HZ.out.1)) (Q9 HZ.out.1 HZ.out.2))))
 obtain⟨P1,D1,L1,T1⟩:=S0.out.next hc hr
 have S1:=Zka T1
 have dw:=T1.size
 have dm:=T1.few
 simp only[ZjI,ZjM,List.length_nil] at dm
 have ai:JAt w1 j d J:=JAt.did T1.did H.out.1 H.out.2 (by simp)
 have c0:=ai.cell (j:=0) rfl
 have c3:=ai.cell (j:=3) rfl
 have c4:=ai.cell (j:=4) rfl
 have J1:=Zka ai
 clear hc he hr T1 ai
 have ah:=HP.out.1
 go_wp2_with fail
 rw[rounds_succ]
 clear ah
 go_wp2_with fail
 refine(Z4a B p d n j P1 D1 L1 J (!J.second) (1+E) w1 S1.out.did.pd (Zk1 HB.out dw) J1.out (by omega) (by omega) (by omega)).mono ?_
 rw[dc.out]
 rintro e w2 ⟨ev,rfl,he,hr⟩
 rcases he.split with ⟨hc,rfl⟩|⟨hc,b,rfl⟩
 case inr=>
  have HZ:=Zka (Zkb (S1.out.code_ne hc) (S1.out.fail he hr))
  clear hc he hr
  go_wp2
  go_ret
  exact Q9 (ZN (ZN (ZN (HZ.out.1)))) (Q9 (ZN (ZN (HZ.out.1))) (Q9 (ZN (HZ.out.1)) (Q9 HZ.out.1 HZ.out.2)))
 obtain⟨P2,D2,L2,T2⟩:=S1.out.next hc hr
 have S2:=Zka T2
 have ez:=T2.size
 have dp:=T2.few
 simp only[ZjI,ZjM,List.length_nil] at dp
 have aj:JAt w2 j d J:=JAt.did T2.did H.out.1 H.out.2 (by simp)
 have c0:=aj.cell (j:=0) rfl
 have c3:=aj.cell (j:=3) rfl
 have c4:=aj.cell (j:=4) rfl
 have J2:=Zka aj
 clear hc he hr T2 aj
 go_wp2_with fail
 refine(Z2K e1 0 (str ZI) _ dj (by omega) (by rw[Z5];decide)).mono ?_
 rw[Ze,show(⟨(Zb e1 0 ZI).toArray⟩:ByteArray)=hd from HP.out.2.1]
 rintro e ax ⟨rfl,bu⟩
 have bm:=S2.out.after bu
 have ae:JAt ax j d J:=JAt.after J2.out bu
 have c0:=ae.cell (j:=0) rfl
 have c3:=ae.cell (j:=3) rfl
 have c4:=ae.cell (j:=4) rfl
 have dx:=bm.size
 have cu:=Zka (Zkb bm ae)
 have ag:=HP.out.2.2.1
 clear bm ae bu
 go_wp2_with fail
 go_still_tail 8,(by kernel_rfl)
 still_call (XJ (Z4Z hd _ (by omega) (by omega)))
 repeat still_step
 refine wpStill_nil ?_
 change wpList _ _ _ _ _ ax.drew
 have bq:Stg B p d n L [] (A1++A2) P D w P2 D2 L2 ax.drew:=cu.out.1.after (Zk9.drew)
 have ay:=Zka bq
 have ak:JAt ax.drew j d J:=JAt.after cu.out.2 (Zk9.drew)
 have cr:=bq.size
 have dh:=Zka ak
 clear bq ak ag c0 c3 c4
 go_wp2_with fail
 refine(Z0n B p d n j P2 D2 L2 J (!J.second) 0 (str (ZA hd.data.toList)) ax.drew ay.out.did.pd (Zk1 HB.out cr) dh.out (by rw[HP.out.2.2.2]) (by rw[HP.out.2.2.2];decide) (by omega) (by omega) (by omega)).mono ?_
 rw[Ze,de.out]
 rintro e w3 ⟨ev,rfl,he,hr⟩
 rcases he.split with ⟨hc,rfl⟩|⟨hc,b,rfl⟩
 case inr=>
  have HZ:=Zka (Zkb (ay.out.code_ne hc) (ay.out.fail he hr))
  clear hc he hr
  go_wp2
  go_ret
  exact Q9 (ZN (ZN (HZ.out.1))) (Q9 (ZN (HZ.out.1)) (Q9 HZ.out.1 HZ.out.2))
 obtain⟨P3,D3,L3,T3⟩:=ay.out.next hc hr
 have S3:=Zka T3
 have dy:=T3.size
 have dq:=T3.few
 simp only[ZjI,ZjM,List.length_nil] at dq
 have al:JAt w3 j d J:=JAt.did T3.did H.out.1 H.out.2 (by simp)
 have c0:=al.cell (j:=0) rfl
 have c3:=al.cell (j:=3) rfl
 have c4:=al.cell (j:=4) rfl
 have J3:=Zka al
 clear hc he hr T3 al
 go_wp2_with fail
 refine(PD.flush1 S3.out.did.pd (Zk1 HB.out dy)).mono ?_
 rintro e w4 ⟨ev,rfl,he,hr⟩
 rcases he.split with ⟨hc,rfl⟩|⟨hc,b,rfl⟩
 case inr=>
  have HZ:=Zka (Zkb (S3.out.code_ne hc) (S3.out.fail he hr))
  clear hc he hr
  go_wp2
  go_ret
  exact Q9 (ZN (HZ.out.1)) (Q9 HZ.out.1 HZ.out.2)
 obtain⟨P4,D4,L4,T4⟩:=S3.out.next hc hr
 have S4:=Zka T4
 have dz:=T4.size
 have dr:=T4.few
 simp only[ZjI,ZjM,List.length_nil] at dr
 have aq:JAt w4 j d J:=JAt.did T4.did H.out.1 H.out.2 (by simp)
 have c0:=aq.cell (j:=0) rfl
 have c3:=aq.cell (j:=3) rfl
 have c4:=aq.cell (j:=4) rfl
 have J4:=Zka aq
 clear hc he hr T4 aq
 have ag:=HP.out.2.2.1
 go_wp2_with fail
 refine(Z0n B p d n j P4 D4 L4 J (!J.second) 0 hd w4 S4.out.did.pd (Zk1 HB.out dz) J4.out (by rw[HP.out.2.2.1]) (by rw[HP.out.2.2.1];decide) (by omega) (by omega) (by omega)).mono ?_
 rw[df.out]
 rintro e w5 ⟨ev,rfl,he,hr⟩
 rcases he.split with ⟨hc,rfl⟩|⟨hc,b,rfl⟩
 case inr=>
  have HZ:=Zka (Zkb (S4.out.code_ne hc) (S4.out.fail he hr))
  clear hc he hr
  go_wp2
  go_ret
  exact Q9 HZ.out.1 HZ.out.2
 obtain⟨P5,D5,L5,T5⟩:=S4.out.next hc hr
 have S5:=Zka T5
 have ee:=T5.size
 have dt:=T5.few
 simp only[ZjI,ZjM,List.length_nil] at dt
 have au:JAt w5 j d J:=JAt.did T5.did H.out.1 H.out.2 (by simp)
 have c0:=au.cell (j:=0) rfl
 have c3:=au.cell (j:=3) rfl
 have c4:=au.cell (j:=4) rfl
 have J5:=Zka au
 clear hc he hr T5 au
 clear c3 c4
 go_wp2_with fail
 refine(PD.flush1 S5.out.did.pd (Zk1 HB.out ee)).mono ?_
 rintro e w6 ⟨ev,rfl,he,hr⟩
 have HZ:=Zka (S5.out.fail he hr)
 clear he hr
 go_wp2
 go_ret
 exact HZ.out
theorem ZcC(B p d n j:Nat)(P:Pw)(D:Dk)(L:List Nat)(J:Jn)(r:ByteArray)(g0 c:Nat)(w:World)(h:PD B w p d n P D L)(hB:B<=w.heap.size)(hj:JAt w j d J)(cr:B<=j)(ht:Ty w)(hg:0<B)
  (bm:w.cell? ⟨g0,0,none⟩=some (.string r)) (ay:J.closed=false) (ah:J.Fit) (hr:r.size<=60000) (b9:1+Z8 r.size / 64<=J.half) (cz:D.wait.length<=100000):
  Calls prog 137 #[.pointer (some ⟨j,0,none⟩),.slice (some ⟨g0,0,none⟩) 1 c] w (Ans w.heap.size (Z2 (J.resetOps r.data.toList) P D).1 (ZgX B p d n j L (J.resetOps r.data.toList) (J.reset r.data.toList) {J with closed:=true} P D w)):=by
 obtain⟨j0,dc,dp,dq,dr⟩:=info_parts XK
 have af:=ah
 obtain⟨f1,f2,f3,f4⟩:=ah
 obtain⟨E,hE⟩:∃E,Z8 r.size=64*E:=⟨Z8 r.size / 64,by have:=XB r.size;omega⟩
 have aw:Z8 r.size / 64=E:=by omega
 rw[aw] at b9
 have dt:E<=1000:=by have:Z8 r.size<=60100:=(by unfold Z8;omega);omega
 obtain⟨e1,az⟩:∃e1,J.epoch+1=e1:=⟨_,rfl⟩
 have dw:(J.epoch:Int)+1=(e1:Int):=by omega
 have cy:e1<=4000000000:=by omega
 have al:(str (Zb e1 1 r.data.toList)).size=64*E:=by rw[Z5,Yx,Qo,hE]
 obtain⟨pk,bg⟩:∃pk,str (Zb e1 1 r.data.toList)=pk:=⟨_,rfl⟩
 rw[bg] at al
 have du:((64*E:Nat):Int) / 64=(E:Int):=by omega
 obtain⟨nx,ct⟩:∃nx,1+E=nx:=⟨_,rfl⟩
 have dz:(1:Int)+(E:Int)=(nx:Int):=by omega
 have ag:J.reset r.data.toList={J with second:= !J.second,epoch:=e1,many:=1,next:=nx}:=by
  unfold Jn.reset;rw[Qo,aw,az,ct]
 obtain⟨A,hA⟩:∃A,J.resetOps r.data.toList=A:=⟨_,rfl⟩
 rw[hA,ag]
 have c3:=hj.cell (j:=3) rfl
 have c4:=hj.cell (j:=4) rfl
 have c7:=hj.cell (j:=7) rfl
 rw[ay] at c7
 have de:¬ (4611686018427387904:Int)<=(J.epoch:Int):=by omega
 have H:=Zka (Zkb h (Zkb hj (Zkb ht hB)))
 have HP:=Zka (Zkb bg (Zkb al (Zkb hA (Zkb az af))))
 have HL:=Zka (Zkb h.bp (Zkb h.bL (Zkb hg (Zkb cr ay))))
 clear h hj hE aw bg al ht hB hA ag hg cr ay ct az af
 go_enter func137,ntmps137
 go_wp2
 refine wp_loop_rounds 2 ?_
 rw[rounds_succ]
 go_wp2_with fail
 refine(Z2K e1 1 r _ cy (by omega) hr).mono ?_
 rw[show(⟨(Zb e1 1 r.data.toList).toArray⟩:ByteArray)=pk from HP.out.1]
 rintro e w1 ⟨rfl,ax⟩
 have dj:=ax.size
 have cw:=Zka ax
 have al:=HP.out.2.1
 clear ax
 go_wp2_with (at_builtin;refine wpList_append_lies _ rfl (.tmp 45) (.tmp 47) 96 rfl w.heap.size 9 j0 _ 1 16 underlying96 dc dp dq dr rfl (by omega) _ 0 [] rfl (World.ownsRow_nil _ _ _ _) ⟨w1.heap.size,0,none⟩ 1 1 [.string pk] rfl rfl (World.news_of_block (cs:= #[.string pk]) (t:=9) (fr:=(0,0)) (heap_alloc_new w1 _)) (by simp[Value.oneCell']) (by omega) (by unfold maxLen;omega) (by omega) (Zk1 dj (by simp)) (w1.heap.size+1) (by simp) ?_;intro g cap w2 ak cj dh df)
 have ai:Below w.heap.size w w2:=Fr.nil_below ((((Fr.of_below (L:=[]) cw.out).alloc _)).grown cj (fun k hk=>by have h0:(none:Option Nat)=some k:=hk;cases h0))
 have bz:w2.cell? ⟨g,0,none⟩=some (.string pk):=by
  have:=XF (g:=g) (j:=0) ak rfl rfl
  exact this
 have cn:JAt w2 j d J:=JAt.after H.out.2.1 ai
 have T2:=Stg.start H.out.1 [j] ai
 have dm:=ai.size
 have S2:=Zka (Zkb T2 (Zkb cn (Zkb ai bz)))
 have dx:¬ ((J.half:Int)-1)<(E:Int):=by omega
 have dy:decide (((J.half:Int)-1)<(E:Int))=false:=by simp;omega
 clear ak cj dh df al ai bz cn T2 c3 c4
 rw[rounds_succ]
 go_wp2_with fail
 refine(Z7Q j d J _ S2.out.2.1 (by omega)).mono ?_
 rintro e w3 ⟨rfl,rfl⟩
 go_wp2_with fail
 refine(Zf7 B p d n j P D L J r.data.toList g cap w2 S2.out.1.did.pd (Zk1 H.out.2.2.2 dm) S2.out.2.1 (by rw[HP.out.2.2.2.1,S2.out.2.2.2,<-HP.out.1]) HP.out.2.2.2.2 (by rw[Qo];exact hr) (by omega)).mono ?_
 rw[HP.out.2.2.1]
 rintro e w4 ⟨ev,rfl,he,hr⟩
 have ee:w2.heap.size<=w4.heap.size:=by obtain⟨_,q⟩:=hr;exact q.fr.size
 have ae:JAt w4 j d J:=by obtain⟨_,q⟩:=hr;exact JAt.did q S2.out.1.did.pd S2.out.2.1 (by simp)
 have r3:=ae.free (j:=3) (by simp)
 have r4:=ae.free (j:=4) (by simp)
 have r5:=ae.free (j:=5) (by simp)
 have r6:=ae.free (j:=6) (by simp)
 have c3:=ae.cell (j:=3) rfl
 have c4:=ae.cell (j:=4) rfl
 have c5:=ae.cell (j:=5) rfl
 have c6:=ae.cell (j:=6) rfl
 rcases he.split with ⟨hc,rfl⟩|⟨hc,b,rfl⟩
 case inr=>
  have hX:=S2.out.1.fail he hr
  obtain⟨L4,bh⟩:=hr
  have bj:Ty w4:=Ty.did (Ty.did H.out.2.2.1 S2.out.1.did HL.out.2.2.1 HL.out.1 HL.out.2.1 (by simp;exact HL.out.2.2.2.1)) bh HL.out.2.2.1 HL.out.1 HL.out.2.1 (by simp)
  have aq:Ty (w4.setCell ⟨j,7,none⟩ (.bool true)):=Ty.set bj (by show j≠_;have:=HL.out.2.2.1;have:=HL.out.2.2.2.1;omega) _
  have bf:j<w2.heap.size:=Row.lt S2.out.2.1
  have HZ:=Zka (Zkb hc (Zkb hX (Zkb he (Zkb bh ae))))
  clear hc he hX bh ae c3 c4 c5 c6 r3 r4 r5 r6
  go_wp2_with fail
  refine(Z6q j d J _ _ _ w4 HZ.out.2.2.2.2 HZ.out.2.2.1 bf bj aq).mono ?_
  rintro e w5 ⟨v3,rfl,bq,aj,bu⟩
  have H3:=Zka (Zkb bq (Zkb aj bu))
  clear bq aj bu bj aq
  go_wp2
  go_ret
  obtain⟨_,_,_,L5,q⟩:=HZ.out.2.1
  have au:j∉p::L5:=JAt.ne q.pd HZ.out.2.2.2.2
  exact⟨v3,rfl,H3.out.1.base (by show w.heap.size<=min w2.heap.size w4.heap.size;omega),⟨L5,q.frame H3.out.2.2 (by simpa using au) (by simp)⟩,fun h0=>absurd h0 HZ.out.1,fun _=>H3.out.2.1⟩
 have hX:=S2.out.1.fail he hr
 rw[List.nil_append] at hX
 obtain⟨_,_,_,L5,q⟩:=hX
 have au:j∉p::L5:=JAt.ne q.pd ae
 obtain⟨W,hW⟩:∃W,W=(((w4.setCell ⟨j,3,none⟩ (.bool (!J.second))).setCell ⟨j,4,none⟩ (.int .i64 e1)).setCell ⟨j,5,none⟩ (.int .i64 ((1:Nat):Int))).setCell ⟨j,6,none⟩ (.int .i64 (nx:Int)):=⟨_,rfl⟩
 have cu:Fr [j] w4 W:=by rw[hW];exact((((Fr.refl _ _).setCell (Or.inl (by simp)) _).setCell (Or.inl (by simp)) _).setCell (Or.inl (by simp)) _).setCell (Or.inl (by simp)) _
 have aj:JAt W j d {J with second:= !J.second,epoch:=e1,many:=1,next:=nx}:=by
  rw[hW];exact(((Row.set ae 3 (.bool (!J.second))).set 4 (.int .i64 e1)).set 5 (.int .i64 ((1:Nat):Int))).set 6 (.int .i64 (nx:Int))
 have HZ:=Zka (Zkb hc (Zkb (q.frame cu (by simpa using au) (by simp)) (Zkb aj hW)))
 clear hc he hr q au cu aj ae hW
 go_wp2
 go_ret
 exact⟨_,rfl,by rw[HZ.out.1];exact Zu.nil _ _,⟨L5,by have:=HZ.out.2.1;rw[HZ.out.2.2.2] at this;exact this⟩,fun _=>by have:=HZ.out.2.2.1;rw[HZ.out.2.2.2] at this;exact this,fun h0=>absurd HZ.out.1 h0⟩
end
section
open Go.RowKit
variable{D:Dk}{a n:Nat}
theorem Z6e{P:Pw}(ok:D.ok n)(ha:a<n):rdy P D a=Xr P D:=by
 unfold rdy Xr
 rw[ok.len,Nat.mul_div_cancel_left _ (by omega)]
 split
 ·rfl
 ·split
  ·rfl
  ·rw[if_neg (by omega)]
theorem Z0t(ok:D.ok n)(ha:a<n):(D.reads a).size=64:=by
 have key:∀ (l:List (Nat×ByteArray)) (s:ByteArray),(∀x∈l,x.2.size=64)->s.size=64->(Z0K l a s).size=64:=by
  intro l
  induction l with
  |nil=>intro s _ h;exact h
  |cons x l ih=>
   intro s hl hs
   refine ih _ (fun y hy=>hl y (by simp[hy])) ?_
   show(if x.1=a then x.2 else s).size=64
   split
   ·exact hl x (by simp)
   ·exact hs
 rw[Z1X]
 refine key _ _ ok.size ?_
 rw[Z02]
 show(sec D.has a).length=64
 exact Z3z D.has n a ok.len ha
theorem Z87(D:Dk)(a k:Nat):D.text a (k+1)=D.text a k++(D.reads (a+k)).data.toList:=by
 unfold Dk.text;rw[List.range_succ,List.flatMap_append];simp
theorem JI(ok:D.ok n)(a k:Nat)(h:a+k<=n):(D.text a k).length=64*k:=by
 induction k with
 |zero=>rfl
 |succ k ih=>
  rw[Z87,ZjI,ih (by omega),Qo,Z0t ok (by omega)];omega
theorem Z5b(B p d n j:Nat)(P:Pw)(D:Dk)(L:List Nat)(J:Jn)(sd:Bool)(w:World)(h:PD B w p d n P D L)(hj:JAt w j d J)(h1:1<=J.half)(h2:2*J.half<=n)(hr:Xr P D=0):
  Calls prog 150 #[.pointer (some ⟨j,0,none⟩),.bool sd] w fun e w'=>e=.returned (.tuple #[.string (str (D.text (J.at_ sd 0) J.half)),.nilIface])/\Below w.heap.size w w':=by
 obtain⟨i0,hi,bq,bu,bz⟩:=info_parts Xw
 have hn:=h.ok.n2
 have ok:=h.ok
 obtain⟨a,ha⟩:∃a,J.at_ sd 0=a:=⟨_,rfl⟩
 have ah:∀k,J.at_ sd k=a+k:=fun k=>by rw[<-ha];unfold Jn.at_;split<;>omega
 have bj:a+J.half<=n:=by rw[<-ha];unfold Jn.at_;split<;>omega
 have hh:J.half<=10000:=by omega
 have c2:=hj.cell (j:=2) rfl
 rw[ha]
 have H:=Zka (Zkb h hj)
 have HA:=Zka (Zkb ah (Zkb hr (Zkb ok ha)))
 clear h hj ah hr ok ha
 go_enter func150,ntmps150
 go_wp2
 go_loopw [6,14] (fun bv i wr=>∃k:Nat,k<=J.half/\i=.int .i64 k/\wr.ownsRow w.heap.size 5 1 bv (64*k) (Z3 (D.text a k))/\Below w.heap.size w wr) (fun _ i _=>J.half- (intOf i).toNat)
 case atStart=>exact⟨0,by omega,rfl,World.ownsRow_nil _ _ _ _,Zk9⟩
 case round=>
  obtain⟨k,hk,rfl,ae,hb⟩:=hrel
  have al:=JAt.after H.out.2 hb
  have k0:=al.cell (j:=0) rfl
  clear c2
  by_cases cn:k<J.half
  ·have HO:=Zka (Zkb ae (Zkb hb al))
   have cr:=hb.size
   clear ae hb al
   go_wp2_with fail
   have ay:Below w.heap.size w wr.drew:=HO.out.2.1.drew
   have ag:=Zka ay
   clear ay
   have ax:rdy P D ((a+k:Nat):Int)=0:=by rw[Z6e HA.out.2.2.1 (by omega)];exact HA.out.2.1
   obtain⟨X,hX⟩:∃X,Z0u P D ((a+k:Nat):Int)=X:=⟨_,rfl⟩
   have aq:X=D.reads (a+k):=by rw[<-hX];unfold Z0u;rw[if_pos ax];rfl
   have bm:X.size=64:=by rw[aq];exact Z0t HA.out.2.2.1 (by omega)
   have bh:=Zka ax
   have HX:=Zka (Zkb hX aq)
   clear ax hX aq
   go_region_held3 (fun w'=>w'.cell? ⟨j,0,none⟩=some (.pointer (some ⟨d,0,none⟩))) (first|assumption|exact S1.out.2.cell (j:=0) rfl)
    (first
     |((go_at_call 212;refine(Z5a j d J sd k _ (JAt.after H.out.2 ag.out) (by omega) (by omega)).mono ?_;rintro e w1 ⟨rfl,rfl⟩))
     |((go_at_call 73;refine(PD.read (H.out.1.after ag.out) ((J.at_ sd k:Nat):Int)).mono ?_;rw[HA.out.1,HX.out.1];rintro e w1 ⟨ev,rfl,he,au⟩;rw[bh.out] at he;obtain rfl:=he.zero;have S1:=Zka (Zkb au (JAt.after (JAt.after H.out.2 ag.out) au));clear he au)))
   have aw:Below w.heap.size w w1:=ag.out.trans (S1.out.1.mono ag.out.size)
   have b9:w1.ownsRow w.heap.size 5 1 _ (64*k) (Z3 (D.text a k)):=Y3 (Y3 HO.out.1 (Zk9.drew)) S1.out.1
   have S2:=Zka (Zkb aw (Zkb b9 HX.out.2))
   have ct:=aw.size
   clear aw b9
   go_wp2_with (at_builtin;refine Lib.wpList_append_own_string _ rfl (.tmp 32) (.tmp 33) 75 9 rfl w.heap.size 5 i0 underlying75 underlying9 hi bq bu bz _ (64*k) (Z3 (D.text a k)) rfl S2.out.2.1 X rfl (by unfold maxLen;omega) (by omega) S2.out.1.size ?_;intro v' w2 af ai aj;clear aj;have bg:=Zka af;have bf:=Zka ai;clear af ai)
   go_roundw
   case measure=>simp[intOf];omega
   case rel=>
    refine⟨k+1,by omega,by go_num,?_,?_⟩
    ·have h2:=bg.out
     rw[show Lib.strCells X=Z3 X.data.toList from by simp[Lib.strCells,Z3],<-XN,bm,S2.out.2.2,<-Z87] at h2
     exact h2
    ·have hf:Fr [] w w1:=Fr.of_below S2.out.1
     have h2:Fr [] w w2:=hf.grown bf.out (fun g hg=>Or.inr (Xa S2.out.2.1 hg))
     exact h2.nil_below
  ·obtain rfl:k=J.half:=by omega
   obtain⟨g,cap,sp,rfl,cj,_,_,ak⟩:=Qs ae (by omega)
   have hl:=JI HA.out.2.2.1 a J.half bj
   have az:=Qv (P:=prog) wr 75 9 5 underlying75 underlying5 underlying9 ak 0 (64*J.half) cap (D.text a J.half) hl (by rw[List.drop_zero,List.take_append_of_le_length (by rw[Zh,hl];exact Zk8)];exact ZjT (by rw[Zh,hl];exact Zk8))
   have HB:=Zka hb
   clear ae ak hb al hl k0
   go_wp2
   go_ret2
   exact⟨rfl,HB.out⟩
theorem ZfW(B p d n j:Nat)(P:Pw)(D:Dk)(L:List Nat)(J:Jn)(sd:Bool)(w:World)(h:PD B w p d n P D L)(hj:JAt w j d J)(h1:1<=J.half)(h2:2*J.half<=n)(hr:Xr P D≠0):
  Calls prog 150 #[.pointer (some ⟨j,0,none⟩),.bool sd] w fun e w'=>∃b,e=.returned (.tuple #[.string ⟨#[]⟩,.iface 139 (.pointer (some ⟨b,0,none⟩))])/\Zu w' w.heap.size (Xr P D) (.iface 139 (.pointer (some ⟨b,0,none⟩)))/\Below w.heap.size w w':=by
 have hn:=h.ok.n2
 have ok:=h.ok
 have aj:J.at_ sd 0<n:=by unfold Jn.at_;split<;>omega
 have hh:J.half<=10000:=by omega
 have c2:=hj.cell (j:=2) rfl
 have k0:=hj.cell (j:=0) rfl
 have H:=Zka (Zkb h hj)
 have HA:=Zka (Zkb hr ok)
 have ak:(0:Int)<(J.half:Int):=by omega
 clear h hj hr ok
 go_enter func150,ntmps150
 go_wp2
 go_loopw [6,14] (fun bv i wr=>bv=.slice none 0 0/\i=.int .i64 ((0:Nat):Int)/\w=wr) (fun _ _ _=>0)
 case atStart=>exact⟨rfl,rfl,rfl⟩
 case round=>
  obtain⟨rfl,rfl,rfl⟩:=hrel
  go_wp2_with fail
  have ag:Below w.heap.size w w.drew:=Zk9.drew
  have ae:=Zka ag
  clear ag
  have ah:rdy P D ((J.at_ sd 0:Nat):Int)=Xr P D:=Z6e HA.out.2 aj
  have ai:=Zka ah
  clear ah
  go_region_held3 (fun w'=>w'.cell? ⟨j,0,none⟩=some (.pointer (some ⟨d,0,none⟩))) (first|assumption|exact S1.out.2.cell (j:=0) rfl)
   (first
    |((go_at_call 212;refine(Z5a j d J sd 0 _ (JAt.after H.out.2 ae.out) (by omega) (by omega)).mono ?_;rintro e w1 ⟨rfl,rfl⟩))
    |((go_at_call 73;refine(PD.read (H.out.1.after ae.out) ((J.at_ sd 0:Nat):Int)).mono ?_;rintro e w1 ⟨ev,rfl,he,af⟩;rw[ai.out] at he;obtain⟨b,rfl⟩:=(he.split.resolve_left (fun h=>HA.out.1 h.1)).2;have S1:=Zka (Zkb af (JAt.after (JAt.after H.out.2 ae.out) af));have S2:=Zka he;clear he af)))
  obtain⟨X,hX⟩:∃X,Z0u P D ((J.at_ sd 0:Nat):Int)=X:=⟨_,rfl⟩
  rw[hX]
  clear hX
  go_wp2
  go_ret2
  exact⟨b,rfl,S2.out,ae.out.trans (S1.out.1.mono ae.out.size)⟩
def beV(l:Bs):Nat:=l.foldl (fun e c=>e*256+c.toNat) 0
theorem Z8K(l:Bs)(c:UInt8):beV (l++[c])=beV l*256+c.toNat:=by simp[beV,List.foldl_append]
theorem Zby(E c:Nat)(hc:c<256)(hE:E<=18014398509481984):bits .or .i64 ((E:Int)*256) (c:Int)=((E*256+c:Nat):Int):=by
 have e1:(E:Int)*256=((E*2^8:Nat):Int):=by omega
 rw[e1,Z6z _ _ (by omega) (by omega),<-Nat.shiftLeft_eq,Nat.shiftLeft_add_eq_or_of_lt (show c<2^8 from by omega)]
theorem Zhc(E:Nat)(i:Nat)(hE:E<=3000000000):beV ((Z4 (E / 4294967296)++Z4 E).take i)<=3000000000:=by
 have e0:E / 4294967296=0:=by omega
 rw[e0]
 simp only[Z4,List.cons_append,List.nil_append]
 match i with
 |0|1|2|3|4=>simp[beV]
 |5=>simp[beV];omega
 |6=>simp[beV];omega
 |7=>simp[beV];omega
 |i+8=>simp[beV];omega
theorem Zhb(E:Nat)(hE:E<=3000000000):beV ((Z4 (E / 4294967296)++Z4 E).take 8)=E:=by
 have e0:E / 4294967296=0:=by omega
 rw[e0]
 simp[Z4,beV];omega
theorem Z2q(s:ByteArray)(w:World)(hs:64<=s.size)(hm:s.size<=10000000)(h0:s.data.toList.getD 0 0≠1):
  Calls prog 152 #[.string s] w fun e w'=>e=.returned (.int .i64 0)/\Below w.heap.size w w':=by
 obtain⟨t,ht⟩:∃t,s.extract 12 20=t:=⟨_,rfl⟩
 have aw:t.size=8:=by rw[<-ht,ByteArray.size_extract];omega
 obtain⟨q,hq⟩:∃q,s.extract 0 64=q:=⟨_,rfl⟩
 have aq:q.data.toList.getD 0 0≠1:=by
  rw[<-hq,Lib.extract_data,List.drop_zero]
  have:s.data.toList.getD 0 0=(s.data.toList.take (64-0)).getD 0 0:=by
   cases s.data.toList with
   |nil=>rfl
   |cons x r=>rfl
  rw[<-this];exact h0
 have b9:(20:Int)<=s.size:=by omega
 have bf:(64:Int)<=s.size:=by omega
 have HT:=Zka (Zkb ht aw)
 have HQ:=Zka (Zkb hq aq)
 clear aw aq h0
 go_enter func152,ntmps152
 go_wp2_with (refine Z25 rfl 9 75 5 (.tmp 10) rfl t rfl underlying9 underlying75 underlying5 ?_;intro g cap r w1 az ag ai aj)
 rw[HT.out.2]
 have HR:=Zka (Zkb ag aj)
 have bg:t.data.toList.length=8:=by rw[Qo];exact HT.out.2
 clear ag aj ai az
 go_loopw [3,13] (fun ev iv wr=>∃i:Nat,i<=8/\iv=.int .i64 i/\ev=.int .i64 (beV (t.data.toList.take i):Nat)/\beV (t.data.toList.take i)<=4611686018427388159/\w1=wr) (fun _ iv _=>8- (intOf iv).toNat)
 case atStart=>exact⟨0,by omega,rfl,rfl,by simp[beV],rfl⟩
 case round=>
  obtain⟨i,hi,rfl,rfl,hE,rfl⟩:=hrel
  by_cases bh:i<8
  ·obtain⟨u,hu⟩:∃u,t.data.toList[i]'(by omega)=u:=⟨_,rfl⟩
   have af:w1.cell? ⟨g,i,none⟩=some (.int .u8 (u.toNat:Int)):=by
    rw[<-hu];refine HR.out.1.cell ?_
    rw[ZjH (by rw[Zh];omega)]
    exact YR _ i (by omega)
   have au:t.data.toList.take (i+1)=t.data.toList.take i++[u]:=by rw[ZjK (by omega),hu]
   have ax:=u.toNat_lt
   obtain⟨c,hc⟩:∃c,u.toNat=c:=⟨_,rfl⟩
   obtain⟨E,ae⟩:∃E,beV (t.data.toList.take i)=E:=⟨_,rfl⟩
   have al:beV (t.data.toList.take (i+1))=E*256+c:=by rw[au,Z8K,ae,hc]
   rw[hc] at af ax
   rw[ae] at hE
   have HN:=Zka (Zkb al ae)
   rw[ae]
   clear au al hu hc ae
   by_cases ah:E<=18014398509481984
   ·have h2:¬ (18014398509481984:Int)<(E:Int):=by omega
    have bj:=Zby E c ax ah
    go_wp2
    exact⟨⟨i+1,by omega,by go_num,by rw[HN.out.1];exact Xy (by omega),by rw[HN.out.1];omega,trivial⟩,by simp[intOf];omega⟩
   ·have h2:(18014398509481984:Int)<(E:Int):=by omega
    go_wp2
    go_ret
    exact⟨rfl,HR.out.2⟩
  ·obtain rfl:i=8:=by omega
   obtain⟨E,ae⟩:∃E,beV (t.data.toList.take 8)=E:=⟨_,rfl⟩
   rw[ae]
   clear ae hE
   go_wp2_with fail
   refine(Z3I q E 0 _ (Or.inr HQ.out.2)).mono ?_
   rintro e w2 ⟨v,rfl,hv,ay,ak⟩
   obtain⟨b,rfl⟩:=(hv.split.resolve_left (fun h=>ay h.2)).2
   have HB:=Zka (HR.out.2.trans (ak.mono HR.out.2.size))
   clear hv ay ak
   go_wp2
   go_ret
   exact⟨rfl,HB.out⟩
theorem Z3b(s:ByteArray)(E0:Nat)(rest:Bs)(w:World)(hm:s.size<=10000000)(hd:s.data.toList=Zb E0 0 ZI++rest)(aw:E0<=3000000000):
  Calls prog 152 #[.string s] w fun e w'=>e=.returned (.int .i64 E0)/\Below w.heap.size w w':=by
 have hs:64<=s.size:=by rw[<-Qo,hd,ZjI,Qx];omega
 have aq:(s.extract 12 20).data.toList=Z4 (E0 / 4294967296)++Z4 E0:=by
  rw[Lib.extract_data,hd]
  simp only[Zb,Xl,ZjL]
  rfl
 have af:∀i,i<=8->beV ((s.extract 12 20).data.toList.take i)<=3000000000:=fun i hi=>by rw[aq];exact Zhc E0 i aw
 have ae:beV ((s.extract 12 20).data.toList.take 8)=E0:=by rw[aq];exact Zhb E0 aw
 obtain⟨t,ht⟩:∃t,s.extract 12 20=t:=⟨_,rfl⟩
 have bf:t.size=8:=by rw[<-ht,ByteArray.size_extract];omega
 obtain⟨q,hq⟩:∃q,s.extract 0 64=q:=⟨_,rfl⟩
 have al:q.data.toList=Zb E0 0 ZI++[]:=by rw[<-hq,Lib.extract_data,List.drop_zero,hd,Zk7,List.take_append_of_le_length (by rw[Qx];exact Zk8),ZjT (by rw[Qx];exact Zk8)]
 have bm:q.size=64:=by rw[<-Qo,al,Zk7,Qx]
 rw[ht] at af ae
 have au:=Zka (Zkb af ae)
 clear aq af ae hd
 have bq:(20:Int)<=s.size:=by omega
 have bu:(64:Int)<=s.size:=by omega
 have HT:=Zka (Zkb ht bf)
 have HQ:=Zka (Zkb hq al)
 clear bf al
 go_enter func152,ntmps152
 go_wp2_with (refine Z25 rfl 9 75 5 (.tmp 10) rfl t rfl underlying9 underlying75 underlying5 ?_;intro g cap r w1 bj ai ak ax)
 rw[HT.out.2]
 have HR:=Zka (Zkb ai ax)
 have bz:t.data.toList.length=8:=by rw[Qo];exact HT.out.2
 clear ai ax ak bj
 go_loopw [3,13] (fun ev iv wr=>∃i:Nat,i<=8/\iv=.int .i64 i/\ev=.int .i64 (beV (t.data.toList.take i):Nat)/\beV (t.data.toList.take i)<=4611686018427388159/\w1=wr) (fun _ iv _=>8- (intOf iv).toNat)
 case atStart=>exact⟨0,by omega,rfl,rfl,by simp[beV],rfl⟩
 case round=>
  obtain⟨i,hi,rfl,rfl,hE,rfl⟩:=hrel
  by_cases cj:i<8
  ·obtain⟨u,hu⟩:∃u,t.data.toList[i]'(by omega)=u:=⟨_,rfl⟩
   have ah:w1.cell? ⟨g,i,none⟩=some (.int .u8 (u.toNat:Int)):=by
    rw[<-hu];refine HR.out.1.cell ?_
    rw[ZjH (by rw[Zh];omega)]
    exact YR _ i (by omega)
   have b9:t.data.toList.take (i+1)=t.data.toList.take i++[u]:=by rw[ZjK (by omega),hu]
   have bg:=u.toNat_lt
   obtain⟨c,hc⟩:∃c,u.toNat=c:=⟨_,rfl⟩
   obtain⟨E,ag⟩:∃E,beV (t.data.toList.take i)=E:=⟨_,rfl⟩
   have az:beV (t.data.toList.take (i+1))=E*256+c:=by rw[b9,Z8K,ag,hc]
   rw[hc] at ah bg
   rw[ag] at hE
   have HN:=Zka (Zkb az ag)
   rw[ag]
   clear b9 az hu hc ag
   have aj:E<=18014398509481984:=by have:=au.out.1 i (by omega);rw[HN.out.2] at this;omega
   ·have h2:¬ (18014398509481984:Int)<(E:Int):=by omega
    have cn:=Zby E c bg aj
    go_wp2
    exact⟨⟨i+1,by omega,by go_num,by rw[HN.out.1];exact Xy (by omega),by rw[HN.out.1];omega,trivial⟩,by simp[intOf];omega⟩
  ·obtain rfl:i=8:=by omega
   rw[au.out.2]
   clear hE
   have bh:(107::[]:Bs)≠[]:=by decide
   go_wp2_with fail
   refine(Z50 q E0 0 ZI [] _ HQ.out.2 (by omega) (by omega) (by decide) (by rw[bm];decide)).mono ?_
   rintro e w2 ⟨rfl,ay⟩
   have HB:=Zka (HR.out.2.trans (ay.mono HR.out.2.size))
   clear ay
   go_wp2
   go_ret
   exact⟨rfl,HB.out⟩
end
end Go.Proofs.YthppfllkocphbaaGreatDoor
