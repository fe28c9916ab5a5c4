/- Part 6: lemmas about what the program computes. -/
import Derived.Maps.RangeWalk
import Derived.Maps.OwnSet
import Derived.Maps.StringElems
import Derived.Sort.MapsRangeIn
import Derived.StringKeys
import Derived.Test.YthppfllkocphbaaGreatDoorY04
namespace Go.Proofs.YthppfllkocphbaaGreatDoor
set_option linter.unusedVariables false
set_option linter.unusedSimpArgs false
set_option maxHeartbeats 25600000
set_option maxRecDepth 100000
open Tryz Go.RowKit
section
open Go.Maps Go.WideMaps
def Xl(v:Value):Option (DataW Value×List MemPlace):=some (.held v,[])
theorem JG:Maps.Keyed prog 9:=string_keyed underlying9
def CB(D:DataW Value)(f:Bs->Option Value):Prop:=∀k:Bs,Maps.has D (.string k)=(f k).isSome/\∀v,f k=some v->∀z,D.atKey (.string k) z=.held v
def ZA(w:World)(b n:Nat)(f:Bs->Option Value):Prop:=∃D:DataW Value,w.ownsMap prog 9 Xl b n D/\CB D f
theorem TI{w w':World}{k:TypeId}{b n:Nat}{D:DataW Value}{L:List Nat}(h:w.ownsMap prog k Xl b n D)(M:Fr L w w')(J:b∉L):w'.ownsMap prog k Xl b n D:=by have C:=h.lt;obtain⟨es,F,hh,r⟩:=h;exact⟨es,F,(M.block b C J).trans hh,r⟩
theorem ZA.fr{w w':World}{b n:Nat}{f:Bs->Option Value}{L:List Nat}(h:ZA w b n f)(M:Fr L w w')(J:b∉L):ZA w' b n f:=by obtain⟨D,C,F⟩:=h;exact⟨D,TI C M J,F⟩
theorem ZA.after{w w':World}{b n:Nat}{f:Bs->Option Value}(h:ZA w b n f)(C:Below w.heap.size w w'):ZA w' b n f:=h.fr (Fr.of_below (L:=[]) C) (by simp)
theorem ZA.lt{w:World}{b n:Nat}{f:Bs->Option Value}(h:ZA w b n f):b<w.heap.size:=by obtain⟨D,C,_⟩:=h;exact C.lt
theorem ZA.block{w:World}{b n:Nat}{f:Bs->Option Value}(h:ZA w b n f):∃es C,w.heap[b]? =some (.map es C):=by obtain⟨D,⟨es,C,hh,_⟩,_⟩:=h;exact⟨es,C,hh⟩
theorem ZA.congr{w:World}{b n:Nat}{f g:Bs->Option Value}(h:ZA w b n f)(C:∀k,f k=g k):ZA w b n g:=by
 have:f=g:=by grind
 simp_all
theorem Z2I(a b:Bs):Lit.sameKey (.string a) (.string b)=decide (a=b):=by simp[Lit.sameKey];grind
theorem FF(k:Bs)(h:k.length<=maxLen):keyOf prog 9 (.string (str k))=some (.string k):=keyOf_string_mk (s:=str k) underlying9 (by rw[Z5];exact h)
section
variable{w:World}{b n:Nat}{f:Bs->Option Value}{t e:TypeId}
theorem ZA.made(w:World):ZA (w.alloc (.map #[] 0)) w.heap.size 0 (λ_=>none):=⟨.map [],World.ownsMap_made _ _ _ _,λk=>⟨rfl,λv h=>by cases h⟩⟩
theorem ZA.look_some(h:ZA w b n f)(U:prog.underlying t=some (.map 9 e)){z:Value}(Z:(zeroValue e).run prog w=.ok z w){k:Bs}(O:k.length<=maxLen){v:Value}(F:f k=some v):(Instr.lookup t (.map (some b)) (.string (str k)) true).run prog w=.ok (.tuple #[v,.bool true]) w:=by obtain⟨D,M,C⟩:=h;obtain⟨v',ps,J,hv⟩:=M.look_ok JG U Z (zd:=.held z) (zp:=[]) rfl (FF k O);rw[(C k).2 v F] at hv;simp[Xl] at hv;rw[J,(C k).1,F,hv.1];rfl
theorem ZA.look_none(h:ZA w b n f)(U:prog.underlying t=some (.map 9 e)){z:Value}(Z:(zeroValue e).run prog w=.ok z w){k:Bs}(O:k.length<=maxLen)(M:f k=none):(Instr.lookup t (.map (some b)) (.string (str k)) true).run prog w=.ok (.tuple #[z,.bool false]) w:=by
 obtain⟨D,F,J⟩:=h;obtain⟨v',ps,C,hv⟩:=F.look_ok JG U Z (zd:=.held z) (zp:=[]) rfl (FF k O);have hh:Maps.has D (.string k)=false:=by rw[(J k).1,M];rfl
 rw[atKey_of_not_has hh] at hv;simp[Xl] at hv;rw[C,hh,hv.1]
theorem ZA.at_some(h:ZA w b n f)(U:prog.underlying t=some (.map 9 e)){z:Value}(Z:(zeroValue e).run prog w=.ok z w){k:Bs}(O:k.length<=maxLen){v:Value}(M:f k=some v):(Instr.lookup t (.map (some b)) (.string (str k)) false).run prog w=.ok v w:=by obtain⟨D,F,J⟩:=h;obtain⟨v',ps,C,hv⟩:=F.lookup JG U Z (zd:=.held z) (zp:=[]) rfl (FF k O);rw[(J k).2 v M] at hv;simp[Xl] at hv;rw[C,hv.1]
end
section
variable(w:World){ops:Array Oper}{rest:List Oper}{o:Oper}{a:Act}{Q:Exit->Act->World->Prop}
theorem CB.put{D:DataW Value}{f:Bs->Option Value}(h:CB D f)(hm:IsMap D)(k:Bs)(v:Value):CB (D.put (.string k) (.held v)) (λm=>if m=k then some v else f m):=by
 intro m;by_cases e:m=k
 .subst e;simp only[if_true];exact⟨by rw[has_put_same hm (show WideAt.IsKeyLit (.string m) from trivial)];rfl,λu hu z=>by rw[atKey_put_same hm (show WideAt.IsKeyLit (.string m) from trivial)];cases hu;rfl⟩
 .simp[if_neg e];have C:(Lit.string m)≠.string k:=by simp_all
  exact⟨by rw[has_put_other C];exact(h m).1,λu hu z=>by rw[atKey_put_other C];exact(h m).2 u hu z⟩
theorem CB.del{D:DataW Value}{f:Bs->Option Value}(h:CB D f)(k:Bs):CB (D.del (.string k)) (λm=>if m=k then none else f m):=by
 intro m;by_cases e:m=k
 .subst e;simp only[if_true];exact⟨by rw[has_del_same];rfl,λu hu=>by cases hu⟩
 .simp[if_neg e];have C:(Lit.string m)≠.string k:=by simp_all
  exact⟨by rw[has_del_other C];exact(h m).1,λu hu z=>by rw[atKey_del_other C];exact(h m).2 u hu z⟩
theorem Up(O:o.guard=none)(m x v:Operand)(t:TypeId)(J:o.op=Op.mapUpdate t m x v)(e:TypeId)(ht:prog.underlying t=some (.map 9 e))(b n:Nat)(f:Bs->Option Value)(hm:a.eval m=.map (some b))(h:ZA w b n f)(Z:n<maxLen)(k:Bs)(U:k.length<=maxLen)(val:Value)(hx:a.eval x=.string (str k))(hv:a.eval v=val)(hK:∀w',ZA w' b (n+1) (λm=>if m=k then some val else f m)->w.grownBy w' (some b)->wpList prog ops Q rest (a.put o.dst undef) w'):wpList prog ops Q (o::rest) a w:=by obtain⟨D,C,M⟩:=h;exact wpList_mapUpdate_own w O m x v t J 9 e JG ht Xl b n D hm C Z _ val (.string k) hx hv (FF k U) (.held val) [] rfl (λw' ho F=>hK w' ⟨_,ho,M.put C.isMap k val⟩ F)
def YJ(w:World)(b r n:Nat)(f:Bs->Option Value)(todo:Bs->Bool)(cnt:Nat):Prop:=
 ∃ (D:DataW Value) (left:Lit->Bool),w.ranges prog 9 Xl b r n D left cnt/\CB D f/\∀k,left (.string k)=todo k
theorem YJ.owns{w:World}{b r n:Nat}{f:Bs->Option Value}{todo:Bs->Bool}{C:Nat}(h:YJ w b r n f todo C):ZA w b n f:=by obtain⟨D,l,F,J,_⟩:=h;exact⟨D,F.owns,J⟩
theorem YJ.left_eq{w:World}{b r n:Nat}{f:Bs->Option Value}{todo:Bs->Bool}{C:Nat}(h:YJ w b r n f todo C):w.rangeLeft b r=C:=by obtain⟨D,l,F,J,_⟩:=h;exact F.left_eq
theorem YJ.fr{w w':World}{b r n:Nat}{f:Bs->Option Value}{todo:Bs->Bool}{J:Nat}{L:List Nat}(h:YJ w b r n f todo J)(M:Fr L w w')(hb:b∉L)(hr:r∉L):YJ w' b r n f todo J:=by obtain⟨D,l,C,Z,h3⟩:=h;have k1:=C.owns.lt;have k2:=C.lt;obtain⟨es,clock,since,seen,c0,O,F,hs,hD,U,rest⟩:=C;exact⟨D,l,⟨es,clock,since,seen,c0,(M.block b k1 hb).trans O,F,hs,hD,(M.block r k2 hr).trans U,rest⟩,Z,h3⟩
theorem YJ.after{w w':World}{b r n:Nat}{f:Bs->Option Value}{todo:Bs->Bool}{C:Nat}(h:YJ w b r n f todo C)(F:Below w.heap.size w w'):YJ w' b r n f todo C:=h.fr (Fr.of_below (L:=[]) F) (by simp) (by simp)
theorem YJ.iter{w:World}{b r n:Nat}{f:Bs->Option Value}{todo:Bs->Bool}{C:Nat}(h:YJ w b r n f todo C):∃a J c d,w.heap[r]? =some (.mapIter a J c d):=by obtain⟨D,l,⟨es,clock,since,seen,c0,M,F,hs,U,O,rest⟩,_⟩:=h;simp_all
theorem C2(U:o.guard=none)(m:Operand)(t:TypeId)(M:o.op=Op.range t m)(e:TypeId)(ht:prog.underlying t=some (.map 9 e))(b n:Nat)(f:Bs->Option Value)(hm:a.eval m=.map (some b))(h:ZA w b n f)(hK:∀w' F,YJ w' b w.heap.size n f (λk=>(f k).isSome) F->Below w.heap.size w w'->w'.heap.size=w.heap.size+1->wpList prog ops Q rest (a.put o.dst (.pointer (some ⟨w.heap.size,0,none⟩))) w'):wpList prog ops Q (o::rest) a w:=by obtain⟨D,O,C⟩:=h;refine wpList_range_own w U m t M 9 e JG ht Xl b n D hm O (λw' hr J hs=>hK w' _ ⟨D,_,hr,C,λk=>(C k).1⟩ ?_ hs);exact Fr.nil_below ((Fr.refl [] w).grown J (λk Z=>by cases Z))
theorem C1(hg:o.guard=none)(it:Operand)(al:o.op=Op.next it false)(b r n:Nat)(f:Bs->Option Value)(todo:Bs->Bool)(F:Nat)(hit:a.eval it=.pointer (some ⟨r,0,none⟩))(h:YJ w b r n f todo F)(ae:(∀k,todo k=false)->wpList prog ops Q rest (a.put o.dst (.tuple #[.bool false])) w)(af:∀ (k:Bs) (v:Value) (w':World) (C:Nat),k.length<=maxLen->todo k=true->f k=some v->YJ w' b r n f (λm=>todo m&& !decide (m=k)) C->C<F->Fr [r] w w'->w'.heap.size=w.heap.size-> (Instr.entry (.pointer (some ⟨r,0,none⟩))).run prog w'=.ok (.tuple #[.string (str k),v]) w'->wpList prog ops Q rest (a.put o.dst (.tuple #[.bool true,.string (str k),v])) w'):wpList prog ops Q (o::rest) a w:=by
 obtain⟨D,left,h1,O,Z⟩:=h;refine wpList_next_ranges (α:=ByteArray) (β:=Value) w hg it al 9 JG Xl .string id (λkey kl U=> ?_) (λv y _=>⟨v,rfl⟩) b r n D left F hit h1 (λ_ hl=>ae (λk=>by rw[<-Z];exact hl _)) ?_
 .exact Maps.keyOf_string_inv underlying9 U
 .intro s v kl y w' C ag hl hv J aq ak ai au ah;have hs:s.size<=maxLen/\kl=.string s.data.toList:=by obtain⟨s',e1,e2,e3⟩:=string_of_keyOf underlying9 ag;simp_all
  obtain⟨az,rfl⟩:=hs;have aj:(f s.data.toList).isSome=true:=by
   rw[<-(O _).1];by_cases hh:Maps.has D (.string s.data.toList)=true
   .omega
   .exfalso;have hh:Maps.has D (.string s.data.toList)=false:=(by simp_all);have M:=J (.nil);have a2:=J (.held undef);rw[atKey_of_not_has hh] at M a2;grind
  obtain⟨u,hu⟩:=Option.isSome_iff_exists.1 aj;have aw:v=u:=by have M:=J (.nil);rw[(O _).2 u hu] at M;simp[Xl] at hv;grind
  subst aw;refine af s.data.toList v w' C (by simp_all) (by simp_all) hu ⟨D,_,aq,O,λm=> ?_⟩ ak ((Fr.refl [r] w).grown ai (λk U=>by cases U;exact Or.inl (by simp))) au ah;rw[Z,Z2I]
end
end
structure Z2C(B p d n j:Nat)(L:List Nat)(ops:List DOp)(J1 J2:Jn)(P:Pw)(D:Dk)(w w':World):Prop where
 ran:Ran B p d n L [j] ops P D w w'
 ok:(Z2 ops P D).1=0->JAt w' j d J1
 bad:(Z2 ops P D).1≠0->JAt w' j d J2
theorem Ty.set{w:World}(h:Ty w){a:Addr}(ha:a.block≠0)(v:Value):Ty (w.setCell a v):=by unfold Ty at h⊢;rw[World.cell?_setCell_far w a _ v ha];exact h
theorem Mc(e n:Nat)(r:ByteArray)(E:Nat)(h:Zf r.size=64*E):(str (Zh e n r.data.toList)).size=64*E:=by rw[Z5,Wd,QI,h]
theorem Nz(d j:Nat)(J:Jn)(r:ByteArray)(w:World)(h:JAt w j d J)(Z:J.closed=false)(ae:J.Fit)(aw:J.next<=J.half)(hr:r.size<=60000)(af:J.half-J.next<Zf r.size / 64):Calls prog 136 #[.pointer (some ⟨j,0,none⟩),.string r] w λe w'=>∃b,e=.returned (.iface 139 (.pointer (some ⟨b,0,none⟩)))/\Zk w' w.heap.size 12 (.iface 139 (.pointer (some ⟨b,0,none⟩)))/\Below w.heap.size w w':=by
 obtain⟨f1,f2,f3,f4⟩:=ae;obtain⟨E,hE⟩:∃E,Zf r.size=64*E:=⟨Zf r.size / 64,by have:=Jf r.size;omega⟩;have U:Zf r.size / 64=E:=by omega
 rw[U] at af;have az:E<=1000:=by have:Zf r.size<=60100:=(by unfold Zf;omega);omega
 obtain⟨m1,ak⟩:=Z5I (J.many+1);have al:(J.many:Int)+1=(m1:Int):=by omega
 have aq:=Z5x ((J.many:Int)+1) (by omega);rw[al] at aq;have C:=Mc J.epoch m1 r E hE;obtain⟨O,M⟩:=Z5H (str (Zh J.epoch m1 r.data.toList));rw[M] at C;have c4:=h.cell (j:=4) rfl;have c5:=h.cell (j:=5) rfl;have c7:=h.cell (j:=7) rfl;rw[Z] at c7;have H:=Z5F h;have HP:=Z5J M C;have au:m1<=4000000000:=by omega
 have aj:J.epoch<=4000000000:=by omega
 clear h Z hE U ak M C;go_enter func136,ntmps136;go_wp2_with fail;go_region_held3 (λw'=>w'.cell? ⟨j,4,none⟩=some (.int .i64 J.epoch)/\w'.cell? ⟨j,5,none⟩=some (.int .i64 J.many)) (first|assumption|exact⟨c4,c5⟩|exact⟨S1.out.1.cell (j:=4) rfl,S1.out.1.cell (j:=5) rfl⟩)
  (((go_at_call 193;refine(DE J.epoch m1 r _ aj au hr).mono ?_;rintro e w1 ⟨rfl,F⟩;have ag:JAt w1 j d J:=JAt.after (w:=w.drew) H.out F;have S1:=Z5J ag F;clear ag F)))
 rw[show(⟨(Zh J.epoch m1 r.data.toList).toArray⟩:ByteArray)=O from HP.out.1];have C:=HP.out.2;go_wp2_with fail;refine(LO j d J _ S1.out.1 aw (by omega)).mono ?_;rintro e w2 ⟨rfl,q,rfl⟩;go_wp2_with fail;refine(K6 12 (by omega) _).mono ?_;rintro e w3 ⟨b,rfl,he,ai⟩;have S3:=Z5J he ai;have ah:=S1.out.2.size;go_wp2;go_ret;exact⟨b,rfl,S3.out.1.base ah,(Below.drew Z5E).trans (S1.out.2.trans ((Zv Z5E q).trans (S3.out.2.mono (show w.drew.heap.size<=w1.heap.size from ah))))⟩
theorem PC(B p d n j:Nat)(P:Pw)(D:Dk)(L:List Nat)(J:Jn)(r:ByteArray)(w:World)(h:PD B w p d n P D L)(hB:B<=w.heap.size)(hj:JAt w j d J)(cr:B<=j)(ht:Ty w)(hg:0<B)(aw:J.closed=false)(az:J.Fit)(U:r.size<=60000)(dj:J.next<=J.half)(b7:Zf r.size / 64<=J.half-J.next)(dw:J.next<=40000)(dc:D.wait.length<=100000):Calls prog 136 #[.pointer (some ⟨j,0,none⟩),.string r] w (Ans w.heap.size (Z2 (J.appendOps r.data.toList) P D).1 (Z2C B p d n j L (J.appendOps r.data.toList) (J.appended r.data.toList) {J with closed:=true} P D w)):=by
 obtain⟨f1,f2,f3,f4⟩:=az;obtain⟨E,hE⟩:∃E,Zf r.size=64*E:=⟨Zf r.size / 64,by have:=Jf r.size;omega⟩;have aq:Zf r.size / 64=E:=by omega
 rw[aq] at b7;have dq:E<=1000:=by have:Zf r.size<=60100:=(by unfold Zf;omega);omega
 have dp:1<=E:=by have:=Br r.size;omega
 obtain⟨m1,bf⟩:=Z5I (J.many+1);have df:(J.many:Int)+1=(m1:Int):=by omega
 have ct:=Z5x ((J.many:Int)+1) (by omega);rw[df] at ct;have Z:=Mc J.epoch m1 r E hE;obtain⟨pk,al⟩:=Z5H (str (Zh J.epoch m1 r.data.toList));rw[al] at Z;have dt:((64*E:Nat):Int) / 64=(E:Int):=by omega
 obtain⟨A,hA⟩:=Z5H (J.appendOps r.data.toList);have bm:J.lay J.second J.next pk.data.toList=A:=by rw[<-hA,<-al,Zn,bf];rfl
 have ae:J.appended r.data.toList={J with many:=m1,next:=J.next+E}:=by unfold Jn.appended;rw[QI,aq,bf]
 obtain⟨nx,ah⟩:=Z5H (J.next+E);have du:(J.next:Int)+(E:Int)=(nx:Int):=by omega
 rw[ah] at ae;rw[hA,ae];have c4:=hj.cell (j:=4) rfl;have c5:=hj.cell (j:=5) rfl;have c7:=hj.cell (j:=7) rfl;rw[aw] at c7;have H:=Z5L h hj ht hB;have HP:=Z5L al Z bm hE;have dh:m1<=4000000000:=by omega
 have cz:J.epoch<=4000000000:=by omega
 have M:=Z5M h.bp h.bL hg cr aw;clear h hj hE aq bf al Z ht hB hA bm ae hg cr aw ah;go_enter func136,ntmps136;go_wp2_with fail;go_region_held3 (λw'=>w'.cell? ⟨j,4,none⟩=some (.int .i64 J.epoch)/\w'.cell? ⟨j,5,none⟩=some (.int .i64 J.many)) (first|assumption|exact⟨c4,c5⟩|exact⟨S1.out.1.cell (j:=4) rfl,S1.out.1.cell (j:=5) rfl⟩)
  (((go_at_call 193;refine(DE J.epoch m1 r _ cz dh U).mono ?_;rintro e w1 ⟨rfl,au⟩;have cj:JAt w1 j d J:=JAt.after (w:=w.drew) H.out.2.1 au;have S1:=Z5J cj au;clear cj au)))
 rw[show(⟨(Zh J.epoch m1 r.data.toList).toArray⟩:ByteArray)=pk from HP.out.1];have Z:=HP.out.2.1;clear ct c4 c5;have bq:Below w.heap.size w w1:=(Below.drew Z5E).trans S1.out.2;have cw:=Z5F bq;clear bq;go_wp2_with fail;refine(LO j d J _ S1.out.1 dj (by omega)).mono ?_;rintro e w2 ⟨rfl,q,rfl⟩;have de:decide (((J.half-J.next:Nat):Int)<(E:Int))=false:=by simp;omega
 have b9:¬ ((J.half-J.next:Nat):Int)<(E:Int):=by omega
 obtain⟨w2,bj⟩:=Z5I (w1.drewN q);rw[<-bj];have af:Below w.heap.size w w2:=by rw[bj];exact Zv cw.out q
 have aj:JAt w2 j d J:=JAt.after H.out.2.1 af;have T2:=Stg.start H.out.1 [j] af;have dm:=af.size;have S2:=Z5K T2 aj af;have c3:=aj.cell (j:=3) rfl;have c6:=aj.cell (j:=6) rfl;clear af aj T2 bj;go_wp2_with fail;go_still_tail 10,(by kernel_rfl);change wpList _ _ _ _ _ w2.drew;have T3:Stg B p d n L [j] [] P D w P D L w2.drew:=S2.out.1.after (Z5E.drew);have cn:JAt w2.drew j d J:=JAt.after S2.out.2.1 (Z5E.drew);have O:=Z5J T3 cn;clear T3 cn c3 c6 de b9;go_wp2_with fail;refine(RL B p d n j P D L J J.second J.next pk w2.drew O.out.1.did.pd (show B<=w2.heap.size from Z5w H.out.2.2.2 dm) O.out.2 (by rw[Z];omega) (by rw[Z];omega) (by rw[Z];omega) (by omega) (by omega) (by omega)).mono ?_;rw[HP.out.2.2.1];rintro e w4 ⟨ev,rfl,he,U⟩;have dx:w2.heap.size<=w4.heap.size:=by obtain⟨_,q⟩:=U;exact q.fr.size
 have F:JAt w4 j d J:=by obtain⟨_,q⟩:=U;exact JAt.did q O.out.1.did.pd O.out.2 (by simp)
 have r5:=F.free (j:=5) (by simp);have r6:=F.free (j:=6) (by simp);have c5:=F.cell (j:=5) rfl;have c6:=F.cell (j:=6) rfl;rcases he.split with ⟨hc,rfl⟩|⟨hc,b,rfl⟩
 case inr=>have hX:=O.out.1.fail he U;obtain⟨L4,bg⟩:=U;have bh:Ty w4:=Ty.did (Ty.did H.out.2.2.1 O.out.1.did M.out.2.2.1 M.out.1 M.out.2.1 (by simp;exact M.out.2.2.2.1)) bg M.out.2.2.1 M.out.1 M.out.2.1 (by simp);have ai:Ty (w4.setCell ⟨j,7,none⟩ (.bool true)):=Ty.set bh (by show j≠_;have:=M.out.2.2.1;have:=M.out.2.2.2.1;omega) _;have b8:j<w2.drew.heap.size:=Row.lt O.out.2;have C:=Z5M hc hX he bg F;clear hc he hX bg F c5 c6 r5 r6;go_wp2_with fail;refine(IF j d J _ _ _ w4 C.out.2.2.2.2 C.out.2.2.1 b8 bh ai).mono ?_;rintro e w5 ⟨v3,rfl,bu,ag,bz⟩;have H3:=Z5K bu ag bz;clear bu ag bz bh ai;go_wp2;go_ret;obtain⟨_,_,_,L5,q⟩:=C.out.2.1;have ak:j∉p::L5:=JAt.ne q.pd C.out.2.2.2.2;exact⟨v3,rfl,H3.out.1.base (by show w.heap.size<=min w2.heap.size w4.heap.size;omega),⟨L5,q.frame H3.out.2.2 (by simpa using ak) (by simp)⟩,λh0=>absurd h0 C.out.1,λ_=>H3.out.2.1⟩
 have hX:=O.out.1.fail he U;rw[List.nil_append] at hX;obtain⟨_,_,_,L5,q⟩:=hX;have ak:j∉p::L5:=JAt.ne q.pd F;have cu:Fr [j] w4 ((w4.setCell ⟨j,5,none⟩ (.int .i64 m1)).setCell ⟨j,6,none⟩ (.int .i64 (nx:Int))):=((Fr.refl _ _).setCell (Or.inl (by simp)) _).setCell (Or.inl (by simp)) _;have ag:JAt ((w4.setCell ⟨j,5,none⟩ (.int .i64 m1)).setCell ⟨j,6,none⟩ (.int .i64 (nx:Int))) j d {J with many:=m1,next:=nx}:=(Row.set F 5 (.int .i64 m1)).set 6 (.int .i64 (nx:Int));have C:=Z5K hc (q.frame cu (by simpa using ak) (by simp)) ag;clear hc he U q ak cu ag F;go_wp2;go_ret;exact⟨_,rfl,by rw[C.out.1];exact Zk.nil _ _,⟨L5,C.out.2.1⟩,λ_=>C.out.2.2,λh0=>absurd C.out.1 h0⟩
theorem Z0A(B p d n j:Nat)(P:Pw)(D:Dk)(L:List Nat)(J:Jn)(r:Bs)(g c:Nat)(w:World)(h:PD B w p d n P D L)(hB:B<=w.heap.size)(hj:JAt w j d J)(af:w.cell? ⟨g,0,none⟩=some (.string (str (Zh (J.epoch+1) 1 r))))(bz:J.Fit)(C:r.length<=60000)(dw:D.wait.length<=100000):Calls prog 197 #[.pointer (some ⟨j,0,none⟩),.slice (some ⟨g,0,none⟩) 1 c] w (Ans w.heap.size (Z2 (J.resetOps r) P D).1 (Ran B p d n L [] (J.resetOps r) P D w)):=by
 obtain⟨f1,f2,f3,f4⟩:=bz;obtain⟨E,hE⟩:∃E,Zf r.length=64*E:=⟨Zf r.length / 64,by have:=Jf r.length;omega⟩;have cu:Zf r.length / 64=E:=by omega
 have eh:E<=1000:=by have:Zf r.length<=60100:=(by unfold Zf;omega);omega
 obtain⟨e1,bu⟩:=Z5H (J.epoch+1);have eo:(J.epoch:Int)+1=(e1:Int):=by omega
 have dj:e1<=4000000000:=by omega
 rw[bu] at af;have ag:(str (Zh e1 1 r)).size=64*E:=by rw[Z5,Wd,hE]
 obtain⟨pk,cj⟩:=Z5H (str (Zh e1 1 r));have cw:pk.data.toList=Zh e1 1 r:=by rw[<-cj];rfl
 obtain⟨M,bg⟩:=Z5H (str (Zh e1 0 ZM));have Z:M.size=64:=by rw[<-bg,Z5,QP]
 have bh:M.data.toList=Zh e1 0 ZM:=by rw[<-bg];rfl
 have cr:(str (ZC M.data.toList)).size=64:=by rw[Z5,Qf _ (by rw[bh];exact XE _ _ _),bh,QP]
 rw[cj] at ag af;obtain⟨A1,b7⟩:=Z5H (wrs (J.at_ (!J.second) 1) pk.data.toList);obtain⟨A2,b8⟩:=Z5H (J.clean (!J.second) (1+E));obtain⟨A3,b9⟩:=Z5H (wrs (J.at_ (!J.second) 0) (ZC M.data.toList));obtain⟨A5,bf⟩:=Z5H (wrs (J.at_ (!J.second) 0) M.data.toList);have au:J.resetOps r=A1++A2++A3++[.fl]++A5++[.fl]:=by rw[<-b7,<-b8,<-b9,<-bf,cw,bh,<-bu,<-cu];rfl
 have er:A1.length<=1000:=by rw[<-b7,JD,QI,ag];omega
 have eu:A2.length<=1:=by rw[<-b8];unfold Jn.clean;split<;>simp
 have ew:A3.length<=1:=by
  have:(ZC M.data.toList).length=64:=by rw[<-Z5];exact cr
  rw[<-b9,JD,this];omega
 have ey:A5.length<=1:=by rw[<-bf,JD,QI,Z];omega
 rw[au];have ek:((64*E:Nat):Int) / 64=(E:Int):=by omega
 have c0:=hj.cell (j:=0) rfl;have c3:=hj.cell (j:=3) rfl;have U:=hj.cell (j:=4) rfl;have T0:=Stg.start h [] (Below.refl _ w);have S0:=Z5F T0;have H:=Z5J h hj;have HB:=Z5F hB;have cz:=Z5F b7;have dc:=Z5F b8;have de:=Z5F b9;have df:=Z5F bf;have O:=Z5L ag bg Z cr;have ez:pk.size<=70000:=by omega
 clear h hj hB b7 b8 b9 bf au ag cj bg Z cr bh cw hE cu bu T0;go_enter func197,ntmps197;go_wp2;refine wp_loop_rounds 2 ?_;rw[rounds_succ];go_wp2_with fail;refine(Az B p d n j P D L J (!J.second) 1 pk w H.out.1 HB.out H.out.2 (by rw[O.out.1];omega) (by omega) (by omega) (by omega) (by omega)).mono ?_;rw[cz.out];rintro e w1 ⟨ev,rfl,he,C⟩;rcases he.split with ⟨hc,rfl⟩|⟨hc,b,rfl⟩
 case inr=>have F:=Z5J (S0.out.code_ne hc) (S0.out.fail he C);clear hc he C;go_wp2;go_ret;exact Q8 (ZR (ZR (ZR (ZR (F.out.1))))) (Q8 (ZR (ZR (ZR (F.out.1)))) (Q8 (ZR (ZR (F.out.1))) (Q8 (ZR (F.out.1)) (Q8 F.out.1 F.out.2))))
 obtain⟨P1,D1,L1,T1⟩:=S0.out.next hc C
 have S1:=Z5F T1;have dx:=T1.size;have dm:=T1.few;simp only[Z5d,Z5h,List.length_nil] at dm;have ah:JAt w1 j d J:=JAt.did T1.did H.out.1 H.out.2 (by simp);have c0:=ah.cell (j:=0) rfl;have c3:=ah.cell (j:=3) rfl;have U:=ah.cell (j:=4) rfl;have J1:=Z5F ah;clear hc he C T1 ah;have ag:=O.out.1;go_wp2_with fail;rw[rounds_succ];clear ag;go_wp2_with fail;refine(Fn B p d n j P1 D1 L1 J (!J.second) (1+E) w1 S1.out.did.pd (Z5w HB.out dx) J1.out (by omega) (by omega) (by omega)).mono ?_;rw[dc.out];rintro e w2 ⟨ev,rfl,he,C⟩;rcases he.split with ⟨hc,rfl⟩|⟨hc,b,rfl⟩
 case inr=>have F:=Z5J (S1.out.code_ne hc) (S1.out.fail he C);clear hc he C;go_wp2;go_ret;exact Q8 (ZR (ZR (ZR (F.out.1)))) (Q8 (ZR (ZR (F.out.1))) (Q8 (ZR (F.out.1)) (Q8 F.out.1 F.out.2)))
 obtain⟨P2,D2,L2,T2⟩:=S1.out.next hc C
 have S2:=Z5F T2;have fa:=T2.size;have dp:=T2.few;simp only[Z5d,Z5h,List.length_nil] at dp;have ai:JAt w2 j d J:=JAt.did T2.did H.out.1 H.out.2 (by simp);have c0:=ai.cell (j:=0) rfl;have c3:=ai.cell (j:=3) rfl;have U:=ai.cell (j:=4) rfl;have J2:=Z5F ai;clear hc he C T2 ai;go_wp2_with fail;refine(DE e1 0 (str ZM) _ dj (by omega) (by rw[Z5];decide)).mono ?_;rw[Zn,show(⟨(Zh e1 0 ZM).toArray⟩:ByteArray)=M from O.out.2.1];rintro e aw ⟨rfl,bq⟩;have bj:=S2.out.after bq;have ae:JAt aw j d J:=JAt.after J2.out bq;have c0:=ae.cell (j:=0) rfl;have c3:=ae.cell (j:=3) rfl;have U:=ae.cell (j:=4) rfl;have dy:=bj.size;have ct:=Z5J bj ae;have Z:=O.out.2.2.1;clear bj ae bq;go_wp2_with fail;go_still_tail 8,(by kernel_rfl)
 still_call (XJ (Gg M _ (by omega) (by omega)))
 repeat still_step
 refine wpStill_nil ?_;change wpList _ _ _ _ _ aw.drew;have bm:Stg B p d n L [] (A1++A2) P D w P2 D2 L2 aw.drew:=ct.out.1.after (Z5E.drew);have az:=Z5F bm;have aj:JAt aw.drew j d J:=JAt.after ct.out.2 (Z5E.drew);have cn:=bm.size;have dh:=Z5F aj;clear bm aj Z c0 c3 U;go_wp2_with fail;refine(Az B p d n j P2 D2 L2 J (!J.second) 0 (str (ZC M.data.toList)) aw.drew az.out.did.pd (Z5w HB.out cn) dh.out (by rw[O.out.2.2.2]) (by rw[O.out.2.2.2];decide) (by omega) (by omega) (by omega)).mono ?_;rw[Zn,de.out];rintro e w3 ⟨ev,rfl,he,C⟩;rcases he.split with ⟨hc,rfl⟩|⟨hc,b,rfl⟩
 case inr=>have F:=Z5J (az.out.code_ne hc) (az.out.fail he C);clear hc he C;go_wp2;go_ret;exact Q8 (ZR (ZR (F.out.1))) (Q8 (ZR (F.out.1)) (Q8 F.out.1 F.out.2))
 obtain⟨P3,D3,L3,T3⟩:=az.out.next hc C
 have S3:=Z5F T3;have dz:=T3.size;have dq:=T3.few;simp only[Z5d,Z5h,List.length_nil] at dq;have ak:JAt w3 j d J:=JAt.did T3.did H.out.1 H.out.2 (by simp);have c0:=ak.cell (j:=0) rfl;have c3:=ak.cell (j:=3) rfl;have U:=ak.cell (j:=4) rfl;have J3:=Z5F ak;clear hc he C T3 ak;go_wp2_with fail;refine(PD.flush1 S3.out.did.pd (Z5w HB.out dz)).mono ?_;rintro e w4 ⟨ev,rfl,he,C⟩;rcases he.split with ⟨hc,rfl⟩|⟨hc,b,rfl⟩
 case inr=>have F:=Z5J (S3.out.code_ne hc) (S3.out.fail he C);clear hc he C;go_wp2;go_ret;exact Q8 (ZR (F.out.1)) (Q8 F.out.1 F.out.2)
 obtain⟨P4,D4,L4,T4⟩:=S3.out.next hc C
 have S4:=Z5F T4;have ee:=T4.size;have dt:=T4.few;simp only[Z5d,Z5h,List.length_nil] at dt;have al:JAt w4 j d J:=JAt.did T4.did H.out.1 H.out.2 (by simp);have c0:=al.cell (j:=0) rfl;have c3:=al.cell (j:=3) rfl;have U:=al.cell (j:=4) rfl;have J4:=Z5F al;clear hc he C T4 al;have Z:=O.out.2.2.1;go_wp2_with fail;refine(Az B p d n j P4 D4 L4 J (!J.second) 0 M w4 S4.out.did.pd (Z5w HB.out ee) J4.out (by rw[O.out.2.2.1]) (by rw[O.out.2.2.1];decide) (by omega) (by omega) (by omega)).mono ?_;rw[df.out];rintro e w5 ⟨ev,rfl,he,C⟩;rcases he.split with ⟨hc,rfl⟩|⟨hc,b,rfl⟩
 case inr=>have F:=Z5J (S4.out.code_ne hc) (S4.out.fail he C);clear hc he C;go_wp2;go_ret;exact Q8 F.out.1 F.out.2
 obtain⟨P5,D5,L5,T5⟩:=S4.out.next hc C
 have S5:=Z5F T5;have ef:=T5.size;have du:=T5.few;simp only[Z5d,Z5h,List.length_nil] at du;have aq:JAt w5 j d J:=JAt.did T5.did H.out.1 H.out.2 (by simp);have c0:=aq.cell (j:=0) rfl;have c3:=aq.cell (j:=3) rfl;have U:=aq.cell (j:=4) rfl;have J5:=Z5F aq;clear hc he C T5 aq;clear c3 U;go_wp2_with fail;refine(PD.flush1 S5.out.did.pd (Z5w HB.out ef)).mono ?_;rintro e w6 ⟨ev,rfl,he,C⟩;have F:=Z5F (S5.out.fail he C);clear he C;go_wp2;go_ret;exact F.out
theorem Tu(B p d n j:Nat)(P:Pw)(D:Dk)(L:List Nat)(J:Jn)(r:ByteArray)(g0 c:Nat)(w:World)(h:PD B w p d n P D L)(hB:B<=w.heap.size)(hj:JAt w j d J)(cn:B<=j)(ht:Ty w)(hg:0<B)(bj:w.cell? ⟨g0,0,none⟩=some (.string r))(az:J.closed=false)(ag:J.Fit)(U:r.size<=60000)(b8:1+Zf r.size / 64<=J.half)(cz:D.wait.length<=100000):Calls prog 137 #[.pointer (some ⟨j,0,none⟩),.slice (some ⟨g0,0,none⟩) 1 c] w (Ans w.heap.size (Z2 (J.resetOps r.data.toList) P D).1 (Z2C B p d n j L (J.resetOps r.data.toList) (J.reset r.data.toList) {J with closed:=true} P D w)):=by
 obtain⟨j0,dc,dp,dq,dt⟩:=info_parts XK;have ae:=ag;obtain⟨f1,f2,f3,f4⟩:=ag;obtain⟨E,hE⟩:∃E,Zf r.size=64*E:=⟨Zf r.size / 64,by have:=Jf r.size;omega⟩;have au:Zf r.size / 64=E:=by omega
 rw[au] at b8;have du:E<=1000:=by have:Zf r.size<=60100:=(by unfold Zf;omega);omega
 obtain⟨e1,b7⟩:=Z5H (J.epoch+1);have dx:(J.epoch:Int)+1=(e1:Int):=by omega
 have cw:e1<=4000000000:=by omega
 have ak:(str (Zh e1 1 r.data.toList)).size=64*E:=by rw[Z5,Wd,QI,hE]
 obtain⟨pk,bf⟩:=Z5H (str (Zh e1 1 r.data.toList));rw[bf] at ak;have dw:((64*E:Nat):Int) / 64=(E:Int):=by omega
 obtain⟨nx,cr⟩:=Z5H (1+E);have ee:(1:Int)+(E:Int)=(nx:Int):=by omega
 have af:J.reset r.data.toList={J with second:= !J.second,epoch:=e1,many:=1,next:=nx}:=by unfold Jn.reset;rw[QI,au,b7,cr]
 obtain⟨A,hA⟩:=Z5H (J.resetOps r.data.toList);rw[hA,af];have c3:=hj.cell (j:=3) rfl;have c4:=hj.cell (j:=4) rfl;have c7:=hj.cell (j:=7) rfl;rw[az] at c7;have de:¬ (4611686018427387904:Int)<=(J.epoch:Int):=by omega
 have H:=Z5L h hj ht hB;have Z:=Z5M bf ak hA b7 ae;have O:=Z5M h.bp h.bL hg cn az;clear h hj hE au bf ak ht hB hA af hg cn az cr b7 ae;go_enter func137,ntmps137;go_wp2;refine wp_loop_rounds 2 ?_;rw[rounds_succ];go_wp2_with fail;refine(DE e1 1 r _ cw (by omega) U).mono ?_;rw[show(⟨(Zh e1 1 r.data.toList).toArray⟩:ByteArray)=pk from Z.out.1];rintro e w1 ⟨rfl,aw⟩;have dj:=aw.size;have cu:=Z5F aw;have ak:=Z.out.2.1;clear aw;go_wp2_with (at_builtin;refine wpList_append_lies _ rfl (.tmp 45) (.tmp 47) 96 rfl w.heap.size 9 j0 _ 1 16 underlying96 dc dp dq dt rfl (by omega) _ 0 [] rfl (World.ownsRow_nil _ _ _ _) ⟨w1.heap.size,0,none⟩ 1 1 [.string pk] rfl rfl (World.news_of_block (cs:= #[.string pk]) (t:=9) (fr:=(0,0)) (heap_alloc_new w1 _)) (by simp[Value.oneCell']) (by omega) (by unfold maxLen;omega) (by omega) (Z5w dj (by simp)) (w1.heap.size+1) (by simp) ?_;intro g cap w2 aj bz dh df);have ah:Below w.heap.size w w2:=Fr.nil_below ((((Fr.of_below (L:=[]) cu.out).alloc _)).grown bz (λk hk=>by have h0:(none:Option Nat)=some k:=hk;cases h0));have bu:w2.cell? ⟨g,0,none⟩=some (.string pk):=by have:=XC (g:=g) (j:=0) aj rfl rfl;exact this
 have cj:JAt w2 j d J:=JAt.after H.out.2.1 ah;have T2:=Stg.start H.out.1 [j] ah;have dm:=ah.size;have M:=Z5L T2 cj ah bu;have dy:¬ ((J.half:Int)-1)<(E:Int):=by omega
 have dz:decide (((J.half:Int)-1)<(E:Int))=false:=by simp;omega
 clear aj bz dh df ak ah bu cj T2 c3 c4;rw[rounds_succ];go_wp2_with fail;refine(LN j d J _ M.out.2.1 (by omega)).mono ?_;rintro e w3 ⟨rfl,rfl⟩;go_wp2_with fail;refine(Z0A B p d n j P D L J r.data.toList g cap w2 M.out.1.did.pd (Z5w H.out.2.2.2 dm) M.out.2.1 (by rw[Z.out.2.2.2.1,M.out.2.2.2,<-Z.out.1]) Z.out.2.2.2.2 (by simp_all) (by omega)).mono ?_;rw[Z.out.2.2.1];rintro e w4 ⟨ev,rfl,he,U⟩;have ef:w2.heap.size<=w4.heap.size:=by obtain⟨_,q⟩:=U;exact q.fr.size
 have C:JAt w4 j d J:=by obtain⟨_,q⟩:=U;exact JAt.did q M.out.1.did.pd M.out.2.1 (by simp)
 have r3:=C.free (j:=3) (by simp);have r4:=C.free (j:=4) (by simp);have r5:=C.free (j:=5) (by simp);have r6:=C.free (j:=6) (by simp);have c3:=C.cell (j:=3) rfl;have c4:=C.cell (j:=4) rfl;have c5:=C.cell (j:=5) rfl;have c6:=C.cell (j:=6) rfl;rcases he.split with ⟨hc,rfl⟩|⟨hc,b,rfl⟩
 case inr=>have hX:=M.out.1.fail he U;obtain⟨L4,bg⟩:=U;have bh:Ty w4:=Ty.did (Ty.did H.out.2.2.1 M.out.1.did O.out.2.2.1 O.out.1 O.out.2.1 (by simp;exact O.out.2.2.2.1)) bg O.out.2.2.1 O.out.1 O.out.2.1 (by simp);have al:Ty (w4.setCell ⟨j,7,none⟩ (.bool true)):=Ty.set bh (by show j≠_;have:=O.out.2.2.1;have:=O.out.2.2.2.1;omega) _;have b9:j<w2.heap.size:=Row.lt M.out.2.1;have F:=Z5M hc hX he bg C;clear hc he hX bg C c3 c4 c5 c6 r3 r4 r5 r6;go_wp2_with fail;refine(IF j d J _ _ _ w4 F.out.2.2.2.2 F.out.2.2.1 b9 bh al).mono ?_;rintro e w5 ⟨v3,rfl,bm,ai,bq⟩;have H3:=Z5K bm ai bq;clear bm ai bq bh al;go_wp2;go_ret;obtain⟨_,_,_,L5,q⟩:=F.out.2.1;have aq:j∉p::L5:=JAt.ne q.pd F.out.2.2.2.2;exact⟨v3,rfl,H3.out.1.base (by show w.heap.size<=min w2.heap.size w4.heap.size;omega),⟨L5,q.frame H3.out.2.2 (by simpa using aq) (by simp)⟩,λh0=>absurd h0 F.out.1,λ_=>H3.out.2.1⟩
 have hX:=M.out.1.fail he U;rw[List.nil_append] at hX;obtain⟨_,_,_,L5,q⟩:=hX;have aq:j∉p::L5:=JAt.ne q.pd C;obtain⟨W,hW⟩:=Z5I ((((w4.setCell ⟨j,3,none⟩ (.bool (!J.second))).setCell ⟨j,4,none⟩ (.int .i64 e1)).setCell ⟨j,5,none⟩ (.int .i64 ((1:Nat):Int))).setCell ⟨j,6,none⟩ (.int .i64 (nx:Int)));have ct:Fr [j] w4 W:=by rw[hW];exact((((Fr.refl _ _).setCell (Or.inl (by simp)) _).setCell (Or.inl (by simp)) _).setCell (Or.inl (by simp)) _).setCell (Or.inl (by simp)) _
 have ai:JAt W j d {J with second:= !J.second,epoch:=e1,many:=1,next:=nx}:=by rw[hW];exact(((Row.set C 3 (.bool (!J.second))).set 4 (.int .i64 e1)).set 5 (.int .i64 ((1:Nat):Int))).set 6 (.int .i64 (nx:Int))
 have F:=Z5L hc (q.frame ct (by simpa using aq) (by simp)) ai hW;clear hc he U q aq ct ai C hW;go_wp2;go_ret;exact⟨_,rfl,by rw[F.out.1];exact Zk.nil _ _,⟨L5,by have:=F.out.2.1;rw[F.out.2.2.2] at this;exact this⟩,λ_=>by have:=F.out.2.2.1;rw[F.out.2.2.2] at this;exact this,λh0=>absurd F.out.1 h0⟩
section
variable{D:Dk}{a n:Nat}
theorem Io{P:Pw}(ok:D.ok n)(ha:a<n):rdy P D a=WX P D:=by unfold rdy WX;rw[ok.len,Nat.mul_div_cancel_left _ (by omega)];grind
theorem AI(ok:D.ok n)(ha:a<n):(D.reads a).size=64:=by
 have key:∀ (l:List (Nat×ByteArray)) (s:ByteArray),(∀x∈l,x.2.size=64)->s.size=64->(AY l a s).size=64:=by
  intro l
  induction l with
  |nil=>intro s _ h;exact h
  |cons x l ih=>intro s hl hs;refine ih _ (λy C=>hl y (by grind)) ?_;grind
 refine key _ _ ok.size ?_;exact ED D.has n a ok.len ha
theorem Mk(D:Dk)(a k:Nat):D.text a (k+1)=D.text a k++(D.reads (a+k)).data.toList:=by unfold Dk.text;rw[List.range_succ,List.flatMap_append];simp
theorem JK(ok:D.ok n)(a k:Nat)(h:a+k<=n):(D.text a k).length=64*k:=by
 induction k with
 |zero=>rfl
 |succ k ih=>rw[Mk,Z5d,ih (by omega),QI,AI ok (by omega)];omega
theorem Gu(B p d n j:Nat)(P:Pw)(D:Dk)(L:List Nat)(J:Jn)(sd:Bool)(w:World)(h:PD B w p d n P D L)(hj:JAt w j d J)(h1:1<=J.half)(h2:2*J.half<=n)(hr:WX P D=0):Calls prog 150 #[.pointer (some ⟨j,0,none⟩),.bool sd] w λe w'=>e=.returned (.tuple #[.string (str (D.text (J.at_ sd 0) J.half)),.nilIface])/\Below w.heap.size w w':=by
 obtain⟨i0,hi,bh,bj,bm⟩:=info_parts Xw;have hn:=h.ok.n2;have ok:=h.ok;obtain⟨a,ha⟩:=Z5H (J.at_ sd 0);have af:∀k,J.at_ sd k=a+k:=λk=>by rw[<-ha];unfold Jn.at_;split<;>omega
 have bf:a+J.half<=n:=by rw[<-ha];unfold Jn.at_;split<;>omega
 have hh:J.half<=10000:=by omega
 have c2:=hj.cell (j:=2) rfl;rw[ha];have H:=Z5J h hj;have M:=Z5L af hr ok ha;clear h hj af hr ok ha;go_enter func150,ntmps150;go_wp2;go_loopw [6,14] (λbv i wr=>∃k:Nat,k<=J.half/\i=.int .i64 k/\wr.ownsRow w.heap.size 5 1 bv (64*k) (Z3 (D.text a k))/\Below w.heap.size w wr) (λ_ i _=>J.half- (intOf i).toNat)
 case atStart=>exact⟨0,by omega,rfl,World.ownsRow_nil _ _ _ _,Z5E⟩
 case round=>
  obtain⟨k,hk,rfl,U,C⟩:=hrel;have Z:=JAt.after H.out.2 C;have k0:=Z.cell (j:=0) rfl;clear c2;by_cases bu:k<J.half
  .have HO:=Z5K U C Z;have bz:=C.size;clear U C Z;go_wp2_with fail;have au:Below w.heap.size w wr.drew:=HO.out.2.1.drew;have F:=Z5F au;clear au;have aq:rdy P D ((a+k:Nat):Int)=0:=by rw[Io M.out.2.2.1 (by omega)];exact M.out.2.1
   obtain⟨X,hX⟩:=Z5H (Bi P D ((a+k:Nat):Int));have aj:X=D.reads (a+k):=by rw[<-hX];unfold Bi;rw[if_pos aq];rfl
   have bg:X.size=64:=by rw[aj];exact AI M.out.2.2.1 (by omega)
   have b9:=Z5F aq;have HX:=Z5J hX aj;clear aq hX aj;go_region_held3 (λw'=>w'.cell? ⟨j,0,none⟩=some (.pointer (some ⟨d,0,none⟩))) (first|assumption|exact S1.out.2.cell (j:=0) rfl)
    (first|((go_at_call 212;refine(Gs j d J sd k _ (JAt.after H.out.2 F.out) (by omega) (by omega)).mono ?_;rintro e w1 ⟨rfl,rfl⟩))|((go_at_call 73;refine(PD.read (H.out.1.after F.out) ((J.at_ sd k:Nat):Int)).mono ?_;rw[M.out.1,HX.out.1];rintro e w1 ⟨ev,rfl,he,ak⟩;rw[b9.out] at he;obtain rfl:=he.zero;have S1:=Z5J ak (JAt.after (JAt.after H.out.2 F.out) ak);clear he ak)))
   have al:Below w.heap.size w w1:=F.out.trans (S1.out.1.mono F.out.size);have az:w1.ownsRow w.heap.size 5 1 _ (64*k) (Z3 (D.text a k)):=Wc (Wc HO.out.1 (Z5E.drew)) S1.out.1;have O:=Z5K al az HX.out.2;have cj:=al.size;clear al az;go_wp2_with (at_builtin;refine Lib.wpList_append_own_string _ rfl (.tmp 32) (.tmp 33) 75 9 rfl w.heap.size 5 i0 underlying75 underlying9 hi bh bj bm _ (64*k) (Z3 (D.text a k)) rfl O.out.2.1 X rfl (by unfold maxLen;omega) (by omega) O.out.1.size ?_;intro v' w2 ae ag ah;clear ah;have b8:=Z5F ae;have b7:=Z5F ag;clear ae ag);go_roundw
   case measure=>simp[intOf];omega
   case rel=>
    refine⟨k+1,by omega,by go_num,?_,?_⟩
    .have h2:=b8.out;rw[show Lib.strCells X=Z3 X.data.toList from by simp[Lib.strCells,Z3],<-XM,bg,O.out.2.2,<-Mk] at h2;omega
    .have hf:Fr [] w w1:=Fr.of_below O.out.1;have h2:Fr [] w w2:=hf.grown b7.out (λg hg=>Or.inr (Jj O.out.2.1 hg));exact h2.nil_below
  .obtain rfl:k=J.half:=(by omega);obtain⟨g,cap,sp,rfl,bq,_,_,ai⟩:=Qs U (by omega);have hl:=JK M.out.2.2.1 a J.half bf;have aw:=Qo (P:=prog) wr 75 9 5 underlying75 underlying5 underlying9 ai 0 (64*J.half) cap (D.text a J.half) hl (by rw[List.drop_zero,List.take_append_of_le_length (by rw[Zj,hl];exact Z5D)];exact Z5o (by rw[Zj,hl];exact Z5D));have HB:=Z5F C;clear U ai C Z hl k0;go_wp2;go_ret2;exact⟨rfl,HB.out⟩
theorem Z1t(B p d n j:Nat)(P:Pw)(D:Dk)(L:List Nat)(J:Jn)(sd:Bool)(w:World)(h:PD B w p d n P D L)(M:JAt w j d J)(h1:1<=J.half)(h2:2*J.half<=n)(hr:WX P D≠0):Calls prog 150 #[.pointer (some ⟨j,0,none⟩),.bool sd] w λe w'=>∃b,e=.returned (.tuple #[.string ⟨#[]⟩,.iface 139 (.pointer (some ⟨b,0,none⟩))])/\Zk w' w.heap.size (WX P D) (.iface 139 (.pointer (some ⟨b,0,none⟩)))/\Below w.heap.size w w':=by
 have hn:=h.ok.n2;have ok:=h.ok;have Z:J.at_ sd 0<n:=by unfold Jn.at_;split<;>omega
 have c2:=M.cell (j:=2) rfl;have k0:=M.cell (j:=0) rfl;have H:=Z5J h M;have O:=Z5J hr ok;go_enter func150,ntmps150;go_wp2;go_loopw [6,14] (λbv i wr=>bv=.slice none 0 0/\i=.int .i64 ((0:Nat):Int)/\w=wr) (λ_ _ _=>0)
 case atStart=>exact⟨rfl,rfl,rfl⟩
 case round=>
  obtain⟨rfl,rfl,rfl⟩:=hrel;go_wp2_with fail;have ae:Below w.heap.size w w.drew:=Z5E.drew;have C:=Z5F ae;have af:rdy P D ((J.at_ sd 0:Nat):Int)=WX P D:=Io O.out.2 Z;have U:=Z5F af;go_region_held3 (λw'=>w'.cell? ⟨j,0,none⟩=some (.pointer (some ⟨d,0,none⟩))) (first|assumption|exact S1.out.2.cell (j:=0) rfl)
   (first|((go_at_call 212;refine(Gs j d J sd 0 _ (JAt.after H.out.2 C.out) (by omega) (by omega)).mono ?_;rintro e w1 ⟨rfl,rfl⟩))|((go_at_call 73;refine(PD.read (H.out.1.after C.out) ((J.at_ sd 0:Nat):Int)).mono ?_;rintro e w1 ⟨ev,rfl,he,F⟩;rw[U.out] at he;obtain⟨b,rfl⟩:=(he.split.resolve_left (λh=>O.out.1 h.1)).2;have S1:=Z5J F (JAt.after (JAt.after H.out.2 C.out) F);have S2:=Z5F he;clear he F)))
  go_wp2;go_ret2;exact⟨b,rfl,S2.out,C.out.trans (S1.out.1.mono C.out.size)⟩
def beV(l:Bs):Nat:=l.foldl (λe c=>e*256+c.toNat) 0
theorem MV(l:Bs)(c:UInt8):beV (l++[c])=beV l*256+c.toNat:=by simp[beV,List.foldl_append]
theorem RQ(E c:Nat)(hc:c<256)(h:E<=18014398509481984):bits .or .i64 ((E:Int)*256) (c:Int)=((E*256+c:Nat):Int):=by
 have e1:(E:Int)*256=((E*2^8:Nat):Int):=by omega
 rw[e1,K4 _ _ (by omega) (by omega),<-Nat.shiftLeft_eq,Nat.shiftLeft_add_eq_or_of_lt (show c<2^8 from by omega)]
theorem Z2R(E:Nat)(i:Nat)(h:E<=3000000000):beV ((Z4 (E / 4294967296)++Z4 E).take i)<=3000000000:=by
 have e0:E / 4294967296=0:=by omega
 rw[e0];simp[Z4]
 match i with
 |0|1|2|3|4=>simp[beV]
 |5=>simp[beV];omega
 |6=>simp[beV];omega
 |7=>simp[beV];omega
 |i+8=>simp[beV];omega
theorem Z2Q(E:Nat)(h:E<=3000000000):beV ((Z4 (E / 4294967296)++Z4 E).take 8)=E:=by simp[Z4,beV];omega
theorem Dj(s:ByteArray)(w:World)(hs:64<=s.size)(hm:s.size<=10000000)(h0:s.data.toList.getD 0 0≠1):Calls prog 152 #[.string s] w λe w'=>e=.returned (.int .i64 0)/\Below w.heap.size w w':=by
 obtain⟨t,ht⟩:=Z5H (s.extract 12 20);have M:t.size=8:=by rw[<-ht,ByteArray.size_extract];omega
 obtain⟨q,hq⟩:=Z5H (s.extract 0 64);have J:q.data.toList.getD 0 0≠1:=by rw[<-hq,Lib.extract_data,List.drop_zero];grind
 have Z:=Z5J ht M;have HQ:=Z5J hq J;clear M J h0;go_enter func152,ntmps152;go_wp2_with (refine Cx rfl 9 75 5 (.tmp 10) rfl t rfl underlying9 underlying75 underlying5 ?_;intro g cap r w1 au ag aj ah);rw[Z.out.2];have C:=Z5J ag ah;have aw:t.data.toList.length=8:=by rw[QI];exact Z.out.2
 go_loopw [3,13] (λev iv wr=>∃i:Nat,i<=8/\iv=.int .i64 i/\ev=.int .i64 (beV (t.data.toList.take i):Nat)/\beV (t.data.toList.take i)<=4611686018427388159/\w1=wr) (λ_ iv _=>8- (intOf iv).toNat)
 case atStart=>exact⟨0,by omega,rfl,rfl,by simp[beV],rfl⟩
 case round=>
  obtain⟨i,hi,rfl,rfl,hE,rfl⟩:=hrel;by_cases az:i<8
  .obtain⟨u,hu⟩:=Z5H (t.data.toList[i]'(by omega));have ae:w1.cell? ⟨g,i,none⟩=some (.int .u8 (u.toNat:Int)):=by rw[<-hu];refine C.out.1.cell ?_;rw[Z5c (by rw[Zj];omega)];exact YV _ i (by omega)
   have al:t.data.toList.take (i+1)=t.data.toList.take i++[u]:=(by rw[Z5f (by omega),hu]);have O:=u.toNat_lt;obtain⟨c,hc⟩:=Z5H u.toNat;obtain⟨E,F⟩:=Z5H (beV (t.data.toList.take i));have ak:beV (t.data.toList.take (i+1))=E*256+c:=(by rw[al,MV,F,hc]);rw[hc] at ae O;have U:=Z5J ak F;by_cases af:E<=18014398509481984
   .have h2:¬ (18014398509481984:Int)<(E:Int):=(by omega);have b7:=RQ E c O af;go_wp2;exact⟨⟨i+1,by omega,by go_num,by rw[U.out.1];exact Cw (by omega),by rw[U.out.1];omega,trivial⟩,by simp[intOf];omega⟩
   .have h2:(18014398509481984:Int)<(E:Int):=(by omega);go_wp2;go_ret;exact⟨rfl,C.out.2⟩
  .obtain rfl:i=8:=(by omega);obtain⟨E,F⟩:=Z5H (beV (t.data.toList.take 8));go_wp2_with fail;refine(Kv q E 0 _ (Or.inr HQ.out.2)).mono ?_;rintro e w2 ⟨v,rfl,hv,aq,ai⟩;obtain⟨b,rfl⟩:=(hv.split.resolve_left (λh=>aq h.2)).2;have HB:=Z5F (C.out.2.trans (ai.mono C.out.2.size));go_wp2;go_ret;exact⟨rfl,HB.out⟩
theorem E3(s:ByteArray)(h:Nat)(rest:Bs)(w:World)(hm:s.size<=10000000)(C:s.data.toList=Zh h 0 ZM++rest)(aj:h<=3000000000):Calls prog 152 #[.string s] w λe w'=>e=.returned (.int .i64 h)/\Below w.heap.size w w':=by
 have hs:64<=s.size:=by rw[<-QI,C,Z5d,QP];omega
 have O:(s.extract 12 20).data.toList=Z4 (h / 4294967296)++Z4 h:=by rw[Lib.extract_data,C];rfl
 have J:∀i,i<=8->beV ((s.extract 12 20).data.toList.take i)<=3000000000:=λi hi=>by rw[O];exact Z2R h i aj
 have F:beV ((s.extract 12 20).data.toList.take 8)=h:=by rw[O];exact Z2Q h aj
 obtain⟨t,ht⟩:=Z5H (s.extract 12 20);have aq:t.size=8:=by rw[<-ht,ByteArray.size_extract];omega
 obtain⟨q,hq⟩:=Z5H (s.extract 0 64);have M:q.data.toList=Zh h 0 ZM++[]:=by rw[<-hq,Lib.extract_data,List.drop_zero,C,Z5C,List.take_append_of_le_length (by rw[QP];exact Z5D),Z5o (by rw[QP];exact Z5D)]
 have bm:q.size=64:=by rw[<-QI,M,Z5C,QP]
 rw[ht] at J F;have ai:=Z5J J F;clear O J F C;have b9:(20:Int)<=s.size:=by omega
 have bf:(64:Int)<=s.size:=by omega
 have HT:=Z5J ht aq;have HQ:=Z5J hq M;clear aq M;go_enter func152,ntmps152;go_wp2_with (refine Cx rfl 9 75 5 (.tmp 10) rfl t rfl underlying9 underlying75 underlying5 ?_;intro g cap r w1 az af ah al);rw[HT.out.2];have Z:=Z5J af al;have bg:t.data.toList.length=8:=by rw[QI];exact HT.out.2
 clear af al ah az;go_loopw [3,13] (λev iv wr=>∃i:Nat,i<=8/\iv=.int .i64 i/\ev=.int .i64 (beV (t.data.toList.take i):Nat)/\beV (t.data.toList.take i)<=4611686018427388159/\w1=wr) (λ_ iv _=>8- (intOf iv).toNat)
 case atStart=>exact⟨0,by omega,rfl,rfl,by simp[beV],rfl⟩
 case round=>
  obtain⟨i,hi,rfl,rfl,hE,rfl⟩:=hrel;by_cases bh:i<8
  .obtain⟨u,hu⟩:=Z5H (t.data.toList[i]'(by omega));have ae:w1.cell? ⟨g,i,none⟩=some (.int .u8 (u.toNat:Int)):=by rw[<-hu];refine Z.out.1.cell ?_;rw[Z5c (by rw[Zj];omega)];exact YV _ i (by omega)
   have b8:t.data.toList.take (i+1)=t.data.toList.take i++[u]:=(by rw[Z5f (by omega),hu]);have au:=u.toNat_lt;obtain⟨c,hc⟩:=Z5H u.toNat;obtain⟨E,ak⟩:=Z5H (beV (t.data.toList.take i));have b7:beV (t.data.toList.take (i+1))=E*256+c:=(by rw[b8,MV,ak,hc]);rw[hc] at ae au;have U:=Z5J b7 ak;have ag:E<=18014398509481984:=by have:=ai.out.1 i (by omega);rw[U.out.2] at this;omega
   .have h2:¬ (18014398509481984:Int)<(E:Int):=(by omega);have bj:=RQ E c au ag;go_wp2;exact⟨⟨i+1,by omega,by go_num,by rw[U.out.1];exact Cw (by omega),by rw[U.out.1];omega,trivial⟩,by simp[intOf];omega⟩
  .obtain rfl:i=8:=(by omega);rw[ai.out.2];go_wp2_with fail;refine(Ml q h 0 ZM [] _ HQ.out.2 (by omega) (by omega) (by decide) (by omega)).mono ?_;rintro e w2 ⟨rfl,aw⟩;have HB:=Z5F (Z.out.2.trans (aw.mono Z.out.2.size));go_wp2;go_ret;exact⟨rfl,HB.out⟩
end
section
variable{base g n size:Nat}{e:TypeId}{l xs:List Value}{rest t:Bs}{rs:List Bs}{v:Value}{w:World}
theorem YA{P:Program}(T:TypeId)(h:P.underlying T=some .string)(s:ByteArray)(n:Nat)(C:n<=s.size)(W:World):(Instr.slice T (.string s) (some (.int .i64 (n:Int))) none none).run P W=.ok (.string (s.extract n s.size)) W:=by rw[run_slice_string_from_if W T s .i64 n h,if_pos ⟨by omega,by omega⟩];simp
theorem Oc(e m:Nat)(a b:List Bs):YK e m (a++b)=YK e m a++YK e (m+a.length) b:=by
 induction a generalizing m with
 |nil=>rfl
 |cons x a ih=>rw[List.cons_append,YK,YK,ih,Z5g,Z5h,show m+1+a.length=m+(a.length+1) from by omega]
theorem FT(e m:Nat)(a:List Bs):(YK e m a).length=64*Zp a:=by
 induction a generalizing m with
 |nil=>rfl
 |cons x a ih=>rw[YK,Z5d,Wd,ih,show Zp (x::a)=Zf x.length / 64+Zp a from rfl];have:=Jf x.length;omega
theorem Z3d{e:Nat}(h:t=Zh e 0 ZM++(YK e 0 rs++rest))(k:Nat)(C:k<rs.length):t.drop (64*(1+Zp (rs.take k)))=Zh e (k+1) (rs.getD k [])++(YK e (k+1) (rs.drop (k+1))++rest):=by
 have e1:rs=rs.take k++(rs.getD k []::rs.drop (k+1)):=by simp_all
 have e2:YK e 0 rs=YK e 0 (rs.take k)++(Zh e (k+1) (rs.getD k [])++YK e (k+1) (rs.drop (k+1))):=by
  conv=>lhs;rw[e1]
  rw[Oc,Z5j,Nat.min_eq_left (by omega),Nat.zero_add];rfl
 rw[h,e2];have hl:(Zh e 0 ZM++YK e 0 (rs.take k)).length=64*(1+Zp (rs.take k)):=by rw[Z5d,QP,FT];omega
 rw[<-hl,Z5g,Z5g,<-Z5g (Zh e 0 ZM),List.drop_left]
theorem Z16{e:Nat}(h:t=Zh e 0 ZM++(YK e 0 rs++rest)):t.drop (64*(1+Zp rs))=rest:=by
 have hl:(Zh e 0 ZM++YK e 0 rs).length=64*(1+Zp rs):=by rw[Z5d,QP,FT];omega
 grind
def MJ(t:Bs)(e:Nat):Prop:=t.getD 0 0≠1∨∃e' rest,e'<e/\t=Zh e' 0 ZM++rest
theorem EX(s:ByteArray)(e:Nat)(w:World)(hs:64<=s.size)(hm:s.size<=10000000)(h:MJ s.data.toList e)(he:e<=3000000000)(O:1<=e):Calls prog 152 #[.string s] w λr w'=>∃x:Nat,r=.returned (.int .i64 x)/\x<e/\Below w.heap.size w w':=by
 rcases h with h|⟨J,rest,M,h⟩
 .exact(Dj s w hs hm h).mono λr w' ⟨F,C⟩=>⟨0,F,by omega,C⟩
 .exact(E3 s J rest w hm h (by omega)).mono λr w' ⟨F,C⟩=>⟨J,F,M,C⟩
structure JRd(D:Dk)(J:Jn)(rs:List Bs):Prop where
 on:Uw (D.text (J.at_ J.second 0) J.half) J.epoch rs
 off:MJ (D.text (J.at_ (!J.second) 0) J.half) J.epoch
 many:J.many=rs.length
 next:J.next=1+Zp rs
 e1:1<=J.epoch
 e2:J.epoch<=3000000000
 fits:1+Zp rs<=J.half
 small:∀r∈rs,r.length<=60000
 closed:J.closed=false
theorem Od(rs:List Bs)(k:Nat)(h:k<rs.length):Zp (rs.take (k+1))=Zp (rs.take k)+Zf (rs.getD k []).length / 64:=by rw[Z5f h,AZ,Z59,Z5a h];rfl
theorem CS(rs:List Bs)(k:Nat):Zp (rs.take k)<=Zp rs:=by
 conv=>rhs;rw[<-Z5z k rs]
 rw[AZ];omega
theorem AV(rs:List Bs):rs.length<=Zp rs:=by
 induction rs with
 |nil=>exact Nat.zero_le _
 |cons x rs ih=>have:=Br x.length;have e:Zp (x::rs)=Zf x.length / 64+Zp rs:=rfl;grind
theorem RE(half:Nat):Jn.at_ ⟨half,false,0,0,1,false⟩ true 0=half:=by simp[Jn.at_]
theorem Vu(B p d n:Nat)(P:Pw)(D:Dk)(L:List Nat)(half:Nat)(w:World)(h:PD B w p d n P D L)(ht:Ty w)(h1:2<=half)(U:2*half<=n)(hr:WX P D≠0):Calls prog 108 #[.pointer (some ⟨d,0,none⟩),.int .i64 0,.int .i64 ((2*half:Nat):Int)] w λe w'=>∃b,e=.returned (.tuple #[.pointer none,.slice none 0 0,.iface 139 (.pointer (some ⟨b,0,none⟩))])/\Zk w' w.heap.size (WX P D) (.iface 139 (.pointer (some ⟨b,0,none⟩)))/\Below w.heap.size w w':=by have H:=Z5K h ht hr;go_enter func108,ntmps108;go_wp2_with fail;refine(BR B p d n P D L half w H.out.1 h1 U).mono ?_;rintro e w1 ⟨j,rfl,ah,ae,F⟩;have S1:=Z5J ae F;have ag:=F.size;go_wp2_with fail;refine(Z1t B p d n j P D L ⟨half,false,0,0,1,false⟩ false w1 (H.out.1.after S1.out.2) S1.out.1 (show 1<=half by omega) U H.out.2.2).mono ?_;rintro e w2 ⟨b,rfl,he,J⟩;have C:=Z5J he (S1.out.2.trans (J.mono ag));have af:Ty w2:=H.out.2.1.below C.out.2;have ai:=J.size;go_wp2_with fail;refine(AP _ _ _ _ C.out.1 af).mono ?_;rintro e w3 ⟨v3,rfl,M,Z⟩;obtain⟨b3,rfl⟩:=(M.split.resolve_left (λh=>H.out.2.2 h.1)).2;have O:=Z5J M Z;go_wp2;go_ret3;exact⟨b3,rfl,O.out.1.base (by omega),C.out.2.trans (O.out.2.mono (by omega))⟩
theorem PG(B p d n:Nat)(P:Pw)(D:Dk)(L:List Nat)(half:Nat)(w:World)(h:PD B w p d n P D L)(h1:2<=half)(h2:2*half<=n)(hr:WX P D=0)(ha:(D.text 0 half).getD 0 0≠1)(aq:(D.text half half).getD 0 0≠1):Calls prog 108 #[.pointer (some ⟨d,0,none⟩),.int .i64 0,.int .i64 ((2*half:Nat):Int)] w λe w'=>∃b,e=.returned (.tuple #[.pointer none,.slice none 0 0,.iface 139 (.pointer (some ⟨b,0,none⟩))])/\Zk w' w.heap.size 15 (.iface 139 (.pointer (some ⟨b,0,none⟩)))/\Below w.heap.size w w':=by
 have hn:=h.ok.n2;have b7:(D.text 0 half).length=64*half:=JK h.ok 0 half (by omega);have b8:(D.text half half).length=64*half:=JK h.ok half half (by omega);obtain⟨C,U⟩:=Z5H (str (D.text 0 half));obtain⟨F,Z⟩:=Z5H (str (D.text half half));have za:C.size=64*half:=by rw[<-U,Z5,b7]
 have zb:F.size=64*half:=by rw[<-Z,Z5,b8]
 have da:C.data.toList.getD 0 0≠1:=by rw[<-U,Zn];exact ha
 have db:F.data.toList.getD 0 0≠1:=by rw[<-Z,Zn];exact aq
 have H:=Z5J h hr;have J:=Z5N U Z za zb da db;have bg:64<=C.size/\C.size<=10000000/\64<=F.size/\F.size<=10000000:=by omega
 have M:=Z5F bg;go_enter func108,ntmps108;go_wp2_with fail;refine(BR B p d n P D L half w H.out.1 h1 h2).mono ?_;rintro e w1 ⟨j,rfl,au,aw,aj⟩;have S1:=Z5K aw aj au;have b9:=aj.size;go_wp2_with fail;refine(Gu B p d n j P D L ⟨half,false,0,0,1,false⟩ false w1 (H.out.1.after S1.out.2.1) S1.out.1 (show 1<=half by omega) h2 H.out.2).mono ?_;rw[show str (D.text (Jn.at_ ⟨half,false,0,0,1,false⟩ false 0) half)=C from J.out.1];rintro e w2 ⟨rfl,ae⟩;have O:=Z5J (JAt.after S1.out.1 ae) (S1.out.2.1.trans (ae.mono b9));have bj:=ae.size;go_wp2_with fail;refine(Gu B p d n j P D L ⟨half,false,0,0,1,false⟩ true w2 (H.out.1.after O.out.2) O.out.1 (show 1<=half by omega) h2 H.out.2).mono ?_;rw[RE half,J.out.2.1];rintro e w3 ⟨rfl,af⟩;have S3:=Z5J (JAt.after O.out.1 af) (O.out.2.trans (af.mono (by omega)));have bm:=af.size;go_wp2_with fail;refine(Dj C w3 M.out.1 M.out.2.1 J.out.2.2.2.2.1).mono ?_;rintro e w4 ⟨rfl,ak⟩;have ah:=JAt.after S3.out.1 ak;have r4:=ah.free (j:=4) (by simp);have c4:=ah.cell (j:=4) rfl;have az:Below w.heap.size w4 (w4.setCell ⟨j,4,none⟩ (.int .i64 0)):=Z5E.setCell S1.out.2.2 _;have ai:JAt (w4.setCell ⟨j,4,none⟩ (.int .i64 0)) j d ⟨half,false,0,0,1,false⟩:=Row.set ah 4 (.int .i64 0);have S4:=Z5J ai ((S3.out.2.trans (ak.mono (by omega))).trans az);go_wp2_with fail;refine(Dj F _ M.out.2.2.1 M.out.2.2.2 J.out.2.2.2.2.2).mono ?_;rintro e w5 ⟨rfl,ag⟩;have ai:=JAt.after S4.out.1 ag;have bh:=ai.cell (j:=4) rfl;have bf:=S4.out.2.size;have S5:=Z5F (S4.out.2.trans (ag.mono bf));have bq:=ag.size;go_wp2_with fail;refine(K6 15 (by omega) _).mono ?_;rintro e w6 ⟨b,rfl,he,al⟩;have S6:=Z5J he al;go_wp2;go_ret3;exact⟨b,rfl,S6.out.1.base (by omega),S5.out.trans (S6.out.2.mono (by omega))⟩
def Tx:Value->Nat
 |.slice _ n _=>n
 |_=>0
theorem L8(h:w.ownsRow base e size v n xs):Tx v=n:=by
 rcases h.2 with ⟨rfl,C⟩|⟨g,cap,cur,rfl,_⟩
 .have:=h.1;simp[Tx];omega
 .rfl
theorem Ae{w':World}{row:Option Nat}(h:Row w g e l)(F:w.grownBy w' row)(J:row≠some g):Row w' g e l:=by have hl:=h.lt;obtain⟨f,hh,C⟩:=h;exact⟨f,(F.block g hl (λe=>J e.symm)).trans hh,C⟩
theorem XD{C:TypeId}(h:Row w g e l)(F:w.ownsRow base C size v n xs)(he:e≠C):v.ownBlock≠some g:=Row.ne_own h F he
structure RA(w:World)(d:Nat)(J:Jn)(rs:List Bs)(jv lv:Value)(w':World):Prop where
 jn:∃j,jv=.pointer (some ⟨j,0,none⟩)/\w.heap.size<=j/\JAt w' j d J
 recs:w'.ownsRow w.heap.size 9 1 lv rs.length (Z7 (rs.map str))
 below:Below w.heap.size w w'
theorem Nk(rs:List Bs)(k:Nat)(h:k<rs.length):Z7 ((rs.take (k+1)).map str)=Z7 ((rs.take k).map str)++[.string (str (rs.getD k []))]:=by rw[Z5f h,Z5u,Z59,Z5a h];simp[Z7]
theorem Z1k(B p d n:Nat)(P:Pw)(D:Dk)(L:List Nat)(J:Jn)(rs:List Bs)(w:World)(h:PD B w p d n P D L)(h1:2<=J.half)(h2:2*J.half<=n)(hr:WX P D=0)(hj:JRd D J rs):Calls prog 108 #[.pointer (some ⟨d,0,none⟩),.int .i64 0,.int .i64 ((2*J.half:Nat):Int)] w λe w'=>∃jv lv,e=.returned (.tuple #[jv,lv,.nilIface])/\RA w d J rs jv lv w':=by
 obtain⟨j0,ie,iw,ix,iy⟩:=info_parts XK;obtain⟨half,second,epoch,many,next,closed⟩:=J;obtain⟨F,ae,al,aq,ef,bz,cn,ah,fh⟩:=hj;simp only at h1 h2 al aq ef bz cn fh F ae;subst al aq fh;have hn:=h.ok.n2;have fp:(D.text 0 half).length=64*half:=JK h.ok 0 half (by omega);have fq:(D.text half half).length=64*half:=JK h.ok half half (by omega);obtain⟨Ta,dx⟩:=Z5H (str (D.text 0 half));obtain⟨Tb,dy⟩:=Z5H (str (D.text half half));have za:Ta.size=64*half:=by rw[<-dx,Z5,fp]
 have zb:Tb.size=64*half:=by rw[<-dy,Z5,fq]
 have a0:∀s,Jn.at_ ⟨half,second,epoch,rs.length,1+Zp rs,false⟩ s 0=if s then half else 0:=λs=>by cases s<;>simp[Jn.at_]
 rw[a0] at F ae;have H:=Z5J h hr;have HT:=Z5L dx dy za zb;have fu:64<=Ta.size/\Ta.size<=10000000/\64<=Tb.size/\Tb.size<=10000000:=by omega
 have HZ:=Z5F fu;have HC:=Z5J F ae;have HS:=Z5F ah;clear h hr dx dy za zb fp fq fu F ae a0 ah;go_enter func108,ntmps108;go_wp2_with fail;refine(BR B p d n P D L half w H.out.1 h1 h2).mono ?_;rintro e w1 ⟨j,rfl,fi,fj,ee⟩;have S1:=Z5K fj ee fi;have ir:=ee.size;clear fi fj ee;go_wp2_with fail;refine(Gu B p d n j P D L ⟨half,false,0,0,1,false⟩ false w1 (H.out.1.after S1.out.2.1) S1.out.1 (show 1<=half by omega) h2 H.out.2).mono ?_;rw[show str (D.text (Jn.at_ ⟨half,false,0,0,1,false⟩ false 0) half)=Ta from HT.out.1];rintro e w2 ⟨rfl,dq⟩;have S2:=Z5J (JAt.after S1.out.1 dq) (S1.out.2.1.trans (dq.mono ir));have jd:=dq.size;clear dq;go_wp2_with fail;refine(Gu B p d n j P D L ⟨half,false,0,0,1,false⟩ true w2 (H.out.1.after S2.out.2) S2.out.1 (show 1<=half by omega) h2 H.out.2).mono ?_;rw[RE half,HT.out.2.1];rintro e w3 ⟨rfl,dt⟩;have S3:=Z5J (JAt.after S2.out.1 dt) (S2.out.2.trans (dt.mono (by omega)));have je:=dt.size;clear dt;cases second
 case' false=>
  obtain⟨F,ae⟩:=HC.out;simp only[Bool.false_eq_true,if_false,Bool.not_false,if_true] at F ae;obtain⟨rest,F,dh⟩:=F;have hT:Ta.data.toList=Zh epoch 0 ZM++(YK epoch 0 rs++rest):=by rw[<-HT.out.1];exact F
  have dj:MJ Tb.data.toList epoch:=by rw[<-HT.out.2.1];exact ae
  have dm:=Z5K dh hT dj;have zT:=HT.out.2.2.1;clear F ae dh dj;go_wp2_with fail;refine(E3 Ta epoch _ w3 HZ.out.2.1 hT bz).mono ?_;rintro e w4 ⟨rfl,b7⟩;have aj:=JAt.after S3.out.1 b7;have r4:=aj.free (j:=4) (by simp);have c4:=aj.cell (j:=4) rfl;have bj:Below w.heap.size w4 (w4.setCell ⟨j,4,none⟩ (.int .i64 epoch)):=Z5E.setCell S1.out.2.2 _;have M:JAt (w4.setCell ⟨j,4,none⟩ (.int .i64 epoch)) j d ⟨half,false,epoch,0,1,false⟩:=Row.set aj 4 (.int .i64 epoch);have S4:=Z5J M ((S3.out.2.trans (b7.mono (by omega))).trans bj);clear aj bj M b7;have dp:=Z5F hT;clear hT;go_wp2_with fail;refine(EX Tb epoch _ HZ.out.2.2.1 HZ.out.2.2.2 dm.out.2.2 bz ef).mono ?_;rintro e w5 ⟨x,rfl,hx,b8⟩;have M:=JAt.after S4.out.1 b8;have gj:=M.cell (j:=4) rfl;have ew:=S4.out.2.size;have S6:=Z5J M (S4.out.2.trans (b8.mono ew));have im:¬ (epoch:Int)<(x:Int):=by omega
  have iq:((epoch:Int)==0)=false:=by simp;omega
  clear M b8 c4 r4;have hT:=dp.out;go_wp2;obtain⟨sd,bh⟩:=Z5I false;have SD:=Z5K bh (show JAt _ j d ⟨half,sd,epoch,0,1,false⟩ from by rw[bh];exact S6.out.1) S6.out.2;obtain⟨TT,dw⟩:=Z5I Ta;subst dw;clear bh S6
 case' true=>
  obtain⟨F,ae⟩:=HC.out;simp only[Bool.not_true,Bool.false_eq_true,if_false,if_true] at F ae;obtain⟨rest,F,dh⟩:=F;have hT:Tb.data.toList=Zh epoch 0 ZM++(YK epoch 0 rs++rest):=by rw[<-HT.out.2.1];exact F
  have dj:MJ Ta.data.toList epoch:=by rw[<-HT.out.1];exact ae
  have dm:=Z5K dh hT dj;have zT:=HT.out.2.2.2;clear F ae dh dj;have dp:=Z5F hT;clear hT;go_wp2_with fail;refine(EX Ta epoch w3 HZ.out.1 HZ.out.2.1 dm.out.2.2 bz ef).mono ?_;rintro e w4 ⟨x,rfl,hx,b7⟩;have aj:=JAt.after S3.out.1 b7;have r4:=aj.free (j:=4) (by simp);have c4:=aj.cell (j:=4) rfl;have bj:Below w.heap.size w4 (w4.setCell ⟨j,4,none⟩ (.int .i64 x)):=Z5E.setCell S1.out.2.2 _;have M:JAt (w4.setCell ⟨j,4,none⟩ (.int .i64 x)) j d ⟨half,false,x,0,1,false⟩:=Row.set aj 4 (.int .i64 x);have S4:=Z5J M ((S3.out.2.trans (b7.mono (by omega))).trans bj);clear aj bj M b7;go_wp2_with fail;refine(E3 Tb epoch _ _ HZ.out.2.2.2 dp.out bz).mono ?_;rintro e w5 ⟨rfl,b8⟩;have M:=JAt.after S4.out.1 b8;have gj:=M.cell (j:=4) rfl;have jh:=M.free (j:=4) (by simp);have jg:=M.free (j:=3) (by simp);have iz:=M.cell (j:=3) rfl;have ew:=S4.out.2.size;have eh:JAt ((w5.setCell ⟨j,4,none⟩ (.int .i64 epoch)).setCell ⟨j,3,none⟩ (.bool true)) j d ⟨half,true,epoch,0,1,false⟩:=(Row.set M 4 (.int .i64 epoch)).set 3 (.bool true);have ff:Below w.heap.size w ((w5.setCell ⟨j,4,none⟩ (.int .i64 epoch)).setCell ⟨j,3,none⟩ (.bool true)):=((S4.out.2.trans (b8.mono ew)).setCell S1.out.2.2 _).setCell S1.out.2.2 _;have S6:=Z5J eh ff;have j7:=eh.cell (j:=4) rfl;have im:(x:Int)<(epoch:Int):=by omega
  have iq:((epoch:Int)==0)=false:=by simp;omega
  clear M b8 eh ff c4 r4;have hT:=dp.out;go_wp2;obtain⟨sd,bh⟩:=Z5I true;have SD:=Z5K bh (show JAt _ j d ⟨half,sd,epoch,0,1,false⟩ from by rw[bh];exact S6.out.1) S6.out.2;obtain⟨TT,dw⟩:=Z5I Tb;subst dw;clear bh S6
 all_goals
  go_loopw [14] (λlv wr=>∃k:Nat,k<=rs.length/\wr.ownsRow w.heap.size 9 1 lv k (Z7 ((rs.take k).map str))/\JAt wr j d ⟨half,sd,epoch,k,1+Zp (rs.take k),false⟩/\Below w.heap.size w wr) (λlv _=>rs.length-Tx lv)
  case atStart=>exact⟨0,by omega,World.ownsRow_nil _ _ _ _,SD.out.2.1,SD.out.2.2⟩
  case round=>
   have jc:=AV rs;obtain⟨k,hk,bg,ct,hb⟩:=hrel;obtain⟨C,au⟩:=Z5H (1+Zp (rs.take k));rw[au] at ct;have c2:=ct.cell (j:=2) rfl;have c6:=ct.cell (j:=6) rfl;have hle:=CS rs k;have fo:=L8 bg;have fw:=hb.size;have HO:=Z5K bg ct hb;have HK:=Z5J au fo;have ij:C<=half:=(by omega);clear bg ct hb fo;by_cases cz:k<rs.length
   .obtain⟨R,hR⟩:=Z5H (rs.getD k []);have bm:=Od rs k cz;have eo:=CS rs (k+1);rw[hR] at bm;have ik:=Br R.length;have ia:R.length<=60000:=by rw[<-hR,Z59,Z5a cz];exact HS.out _ (Z5r cz)
    obtain⟨E,hE⟩:∃E,Zf R.length=64*E:=⟨Zf R.length / 64,by have:=Jf R.length;omega⟩;have fa:Zf R.length / 64=E:=(by omega);rw[fa] at bm ik;have j8:E<=1000:=by have:Zf R.length<=60100:=(by unfold Zf;omega);omega
    obtain⟨n1,ja⟩:=Z5H (C+E);have dc:1+Zp (rs.take (k+1))=n1:=(by omega);have df:(C:Int)<(half:Int):=(by omega);have ak:decide ((C:Int)<(half:Int))=true:=(by simpa using df);have dz:=Z3d hT k cz;rw[au,hR] at dz;have eu:=Nk rs k cz;rw[hR] at eu;have HN:=Z5L dc dz eu hE;have F:=HO.out.1;clear hle eo bm dc dz eu hE fa hR au;go_wp2_with fail;go_quiet (fail);obtain⟨O,ai⟩:=Z5I (wr.drewN nq);rw[<-ai];have af:Below wr.heap.size wr O:=by rw[ai];exact Zv Z5E nq
    have Z:=Z5K (Wc HO.out.1 af) (JAt.after HO.out.2.1 af) (HO.out.2.2.trans (af.mono fw));have jf:=af.size;clear ai af c2 c6;go_wp2_with fail;have d4:=Z.out.2.1.cell (j:=4) rfl;have d5:=Z.out.2.1.cell (j:=5) rfl;have d6:=Z.out.2.1.cell (j:=6) rfl;obtain⟨o,ho⟩:=Z5H (64*C);have ey:IntKind.i64.wrap ((C:Int)*64)=(o:Int):=by rw[Z5x _ (by omega)];omega
    obtain⟨k1,cw⟩:=Z5H (k+1);have ez:IntKind.i64.wrap (k1:Int)=(k1:Int):=Z5x _ (by omega);have q3:(0:Int)<=(o:Int):=(by omega);have q4:(o:Int)<=(TT.size:Int):=(by omega);have q5:o<=TT.size:=(by omega);have q6:¬TT.size=o:=(by omega);have q7:(o:Int).toNat=o:=(by omega);have fm:(k:Int)+1=(k1:Int):=(by omega);have ek:k1<=4000000000:=(by omega);have ic:epoch<=4000000000:=(by omega);obtain⟨X,hX⟩:=Z5H (TT.extract o TT.size);have bq:X.data.toList=Zh epoch k1 R++(YK epoch k1 (rs.drop k1)++rest):=(by rw[<-hX,Lib.extract_to_end,<-ho,HN.out.2.1,cw]);have ib:X.size<=140737488355328:=by rw[<-hX,ByteArray.size_extract];omega
    have HX:=Z5K bq cw ho;have er:∀W,(Instr.slice 9 (.string TT) (some (.int .i64 (o:Int))) none none).run prog W=.ok (.string X) W:=λW=>by rw[<-hX];exact YA 9 underlying9 TT o (by omega) W
    clear bq cw ho hX;go_region_held3 (λw'=>w'.cell? ⟨j,4,none⟩=some (.int .i64 epoch)/\w'.cell? ⟨j,5,none⟩=some (.int .i64 k)/\w'.cell? ⟨j,6,none⟩=some (.int .i64 C)) (first|assumption|exact⟨d4,d5,d6⟩|exact⟨S7.out.1.cell (j:=4) rfl,S7.out.1.cell (j:=5) rfl,S7.out.1.cell (j:=6) rfl⟩)
     (((go_at_call 154;refine(Ml X epoch k1 R _ _ HX.out.1 ic ek ia ib).mono ?_;rintro e w7 ⟨rfl,U⟩;have cr:JAt w7 j d ⟨half,sd,epoch,k,C,false⟩:=JAt.after (w:=O.drew) Z.out.2.1 U;have S7:=Z5J cr U;clear cr U)))
    rw[HN.out.2.2.2];have U:Below w.heap.size w w7:=Z.out.2.2.trans ((Below.drew Z5E).trans (S7.out.2.mono (show w.heap.size<=O.heap.size by omega)));have az:w7.ownsRow w.heap.size 9 1 _ k (Z7 ((rs.take k).map str)):=Wc (Wc Z.out.1 (Z5E.drew)) S7.out.2;have iu:=U.size;have j9:((64*E:Nat):Int) / 64=(E:Int):=(by omega);have jb:(C:Int)+(E:Int)=(n1:Int):=(by omega);have S8:=Z5J U az;have fc:(⟨R.toArray⟩:ByteArray)=str R:=rfl;rw[fc];clear U az d4 d5 d6 ey ez q3 q4 q5 q6 q7 er fc;go_wp2_with (at_builtin;refine wpList_append_own _ rfl (.tmp 105) (.tmp 107) 96 rfl w.heap.size 9 j0 _ 1 16 underlying96 ie iw ix iy rfl (by omega) _ k (Z7 ((rs.take k).map str)) rfl (S8.out.2.alloc _) ⟨w7.heap.size,0,none⟩ 1 1 [.string (str R)] rfl rfl (World.news_of_block (cs:= #[.string (str R)]) (t:=9) (fr:=(0,0)) (heap_alloc_new w7 _)) (by simp[Value.oneCell']) (by unfold maxLen;omega) (by omega) (Z5w iu (by simp)) ?_;intro v' w8 aw bf de;clear de;have bu:JAt w8 j d ⟨half,sd,epoch,k,C,false⟩:=Ae (S7.out.1.alloc _) bf (XD S7.out.1 S8.out.2 (by decide));have fg:Below w.heap.size w w8:=Fr.nil_below (((Fr.of_below (L:=[]) S8.out.1).alloc _).grown bf (λg hg=>Or.inr (Jj S8.out.2 hg)));have S9:=Z5K aw bu fg;have e5:=bu.cell (j:=5) rfl;have e6:=bu.cell (j:=6) rfl;have f5:=bu.free (j:=5) (by simp);have f6:=bu.free (j:=6) (by simp);clear aw bf bu fg);go_roundw
    case measure=>have:=L8 S9.out.1;have h3:=HK.out.2;rw[this];omega
    case rel=>
     have bj:Fr [j] w8 ((w8.setCell ⟨j,5,none⟩ (.int .i64 k1)).setCell ⟨j,6,none⟩ (.int .i64 n1)):=((Fr.refl _ _).setCell (Or.inl (by simp)) _).setCell (Or.inl (by simp)) _;have ig:=XD S9.out.2.1 S9.out.1 (by decide);refine⟨k+1,by omega,?_,?_,?_⟩
     .have h9:=Qa S9.out.1 bj (λg hg hm=>by rw[Z58] at hm;subst hm;exact ig hg);rw[<-HN.out.2.2.1] at h9
      first|exact h9|(rw[List.map_take] at h9;exact h9)
     .have h9:=(Row.set S9.out.2.1 5 (.int .i64 k1)).set 6 (.int .i64 n1);unfold JAt;rw[HN.out.1,HX.out.2.1];exact h9
     .exact(S9.out.2.2.setCell S1.out.2.2 _).setCell S1.out.2.2 _
   .obtain rfl:k=rs.length:=(by omega);have bm:rs.take rs.length=rs:=Z5A;rw[bm] at au;have cj:∀W,Below wr.heap.size wr W->RA w d ⟨half,sd,epoch,rs.length,1+Zp rs,false⟩ rs (.pointer (some ⟨j,0,none⟩)) _ W:=λW hW=>⟨⟨j,rfl,S1.out.2.2,by have:=JAt.after HO.out.2.1 hW;rw[<-au] at this;exact this⟩,by have:=Wc HO.out.1 hW;rw[bm] at this;exact this,HO.out.2.2.trans (hW.mono fw)⟩;have b9:=Z16 hT;rw[au] at b9;have HF:=Z5F cj;have HE:=Z5F b9;clear cj b9 bm au hle;by_cases df:C<half
    .have ag:(C:Int)<(half:Int):=(by omega);have ak:decide ((C:Int)<(half:Int))=true:=(by simpa using ag);go_wp2_with fail;go_quiet (fail);obtain⟨O,ai⟩:=Z5I (wr.drewN nq);rw[<-ai];have af:Below wr.heap.size wr O:=by rw[ai];exact Zv Z5E nq
     have Z:=Z5J (JAt.after HO.out.2.1 af) af;clear ai af c2 c6;go_wp2_with fail;have d4:=Z.out.1.cell (j:=4) rfl;have d5:=Z.out.1.cell (j:=5) rfl;have d6:=Z.out.1.cell (j:=6) rfl;obtain⟨o,ho⟩:=Z5H (64*C);have ey:IntKind.i64.wrap ((C:Int)*64)=(o:Int):=by rw[Z5x _ (by omega)];omega
     obtain⟨k1,cw⟩:=Z5H (rs.length+1);have ez:IntKind.i64.wrap (k1:Int)=(k1:Int):=Z5x _ (by omega);have q3:(0:Int)<=(o:Int):=(by omega);have fm:(rs.length:Int)+1=(k1:Int):=(by omega);obtain⟨X,hX⟩:=Z5H (TT.extract o TT.size);have bq:X.data.toList=rest:=(by rw[<-hX,Lib.extract_to_end,<-ho,HE.out]);have fe:X.size=0∨X.data.toList.getD 0 0≠1:=by
      rw[bq];rcases dm.out.1 with h0|h0
      .left;rw[<-QI,bq,h0];rfl
      .exact Or.inr h0
     have er:∀W,(Instr.slice 9 (.string TT) (some (.int .i64 (o:Int))) none none).run prog W=.ok (.string X) W:=λW=>by rw[<-hX];exact YA 9 underlying9 TT o (by omega) W
     have HX:=Z5F fe;clear bq cw ho hX fe;go_region_held3 (λw'=>w'.cell? ⟨j,4,none⟩=some (.int .i64 epoch)/\w'.cell? ⟨j,5,none⟩=some (.int .i64 rs.length)/\w'.cell? ⟨j,6,none⟩=some (.int .i64 C)) (first|assumption|exact⟨d4,d5,d6⟩|exact⟨S7.out.1.cell (j:=4) rfl,S7.out.1.cell (j:=5) rfl,S7.out.1.cell (j:=6) rfl⟩)
      (((go_at_call 154;refine(Kv X epoch k1 _ HX.out).mono ?_;rintro e w7 ⟨v,rfl,hv,ft,U⟩;obtain⟨b,rfl⟩:=(hv.split.resolve_left (λh=>ft h.2)).2;have cr:JAt w7 j d ⟨half,sd,epoch,rs.length,C,false⟩:=JAt.after (w:=O.drew) Z.out.1 U;have S7:=Z5J cr U;clear cr U hv ft)))
     have U:Below wr.heap.size wr w7:=Z.out.2.trans ((Below.drew Z5E).trans (S7.out.2.mono (show wr.heap.size<=O.heap.size from Z.out.2.size)));have du:=Z5F U;clear U d4 d5 d6 ey ez q3 er fm;go_wp2;go_ret3;have cu:=HF.out _ du.out;rw[SD.out.1] at cu;exact⟨_,_,rfl,cu⟩
    .have ag:¬ (C:Int)<(half:Int):=(by omega);have ak:decide ((C:Int)<(half:Int))=false:=(by simpa using ag);go_wp2_with fail;go_quiet (fail);obtain⟨O,ai⟩:=Z5I (wr.drewN nq);rw[<-ai];have af:Below wr.heap.size wr O:=by rw[ai];exact Zv Z5E nq
     have du:=Z5F af;clear ai af c2 c6;go_wp2;go_ret3;have cu:=HF.out _ du.out;rw[SD.out.1] at cu;exact⟨_,_,rfl,cu⟩
