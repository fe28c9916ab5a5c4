/- Part 5: lemmas about what the program computes. -/
import Derived.Maps.RangeWalk
import Derived.Maps.OwnSet
import Derived.Maps.StringElems
import Derived.Sort.MapsRangeIn
import Derived.StringKeys
import Derived.Sort.KeysCollected
import Derived.WideMake
import Derived.RangeFuncNested
import Derived.RangeFuncBound
import Derived.RangeFuncCalls
import Derived.RangeFuncLeaves
import Derived.Shelf.Abstract
import Derived.Shelf.RegionOpen
import Derived.OwnWalkIn
import Derived.TacticsInMore
import Derived.LoopNIn
import Derived.LoopIn
import Derived.Test.YthppfllkocphbaaGreatDoorV03
namespace Go.Proofs.YthppfllkocphbaaGreatDoor
set_option linter.all false
set_option maxHeartbeats 25600000
set_option maxRecDepth 100000
open Tryz
open Go renaming World->Qs,Value->Qt,TypeId->Qu,Ending->Qv
open Go.RowKit Go.Maps Go.WideMaps
variable{D:DataW Value}{L:List Nat}{Q:Exit->Act->World->Prop}{a:Act}{b cnt n r:Nat}{e t:TypeId}{f:Bs->Option Value}{o:Oper}{rest:List Oper}{todo:Bs->Bool}{w w':World}
def Jq(v:Qt):Option (DataW Qt×List MemPlace):=some (.held v,[])
def Bx:Maps.Keyed prog 9:=string_keyed underlying9
def Cz(D:DataW Qt)(f:Bs->Option Qt):Prop:=∀k:Bs,Maps.has D (.string k)=(f k).isSome/\∀v,f k=some v->∀z,D.atKey (.string k) z=.held v
def Yb(w:Qs)(b n:Nat)(f:Bs->Option Qt):Prop:=∃D:DataW Qt,w.ownsMap prog 9 Jq b n D/\Cz D f
def Z4O{w:Qs}{k:Qu}(h:w.ownsMap prog k Jq b n D)(J:Fr L w w')(hb:b∉L):w'.ownsMap prog k Jq b n D:=by have C:=h.lt;have⟨es,F,hh,r⟩:=h;exact⟨es,F,(J.block b C hb).trans hh,r⟩
def Yb.fr{w:Qs}(h:Yb w b n f)(J:Fr L w w')(hb:b∉L):Yb w' b n f:=by have⟨D,C,F⟩:=h;exact⟨D,Z4O C J hb,F⟩
def Yb.after{w:Qs}(h:Yb w b n f)(hb:Below w w w'):Yb w' b n f:=h.fr (Z1 (L:=[]) hb) Qx
def Yb.lt{w:Qs}(h:Yb w b n f):b<w:=by have⟨D,C,_⟩:=h;exact C.lt
def Yb.block{w:Qs}(h:Yb w b n f):∃es C,w.heap[b]? =some (.map es C):=by obtain⟨D,⟨es,C,hh,_⟩,_⟩:=h;exact⟨es,C,hh⟩
def Yb.congr{w:Qs}{g:Bs->Option Qt}(h:Yb w b n f)(C:∀k,f k=g k):Yb w b n g:=by have:f=g:=QA;simp_all
theorem Td(a b:Bs):Lit.sameKey (.string a) (.string b)=decide (a=b):=by simp[Lit.sameKey];grind
def CH(k:Bs)(h:k.length<=maxLen):keyOf prog 9 (.string (str k))=some (.string k):=keyOf_string_mk (s:=str k) underlying9 (by rw[QW];exact h)
def Yb.made(w:Qs):Yb (w.alloc (.map #[] 0)) w 0 (λ_=>none):=⟨.map [],World.ownsMap_made _ _ _ _,λk=>⟨rfl,λv h=>by cases h⟩⟩
def Yb.ZbA(h:Yb w b n f)(U:prog.underlying t=some (.map 9 e)){z:Qt}(Z:(zeroValue e).run prog w=.ok z w){k:Bs}(O:k.length<=maxLen){v:Qt}(F:f k=some v):(Instr.lookup t (.map (some b)) (.string (str k)) true).run prog w=.ok (.tuple #[v,true]) w:=by have⟨D,M,C⟩:=h;have⟨v',ps,J,hv⟩:=M.look_ok Bx U Z (zd:=.held z) (zp:=[]) rfl (CH k O);rw[(C k).2 v F] at hv;simp[Jq] at hv;rw[J,(C k).1,F,hv.1];rfl
def Yb.ZbB(h:Yb w b n f)(U:prog.underlying t=some (.map 9 e)){z:Qt}(Z:(zeroValue e).run prog w=.ok z w){k:Bs}(O:k.length<=maxLen)(M:f k=none):(Instr.lookup t (.map (some b)) (.string (str k)) true).run prog w=.ok (.tuple #[z,false]) w:=by
 have⟨D,F,J⟩:=h;have⟨v',ps,C,hv⟩:=F.look_ok Bx U Z (zd:=.held z) (zp:=[]) rfl (CH k O);have hh:Maps.has D (.string k)=false:=by rw[(J k).1,M];rfl
 rw[atKey_of_not_has hh] at hv;simp[Jq] at hv;rw[C,hh,hv.1]
def Yb.ZbO(h:Yb w b n f)(U:prog.underlying t=some (.map 9 e)){z:Qt}(Z:(zeroValue e).run prog w=.ok z w){k:Bs}(O:k.length<=maxLen){v:Qt}(M:f k=some v):(Instr.lookup t (.map (some b)) (.string (str k)) false).run prog w=.ok v w:=by have⟨D,F,J⟩:=h;have⟨v',ps,C,hv⟩:=F.lookup Bx U Z (zd:=.held z) (zp:=[]) rfl (CH k O);rw[(J k).2 v M] at hv;simp[Jq] at hv;rw[C,hv.1]
section
variable(w:Qs){ops:Array Oper}
def Cz.put(h:Cz D f)(hm:IsMap D)(k:Bs)(v:Qt):Cz (D.put (.string k) (.held v)) (λm=>if m=k then some v else f m):=by
 intro m;by_cases e:m=k
 .subst e;simp only[ZgV];exact⟨by rw[has_put_same hm (show WideAt.IsKeyLit (.string m) from trivial)];rfl,λu hu z=>by rw[atKey_put_same hm (show WideAt.IsKeyLit (.string m) from trivial)];cases hu;rfl⟩
 .simp[Zw e];have C:(Lit.string m)≠.string k:=QB;exact⟨by rw[has_put_other C];exact(h m).1,λu hu z=>by rw[atKey_put_other C];exact(h m).2 u hu z⟩
def Cz.del(h:Cz D f)(k:Bs):Cz (D.del (.string k)) (λm=>if m=k then none else f m):=by
 intro m;by_cases e:m=k
 .subst e;simp only[ZgV];exact⟨by rw[has_del_same];rfl,λu hu=>by cases hu⟩
 .simp[Zw e];have C:(Lit.string m)≠.string k:=QB;exact⟨by rw[has_del_other C];exact(h m).1,λu hu z=>by rw[atKey_del_other C];exact(h m).2 u hu z⟩
def Z8H(O:o.guard=none)(m x v:Operand)(t:Qu)(J:o.op=Op.mapUpdate t m x v)(e:Qu)(ht:prog.underlying t=some (.map 9 e))(b n:Nat)(f:Bs->Option Qt)(hm:a.eval m=.map (some b))(h:Yb w b n f)(Z:n<maxLen)(k:Bs)(U:k.length<=maxLen)(val:Qt)(hx:a.eval x=.string (str k))(hv:a.eval v=val)(hK:∀w',Yb w' b (n+1) (λm=>if m=k then some val else f m)->w.grownBy w' (some b)->wpList prog ops Q rest (a.put o.dst undef) w'):wpList prog ops Q (o::rest) a w:=by have⟨D,C,M⟩:=h;exact wpList_mapUpdate_own w O m x v t J 9 e Bx ht Jq b n D hm C Z _ val (.string k) hx hv (CH k U) (.held val) [] rfl (λw' ho F=>hK w' ⟨_,ho,M.put C.isMap k val⟩ F)
def Xc(w:Qs)(b r n:Nat)(f:Bs->Option Qt)(todo:Bs->Bool)(cnt:Nat):Prop:=
 ∃ (D:DataW Qt) (left:Lit->Bool),w.ranges prog 9 Jq b r n D left cnt/\Cz D f/\∀k,left (.string k)=todo k
def Xc.owns{w:Qs}(h:Xc w b r n f todo cnt):Yb w b n f:=by have⟨D,l,C,F,_⟩:=h;exact⟨D,C.owns,F⟩
def Xc.left_eq{w:Qs}(h:Xc w b r n f todo cnt):w.rangeLeft b r=cnt:=by have⟨D,l,C,F,_⟩:=h;exact C.left_eq
def Xc.fr{w:Qs}(h:Xc w b r n f todo cnt)(J:Fr L w w')(hb:b∉L)(hr:r∉L):Xc w' b r n f todo cnt:=by have⟨D,l,C,U,Z⟩:=h;have k1:=C.owns.lt;have k2:=C.lt;have⟨es,clock,since,seen,c0,M,F,hs,hD,O,rest⟩:=C;exact⟨D,l,⟨es,clock,since,seen,c0,(J.block b k1 hb).trans M,F,hs,hD,(J.block r k2 hr).trans O,rest⟩,U,Z⟩
def Xc.after{w:Qs}(h:Xc w b r n f todo cnt)(hb:Below w w w'):Xc w' b r n f todo cnt:=h.fr (Z1 (L:=[]) hb) Qx Qx
def Xc.iter{w:Qs}(h:Xc w b r n f todo cnt):∃a C c d,w.heap[r]? =some (.mapIter a C c d):=by obtain⟨D,l,⟨es,clock,since,seen,c0,J,F,hs,O,M,rest⟩,_⟩:=h;simp_all
def IL(O:o.guard=none)(m:Operand)(t:Qu)(J:o.op=Op.range t m)(e:Qu)(ht:prog.underlying t=some (.map 9 e))(b n:Nat)(f:Bs->Option Qt)(hm:a.eval m=.map (some b))(h:Yb w b n f)(hK:∀w' cnt,Xc w' b w n f (λk=>(f k).isSome) cnt->Below w w w'->w'.heap.size=w.heap.size+1->wpList prog ops Q rest (a.put o.dst (.pointer w.heap.size)) w'):wpList prog ops Q (o::rest) a w:=by have⟨D,M,C⟩:=h;refine wpList_range_own w O m t J 9 e Bx ht Jq b n D hm M (λw' Z F hs=>hK w' _ ⟨D,_,Z,C,λk=>(C k).1⟩ ?_ hs);exact Fr.Zbj ((Fr.refl [] w).grown F (λk U=>by cases U))
theorem IK(hg:o.guard=none)(it:Operand)(ak:o.op=Op.next it false)(b r n:Nat)(f:Bs->Option Qt)(todo:Bs->Bool)(cnt:Nat)(hit:a.eval it=.pointer r)(h:Xc w b r n f todo cnt)(Z:(∀k,todo k=false)->wpList prog ops Q rest (a.put o.dst (.tuple #[false])) w)(ae:∀ (k:Bs) (v:Qt) (w':Qs) (C:Nat),k.length<=maxLen->todo k=true->f k=some v->Xc w' b r n f (λm=>todo m&& !decide (m=k)) C->C<cnt->Fr [r] w w'->w'.heap.size=w.heap.size-> (Instr.entry (.pointer r)).run prog w'=.ok (.tuple #[.string (str k),v]) w'->wpList prog ops Q rest (a.put o.dst (.tuple #[true,.string (str k),v])) w'):wpList prog ops Q (o::rest) a w:=by
 have⟨D,left,h1,M,U⟩:=h;refine wpList_next_ranges (α:=Qq) (β:=Qt) w hg it ak 9 Bx Jq .string id (λkey kl O=> ?_) (λv y _=>⟨v,rfl⟩) b r n D left cnt hit h1 (λ_ hl=>Z (λk=>by rw[<-U];exact hl _)) ?_
 .exact Maps.keyOf_string_inv underlying9 O
 .intro s v kl y w' C af hl hv F aq aj ah au ag;have hs:s.size<=maxLen/\kl=.string s.data.toList:=by have⟨s',e1,e2,e3⟩:=string_of_keyOf underlying9 af;simp_all
  obtain⟨ay,rfl⟩:=hs;have ai:(f s.data.toList).isSome=true:=by
   rw[<-(M _).1];by_cases hh:Maps.has D (.string s.data.toList)=true
   .omega
   .exfalso;have hh:Maps.has D (.string s.data.toList)=false:=QB;have J:=F (.nil);have a2:=F (.held undef);rw[atKey_of_not_has hh] at J a2;grind
  have⟨u,hu⟩:=ZdQ.1 ai;have aw:v=u:=by have J:=F (.nil);rw[(M _).2 u hu] at J;simp[Jq] at hv;grind
  subst aw;refine ae s.data.toList v w' C QB QB hu ⟨D,_,aq,M,λm=> ?_⟩ aj ((Fr.refl [r] w).grown ah (λk O=>by cases O;exact Zv Qx)) au ag;rw[U,Td]
end
structure Nf(B p d n j:Nat)(L:Qj)(ops:List DOp)(J1 J2:Jn)(P:Pw)(D:Dk)(w w':Qs):Prop where
 ran:Ran B p d n L [j] ops P D w w'
 ok:(QH ops P D).1=0->JAt w' j d J1
 bad:(QH ops P D).1≠0->JAt w' j d J2
def Ty.set(h:Ty w){a:Addr}(ha:a.block≠0)(v:Qt):Ty (w.setCell a v):=by unfold Ty at h⊢;rw[World.cell?_setCell_far w a _ v ha];exact h
def Sd(e n:Nat)(r:Qq)(E:Nat)(h:QQ r.size=64*E):(str (QO e n r.data.toList)).size=64*E:=by rw[QW,Ce,Ju,h]
def Z39(d j:Nat)(J:Jn)(r:Qq)(w:Qs)(h:JAt w j d J)(Z:J.closed=false)(ae:J.Fit)(ay:J.next<=J.half)(hr:r.size<=60000)(af:J.half-J.next<QQ r.size / 64):Calls prog 136 #[j,.string r] w λe w'=>∃b,e=.returned (.iface 139 (b:Nat))/\QK w' w 12 (.iface 139 (b:Nat))/\Below w w w':=by
 obtain⟨f1,f2,f3,f4⟩:=ae;obtain⟨E,hE⟩:∃E,QQ r.size=64*E:=⟨QQ r.size / 64,by have:=Dj r.size;omega⟩;have U:QQ r.size / 64=E:=Qw;rw[U] at af;have az:E<=1000:=by have:QQ r.size<=60100:=(by unfold QQ;omega);omega
 obtain⟨m1,ak⟩:=ZL (J.many+1);have aq:(J.many:Int)+1=(m1:Int):=Qw;have au:=Zr ((J.many:Int)+1) Qw;rw[aq] at au;have C:=Sd J.Zar m1 r E hE;obtain⟨O,M⟩:=ZK (str (QO J.Zar m1 r.data.toList));rw[M] at C;have c4:=h.c4;have c5:=h.c5;have c7:=h.c7;rw[Z] at c7;have H:=ZI h;have HP:=ZM M C;have aw:m1<=4000000000:=Qw;have aj:J.Zar<=4000000000:=Qw;clear h Z hE U ak M C;go_enter func136,ntmps136;go_wp2_with fail;go_region_held3 (λw'=>w'.cell? ⟨j,4,none⟩=(J.Zar:Int)/\w'.cell? ⟨j,5,none⟩=(J.many:Int)) (first|assumption|exact⟨c4,c5⟩|exact⟨S1.1.c4,S1.1.c5⟩)
  (((go_at_call 193;refine(FO J.Zar m1 r _ aj aw hr).mono ?_;rintro e w1 ⟨rfl,F⟩;have ag:JAt w1 j d J:=JAt.after (w:=w.drew) H.o F;have S1:=ZM ag F;clear ag F)))
 rw[show(⟨(QO J.Zar m1 r.data.toList).toArray⟩:Qq)=O from HP.1];have C:=HP.2;go_wp2_with fail;refine(PE j d J _ S1.1 ay Qw).mono ?_;rintro e w2 ⟨rfl,q,rfl⟩;go_wp2_with fail;refine(PA 12 Qw _).mono ?_;rintro e w3 ⟨b,rfl,he,ai⟩;have S3:=ZM he ai;have ah:=S1.2.size;go_wp2;go_ret;exact⟨b,rfl,S3.1.base ah,(Zh5 (Zu _ _)).trans (S1.2.trans ((YE (Zu _ _) q).trans (S3.2.mono (show w.drew.heap.size<=w1.heap.size from ah))))⟩
def Z38(B p d n j:Nat)(P:Pw)(D:Dk)(L:Qj)(J:Jn)(r:Qq)(w:Qs)(h:PD B w p d n P D L)(hB:B<=w)(hj:JAt w j d J)(cw:B<=j)(ht:Ty w)(hg:0<B)(ay:J.closed=false)(az:J.Fit)(U:r.size<=60000)(dq:J.next<=J.half)(bf:QQ r.size / 64<=J.half-J.next)(dz:J.next<=40000)(dh:D.wait.length<=100000):Calls prog 136 #[j,.string r] w (Ans w (QH (J.ZaM r.data.toList) P D).1 (Nf B p d n j L (J.ZaM r.data.toList) (J.appended r.data.toList) {J with closed:=true} P D w)):=by
 obtain⟨f1,f2,f3,f4⟩:=az;obtain⟨E,hE⟩:∃E,QQ r.size=64*E:=⟨QQ r.size / 64,by have:=Dj r.size;omega⟩;have au:QQ r.size / 64=E:=Qw;rw[au] at bf;have dw:E<=1000:=by have:QQ r.size<=60100:=(by unfold QQ;omega);omega
 have du:1<=E:=by have:=Fj r.size;omega
 obtain⟨m1,bj⟩:=ZL (J.many+1);have dm:(J.many:Int)+1=(m1:Int):=Qw;have cy:=Zr ((J.many:Int)+1) Qw;rw[dm] at cy;have Z:=Sd J.Zar m1 r E hE;obtain⟨pk,aq⟩:=ZK (str (QO J.Zar m1 r.data.toList));rw[aq] at Z;have dx:((64*E:Nat):Int) / 64=(E:Int):=Qw;obtain⟨A,hA⟩:=ZK (J.ZaM r.data.toList);have bz:J.lay J.second J.next pk.data.toList=A:=by rw[<-hA,<-aq,Yp,bj];rfl
 have ae:J.appended r.data.toList={J with many:=m1,next:=J.next+E}:=by unfold Jn.appended;rw[Ju,au,bj]
 obtain⟨nx,ah⟩:=ZK (J.next+E);have dy:(J.next:Int)+(E:Int)=(nx:Int):=Qw;rw[ah] at ae;rw[hA,ae];have c4:=hj.c4;have c5:=hj.c5;have c7:=hj.c7;rw[ay] at c7;have H:=ZY h hj ht hB;have HP:=ZY aq Z bz hE;have dp:m1<=4000000000:=Qw;have df:J.Zar<=4000000000:=Qw;have M:=ZZ h.bp h.bL hg cw ay;clear h hj hE au bj aq Z ht hB hA bz ae hg cw ay ah;go_enter func136,ntmps136;go_wp2_with fail;go_region_held3 (λw'=>w'.cell? ⟨j,4,none⟩=(J.Zar:Int)/\w'.cell? ⟨j,5,none⟩=(J.many:Int)) (first|assumption|exact⟨c4,c5⟩|exact⟨S1.1.c4,S1.1.c5⟩)
  (((go_at_call 193;refine(FO J.Zar m1 r _ df dp U).mono ?_;rintro e w1 ⟨rfl,aw⟩;have ct:JAt w1 j d J:=JAt.after (w:=w.drew) H.2 aw;have S1:=ZM ct aw;clear ct aw)))
 rw[show(⟨(QO J.Zar m1 r.data.toList).toArray⟩:Qq)=pk from HP.1];have Z:=HP.2;clear cy c4 c5;have cj:Below w w w1:=(Zh5 (Zu _ _)).trans S1.2;have de:=ZI cj;clear cj;go_wp2_with fail;refine(PE j d J _ S1.1 dq Qw).mono ?_;rintro e w2 ⟨rfl,q,rfl⟩;have dj:decide (((J.half-J.next:Nat):Int)<(E:Int))=false:=by simp;omega
 have bh:¬ ((J.half-J.next:Nat):Int)<(E:Int):=Qw;obtain⟨w2,bu⟩:=ZL (w1.drewN q);rw[<-bu];have af:Below w w w2:=by rw[bu];exact YE de.o q
 have aj:JAt w2 j d J:=JAt.after H.2 af;have T2:=Stg.start H.1 [j] af;have dt:=af.size;have S2:=ZX T2 aj af;have c3:=aj.c3;have c6:=aj.c6;clear af aj T2 bu;go_wp2_with fail;go_still_tail 10,Qy;change wpList _ _ _ _ _ w2.drew;have T3:Stg B p d n L [j] [] P D w P D L w2.drew:=S2.1.after ((Zu _ _).drew);have cu:JAt w2.drew j d J:=JAt.after S2.2 ((Zu _ _).drew);have O:=ZM T3 cu;clear T3 cu c3 c6 dj bh;go_wp2_with fail;refine(PT B p d n j P D L J J.second J.next pk w2.drew O.1.did.pd (show B<=w2.heap.size from Zq H.4 dt) O.2 (by rw[Z];omega) (by rw[Z];omega) (by rw[Z];omega) Qw Qw Qw).mono ?_;rw[HP.3];rintro e w4 ⟨ev,rfl,he,U⟩;have ee:w2<=w4.heap.size:=by obtain⟨_,q⟩:=U;exact q.fr.size
 have F:JAt w4 j d J:=by obtain⟨_,q⟩:=U;exact JAt.did q O.1.did.pd O.2 Qx
 have r5:=F.free (j:=5) Qx;have r6:=F.free (j:=6) Qx;have c5:=F.c5;have c6:=F.c6;rcases he.split with ⟨hc,rfl⟩|⟨hc,b,rfl⟩
 case inr=>have hX:=O.1.fail he U;obtain⟨L4,bm⟩:=U;have bq:Ty w4:=Ty.did (Ty.did H.3 O.1.did M.3 M.1 M.2 (by simp;exact M.4)) bm M.3 M.1 M.2 Qx;have ai:Ty (w4.setCell ⟨j,7,none⟩ (.bool true)):=Ty.set bq (by show j≠_;have:=M.3;have:=M.4;omega) _;have bg:j<w2.drew.heap.size:=Row.lt O.2;have C:=ZP hc hX he bm F;clear hc he hX bm F c5 c6 r5 r6;go_wp2_with fail;refine(NS j d J _ _ _ w4 C.2.2.2.2 C.2.2.1 bg bq ai).mono ?_;rintro e w5 ⟨v3,rfl,cn,ag,cr⟩;have H3:=ZX cn ag cr;clear cn ag cr bq ai;go_wp2;go_ret;obtain⟨_,_,_,L5,q⟩:=C.2.1;have ak:j∉p::L5:=JAt.ne q.pd C.2.2.2.2;exact⟨v3,rfl,H3.1.base (by show w.heap.size<=min w2.heap.size w4.heap.size;omega),⟨L5,q.frame H3.3 (by simpa using ak) Qx⟩,λh0=>absurd h0 C.1,λ_=>H3.2⟩
 have hX:=O.1.fail he U;rw[Ze3] at hX;obtain⟨_,_,_,L5,q⟩:=hX;have ak:j∉p::L5:=JAt.ne q.pd F;have cz:Fr [j] w4 ((w4.setCell ⟨j,5,none⟩ (.int .i64 m1)).setCell ⟨j,6,none⟩ (.int .i64 (nx:Int))):=((Fr.refl _ _).setCell (Zv Qx) _).setCell (Zv Qx) _;have ag:JAt ((w4.setCell ⟨j,5,none⟩ (.int .i64 m1)).setCell ⟨j,6,none⟩ (.int .i64 (nx:Int))) j d {J with many:=m1,next:=nx}:=(Row.set F 5 (.int .i64 m1)).set 6 (.int .i64 (nx:Int));have C:=ZN hc (q.frame cz (by simpa using ak) Qx) ag;clear hc he U q ak cz ag F;go_wp2;go_ret;exact⟨_,rfl,by rw[C.1];exact QK.nil _ _,⟨L5,C.2.1⟩,λ_=>C.2.2,λh0=>absurd C.1 h0⟩
def UM(B p d n j:Nat)(P:Pw)(D:Dk)(L:Qj)(J:Jn)(r:Bs)(g c:Nat)(w:Qs)(h:PD B w p d n P D L)(hB:B<=w)(hj:JAt w j d J)(af:w.cell? g=some (.string (str (QO (J.Zar+1) 1 r))))(cr:J.Fit)(C:r.length<=60000)(dz:D.wait.length<=100000):Calls prog 197 #[j,.slice g 1 c] w (Ans w (QH (J.ZaI r) P D).1 (Ran B p d n L [] (J.ZaI r) P D w)):=by
 obtain⟨f1,f2,f3,f4⟩:=cr;obtain⟨E,hE⟩:∃E,QQ r.length=64*E:=⟨QQ r.length / 64,by have:=Dj r.length;omega⟩;have cz:QQ r.length / 64=E:=Qw;have er:E<=1000:=by have:QQ r.length<=60100:=(by unfold QQ;omega);omega
 obtain⟨e1,cn⟩:=ZK (J.Zar+1);have ew:(J.Zar:Int)+1=(e1:Int):=Qw;have dq:e1<=4000000000:=Qw;rw[cn] at af;have ag:(str (QO e1 1 r)).size=64*E:=by rw[QW,Ce,hE]
 obtain⟨pk,ct⟩:=ZK (str (QO e1 1 r));have de:pk.data.toList=QO e1 1 r:=by rw[<-ct];rfl
 obtain⟨M,bm⟩:=ZK (str (QO e1 0 Yk));have Z:M.size=64:=by rw[<-bm,QW,Xw]
 have bq:M.data.toList=QO e1 0 Yk:=by rw[<-bm];rfl
 have cw:(str (Yl M.data.toList)).size=64:=by rw[QW,Jj _ (by rw[bq];exact B4 _ _ _),bq,Xw]
 rw[ct] at ag af;obtain⟨A1,bf⟩:=ZK (wrs (J.at_ (!J.second) 1) pk.data.toList);obtain⟨A2,bg⟩:=ZK (J.clean (!J.second) (1+E));obtain⟨A3,bh⟩:=ZK (wrs (J.at_ (!J.second) 0) (Yl M.data.toList));obtain⟨A5,bj⟩:=ZK (wrs (J.at_ (!J.second) 0) M.data.toList);have aw:J.ZaI r=A1++A2++A3++[.fl]++A5++[.fl]:=by rw[<-bf,<-bg,<-bh,<-bj,de,bq,<-cn,<-cz];rfl
 have ey:A1.length<=1000:=by rw[<-bf,EO,Ju,ag];omega
 have ez:A2.length<=1:=by rw[<-bg];unfold Jn.clean;split<;>simp
 have fa:A3.length<=1:=by
  have:(Yl M.data.toList).length=64:=by rw[<-QW];exact cw
  rw[<-bh,EO,this];omega
 have fc:A5.length<=1:=by rw[<-bj,EO,Ju,Z];omega
 rw[aw];have eu:((64*E:Nat):Int) / 64=(E:Int):=Qw;have c0:=hj.c0;have c3:=hj.c3;have U:=hj.c4;have T0:=Stg.start h [] (Zu _ w);have S0:=ZI T0;have H:=ZM h hj;have HB:=ZI hB;have df:=ZI bf;have dh:=ZI bg;have dj:=ZI bh;have dm:=ZI bj;have O:=ZY ag bm Z cw;have fe:pk.size<=70000:=Qw;clear h hj hB bf bg bh bj aw ag ct bm Z cw bq de hE cz cn T0;go_enter func197,ntmps197;go_wp2;refine Zfi 2 ?_;rw[Zfn];go_wp2_with fail;refine(FD B p d n j P D L J (!J.second) 1 pk w H.1 HB.o H.2 (by rw[O.1];omega) Qw Qw Qw Qw).mono ?_;rw[df.o];rintro e w1 ⟨ev,rfl,he,C⟩;rcases he.split with ⟨hc,rfl⟩|⟨hc,b,rfl⟩
 case inr=>have F:=ZM (S0.o.Zb7 hc) (S0.o.fail he C);clear hc he C;go_wp2;go_ret;exact WN (Wp (Wp (Wp (Wp (F.1))))) (WN (Wp (Wp (Wp (F.1)))) (WN (Wp (Wp (F.1))) (WN (Wp (F.1)) (WN F.1 F.2))))
 obtain⟨P1,D1,L1,T1⟩:=S0.o.next hc C
 have S1:=ZI T1;have ee:=T1.size;have dt:=T1.few;simp only[Zb,Ze,Zes] at dt;have ah:JAt w1 j d J:=JAt.did T1.did H.1 H.2 Qx;have c0:=ah.c0;have c3:=ah.c3;have U:=ah.c4;have J1:=ZI ah;clear hc he C T1 ah;have ag:=O.1;go_wp2_with fail;rw[Zfn];clear ag;go_wp2_with fail;refine(Ke B p d n j P1 D1 L1 J (!J.second) (1+E) w1 S1.o.did.pd (Zq HB.o ee) J1.o Qw Qw Qw).mono ?_;rw[dh.o];rintro e w2 ⟨ev,rfl,he,C⟩;rcases he.split with ⟨hc,rfl⟩|⟨hc,b,rfl⟩
 case inr=>have F:=ZM (S1.o.Zb7 hc) (S1.o.fail he C);clear hc he C;go_wp2;go_ret;exact WN (Wp (Wp (Wp (F.1)))) (WN (Wp (Wp (F.1))) (WN (Wp (F.1)) (WN F.1 F.2)))
 obtain⟨P2,D2,L2,T2⟩:=S1.o.next hc C
 have S2:=ZI T2;have fg:=T2.size;have du:=T2.few;simp only[Zb,Ze,Zes] at du;have ai:JAt w2 j d J:=JAt.did T2.did H.1 H.2 Qx;have c0:=ai.c0;have c3:=ai.c3;have U:=ai.c4;have J2:=ZI ai;clear hc he C T2 ai;go_wp2_with fail;refine(FO e1 0 (str Yk) _ dq Qw (by rw[QW];decide)).mono ?_;rw[Yp,show(⟨(QO e1 0 Yk).toArray⟩:Qq)=M from O.2];rintro e ay ⟨rfl,cj⟩;have bu:=S2.o.after cj;have ae:JAt ay j d J:=JAt.after J2.o cj;have c0:=ae.c0;have c3:=ae.c3;have U:=ae.c4;have ef:=bu.size;have cy:=ZM bu ae;have Z:=O.3;clear bu ae cj;go_wp2_with fail;go_still_tail 8,Qy
 still_call (BN (U6 M _ Qw Qw))
 repeat still_step
 refine Zfw ?_;change wpList _ _ _ _ _ ay.drew;have bz:Stg B p d n L [] (A1++A2) P D w P2 D2 L2 ay.drew:=cy.1.after ((Zu _ _).drew);have az:=ZI bz;have aj:JAt ay.drew j d J:=JAt.after cy.2 ((Zu _ _).drew);have cu:=bz.size;have dp:=ZI aj;clear bz aj Z c0 c3 U;go_wp2_with fail;refine(FD B p d n j P2 D2 L2 J (!J.second) 0 (str (Yl M.data.toList)) ay.drew az.o.did.pd (Zq HB.o cu) dp.o (by rw[O.4]) (by rw[O.4];decide) Qw Qw Qw).mono ?_;rw[Yp,dj.o];rintro e w3 ⟨ev,rfl,he,C⟩;rcases he.split with ⟨hc,rfl⟩|⟨hc,b,rfl⟩
 case inr=>have F:=ZM (az.o.Zb7 hc) (az.o.fail he C);clear hc he C;go_wp2;go_ret;exact WN (Wp (Wp (F.1))) (WN (Wp (F.1)) (WN F.1 F.2))
 obtain⟨P3,D3,L3,T3⟩:=az.o.next hc C
 have S3:=ZI T3;have eh:=T3.size;have dw:=T3.few;simp only[Zb,Ze,Zes] at dw;have ak:JAt w3 j d J:=JAt.did T3.did H.1 H.2 Qx;have c0:=ak.c0;have c3:=ak.c3;have U:=ak.c4;have J3:=ZI ak;clear hc he C T3 ak;go_wp2_with fail;refine(Z9y S3.o.did.pd (Zq HB.o eh)).mono ?_;rintro e w4 ⟨ev,rfl,he,C⟩;rcases he.split with ⟨hc,rfl⟩|⟨hc,b,rfl⟩
 case inr=>have F:=ZM (S3.o.Zb7 hc) (S3.o.fail he C);clear hc he C;go_wp2;go_ret;exact WN (Wp (F.1)) (WN F.1 F.2)
 obtain⟨P4,D4,L4,T4⟩:=S3.o.next hc C
 have S4:=ZI T4;have ek:=T4.size;have dx:=T4.few;simp only[Zb,Ze,Zes] at dx;have aq:JAt w4 j d J:=JAt.did T4.did H.1 H.2 Qx;have c0:=aq.c0;have c3:=aq.c3;have U:=aq.c4;have J4:=ZI aq;clear hc he C T4 aq;have Z:=O.3;go_wp2_with fail;refine(FD B p d n j P4 D4 L4 J (!J.second) 0 M w4 S4.o.did.pd (Zq HB.o ek) J4.o (by rw[O.3]) (by rw[O.3];decide) Qw Qw Qw).mono ?_;rw[dm.o];rintro e w5 ⟨ev,rfl,he,C⟩;rcases he.split with ⟨hc,rfl⟩|⟨hc,b,rfl⟩
 case inr=>have F:=ZM (S4.o.Zb7 hc) (S4.o.fail he C);clear hc he C;go_wp2;go_ret;exact WN F.1 F.2
 obtain⟨P5,D5,L5,T5⟩:=S4.o.next hc C
 have S5:=ZI T5;have eo:=T5.size;have dy:=T5.few;simp only[Zb,Ze,Zes] at dy;have au:JAt w5 j d J:=JAt.did T5.did H.1 H.2 Qx;have c0:=au.c0;have c3:=au.c3;have U:=au.c4;have J5:=ZI au;clear hc he C T5 au;clear c3 U;go_wp2_with fail;refine(Z9y S5.o.did.pd (Zq HB.o eo)).mono ?_;rintro e w6 ⟨ev,rfl,he,C⟩;have F:=ZI (S5.o.fail he C);clear he C;go_wp2;go_ret;exact F.o
def Z3g(B p d n j:Nat)(P:Pw)(D:Dk)(L:Qj)(J:Jn)(r:Qq)(g0 c:Nat)(w:Qs)(h:PD B w p d n P D L)(hB:B<=w)(hj:JAt w j d J)(cu:B<=j)(ht:Ty w)(hg:0<B)(bu:w.cell? g0=some (.string r))(az:J.closed=false)(ag:J.Fit)(U:r.size<=60000)(bg:1+QQ r.size / 64<=J.half)(df:D.wait.length<=100000):Calls prog 137 #[j,.slice g0 1 c] w (Ans w (QH (J.ZaI r.data.toList) P D).1 (Nf B p d n j L (J.ZaI r.data.toList) (J.reset r.data.toList) {J with closed:=true} P D w)):=by
 obtain⟨j0,dh,du,dw,dx⟩:=ZE Cj;have ae:=ag;obtain⟨f1,f2,f3,f4⟩:=ag;obtain⟨E,hE⟩:∃E,QQ r.size=64*E:=⟨QQ r.size / 64,by have:=Dj r.size;omega⟩;have aw:QQ r.size / 64=E:=Qw;rw[aw] at bg;have dy:E<=1000:=by have:QQ r.size<=60100:=(by unfold QQ;omega);omega
 obtain⟨e1,bf⟩:=ZK (J.Zar+1);have ee:(J.Zar:Int)+1=(e1:Int):=Qw;have de:e1<=4000000000:=Qw;have ak:(str (QO e1 1 r.data.toList)).size=64*E:=by rw[QW,Ce,Ju,hE]
 obtain⟨pk,bj⟩:=ZK (str (QO e1 1 r.data.toList));rw[bj] at ak;have dz:((64*E:Nat):Int) / 64=(E:Int):=Qw;obtain⟨nx,cw⟩:=ZK (1+E);have ek:(1:Int)+(E:Int)=(nx:Int):=Qw;have af:J.reset r.data.toList={J with second:= !J.second,Zar:=e1,many:=1,next:=nx}:=by unfold Jn.reset;rw[Ju,aw,bf,cw]
 obtain⟨A,hA⟩:=ZK (J.ZaI r.data.toList);rw[hA,af];have c3:=hj.c3;have c4:=hj.c4;have c7:=hj.c7;rw[az] at c7;have dj:¬ (4611686018427387904:Int)<=(J.Zar:Int):=Qw;have H:=ZY h hj ht hB;have Z:=ZZ bj ak hA bf ae;have O:=ZZ h.bp h.bL hg cu az;clear h hj hE aw bj ak ht hB hA af hg cu az cw bf ae;go_enter func137,ntmps137;go_wp2;refine Zfi 2 ?_;rw[Zfn];go_wp2_with fail;refine(FO e1 1 r _ de Qw U).mono ?_;rw[show(⟨(QO e1 1 r.data.toList).toArray⟩:Qq)=pk from Z.1];rintro e w1 ⟨rfl,ay⟩;have dq:=ay.size;have cz:=ZI ay;have ak:=Z.2;clear ay;go_wp2_with (at_builtin;refine Zgq _ rfl (.tmp 45) (.tmp 47) 96 rfl w.heap.size 9 j0 _ 1 16 underlying96 dh du dw dx rfl Qw _ 0 [] rfl (ZA _ _ _ _) ⟨w1,0,none⟩ 1 1 [.string pk] rfl rfl (Ze4 (cs:= #[.string pk]) (t:=9) (fr:=(0,0)) (ZB w1 _)) (by simp[Value.oneCell']) Qw (by unfold maxLen;omega) Qw (Zq dq Qx) (w1.heap.size+1) Qx ?_;intro g cap w2 aj cr dp dm);have ah:Below w w w2:=Fr.Zbj ((((Z1 (L:=[]) cz.o).alloc _)).grown cr (λk hk=>by have h0:(none:Option Nat)=some k:=hk;cases h0));have cn:w2.cell? g=some (.string pk):=by have:=Cc (g:=g) (j:=0) aj rfl rfl;exact this
 have ct:JAt w2 j d J:=JAt.after H.2 ah;have T2:=Stg.start H.1 [j] ah;have dt:=ah.size;have M:=ZY T2 ct ah cn;have ef:¬ ((J.half:Int)-1)<(E:Int):=Qw;have eh:decide (((J.half:Int)-1)<(E:Int))=false:=by simp;omega
 clear aj cr dp dm ak ah cn ct T2 c3 c4;rw[Zfn];go_wp2_with fail;refine(PB j d J _ M.2 Qw).mono ?_;rintro e w3 ⟨rfl,rfl⟩;go_wp2_with fail;refine(UM B p d n j P D L J r.data.toList g cap w2 M.1.did.pd (Zq H.4 dt) M.2 (by rw[Z.4,M.4,<-Z.1]) Z.5 QB Qw).mono ?_;rw[Z.3];rintro e w4 ⟨ev,rfl,he,U⟩;have eo:w2<=w4.heap.size:=by obtain⟨_,q⟩:=U;exact q.fr.size
 have C:JAt w4 j d J:=by obtain⟨_,q⟩:=U;exact JAt.did q M.1.did.pd M.2 Qx
 have r3:=C.free (j:=3) Qx;have r4:=C.free (j:=4) Qx;have r5:=C.free (j:=5) Qx;have r6:=C.free (j:=6) Qx;have c3:=C.c3;have c4:=C.c4;have c5:=C.c5;have c6:=C.c6;rcases he.split with ⟨hc,rfl⟩|⟨hc,b,rfl⟩
 case inr=>have hX:=M.1.fail he U;obtain⟨L4,bm⟩:=U;have bq:Ty w4:=Ty.did (Ty.did H.3 M.1.did O.3 O.1 O.2 (by simp;exact O.4)) bm O.3 O.1 O.2 Qx;have aq:Ty (w4.setCell ⟨j,7,none⟩ (.bool true)):=Ty.set bq (by show j≠_;have:=O.3;have:=O.4;omega) _;have bh:j<w2:=Row.lt M.2;have F:=ZP hc hX he bm C;clear hc he hX bm C c3 c4 c5 c6 r3 r4 r5 r6;go_wp2_with fail;refine(NS j d J _ _ _ w4 F.2.2.2.2 F.2.2.1 bh bq aq).mono ?_;rintro e w5 ⟨v3,rfl,bz,ai,cj⟩;have H3:=ZX bz ai cj;clear bz ai cj bq aq;go_wp2;go_ret;obtain⟨_,_,_,L5,q⟩:=F.2.1;have au:j∉p::L5:=JAt.ne q.pd F.2.2.2.2;exact⟨v3,rfl,H3.1.base (by show w.heap.size<=min w2.heap.size w4.heap.size;omega),⟨L5,q.frame H3.3 (by simpa using au) Qx⟩,λh0=>absurd h0 F.1,λ_=>H3.2⟩
 have hX:=M.1.fail he U;rw[Ze3] at hX;obtain⟨_,_,_,L5,q⟩:=hX;have au:j∉p::L5:=JAt.ne q.pd C;obtain⟨W,hW⟩:=ZL ((((w4.setCell ⟨j,3,none⟩ (.bool (!J.second))).setCell ⟨j,4,none⟩ (.int .i64 e1)).setCell ⟨j,5,none⟩ (.int .i64 ((1:Nat):Int))).setCell ⟨j,6,none⟩ (.int .i64 (nx:Int)));have cy:Fr [j] w4 W:=by rw[hW];exact((((Fr.refl _ _).setCell (Zv Qx) _).setCell (Zv Qx) _).setCell (Zv Qx) _).setCell (Zv Qx) _
 have ai:JAt W j d {J with second:= !J.second,Zar:=e1,many:=1,next:=nx}:=by rw[hW];exact(((Row.set C 3 (.bool (!J.second))).set 4 (.int .i64 e1)).set 5 (.int .i64 ((1:Nat):Int))).set 6 (.int .i64 (nx:Int))
 have F:=ZO hc (q.frame cy (by simpa using au) Qx) ai hW;clear hc he U q au cy ai C hW;go_wp2;go_ret;exact⟨_,rfl,by rw[F.1];exact QK.nil _ _,⟨L5,by have:=F.2.1;rw[F.2.2.2] at this;exact this⟩,λ_=>by have:=F.2.2.1;rw[F.2.2.2] at this;exact this,λh0=>absurd F.1 h0⟩
variable{D:Dk}{a:Nat}
theorem M4{P:Pw}(ok:D.ok n)(ha:a<n):rdy P D a=WV P D:=by unfold rdy WV;rw[ok.len,ZgF _ Qw];grind
theorem Eu(ok:D.ok n)(ha:a<n):(D.reads a).size=64:=by
 have key:∀ (l:List (Nat×Qq)) (s:Qq),(∀x∈l,x.2.size=64)->s.size=64->(DI l a s).size=64:=by
  intro l
  induction l with
  |nil=>intro s _ h;exact h
  |cons x l ih=>intro s hl hs;refine ih _ (λy C=>hl y QA) ?_;grind
 refine key _ _ ok.size ?_;exact Ij D.has n a ok.len ha
def TV(D:Dk)(a k:Nat):D.text a (k+1)=D.text a k++(D.reads (a+k)).data.toList:=by unfold Dk.text;rw[ZdX,ZdY];simp
def Gi(ok:D.ok n)(a k:Nat)(h:a+k<=n):(D.text a k).length=64*k:=by
 induction k with
 |zero=>rfl
 |succ k ih=>rw[TV,Zb,ih Qw,Ju,Eu ok Qw];omega
def Ht(B p d n j:Nat)(P:Pw)(D:Dk)(L:Qj)(J:Jn)(sd:Bool)(w:Qs)(h:PD B w p d n P D L)(hj:JAt w j d J)(h1:1<=J.half)(Z:2*J.half<=n)(hr:WV P D=0):Calls prog 150 #[j,sd] w λe w'=>e=.returned (.tuple #[.string (str (D.text (J.at_ sd 0) J.half)),.nilIface])/\Below w w w':=by
 have⟨i0,hi,bq,bu,bz⟩:=ZE Be;have:=h.ok.n2;have ok:=h.ok;have⟨a,ha⟩:=ZK (J.at_ sd 0);have af:∀k,J.at_ sd k=a+k:=λk=>by rw[<-ha];unfold Jn.at_;split<;>omega
 have bj:a+J.half<=n:=by rw[<-ha];unfold Jn.at_;split<;>omega
 have:J.half<=10000:=Qw;have c2:=hj.c2;rw[ha];have H:=ZM h hj;have F:=ZY af hr ok ha;clear h hj af hr ok ha;go_enter func150,ntmps150;go_wp2;go_loopw [6,14] (λbv i wr=>∃k:Nat,k<=J.half/\i=(k:Int)/\wr.ownsRow w 5 1 bv (64*k) (QJ (D.text a k))/\Below w w wr) (λ_ i _=>J.half- (intOf i).toNat)
 .exact⟨0,Qw,rfl,ZA _ _ _ _,Zu _ _⟩
 obtain⟨k,hk,rfl,O,hb⟩:=hrel;have U:=JAt.after H.2 hb;have k0:=U.c0;clear c2;by_cases cn:k<J.half
 .have HO:=ZX O hb U;have:=hb.size;clear O hb U;go_wp2;have aw:Below w w wr.drew:=HO.2.drew;have C:=ZI aw;clear aw;have au:rdy P D ((a+k:Nat):Int)=0:=by rw[M4 F.3 Qw];exact F.2
  have⟨X,hX⟩:=ZK (AH P D ((a+k:Nat):Int));have aj:X=D.reads (a+k):=by rw[<-hX];unfold AH;rw[Zx au];rfl
  have bm:X.size=64:=by rw[aj];exact Eu F.3 Qw
  have bh:=ZI au;have HX:=ZM hX aj;clear au hX aj;go_region_held3 (λw'=>w'.cell? j=d) (first|assumption|exact S1.2.c0)
   (first|((go_at_call 212;go_fit (Hk j d J sd k _ (JAt.after H.2 C.o) Qw Qw);rintro e w1 ⟨rfl,rfl⟩))|((go_at_call 73;refine(PD.read (H.1.after C.o) ((J.at_ sd k:Nat):Int)).mono ?_;rw[F.1,HX.1];rintro e w1 ⟨ev,rfl,he,ak⟩;rw[bh.o] at he;obtain rfl:=he.zero;have S1:=ZM ak (JAt.after (JAt.after H.2 C.o) ak);clear he ak)))
  have aq:Below w w w1:=C.o.trans (S1.1.mono C.o.size);have az:w1.ownsRow w 5 1 _ (64*k) (QJ (D.text a k)):=B1 (B1 HO.1 ((Zu _ _).drew)) S1.1;have M:=ZX aq az HX.2;have:=aq.size;clear aq az;go_wp2_with (at_builtin;refine ZeV _ rfl (.tmp 32) (.tmp 33) 75 9 rfl w.heap.size 5 i0 underlying75 underlying9 hi bq bu bz _ (64*k) (QJ (D.text a k)) rfl M.2 X rfl (by unfold maxLen;omega) Qw M.1.size ?_;intro v' w2 ae ag ah;clear ah;have bg:=ZI ae;have bf:=ZI ag;clear ae ag);go_roundw
  .refine⟨k+1,Qw,QC,?_,?_⟩
   .have Z:=bg.o;rw[show Lib.strCells X=QJ X.data.toList from by simp[Lib.strCells,QJ],<-F4,bm,M.3,<-TV] at Z;omega
   .have hf:Fr [] w w1:=Z1 M.1;have Z:Fr [] w w2:=hf.grown bf.o (λg hg=>Zy (AF M.2 hg));exact Z.Zbj
  simp[intOf];omega
 .obtain rfl:k=J.half:=by omega
  obtain⟨g,cap,sp,rfl,cj,_,_,ai⟩:=Xf O Qw;have hl:=Gi F.3 a J.half bj;have:=BJ (P:=prog) wr 75 9 5 underlying75 underlying5 underlying9 ai 0 (64*J.half) cap (D.text a J.half) hl (by rw[Zey,Ze6 (by rw[Wd,hl];exact Zt _)];exact Zi (by rw[Wd,hl];exact Zt _));have HB:=ZI hb;clear O ai hb U hl k0;go_wp2;go_ret2;exact⟨rfl,HB.o⟩
def Z3D(B p d n j:Nat)(P:Pw)(D:Dk)(L:Qj)(J:Jn)(sd:Bool)(w:Qs)(h:PD B w p d n P D L)(M:JAt w j d J)(h1:1<=J.half)(h2:2*J.half<=n)(hr:WV P D≠0):Calls prog 150 #[j,sd] w λe w'=>∃b,e=.returned (.tuple #[.string ⟨#[]⟩,.iface 139 (b:Nat)])/\QK w' w (WV P D) (.iface 139 (b:Nat))/\Below w w w':=by
 have:=h.ok.n2;have ok:=h.ok;have Z:J.at_ sd 0<n:=by unfold Jn.at_;split<;>omega
 have c2:=M.c2;have:=M.c0;have H:=ZM h M;have O:=ZM hr ok;go_enter func150,ntmps150;go_wp2;go_loopw [6,14] (λbv i wr=>bv=.slice none 0 0/\i=((0:Nat):Int)/\w=wr) (λ_ _ _=>0)
 .exact⟨rfl,rfl,rfl⟩
 obtain⟨rfl,rfl,rfl⟩:=hrel;go_wp2;have ae:Below w w w.drew:=(Zu _ _).drew;have C:=ZI ae;have af:rdy P D ((J.at_ sd 0:Nat):Int)=WV P D:=M4 O.2 Z;have U:=ZI af;go_region_held3 (λw'=>w'.cell? j=d) (first|assumption|exact S1.2.c0)
  (first|((go_at_call 212;go_fit (Hk j d J sd 0 _ (JAt.after H.2 C.o) Qw Qw);rintro e w1 ⟨rfl,rfl⟩))|((go_at_call 73;go_fit (PD.read (H.1.after C.o) ((J.at_ sd 0:Nat):Int));rintro e w1 ⟨ev,rfl,he,F⟩;rw[U.o] at he;obtain⟨b,rfl⟩:=(he.split.resolve_left (λh=>O.1 h.1)).2;have S1:=ZM F (JAt.after (JAt.after H.2 C.o) F);have S2:=ZI he;clear he F)))
 go_wp2;go_ret2;exact⟨b,rfl,S2.o,C.o.trans (S1.1.mono C.o.size)⟩
def beV(l:Bs):Nat:=l.foldl (λe c=>e*256+c.toNat) 0
def ND(l:Bs)(c:UInt8):beV (l++[c])=beV l*256+c.toNat:=by simp[beV,Zeh]
def RU(E c:Nat)(hc:c<256)(h:E<=18014398509481984):bits .or .i64 ((E:Int)*256) (c:Int)=((E*256+c:Nat):Int):=by have e1:(E:Int)*256=((E*2^8:Nat):Int):=Qw;rw[e1,Pq _ _ Qw Qw,<-Zfk,Zfo (show c<2^8 from Qw)]
def VG(E:Nat)(i:Nat)(h:E<=3000000000):beV ((QI (E / 4294967296)++QI E).take i)<=3000000000:=by
 have e0:E / 4294967296=0:=Qw;rw[e0];simp[QI]
 match i with
 |0|1|2|3|4=>simp[beV]
 |5=>simp[beV];omega
 |6=>simp[beV];omega
 |7=>simp[beV];omega
 |i+8=>simp[beV];omega
def VF(E:Nat)(h:E<=3000000000):beV ((QI (E / 4294967296)++QI E).take 8)=E:=by simp[QI,beV];omega
theorem KG(s:Qq)(w:Qs)(hs:64<=s.size)(hm:s.size<=10000000)(h0:s.data.toList.getD 0 0≠1):Calls prog 152 #[.string s] w λe w'=>e=.returned (0:Int)/\Below w w w':=by
 obtain⟨t,ht⟩:=ZK (s.extract 12 20);have M:t.size=8:=by rw[<-ht,ZdU];omega
 obtain⟨q,hq⟩:=ZK (s.extract 0 64);have J:q.data.toList.getD 0 0≠1:=by rw[<-hq,Zet,Zey];grind
 have Z:=ZM ht M;have HQ:=ZM hq J;clear M J h0;go_enter func152,ntmps152;go_wp2_with (refine MX rfl 9 75 5 (.tmp 10) rfl t rfl underlying9 underlying75 underlying5 ?_;intro g cap r w1 aw ag aj ah);rw[Z.2];have C:=ZM ag ah;have ay:t.data.toList.length=8:=by rw[Ju];exact Z.2
 go_loopw [3,13] (λev iv wr=>∃i:Nat,i<=8/\iv=(i:Int)/\ev=.int .i64 (beV (t.data.toList.take i):Nat)/\beV (t.data.toList.take i)<=4611686018427388159/\w1=wr) (λ_ iv _=>8- (intOf iv).toNat)
 .exact⟨0,Qw,rfl,rfl,by simp[beV],rfl⟩
 obtain⟨i,hi,rfl,rfl,hE,rfl⟩:=hrel;by_cases az:i<8
 .obtain⟨u,hu⟩:=ZK (t.data.toList[i]'(Qw));have ae:w1.cell? ⟨g,i,none⟩=some (.int .u8 (u.toNat:Int)):=by rw[<-hu];refine C.1.cell ?_;rw[Za (by rw[Wd];omega)];exact Bq _ i Qw
  have aq:t.data.toList.take (i+1)=t.data.toList.take i++[u]:=by rw[Zc Qw,hu]
  have O:=u.toNat_lt;obtain⟨c,hc⟩:=ZK u.toNat;obtain⟨E,F⟩:=ZK (beV (t.data.toList.take i));have ak:beV (t.data.toList.take (i+1))=E*256+c:=by rw[aq,ND,F,hc]
  rw[hc] at ae O;have U:=ZM ak F;by_cases af:E<=18014398509481984
  .have h2:¬ (18014398509481984:Int)<(E:Int):=(by omega);have bf:=RU E c O af;go_wp2;exact⟨⟨i+1,Qw,QC,by rw[U.1];exact Bf Qw,by rw[U.1];omega,trivial⟩,by simp[intOf];omega⟩
  .have h2:(18014398509481984:Int)<(E:Int):=(by omega);go_wp2;go_ret;exact⟨rfl,C.2⟩
 .obtain rfl:i=8:=by omega
  obtain⟨E,F⟩:=ZK (beV (t.data.toList.take 8));go_wp2_with fail;refine(U7 q E 0 _ (Zy HQ.2)).mono ?_;rintro e w2 ⟨v,rfl,hv,au,ai⟩;obtain⟨b,rfl⟩:=(hv.split.resolve_left (λh=>au h.2)).2;have HB:=ZI (C.2.trans (ai.mono C.2.size));go_wp2;go_ret;exact⟨rfl,HB.o⟩
def KH(s:Qq)(h:Nat)(rest:Bs)(w:Qs)(hm:s.size<=10000000)(C:s.data.toList=QO h 0 Yk++rest)(aj:h<=3000000000):Calls prog 152 #[.string s] w λe w'=>e=.returned (h:Int)/\Below w w w':=by
 have hs:64<=s.size:=by rw[<-Ju,C,Zb,Xw];omega
 have O:(s.extract 12 20).data.toList=QI (h / 4294967296)++QI h:=by rw[Zet,C];rfl
 have J:∀i,i<=8->beV ((s.extract 12 20).data.toList.take i)<=3000000000:=λi hi=>by rw[O];exact VG h i aj
 have F:beV ((s.extract 12 20).data.toList.take 8)=h:=by rw[O];exact VF h aj
 obtain⟨t,ht⟩:=ZK (s.extract 12 20);have au:t.size=8:=by rw[<-ht,ZdU];omega
 obtain⟨q,hq⟩:=ZK (s.extract 0 64);have M:q.data.toList=QO h 0 Yk++[]:=by rw[<-hq,Zet,Zey,C,ZdJ,Ze6 (by rw[Xw];exact Zt _),Zi (by rw[Xw];exact Zt _)]
 have bz:q.size=64:=by rw[<-Ju,M,ZdJ,Xw]
 rw[ht] at J F;have ai:=ZM J F;clear O J F C;have bh:(20:Int)<=s.size:=Qw;have bj:(64:Int)<=s.size:=Qw;have HT:=ZM ht au;have HQ:=ZM hq M;clear au M;go_enter func152,ntmps152;go_wp2_with (refine MX rfl 9 75 5 (.tmp 10) rfl t rfl underlying9 underlying75 underlying5 ?_;intro g cap r w1 az af ah aq);rw[HT.2];have Z:=ZM af aq;have bm:t.data.toList.length=8:=by rw[Ju];exact HT.2
 clear af aq ah az;go_loopw [3,13] (λev iv wr=>∃i:Nat,i<=8/\iv=(i:Int)/\ev=.int .i64 (beV (t.data.toList.take i):Nat)/\beV (t.data.toList.take i)<=4611686018427388159/\w1=wr) (λ_ iv _=>8- (intOf iv).toNat)
 .exact⟨0,Qw,rfl,rfl,by simp[beV],rfl⟩
 obtain⟨i,hi,rfl,rfl,hE,rfl⟩:=hrel;by_cases bq:i<8
 .obtain⟨u,hu⟩:=ZK (t.data.toList[i]'(Qw));have ae:w1.cell? ⟨g,i,none⟩=some (.int .u8 (u.toNat:Int)):=by rw[<-hu];refine Z.1.cell ?_;rw[Za (by rw[Wd];omega)];exact Bq _ i Qw
  have bg:t.data.toList.take (i+1)=t.data.toList.take i++[u]:=by rw[Zc Qw,hu]
  have aw:=u.toNat_lt;obtain⟨c,hc⟩:=ZK u.toNat;obtain⟨E,ak⟩:=ZK (beV (t.data.toList.take i));have bf:beV (t.data.toList.take (i+1))=E*256+c:=by rw[bg,ND,ak,hc]
  rw[hc] at ae aw;have U:=ZM bf ak;have ag:E<=18014398509481984:=by have:=ai.1 i Qw;rw[U.2] at this;omega
  .have h2:¬ (18014398509481984:Int)<(E:Int):=(by omega);have bu:=RU E c aw ag;go_wp2;exact⟨⟨i+1,Qw,QC,by rw[U.1];exact Bf Qw,by rw[U.1];omega,trivial⟩,by simp[intOf];omega⟩
 .obtain rfl:i=8:=by omega
  rw[ai.2];go_wp2_with fail;refine(U8 q h 0 Yk [] _ HQ.2 Qw Qw Qz Qw).mono ?_;rintro e w2 ⟨rfl,ay⟩;have HB:=ZI (Z.2.trans (ay.mono Z.2.size));go_wp2;go_ret;exact⟨rfl,HB.o⟩
variable{base g size:Nat}{l xs:List Value}{rest t:Bs}{rs:List Bs}{v:Value}
def Ch{P:Program}(T:Qu)(h:P.underlying T=some .string)(s:Qq)(n:Nat)(C:n<=s.size)(W:Qs):(Instr.slice T (.string s) (some (.int .i64 (n:Int))) none none).run P W=.ok (.string (s.extract n s.size)) W:=by rw[run_slice_string_from_if W T s .i64 n h,Zx ⟨Qw,Qw⟩];simp
def Z5C(e m:Nat)(a b:List Bs):Xg e m (a++b)=Xg e m a++Xg e (m+a.length) b:=by
 induction a generalizing m with
 |nil=>rfl
 |cons x a ih=>rw[Zef,Xg,Xg,ih,Zd,Ze,show m+1+a.length=m+(a.length+1) from Qw]
def St(e m:Nat)(a:List Bs):(Xg e m a).length=64*Yf a:=by
 induction a generalizing m with
 |nil=>rfl
 |cons x a ih=>rw[Xg,Zb,Ce,ih,show Yf (x::a)=QQ x.length / 64+Yf a from rfl];have:=Dj x.length;omega
def Z2o{e:Nat}(h:t=QO e 0 Yk++(Xg e 0 rs++rest))(k:Nat)(C:k<rs.length):t.drop (64*(1+Yf (rs.take k)))=QO e (k+1) (rs.getD k [])++(Xg e (k+1) (rs.drop (k+1))++rest):=by
 have e1:rs=rs.take k++(rs.getD k []::rs.drop (k+1)):=QB;have e2:Xg e 0 rs=Xg e 0 (rs.take k)++(QO e (k+1) (rs.getD k [])++Xg e (k+1) (rs.drop (k+1))):=by
  conv=>lhs;rw[e1]
  rw[Z5C,Zg,ZeN Qw,Ze5];rfl
 rw[h,e2];have hl:(QO e 0 Yk++Xg e 0 (rs.take k)).length=64*(1+Yf (rs.take k)):=by rw[Zb,Xw,St];omega
 rw[<-hl,Zd,Zd,<-Zd (QO e 0 Yk),Zfm]
theorem Z2p{e:Nat}(h:t=QO e 0 Yk++(Xg e 0 rs++rest)):t.drop (64*(1+Yf rs))=rest:=by
 have:(QO e 0 Yk++Xg e 0 rs).length=64*(1+Yf rs):=by rw[Zb,Xw,St];omega
 grind
def ET(t:Bs)(e:Nat):Prop:=t.getD 0 0≠1∨∃e' rest,e'<e/\t=QO e' 0 Yk++rest
def Oy(s:Qq)(e:Nat)(w:Qs)(hs:64<=s.size)(hm:s.size<=10000000)(h:ET s.data.toList e)(he:e<=3000000000)(M:1<=e):Calls prog 152 #[.string s] w λr w'=>∃x:Nat,r=.returned (x:Int)/\x<e/\Below w w w':=by
 rcases h with h|⟨F,rest,J,h⟩
 .exact(KG s w hs hm h).mono λr w' ⟨C,hb⟩=>⟨0,C,Qw,hb⟩
 .exact(KH s F rest w hm h Qw).mono λr w' ⟨C,hb⟩=>⟨F,C,J,hb⟩
structure JRd(D:Dk)(J:Jn)(rs:List Bs):Prop where
 on:N7 (D.text (J.at_ J.second 0) J.half) J.Zar rs
 off:ET (D.text (J.at_ (!J.second) 0) J.half) J.Zar
 many:J.many=rs.length
 next:J.next=1+Yf rs
 e1:1<=J.Zar
 e2:J.Zar<=3000000000
 fits:1+Yf rs<=J.half
 small:∀r∈rs,r.length<=60000
 closed:J.closed=false
def Z5D(rs:List Bs)(k:Nat)(h:k<rs.length):Yf (rs.take (k+1))=Yf (rs.take k)+QQ (rs.getD k []).length / 64:=by rw[Zc h,M7,Z7,Z8 h];rfl
def Su(rs:List Bs)(k:Nat):Yf (rs.take k)<=Yf rs:=by
 conv=>rhs;rw[<-ZdH k rs]
 rw[M7];omega
theorem Lk(rs:List Bs):rs.length<=Yf rs:=by
 induction rs with
 |nil=>exact ZeT _
 |cons x rs ih=>have:=Fj x.length;have:Yf (x::rs)=QQ x.length / 64+Yf rs:=rfl;grind
def NA(half:Nat):Jn.at_ ⟨half,false,0,0,1,false⟩ true 0=half:=by simp[Jn.at_]
def Z3d(B p d n:Nat)(P:Pw)(D:Dk)(L:Qj)(half:Nat)(w:Qs)(h:PD B w p d n P D L)(ht:Ty w)(h1:2<=half)(U:2*half<=n)(hr:WV P D≠0):Calls prog 108 #[d,(0:Int),((2*half:Nat):Int)] w λe w'=>∃b,e=.returned (.tuple #[.pointer none,(),.iface 139 (b:Nat)])/\QK w' w (WV P D) (.iface 139 (b:Nat))/\Below w w w':=by have H:=ZX h ht hr;go_enter func108,ntmps108;go_wp2_with fail;refine(Hl B p d n P D L half w H.1 h1 U).mono ?_;rintro e w1 ⟨j,rfl,ah,ae,F⟩;have S1:=ZM ae F;have ag:=F.size;go_wp2_with fail;refine(Z3D B p d n j P D L ⟨half,false,0,0,1,false⟩ false w1 (H.1.after S1.2) S1.1 (show 1<=half by omega) U H.3).mono ?_;rintro e w2 ⟨b,rfl,he,J⟩;have C:=ZM he (S1.2.trans (J.mono ag));have af:Ty w2:=H.2.below C.2;have ai:=J.size;go_wp2_with fail;refine(IM _ _ _ _ C.1 af).mono ?_;rintro e w3 ⟨v3,rfl,M,Z⟩;obtain⟨b3,rfl⟩:=(M.split.resolve_left (λh=>H.3 h.1)).2;have O:=ZM M Z;go_wp2;go_ret3;exact⟨b3,rfl,O.1.base Qw,C.2.trans (O.2.mono Qw)⟩
def Z3e(B p d n:Nat)(P:Pw)(D:Dk)(L:Qj)(half:Nat)(w:Qs)(h:PD B w p d n P D L)(h1:2<=half)(h2:2*half<=n)(hr:WV P D=0)(ha:(D.text 0 half).getD 0 0≠1)(au:(D.text half half).getD 0 0≠1):Calls prog 108 #[d,(0:Int),((2*half:Nat):Int)] w λe w'=>∃b,e=.returned (.tuple #[.pointer none,(),.iface 139 (b:Nat)])/\QK w' w 15 (.iface 139 (b:Nat))/\Below w w w':=by
 have hn:=h.ok.n2;have bf:(D.text 0 half).length=64*half:=Gi h.ok 0 half Qw;have bg:(D.text half half).length=64*half:=Gi h.ok half half Qw;obtain⟨C,U⟩:=ZK (str (D.text 0 half));obtain⟨F,Z⟩:=ZK (str (D.text half half));have za:C.size=64*half:=by rw[<-U,QW,bf]
 have zb:F.size=64*half:=by rw[<-Z,QW,bg]
 have da:C.data.toList.getD 0 0≠1:=by rw[<-U,Yp];exact ha
 have db:F.data.toList.getD 0 0≠1:=by rw[<-Z,Yp];exact au
 have H:=ZM h hr;have J:=Q0 U Z za zb da db;have bm:64<=C.size/\C.size<=10000000/\64<=F.size/\F.size<=10000000:=Qw;have M:=ZI bm;go_enter func108,ntmps108;go_wp2_with fail;refine(Hl B p d n P D L half w H.1 h1 h2).mono ?_;rintro e w1 ⟨j,rfl,aw,ay,aj⟩;have S1:=ZX ay aj aw;have bh:=aj.size;go_wp2_with fail;refine(Ht B p d n j P D L ⟨half,false,0,0,1,false⟩ false w1 (H.1.after S1.2) S1.1 (show 1<=half by omega) h2 H.2).mono ?_;rw[show str (D.text (Jn.at_ ⟨half,false,0,0,1,false⟩ false 0) half)=C from J.1];rintro e w2 ⟨rfl,ae⟩;have O:=ZM (JAt.after S1.1 ae) (S1.2.trans (ae.mono bh));have bu:=ae.size;go_wp2_with fail;refine(Ht B p d n j P D L ⟨half,false,0,0,1,false⟩ true w2 (H.1.after O.2) O.1 (show 1<=half by omega) h2 H.2).mono ?_;rw[NA half,J.2];rintro e w3 ⟨rfl,af⟩;have S3:=ZM (JAt.after O.1 af) (O.2.trans (af.mono Qw));have bz:=af.size;go_wp2_with fail;refine(KG C w3 M.1 M.2.1 J.5).mono ?_;rintro e w4 ⟨rfl,ak⟩;have ah:=JAt.after S3.1 ak;have r4:=ah.free (j:=4) Qx;have c4:=ah.c4;have az:Below w w4 (w4.setCell ⟨j,4,none⟩ (.int .i64 0)):=(Zu _ _).setCell S1.3 _;have ai:JAt (w4.setCell ⟨j,4,none⟩ (.int .i64 0)) j d ⟨half,false,0,0,1,false⟩:=Row.set ah 4 (.int .i64 0);have S4:=ZM ai ((S3.2.trans (ak.mono Qw)).trans az);go_wp2_with fail;refine(KG F _ M.2.2.1 M.2.2.2 J.6).mono ?_;rintro e w5 ⟨rfl,ag⟩;have ai:=JAt.after S4.1 ag;have bq:=ai.c4;have bj:=S4.2.size;have S5:=ZI (S4.2.trans (ag.mono bj));have cj:=ag.size;go_wp2_with fail;refine(PA 15 Qw _).mono ?_;rintro e w6 ⟨b,rfl,he,aq⟩;have S6:=ZM he aq;go_wp2;go_ret3;exact⟨b,rfl,S6.1.base Qw,S5.o.trans (S6.2.mono Qw)⟩
def Hp:Qt->Nat
 |.slice _ n _=>n
 |_=>0
def LQ(h:w.ownsRow base e size v n xs):Hp v=n:=by
 rcases h.2 with ⟨rfl,C⟩|⟨g,cap,cur,rfl,_⟩
 .have:=h.1;simp[Hp];omega
 .rfl
def Ez{row:Option Nat}(h:Row w g e l)(C:w.grownBy w' row)(F:row≠some g):Row w' g e l:=by have hl:=h.lt;have⟨f,hh,hb⟩:=h;exact⟨f,(C.block g hl (λe=>F e.symm)).trans hh,hb⟩
def DC{C:Qu}(h:Row w g e l)(F:w.ownsRow base C size v n xs)(he:e≠C):v.ownBlock≠some g:=Row.Zbk h F he
structure Ng(w:Qs)(d:Nat)(J:Jn)(rs:List Bs)(jv lv:Qt)(w':Qs):Prop where
 jn:∃j,jv=.pointer (j:Nat)/\w.heap.size<=j/\JAt w' j d J
 Zau:w'.ownsRow w 9 1 lv rs.length (QS (rs.map str))
 below:Below w w w'
def Z2c(rs:List Bs)(k:Nat)(h:k<rs.length):QS ((rs.take (k+1)).map str)=QS ((rs.take k).map str)++[.string (str (rs.getD k []))]:=by rw[Zc h,Zo,Z7,Z8 h];simp[QS]
def PI(B p d n:Nat)(P:Pw)(D:Dk)(L:Qj)(J:Jn)(rs:List Bs)(w:Qs)(h:PD B w p d n P D L)(h1:2<=J.half)(h2:2*J.half<=n)(hr:WV P D=0)(hj:JRd D J rs):Calls prog 108 #[d,(0:Int),((2*J.half:Nat):Int)] w λe w'=>∃jv lv,e=.returned (.tuple #[jv,lv,.nilIface])/\Ng w d J rs jv lv w':=by
 obtain⟨j0,ig,ix,iy,iz⟩:=ZE Cj;obtain⟨half,second,Zar,many,next,closed⟩:=J;obtain⟨F,ae,aq,au,eo,cr,cu,ah,fo⟩:=hj;simp only at h1 h2 aq au eo cr cu fo F ae;subst aq au fo;have hn:=h.ok.n2;have fw:(D.text 0 half).length=64*half:=Gi h.ok 0 half Qw;have fx:(D.text half half).length=64*half:=Gi h.ok half half Qw;obtain⟨Ta,ee⟩:=ZK (str (D.text 0 half));obtain⟨Tb,ef⟩:=ZK (str (D.text half half));have za:Ta.size=64*half:=by rw[<-ee,QW,fw]
 have zb:Tb.size=64*half:=by rw[<-ef,QW,fx]
 have a0:∀s,Jn.at_ ⟨half,second,Zar,rs.length,1+Yf rs,false⟩ s 0=if s then half else 0:=λs=>by cases s<;>simp[Jn.at_]
 rw[a0] at F ae;have H:=ZM h hr;have HT:=ZY ee ef za zb;have gj:64<=Ta.size/\Ta.size<=10000000/\64<=Tb.size/\Tb.size<=10000000:=Qw;have HZ:=ZI gj;have HC:=ZM F ae;have HS:=ZI ah;clear h hr ee ef za zb fw fx gj F ae a0 ah;go_enter func108,ntmps108;go_wp2_with fail;refine(Hl B p d n P D L half w H.1 h1 h2).mono ?_;rintro e w1 ⟨j,rfl,fp,fq,ek⟩;have S1:=ZX fq ek fp;have iu:=ek.size;clear fp fq ek;go_wp2_with fail;refine(Ht B p d n j P D L ⟨half,false,0,0,1,false⟩ false w1 (H.1.after S1.2) S1.1 (show 1<=half by omega) h2 H.2).mono ?_;rw[show str (D.text (Jn.at_ ⟨half,false,0,0,1,false⟩ false 0) half)=Ta from HT.1];rintro e w2 ⟨rfl,dw⟩;have S2:=ZM (JAt.after S1.1 dw) (S1.2.trans (dw.mono iu));have je:=dw.size;clear dw;go_wp2_with fail;refine(Ht B p d n j P D L ⟨half,false,0,0,1,false⟩ true w2 (H.1.after S2.2) S2.1 (show 1<=half by omega) h2 H.2).mono ?_;rw[NA half,HT.2];rintro e w3 ⟨rfl,dx⟩;have S3:=ZM (JAt.after S2.1 dx) (S2.2.trans (dx.mono Qw));have jf:=dx.size;clear dx;cases second
 case' false=>
  obtain⟨F,ae⟩:=HC.o;simp only[ZfL,Zh3,Bool.not_false,ZgV] at F ae;obtain⟨rest,F,dp⟩:=F;have hT:Ta.data.toList=QO Zar 0 Yk++(Xg Zar 0 rs++rest):=by rw[<-HT.1];exact F
  have dq:ET Tb.data.toList Zar:=by rw[<-HT.2];exact ae
  have dt:=ZX dp hT dq;have zT:=HT.3;clear F ae dp dq;go_wp2_with fail;refine(KH Ta Zar _ w3 HZ.2.1 hT cr).mono ?_;rintro e w4 ⟨rfl,bf⟩;have aj:=JAt.after S3.1 bf;have r4:=aj.free (j:=4) Qx;have c4:=aj.c4;have bu:Below w w4 (w4.setCell ⟨j,4,none⟩ (.int .i64 Zar)):=(Zu _ _).setCell S1.3 _;have M:JAt (w4.setCell ⟨j,4,none⟩ (.int .i64 Zar)) j d ⟨half,false,Zar,0,1,false⟩:=Row.set aj 4 (.int .i64 Zar);have S4:=ZM M ((S3.2.trans (bf.mono Qw)).trans bu);clear aj bu M bf;have du:=ZI hT;clear hT;go_wp2_with fail;refine(Oy Tb Zar _ HZ.2.2.1 HZ.2.2.2 dt.3 cr eo).mono ?_;rintro e w5 ⟨x,rfl,hx,bg⟩;have M:=JAt.after S4.1 bg;have ia:=M.c4;have fa:=S4.2.size;have S6:=ZM M (S4.2.trans (bg.mono fa));have iq:¬ (Zar:Int)<(x:Int):=Qw;have ir:((Zar:Int)==0)=false:=by simp;omega
  clear M bg c4 r4;have hT:=du.o;go_wp2;obtain⟨sd,bq⟩:=ZL false;have SD:=ZX bq (show JAt _ j d ⟨half,sd,Zar,0,1,false⟩ from by rw[bq];exact S6.1) S6.2;obtain⟨TT,dz⟩:=ZL Ta;subst dz;clear bq S6
 case' true=>
  obtain⟨F,ae⟩:=HC.o;simp only[Bool.not_true,ZfL,Zh3,ZgV] at F ae;obtain⟨rest,F,dp⟩:=F;have hT:Tb.data.toList=QO Zar 0 Yk++(Xg Zar 0 rs++rest):=by rw[<-HT.2];exact F
  have dq:ET Ta.data.toList Zar:=by rw[<-HT.1];exact ae
  have dt:=ZX dp hT dq;have zT:=HT.4;clear F ae dp dq;have du:=ZI hT;clear hT;go_wp2_with fail;refine(Oy Ta Zar w3 HZ.1 HZ.2.1 dt.3 cr eo).mono ?_;rintro e w4 ⟨x,rfl,hx,bf⟩;have aj:=JAt.after S3.1 bf;have r4:=aj.free (j:=4) Qx;have c4:=aj.c4;have bu:Below w w4 (w4.setCell ⟨j,4,none⟩ (.int .i64 x)):=(Zu _ _).setCell S1.3 _;have M:JAt (w4.setCell ⟨j,4,none⟩ (.int .i64 x)) j d ⟨half,false,x,0,1,false⟩:=Row.set aj 4 (.int .i64 x);have S4:=ZM M ((S3.2.trans (bf.mono Qw)).trans bu);clear aj bu M bf;go_wp2_with fail;refine(KH Tb Zar _ _ HZ.2.2.2 du.o cr).mono ?_;rintro e w5 ⟨rfl,bg⟩;have M:=JAt.after S4.1 bg;have ia:=M.c4;have ji:=M.free (j:=4) Qx;have jh:=M.free (j:=3) Qx;have j7:=M.c3;have fa:=S4.2.size;have er:JAt ((w5.setCell ⟨j,4,none⟩ (.int .i64 Zar)).setCell ⟨j,3,none⟩ (.bool true)) j d ⟨half,true,Zar,0,1,false⟩:=(Row.set M 4 (.int .i64 Zar)).set 3 (.bool true);have fj:Below w w ((w5.setCell ⟨j,4,none⟩ (.int .i64 Zar)).setCell ⟨j,3,none⟩ (.bool true)):=((S4.2.trans (bg.mono fa)).setCell S1.3 _).setCell S1.3 _;have S6:=ZM er fj;have j8:=er.c4;have iq:(x:Int)<(Zar:Int):=Qw;have ir:((Zar:Int)==0)=false:=by simp;omega
  clear M bg er fj c4 r4;have hT:=du.o;go_wp2;obtain⟨sd,bq⟩:=ZL true;have SD:=ZX bq (show JAt _ j d ⟨half,sd,Zar,0,1,false⟩ from by rw[bq];exact S6.1) S6.2;obtain⟨TT,dz⟩:=ZL Tb;subst dz;clear bq S6
 all_goals
  go_loopw [14] (λlv wr=>∃k:Nat,k<=rs.length/\wr.ownsRow w 9 1 lv k (QS ((rs.take k).map str))/\JAt wr j d ⟨half,sd,Zar,k,1+Yf (rs.take k),false⟩/\Below w w wr) (λlv _=>rs.length-Hp lv)
  .exact⟨0,Qw,ZA _ _ _ _,SD.2,SD.3⟩
  have jd:=Lk rs;obtain⟨k,hk,bm,cy,hb⟩:=hrel;obtain⟨C,aw⟩:=ZK (1+Yf (rs.take k));rw[aw] at cy;have c2:=cy.c2;have c6:=cy.c6;have hle:=Su rs k;have fu:=LQ bm;have gy:=hb.size;have HO:=ZX bm cy hb;have HK:=ZM aw fu;have ik:C<=half:=Qw;clear bm cy hb fu;by_cases df:k<rs.length
  .obtain⟨R,hR⟩:=ZK (rs.getD k []);have bz:=Z5D rs k df;have ew:=Su rs (k+1);rw[hR] at bz;have im:=Fj R.length;have ib:R.length<=60000:=by rw[<-hR,Z7,Z8 df];exact HS.o _ (Zl df)
   obtain⟨E,hE⟩:∃E,QQ R.length=64*E:=⟨QQ R.length / 64,by have:=Dj R.length;omega⟩;have fg:QQ R.length / 64=E:=Qw;rw[fg] at bz im;have j9:E<=1000:=by have:QQ R.length<=60100:=(by unfold QQ;omega);omega
   obtain⟨n1,jb⟩:=ZK (C+E);have dh:1+Yf (rs.take (k+1))=n1:=Qw;have dm:(C:Int)<(half:Int):=Qw;have ak:decide ((C:Int)<(half:Int))=true:=(by simpa using dm);have eh:=Z2o hT k df;rw[aw,hR] at eh;have ez:=Z2c rs k df;rw[hR] at ez;have HN:=ZY dh eh ez hE;have F:=HO.1;clear hle ew bz dh eh ez hE fg hR aw;go_wp2_with fail;go_quiet (fail);obtain⟨O,ai⟩:=ZL (wr.drewN nq);rw[<-ai];have af:Below wr wr O:=by rw[ai];exact YE (Zu _ _) nq
   have Z:=ZN (B1 HO.1 af) (JAt.after HO.2 af) (HO.3.trans (af.mono gy));have jg:=af.size;clear ai af c2 c6;go_wp2_with fail;have d4:=Z.2.1.c4;have d5:=Z.2.1.c5;have d6:=Z.2.1.c6;obtain⟨o,ho⟩:=ZK (64*C);have fc:IntKind.i64.wrap ((C:Int)*64)=(o:Int):=by rw[Zr _ Qw];omega
   obtain⟨k1,de⟩:=ZK (k+1);have fe:IntKind.i64.wrap (k1:Int)=(k1:Int):=Zr _ Qw;have q3:(0:Int)<=(o:Int):=Qw;have q4:(o:Int)<=(TT.size:Int):=Qw;have q5:o<=TT.size:=Qw;have q6:¬TT.size=o:=Qw;have q7:(o:Int).toNat=o:=Qw;have ft:(k:Int)+1=(k1:Int):=Qw;have eu:k1<=4000000000:=Qw;have ie:Zar<=4000000000:=Qw;obtain⟨X,hX⟩:=ZK (TT.extract o TT.size);have cj:X.data.toList=QO Zar k1 R++(Xg Zar k1 (rs.drop k1)++rest):=(by rw[<-hX,Lib.extract_to_end,<-ho,HN.2,de]);have ic:X.size<=140737488355328:=by rw[<-hX,ZdU];omega
   have HX:=ZN cj de ho;have ey:∀W,(Instr.slice 9 (.string TT) (some (.int .i64 (o:Int))) none none).run prog W=.ok (.string X) W:=λW=>by rw[<-hX];exact Ch 9 underlying9 TT o Qw W
   clear cj de ho hX;go_region_held3 (λw'=>w'.cell? ⟨j,4,none⟩=(Zar:Int)/\w'.cell? ⟨j,5,none⟩=(k:Int)/\w'.cell? ⟨j,6,none⟩=(C:Int)) (first|assumption|exact⟨d4,d5,d6⟩|exact⟨S7.1.c4,S7.1.c5,S7.1.c6⟩)
    (((go_at_call 154;refine(U8 X Zar k1 R _ _ HX.1 ie eu ib ic).mono ?_;rintro e w7 ⟨rfl,U⟩;have cw:JAt w7 j d ⟨half,sd,Zar,k,C,false⟩:=JAt.after (w:=O.drew) Z.2.1 U;have S7:=ZM cw U;clear cw U)))
   rw[HN.4];have U:Below w w w7:=Z.2.2.trans ((Zh5 (Zu _ _)).trans (S7.2.mono (show w.heap.size<=O.heap.size by omega)));have az:w7.ownsRow w 9 1 _ k (QS ((rs.take k).map str)):=B1 (B1 Z.1 ((Zu _ _).drew)) S7.2;have iw:=U.size;have ja:((64*E:Nat):Int) / 64=(E:Int):=Qw;have jc:(C:Int)+(E:Int)=(n1:Int):=Qw;have S8:=ZM U az;have fh:(⟨R.toArray⟩:Qq)=str R:=rfl;rw[fh];clear U az d4 d5 d6 fc fe q3 q4 q5 q6 q7 ey fh;go_wp2_with (at_builtin;refine Zel _ rfl (.tmp 105) (.tmp 107) 96 rfl w.heap.size 9 j0 _ 1 16 underlying96 ig ix iy iz rfl Qw _ k (QS ((rs.take k).map str)) rfl (S8.2.alloc _) ⟨w7,0,none⟩ 1 1 [.string (str R)] rfl rfl (Ze4 (cs:= #[.string (str R)]) (t:=9) (fr:=(0,0)) (ZB w7 _)) (by simp[Value.oneCell']) (by unfold maxLen;omega) Qw (Zq iw Qx) ?_;intro v' w8 ay bj dj;clear dj;have cn:JAt w8 j d ⟨half,sd,Zar,k,C,false⟩:=Ez (S7.1.alloc _) bj (DC S7.1 S8.2 Qz);have fm:Below w w w8:=Fr.Zbj (((Z1 (L:=[]) S8.1).alloc _).grown bj (λg hg=>Zy (AF S8.2 hg)));have S9:=ZX ay cn fm;have e5:=cn.c5;have e6:=cn.c6;have f5:=cn.free (j:=5) Qx;have f6:=cn.free (j:=6) Qx;clear ay bj cn fm);go_roundw
   .have bu:Fr [j] w8 ((w8.setCell ⟨j,5,none⟩ (.int .i64 k1)).setCell ⟨j,6,none⟩ (.int .i64 n1)):=((Fr.refl _ _).setCell (Zv Qx) _).setCell (Zv Qx) _;have ij:=DC S9.2 S9.1 Qz;refine⟨k+1,Qw,?_,?_,?_⟩
    .have h9:=Xy S9.1 bu (λg hg hm=>by rw[Z6] at hm;subst hm;exact ij hg);rw[<-HN.3] at h9
     first|exact h9|(rw[ZfH] at h9;exact h9)
    .have h9:=(Row.set S9.2 5 (.int .i64 k1)).set 6 (.int .i64 n1);unfold JAt;rw[HN.1,HX.2.1];exact h9
    .exact(S9.3.setCell S1.3 _).setCell S1.3 _
   have:=LQ S9.1;have h3:=HK.2;rw[this];omega
  .obtain rfl:k=rs.length:=(by omega);have bz:rs.take rs.length=rs:=Zs;rw[bz] at aw;have ct:∀W,Below wr wr W->Ng w d ⟨half,sd,Zar,rs.length,1+Yf rs,false⟩ rs (.pointer j) _ W:=λW hW=>⟨⟨j,rfl,S1.3,by have:=JAt.after HO.2 hW;rw[<-aw] at this;exact this⟩,by have:=B1 HO.1 hW;rw[bz] at this;exact this,HO.3.trans (hW.mono gy)⟩;have bh:=Z2p hT;rw[aw] at bh;have HF:=ZI ct;have HE:=ZI bh;clear ct bh bz aw hle;by_cases dm:C<half
   .have ag:(C:Int)<(half:Int):=(by omega);have ak:decide ((C:Int)<(half:Int))=true:=(by simpa using ag);go_wp2_with fail;go_quiet (fail);obtain⟨O,ai⟩:=ZL (wr.drewN nq);rw[<-ai];have af:Below wr wr O:=by rw[ai];exact YE (Zu _ _) nq
    have Z:=ZM (JAt.after HO.2 af) af;clear ai af c2 c6;go_wp2_with fail;have d4:=Z.1.c4;have d5:=Z.1.c5;have d6:=Z.1.c6;obtain⟨o,ho⟩:=ZK (64*C);have fc:IntKind.i64.wrap ((C:Int)*64)=(o:Int):=by rw[Zr _ Qw];omega
    obtain⟨k1,de⟩:=ZK (rs.length+1);have fe:IntKind.i64.wrap (k1:Int)=(k1:Int):=Zr _ Qw;have q3:(0:Int)<=(o:Int):=Qw;have ft:(rs.length:Int)+1=(k1:Int):=Qw;obtain⟨X,hX⟩:=ZK (TT.extract o TT.size);have cj:X.data.toList=rest:=(by rw[<-hX,Lib.extract_to_end,<-ho,HE.o]);have fi:X.size=0∨X.data.toList.getD 0 0≠1:=by
     rw[cj];rcases dt.1 with h0|h0
     .left;rw[<-Ju,cj,h0];rfl
     .exact Zy h0
    have ey:∀W,(Instr.slice 9 (.string TT) (some (.int .i64 (o:Int))) none none).run prog W=.ok (.string X) W:=λW=>by rw[<-hX];exact Ch 9 underlying9 TT o Qw W
    have HX:=ZI fi;clear cj de ho hX fi;go_region_held3 (λw'=>w'.cell? ⟨j,4,none⟩=(Zar:Int)/\w'.cell? ⟨j,5,none⟩=(rs.length:Int)/\w'.cell? ⟨j,6,none⟩=(C:Int)) (first|assumption|exact⟨d4,d5,d6⟩|exact⟨S7.1.c4,S7.1.c5,S7.1.c6⟩)
     (((go_at_call 154;refine(U7 X Zar k1 _ HX.o).mono ?_;rintro e w7 ⟨v,rfl,hv,fy,U⟩;obtain⟨b,rfl⟩:=(hv.split.resolve_left (λh=>fy h.2)).2;have cw:JAt w7 j d ⟨half,sd,Zar,rs.length,C,false⟩:=JAt.after (w:=O.drew) Z.1 U;have S7:=ZM cw U;clear cw U hv fy)))
    have U:Below wr wr w7:=Z.2.trans ((Zh5 (Zu _ _)).trans (S7.2.mono (show wr.heap.size<=O.heap.size from Z.2.size)));have dy:=ZI U;clear U d4 d5 d6 fc fe q3 ey ft;go_wp2;go_ret3;have cz:=HF.o _ dy.o;rw[SD.1] at cz;exact⟨_,_,rfl,cz⟩
   .have ag:¬ (C:Int)<(half:Int):=(by omega);have ak:decide ((C:Int)<(half:Int))=false:=(by simpa using ag);go_wp2_with fail;go_quiet (fail);obtain⟨O,ai⟩:=ZL (wr.drewN nq);rw[<-ai];have af:Below wr wr O:=by rw[ai];exact YE (Zu _ _) nq
    have dy:=ZI af;clear ai af c2 c6;go_wp2;go_ret3;have cz:=HF.o _ dy.o;rw[SD.1] at cz;exact⟨_,_,rfl,cz⟩
variable{half:Nat}{rs:List (Nat×Nat)}
inductive Rec where
 |all (d:Dir)
 |some (l:List (Bs×Option Ent))
def Rec.enc:Rec->Bs
 |.all d=>Xi d
 |.some l=>JI l
def BO(d:Dir)(x:Bs×Option Ent):Dir:=match x.2 with
 |some e=>(d.del x.1).put x.1 e
 |none=>d.del x.1
def Rec.app(d:Dir):Rec->Dir
 |.all d'=>d'.foldl (λd x=>(d.del x.1).put x.1 x.2) []
 |.some l=>l.foldl BO d
def Ub(d:Dir)(x:Bs×Option Ent)(n:Bs):(BO d x).get n=if n=x.1 then x.2 else d.get n:=by
 unfold BO
 match x with
 |(m,none)=>simp only;rw[Z99]
 |(m,some e)=>simp only;rw[Z9b,Z99];split<;>rfl
def Z83{d:Dir}(h:d.Zax)(x:Bs×Option Ent):(BO d x).Zax:=by
 match x with
 |(m,none)=>exact Z9e h m
 |(m,some e)=>exact Z9l (Z9e h m) m e
def Z85{d:Dir}(h:d.Zax)(l:List (Bs×Option Ent)):(l.foldl BO d).Zax:=by
 induction l generalizing d with
 |nil=>exact h
 |cons x l ih=>exact ih (Z83 h x)
def Uc{d:Dir}{l:List (Bs×Option Ent)}{n:Bs}(h:∀x∈l,x.1≠n):(l.foldl BO d).get n=d.get n:=by
 induction l generalizing d with
 |nil=>rfl
 |cons x l ih=>rw[ZdI,ih (λy C=>h y QA),Ub,Zw (λe=>h x Qx e.symm)]
def Z84{d:Dir}{l:List (Bs×Option Ent)}(h:(l.map (·.1)).Nodup){x:Bs×Option Ent}(hx:x∈l):(l.foldl BO d).get x.1=x.2:=by
 induction l generalizing d with
 |nil=>cases hx
 |cons y l ih=>
  simp only[Zn,ZdR,Zz,not_exists,not_and] at h;rw[ZdI];rcases Zk.1 hx with rfl|hm
  .rw[Uc (λz C e=>h.1 z C e),Ub,Zx rfl]
  .simp_all
theorem Z9g{d:Dir}(h:d.Zax):d.names.Nodup:=by refine Zev.2 (h.imp ?_);grind
def Z9n{a:Dir}(h:a.Zax)(b:Dir):(a.both b).Zax:=by
 induction b generalizing a with
 |nil=>exact h
 |cons x b ih=>exact ih (Z9l h _ _)
theorem Z9d{a b:Dir}(n:Bs)(hb:b.Zax):(a.both b).get n=match b.get n with|some e=>some e|none=>a.get n:=by
 unfold Dir.both
 induction b generalizing a with
 |nil=>rfl
 |cons x b ih=>
  have⟨C,h⟩:=Ze9.1 hb;rw[ZdI,ih h,Dir.get,Z9b];by_cases e:x.1=n
  .rw[Zx e,Zx e.symm,Z9m.2];grind
  .grind
def XI{d:Dir}{n:Bs}:n∈d.names↔d.get n≠none:=by
 constructor
 .intro h F;obtain⟨x,hx,rfl⟩:=Zz.1 h;exact Z9m.1 F x hx rfl
 .intro h;cases C:d.get n with
  |none=>exact absurd C h
  |some e=>exact Zz.2 ⟨(n,e),Z4 C,rfl⟩
theorem E3{was now:Dir}{f:QF}{n:Bs}{x:Bs×Option Ent}(h:chg was now f n=some x):x.1=n/\x.2=now.get n:=by unfold chg at h;grind
def OO(l:List Bs)(g:Bs->Option (Bs×Option Ent))(C:∀n x,g n=some x->x.1=n):((l.filterMap g).map (·.1)).Sublist l:=by
 induction l with
 |nil=>exact List.Sublist.slnil
 |cons n l ih=>
  rw[Zgj];cases h:g n with
  |none=>exact ih.cons n
  |some x=>simp;rw[C n x h];exact ih.cons_cons n
def Z0p{was now:Dir}{f:QF}(hw:was.Zax):((YD was now f).map (·.1)).Nodup:=(OO _ _ (λn x h=>(E3 h).1)).nodup (Z9g (Z9n hw now))
def IE{r s:Bs}(ha:a<4294967296)(hb:b<4294967296)(h:QI a++r=QI b++s):a=b/\r=s:=by have C:QI a=QI b/\r=s:=List.append_inj h (by rfl);exact⟨TY ha hb C.1,C.2⟩
def Z6q{a b:List (Nat×Nat)}(ha:∀r∈a,r.1<4294967296/\r.2<4294967296)(hb:∀r∈b,r.1<4294967296/\r.2<4294967296)(h:YT a=YT b):a=b:=by
 induction a generalizing b with
 |nil=>
  cases b with
  |nil=>rfl
  |cons y b=>have:=ZF List.length h;simp[YT,Wl] at this;omega
 |cons x a ih=>
  cases b with
  |nil=>have:=ZF List.length h;simp[YT,Wl] at this
  |cons y b=>have⟨e1,h⟩:=IE (ha x Qx).1 (hb y Qx).1 h;have⟨e2,h⟩:=IE (ha x Qx).2 (hb y Qx).2 h;rw[Prod.ext e1 e2,ih (λr C=>ha r QA) (λr C=>hb r QA) h]
def Ent.Ok.small{e:Ent}(h:Ent.Ok n half e)(F:n<=8192):∀r∈e.runs,r.1<4294967296/\r.2<4294967296:=λr C=>by have:=h.many r C;omega
def Z7B{a b:Ent}(C:n<=8192)(ha:Ent.Ok n half a)(hb:Ent.Ok n half b)(h:a.tail=b.tail):a=b:=by have:=ha.size;have:=hb.size;have⟨e1,h⟩:=IE Qw Qw h;have⟨e2,h⟩:=IE ha.sum hb.sum h;have:=Z6q (ha.small C) (hb.small C) h;cases a;cases b;simp_all
def Dir.Ok.get{d:Dir}(h:d.Ok n half){m:Bs}{e:Ent}(hm:d.get m=some e):Ent.Ok n half e:=h.ent _ (Z4 hm)
theorem IZ{was now:Dir}{f:QF}(Z:n<=8192)(hw:was.Ok n half)(J:now.Ok n half):Rec.app was (.some (YD was now f))=now:=by
 refine Dir.ext (Z85 hw.sorted _) J.sorted λm=> ?_;show((YD was now f).foldl BO was).get m=now.get m;cases hc:(YD was now f).find? (λx=>x.1==m) with
 |some x=>have hx:=Zgv hc;have hm:x.1=m:=QA;have⟨k,_,U⟩:=ZeD.1 hx;have:=E3 U;rw[<-hm,Z84 (Z0p hw.sorted) hx,this.2,this.1]
 |none=>
  have M:∀x∈YD was now f,x.1≠m:=QA;rw[Uc M];have key:chg was now f m=none∨m∉(was.both now).names:=by
   by_cases hm:m∈(was.both now).names
   .left;cases h:chg was now f m with
    |none=>rfl
    |some x=>exact absurd (E3 h).1 (M x (ZeD.2 ⟨m,hm,h⟩))
   .simp_all
  rcases key with h|h
  .unfold chg at h;cases C:now.get m with
   |none=>rw[C] at h;cases h
   |some e=>
    rw[C] at h;cases F:was.get m with
    |none=>rw[F] at h;cases h
    |some o=>
     rw[F] at h;simp only at h;split at h
     .rename_i O;rw[Z7B Z (J.get C) (hw.get F) O.2]
     .grind
  .have:(was.both now).get m=none:=by
    cases hg:(was.both now).get m with
    |none=>rfl
    |some e=>exact absurd (XI.2 QB) h
   rw[Z9d m J.sorted] at this;cases C:now.get m with
   |none=>rw[C] at this;exact this
   |some e=>rw[C] at this;cases this
theorem IY{d was:Dir}(h:d.Zax):Rec.app was (.all d)=d:=by
 have key:∀ (l:Dir) (a:Dir),a.Zax->l.Zax->(l.foldl (λd x=>(d.del x.1).put x.1 x.2) a).Zax/\∀m,(l.foldl (λd x=>(d.del x.1).put x.1 x.2) a).get m=match l.get m with|some e=>some e|none=>a.get m:=by
  intro l
  induction l with
  |nil=>intro a ha _;exact⟨ha,λm=>rfl⟩
  |cons x l ih=>
   intro a ha hl;have⟨F,C⟩:=Ze9.1 hl;have⟨s,g⟩:=ih _ (Z9l (Z9e ha x.1) x.1 x.2) C;refine⟨s,λm=> ?_⟩;rw[ZdI,g,Dir.get,Z9b,Z99];by_cases e:x.1=m
   .rw[Zx e,Zx e.symm,Z9m.2];grind
   .grind
 have⟨s,g⟩:=key d [] List.Pairwise.nil h;exact Dir.ext s h λm=>by refine(g m).trans ?_;cases d.get m<;>rfl
def Yc(rs:List (Nat×Nat)):Qj:=rs.flatMap λr=>List.range' r.1 r.2
def UH(rs:List (Nat×Nat))(a:Nat):Yc (XZ rs a)=Yc rs++[a]:=by
 unfold XZ;cases h:rs.getLast? with
 |none=>have:rs=[]:=QB;subst this;simp[Yc]
 |some r=>
  have⟨F,C⟩:=List.getLast?_eq_some_iff.1 h;simp only;split
  .rename_i e;subst C;rw[List.dropLast_concat];simp[Yc];rw[Zfx,e]
  .simp[Yc]
def Kh(l:Qj):Yc (Wh l)=l:=by
 have:∀ (l:Qj) rs,Yc (l.foldl XZ rs)=Yc rs++l:=by
  intro l
  induction l with
  |nil=>intro rs;simp
  |cons a l ih=>intro rs;rw[ZdI,ih,UH];simp
 simpa[Wh,Yc] using this l []
theorem UJ(h:∀r∈rs,1<=r.2)(a:Nat):∀r∈XZ rs a,1<=r.2:=by
 intro r C;unfold XZ at C;split at C
 .split at C
  .rcases Zj.1 C with C|C
   .exact h r (List.dropLast_subset _ C)
   .simp_all
  .grind
 .simp_all
def O5(l:Qj):∀r∈Wh l,1<=r.2:=by
 have:∀ (l:Qj) rs,(∀r∈rs,1<=r.2)->∀r∈l.foldl XZ rs,1<=r.2:=by
  intro l
  induction l with
  |nil=>intro rs h;exact h
  |cons a l ih=>intro rs h;exact ih _ (UJ h a)
 exact this l [] Qx
theorem UI(rs:List (Nat×Nat))(a:Nat):(XZ rs a).length<=rs.length+1:=by unfold XZ;grind
def Z0v(l:Qj):(Wh l).length<=l.length:=by
 have:∀ (l:Qj) rs,(l.foldl XZ rs).length<=rs.length+l.length:=by
  intro l
  induction l with
  |nil=>intro rs;simp
  |cons a l ih=>intro rs;rw[ZdI,Ze];have:=ih (XZ rs a);have:=UI rs a;omega
 simpa[Wh] using this l []
def Rt{r:Nat×Nat}(h:r∈rs)(i:Nat)(hi:i<r.2):r.1+i∈Yc rs:=Zeg.2 ⟨r,h,by rw[Zfd];omega⟩
variable{R R':Nat->ByteArray}{l:List (Nat×ByteArray)}
def XW(x s:Qq)(t:Nat):Qq:=str (s.data.toList.take t++x.data.toList.drop t)
def TX(x s:Qq):XW x s 0=x:=by rfl
def Cp(R:Nat->ByteArray)(x:Nat×Qq)(t:Nat):Nat->ByteArray:=λb=>if b=x.1 then XW (R b) x.2 t else R b
def JL:List (Nat×Qq)->(Nat->ByteArray)->(Nat->ByteArray)->Prop
 |[],R,R'=>R'=R
 |x::l,R,R'=>∃t,t<=64/\JL l (Cp R x t) R'
def JL.snoc(h:JL l R R')(x:Nat×Qq)(t:Nat)(C:t<=64):JL (l++[x]) R (Cp R' x t):=by
 induction l generalizing R with
 |nil=>cases h;exact⟨t,C,rfl⟩
 |cons y l ih=>have⟨s,hs,h⟩:=h;exact⟨s,hs,ih h⟩
def JL.other(h:JL l R R'){b:Nat}(hb:∀x∈l,x.1≠b):R' b=R b:=by
 induction l generalizing R with
 |nil=>cases h;rfl
 |cons y l ih=>have⟨s,hs,h⟩:=h;rw[ih h (λx hx=>hb x QA)];unfold Cp;rw[Zw (λe=>hb y Qx e.symm)]
def PQ{has:Ql}(s:Qq)(t b:Nat)(h:has.length=64*n)(ha:a<n)(hs:s.size=64)(C:t<=64):(⟨(sec (WE has (a*64) (s.data.toList.take t)) b).toArray⟩:Qq)=if b=a then XW ⟨(sec has b).toArray⟩ s t else⟨(sec has b).toArray⟩:=by
 by_cases e:b=a
 .subst e;rw[Zx rfl,Tp has b _ Qw QB];unfold XW str;simp_all
 .rw[Zw e,To has a b _ Qw QB (λh=>e h.symm)]
def Re(h:D.Fit n)(keep:Qn)(t0:Nat)(C:t0<=64)(k:Nat):(D.losing keep t0 k).1.length=64*n/\(D.losing keep t0 k).2<=64:=by
 induction k with
 |zero=>exact⟨h.len,C⟩
 |succ k ih=>
  simp[Dk.losing];split
  .omega
  .rename_i x hx;have hm:=Zfa hx;have⟨p1,p2⟩:=h.Zcc x hm;split
   .exact⟨Ho _ x n ih.1 p1 p2,ih.2⟩
   .refine⟨?_,ZeT _⟩;rw[Ek _ _ _ QA,ih.1]
def Ri(h:D.Fit n)(keep:Qn)(t:Int):(D.lost keep t).Fit n:=⟨(Re h keep (Xs t) (MI t) _).1,h.n1,by simp[Dk.lost]⟩
def Rh(h:D.Fit n)(keep:Qn)(t:Int):JL D.wait D.ZaB (D.lost keep t).ZaB:=by
 have key:∀k,k<=D.wait.length->JL (D.wait.take k) D.ZaB (λb=>⟨(sec (D.losing keep (Xs t) k).1 b).toArray⟩):=by
  intro k
  induction k with
  |zero=>intro _;rw[Zh2];rfl
  |succ k ih=>
   intro M;have C:k<D.wait.length:=Qw;have hb:=ih Qw;obtain⟨F,J⟩:=Re h keep (Xs t) (MI t) k;have hx:D.wait[k]? =some D.wait[k]:=Qx;obtain⟨p1,p2⟩:=h.Zcc D.wait[k] (Zl C);have hl:D.wait[k].2.data.toList.length=64:=QB;rw[Zc C];simp only[Dk.losing,hx];split
   .have:=hb.snoc D.wait[k] 64 (Zt _);refine(ZF (JL _ _) (funext λb=> ?_)).mp this;have e:=PQ (n:=n) D.wait[k].2 64 b F p1 p2 (Zt _);rw[Zi Qw] at e;unfold Cp WZ;rw[e]
   .have:=hb.snoc D.wait[k] _ J;refine(ZF (JL _ _) (funext λb=> ?_)).mp this;unfold Cp;rw[PQ (n:=n) D.wait[k].2 _ b F p1 p2 J]
 have:=key D.wait.length (Zt _);rw[Zs] at this;exact this
abbrev Seg:=List (Nat×Qq)
def Seg.ops(s:Seg):List DOp:=s.map (λx=>.wr x.1 x.2)++[.fl]
def YO(l:List Seg):List DOp:=l.flatMap Seg.ops
def rdW(s:Seg)(R:Nat->ByteArray):Nat->ByteArray:=s.foldl (λR x=>λb=>if x.1=b then x.2 else R b) R
def Cut:List Seg->(Nat->ByteArray)->(Nat->ByteArray)->Prop
 |[],R,R'=>R'=R
 |s::r,R,R'=>(∃j,JL (s.take j) R R')∨Cut r (rdW s R) R'
def Ia(s:Seg)(R:Nat->ByteArray):Y0 (s.map λx=>DOp.wr x.1 x.2) R=rdW s R:=by
 induction s generalizing R with
 |nil=>rfl
 |cons x s ih=>exact ih _
def Sk(s:Seg)(R:Nat->ByteArray):Y0 s.ops R=rdW s R:=by unfold Seg.ops;rw[XS,Ia];rfl
def I9(l:List Seg)(R:Nat->ByteArray):Y0 (YO l) R=l.foldl (λR s=>rdW s R) R:=by
 induction l generalizing R with
 |nil=>rfl
 |cons s r ih=>rw[YO,Zm,XS,Sk];exact ih _
def Z8s(s:Seg)(D:Dk):(Yn (s.map λx=>DOp.wr x.1 x.2) D).wait=D.wait++s/\(Yn (s.map λx=>DOp.wr x.1 x.2) D).has=D.has:=by
 induction s generalizing D with
 |nil=>simp[Yn]
 |cons x s ih=>
  have⟨h,C⟩:=ih (DOp.app D (.wr x.1 x.2));refine⟨?_,?_⟩
  .show(Yn (s.map λx=>DOp.wr x.1 x.2) (DOp.app D (.wr x.1 x.2))).wait=_;rw[h];simp[DOp.app]
  .show(Yn (s.map λx=>DOp.wr x.1 x.2) (DOp.app D (.wr x.1 x.2))).has=_;rw[C];rfl
def RS(s:Seg)(k:Nat)(h:k<=s.length):s.ops.take k=(s.take k).map λx=>DOp.wr x.1 x.2:=by unfold Seg.ops;rw[Ze6 QB,ZfH]
def RR(s:Seg):s.ops.length=s.length+1:=by simp[Seg.ops]
def Ts{l:List Seg}(h:D.Fit n)(hw:D.wait=[])(F:∀o∈YO l,o.In n)(k:Nat)(keep:Qn)(t:Int):Cut l D.ZaB ((Yn ((YO l).take k) D).lost keep t).ZaB:=by
 induction l generalizing D k with
 |nil=>
  have:((Yn ((YO []).take k) D).lost keep t).ZaB=D.ZaB:=by have hb:=Rh h keep t;rw[hw] at hb;have e:(YO []).take k=[]:=(by simp[YO]);rw[e];exact hb
  exact this
 |cons s r ih=>
  rw[YO,Zm];rw[YO,Zm] at F;by_cases U:k<=s.length
  .left;refine⟨k,?_⟩;rw[Ze6 (by rw[RR];omega),RS s k U];have⟨w1,w2⟩:=Z8s (s.take k) D
   have J:(Yn ((s.take k).map λx=>DOp.wr x.1 x.2) D).Fit n:=h.apps (λo C=>F o (by
    rw[<-RS s k U] at C
    exact Zen _ (ZdK C)))
   have hb:=Rh J keep t;have:(Yn ((s.take k).map λx=>DOp.wr x.1 x.2) D).ZaB=D.ZaB:=by funext a;rw[Eo,Eo,w2]
   simp_all
  .right;rw[Zg3,Zi (by rw[RR];omega),Nv];have M:∀o∈s.ops,o.In n:=QB;have J:=h.apps M;have O:(Yn s.ops D).wait=[]:=EY _ _;have hl:(Yn s.ops D).ZaB=rdW s D.ZaB:=by have e1:=Bo h M;rw[Sk] at e1;have e2:(Yn s.ops D).reads=(Yn s.ops D).ZaB:=funext λa=>B6 O a;have Z:D.reads=D.ZaB:=funext λa=>B6 hw a;simp_all
   have:=ih J O (λo C=>F o (Zf8 _ C)) (k-s.ops.length);rw[hl] at this;exact this
variable{l:Seg}{rs:List Bs}{x:Nat×ByteArray}
def X9(a:Nat)(l:Bs):Seg:=(List.range (l.length / 64)).map λi=>(a+i,Ya l i)
def N0(a:Nat)(l:Bs):wrs a l=(X9 a l).map λx=>DOp.wr x.1 x.2:=by simp[wrs,X9]
def Jn.ZaO(J:Jn)(s:Bool)(k:Nat):Seg:=if J.half<=k then[] else[(J.at_ s k,YY)]
def Kf(J:Jn)(s:Bool)(k:Nat):J.clean s k=(J.ZaO s k).map λx=>DOp.wr x.1 x.2:=by unfold Jn.clean Jn.ZaO;split<;>rfl
def Jn.ZbE(J:Jn)(s:Bool)(k:Nat)(l:Bs):List Seg:=[X9 (J.at_ s k) (Yl l)++J.ZaO s (k+l.length / 64),X9 (J.at_ s k) (l.take 64)]
def PU(J:Jn)(s:Bool)(k:Nat)(l:Bs):J.lay s k l=YO (J.ZbE s k l):=by unfold Jn.lay Jn.ZbE YO Seg.ops;simp[N0,Kf]
def Jn.Zbu(J:Jn)(r:Bs):List Seg:=J.ZbE J.second J.next (QO J.Zar (J.many+1) r)
def Nw(J:Jn)(r:Bs):J.ZaM r=YO (J.Zbu r):=PU _ _ _ _
def Jn.Zbr(J:Jn)(r:Bs):List Seg:=
 [X9 (J.at_ (!J.second) 1) (QO (J.Zar+1) 1 r)++J.ZaO (!J.second) (1+QQ r.length / 64)++X9 (J.at_ (!J.second) 0) (Yl (QO (J.Zar+1) 0 Yk)),
  X9 (J.at_ (!J.second) 0) (QO (J.Zar+1) 0 Yk)]
def Sy(J:Jn)(r:Bs):J.ZaI r=YO (J.Zbr r):=by unfold Jn.ZaI Jn.Zbr YO Seg.ops;simp[N0,Kf]
def Ed(half:Nat):List Seg:=
 [(Jn.first half).ZaO true 0++(X9 0 (Yl (QO 1 0 Yk))++(Jn.first half).ZaO false 1),X9 0 (QO 1 0 Yk)]
def GX(half:Nat):Z3 half=YO (Ed half):=by
 have h:(QO 1 0 Yk).length / 64=1:=by rfl
 have C:(QO 1 0 Yk).take 64=QO 1 0 Yk:=by rfl
 show(Jn.first half).clean true 0++(Jn.first half).lay false 0 (QO 1 0 Yk)=_;rw[PU];unfold Jn.ZbE Ed YO Seg.ops;simp only[h,C,Kf,Jn.at_];simp
theorem Lu{l:Bs}(h:x∈X9 a l):∃i,i<l.length / 64/\x=(a+i,Ya l i):=by simp[X9] at h;grind
def Dw{J:Jn}{s:Bool}{k:Nat}(h:x∈J.ZaO s k):k<J.half/\x=(J.at_ s k,YY):=by unfold Jn.ZaO at h;simp_all
def Un(a:Nat)(l:Bs):(X9 a l).map Prod.fst=List.range' a (l.length / 64):=by unfold X9;rw[ZeW,List.range'_eq_map_range];rfl
def JL.once(h:JL l R R')(C:(l.map Prod.fst).Nodup){b:Nat}{s:Qq}(hs:∀x∈l,x.1=b->x.2=s):∃t,t<=64/\R' b=XW (R b) s t:=by
 induction l generalizing R with
 |nil=>cases h;exact⟨0,Qw,(TX _ _).symm⟩
 |cons x l ih=>
  have⟨t,M,h⟩:=h;rw[Zn,ZdR] at C;by_cases e:x.1=b
  .refine⟨t,M,?_⟩;rw[h.other (λy O e2=>C.1 QA)];unfold Cp;rw[Zx e.symm,hs x Qx e]
  .have⟨t2,F,J⟩:=ih h C.2 (λy O=>hs y QA);refine⟨t2,F,?_⟩;rw[J];unfold Cp;rw[Zw (λe2=>e e2.symm)]
theorem Fu(x s:Qq)(t:Nat)(hs:1<=s.size):XW x s t=x∨WJ (XW x s t)=WJ s:=by
 by_cases h:t=0
 .subst h;exact Zv (TX x s)
 .right;have:s.data.toList.length=s.size:=Qx;unfold WJ XW;rw[Yp];grind
def MJ(l:Bs)(hl:64<=l.length)(t:Nat)(h:1<=t):XW (Ya (Yl l) 0) (Ya l 0) t=Ya l 0:=by
 unfold XW Ya;rw[Yp,Yp];congr 1;have:sec (Yl l) 0=0::(sec l 0).drop 1:=by
  unfold sec Yl;cases l with
  |nil=>simp at hl
  |cons a r=>simp
 obtain⟨q,rfl⟩:∃q,t=q+1:=⟨t-1,Qw⟩;simp_all
theorem Kq{A:Seg}{s:Qq}(hm:∀t,1<=t->XW (rdW A R a) s t=s)(h:Cut [A,[(a,s)]] R R'):(∃j,JL (A.take j) R R')∨R'=rdW A R∨R'=rdW [(a,s)] (rdW A R):=by
 rcases h with h|h|h
 .simp_all
 .have⟨j,h⟩:=h;right;cases j with
  |zero=>left;exact h
  |succ j=>
   rw[List.take_succ_cons,List.take_nil] at h;have⟨t,F,h⟩:=h;by_cases C:t=0
   .left;rw[h];funext b;unfold Cp;subst C
    split
    .rfl
    .rfl
   .right;rw[h];funext b;unfold Cp
    show(if b=a then _ else _)=if a=b then s else rdW A R b;grind
 .exact Zy (Zy h)
theorem FU(h:∀x∈l,x.1≠b):rdW l R b=R b:=by rw[<-Ia];refine FT λa s hm=> ?_;grind
def Sl(a b:Seg)(R:Nat->ByteArray):rdW (a++b) R=rdW b (rdW a R):=by simp[rdW]
def Z5s(a:Nat)(l:Bs)(R:Nat->ByteArray)(b:Nat):rdW (X9 a l) R b=if a<=b/\b<a+l.length / 64 then Ya l (b-a) else R b:=by rw[<-Ia,<-N0];exact DH a l R b
def DU(a:Nat)(l:Bs)(h:l.length=64):X9 a l=[(a,Ya l 0)]:=by unfold X9;rw[h];rfl
def Wm.loose{J:Jn}(h:Wm R J rs)(C:∀b,(b<J.at_ J.second 0+J.next∨J.at_ J.second 0+J.half<=b)->R' b=R b)(hs:J.next<J.half->WJ (R' (J.at_ J.second 0+J.next))≠1):Wm R' J rs:=by
 have:=h.next
 have F:=h.on.fits;have:J.at_ (!J.second) 0+J.half<=J.at_ J.second 0∨J.at_ J.second 0+J.half<=J.at_ (!J.second) 0:=by unfold Jn.at_;cases J.second<;>simp
 refine⟨⟨by rw[C _ Qw];exact h.on.head,h.on.Zau.congr (λb O U=>C b Qw),F,λZ=> ?_⟩,?_,h.many,h.next,h.Zar⟩
 .simp_all
 .have e:=C (J.at_ (!J.second) 0) Qw;unfold Dd;rw[e];exact h.off
def Wm.ZcY{J:Jn}(h:Wm R J rs)(F:∀b,J.at_ J.second 0<=b->b<J.at_ J.second 0+J.half->R' b=R b)(C:WJ (R' (J.at_ (!J.second) 0))≠1∨R' (J.at_ (!J.second) 0)=R (J.at_ (!J.second) 0)):Wm R' J rs:=by
 have O:=h.on.fits;refine⟨⟨by rw[F _ Qw Qw];exact h.on.head,h.on.Zau.congr (λb U Z=>F b Qw Qw),O,λM=> ?_⟩,?_,h.many,h.next,h.Zar⟩
 .rw[F _ Qw Qw];exact h.on.stop M
 .rcases C with C|C
  .exact Zv C
  .unfold Dd;rw[C];exact h.off
theorem LF(h:(l.map Prod.fst).Nodup)(j:Nat):((l.take j).map Prod.fst).Nodup:=by grind
def Mi(l:Bs)(h:64<=l.length):1<=(Ya (Yl l) 0).size:=by unfold Ya sec;rw[QW,ZfC,Zey,Zg,Jj l QA];omega
theorem Wm.Zch{J:Jn}(h:Wm R J rs)(r:Bs)(hr:QQ r.length / 64<=J.half-J.next)(hc:Cut (J.Zbu r) R R'):(Wm R' J rs/\∀b,2*J.half<=b->R' b=R b)∨R'=Y0 (J.ZaM r) R:=by
 have⟨l,hl⟩:=ZK (QO J.Zar (J.many+1) r);have⟨m1,m2⟩:=DE J.Zar (J.many+1) r;have:=Fj r.length;have af:=B4 J.Zar (J.many+1) r;have C:∀k,J.at_ J.second k=J.at_ J.second 0+k:=λk=>by unfold Jn.at_;split<;>omega
 have:J.at_ J.second 0+J.half<=2*J.half:=by unfold Jn.at_;split<;>omega
 rw[Nw,I9];unfold Jn.Zbu Jn.ZbE at hc⊢;rw[hl] at hc m1 m2 af⊢;have Z:64<=l.length:=Qw;have au:(l.take 64).length=64:=by rw[Zg];omega
 have hB:X9 (J.at_ J.second J.next) (l.take 64)=[(J.at_ J.second J.next,Ya l 0)]:=by rw[DU _ _ au];unfold Ya;rw[Tq]
 have⟨A,M⟩:=ZK (X9 (J.at_ J.second J.next) (Yl l)++J.ZaO J.second (J.next+l.length / 64));rw[hB,M] at hc⊢;have ag:(Yl l).length=l.length:=Jj l af;have O:∀x∈A,J.at_ J.second 0+J.next<=x.1/\x.1<J.at_ J.second 0+J.half/\(x.1=J.at_ J.second 0+J.next->x.2=Ya (Yl l) 0):=by
  intro x hx;rw[<-M,Zj] at hx;rcases hx with hx|hx
  .obtain⟨i,hi,rfl⟩:=Lu hx;have:=C J.next
   refine⟨by simp only;omega,by simp only;omega,λe=> ?_⟩;rw[show i=0 from Qw]
  .obtain⟨hk,rfl⟩:=Dw hx;have:=C (J.next+l.length / 64);omega
 have aq:(A.map Prod.fst).Nodup:=by
  rw[<-M,Zo,Un,ag,ZdP];refine⟨List.nodup_range',?_,?_⟩
  .unfold Jn.ZaO;split<;>simp
  .intro a ha b hb;rw[Zfd] at ha;obtain⟨x,hx,rfl⟩:=Zz.1 hb;obtain⟨hk,rfl⟩:=Dw hx;have:=C (J.next+l.length / 64);have:=C J.next
   omega
 have U:rdW A R (J.at_ J.second J.next)=Ya (Yl l) 0:=by
  rw[<-M,Sl,FU,Z5s,Zx ⟨Qw,by rw[ag];omega⟩,Zgm];intro x hx;obtain⟨hk,rfl⟩:=Dw hx;have:=C (J.next+l.length / 64);have:=C J.next
  omega
 have ak:∀t,1<=t->XW (rdW A R (J.at_ J.second J.next)) (Ya l 0) t=Ya l 0:=λt ht=>by rw[U];exact MJ l Z t ht
 rcases Kq ak hc with ⟨j,hb⟩|hb|hb
 .left;have F:∀b,(b<J.at_ J.second 0+J.next∨J.at_ J.second 0+J.half<=b)->R' b=R b:=λb ai=>hb.other λx hx e=>by have:=O x (ZdK hx);omega
  refine⟨h.loose F (λae=> ?_),λb ah=>F b Qw⟩;have⟨t,ht,e⟩:=hb.once (LF aq j) (b:=J.at_ J.second 0+J.next) (s:=Ya (Yl l) 0) (λx hx=>(O x (ZdK hx)).2.2);rw[e];rcases Fu (R (J.at_ J.second 0+J.next)) (Ya (Yl l) 0) t (Mi l Z) with e2|e2
  .rw[e2,h.next];exact h.on.stop (by rw[<-h.next];exact ae)
  .rw[e2];exact Ee l
 .left;have F:∀b,(b<J.at_ J.second 0+J.next∨J.at_ J.second 0+J.half<=b)->R' b=R b:=λb ai=>by rw[hb];exact FU λx hx e=>by have:=O x hx;omega
  refine⟨h.loose F (λae=> ?_),λb ah=>F b Qw⟩;rw[<-C,hb,U];exact Ee l
 .right;exact hb
theorem Wm.Zcr{J:Jn}(h:Wm R J rs)(r:Bs)(hr:1+QQ r.length / 64<=J.half)(hc:Cut (J.Zbr r) R R'):(Wm R' J rs/\∀b,2*J.half<=b->R' b=R b)∨R'=Y0 (J.ZaI r) R:=by
 have⟨l,hl⟩:=ZK (QO (J.Zar+1) 1 r);have⟨C,aj⟩:=ZK (QO (J.Zar+1) 0 Yk);have⟨m1,m2⟩:=DE (J.Zar+1) 1 r;have M:C.length=64:=by rw[<-aj];exact Xw _
 have ag:C≠[]:=by intro e;rw[e] at M;simp at M
 have U:∀k,J.at_ (!J.second) k=J.at_ (!J.second) 0+k:=λk=>by unfold Jn.at_;split<;>omega
 have ah:J.at_ (!J.second) 0+J.half<=J.at_ J.second 0∨J.at_ J.second 0+J.half<=J.at_ (!J.second) 0:=by unfold Jn.at_;cases J.second<;>simp
 have ai:J.at_ (!J.second) 0+J.half<=2*J.half:=by unfold Jn.at_;split<;>omega
 rw[Sy,I9];unfold Jn.Zbr at hc⊢;rw[hl,aj] at hc⊢;rw[hl] at m1;have⟨O,hO⟩:=ZK (J.at_ (!J.second) 0);rw[hO] at U ah ai;rw[DU _ _ M,hO,U 1] at hc⊢;have⟨A,F⟩:=ZK (X9 (O+1) l++J.ZaO (!J.second) (1+QQ r.length / 64)++X9 O (Yl C));rw[F] at hc⊢;have au:(Yl C).length=64:=by rw[Jj C ag,M]
 rw[DU _ _ au] at F;have Z:∀x∈A,O<=x.1/\x.1<O+J.half/\(x.1=O->x.2=Ya (Yl C) 0):=by
  intro x hx;rw[<-F,Zj,Zj] at hx;rcases hx with (hx|hx)|hx
  .obtain⟨i,hi,rfl⟩:=Lu hx;omega
  .obtain⟨hk,rfl⟩:=Dw hx;simp_all
  .grind
 have aq:(A.map Prod.fst).Nodup:=by
  rw[<-F,Zo,Zo,Un,ZdP,ZdP];refine⟨⟨List.nodup_range',?_,?_⟩,Qx,?_⟩
  .unfold Jn.ZaO;split<;>simp
  .intro a ha b hb;rw[Zfd] at ha;obtain⟨x,hx,rfl⟩:=Zz.1 hb;obtain⟨hk,rfl⟩:=Dw hx;grind
  .intro a ha b hb;simp at hb;rcases Zj.1 ha with ha|ha
   .rw[Zfd] at ha;omega
   .obtain⟨x,hx,rfl⟩:=Zz.1 ha;obtain⟨hk,rfl⟩:=Dw hx;have:=U (1+QQ r.length / 64);omega
 have ae:rdW A R O=Ya (Yl C) 0:=by rw[<-F,Sl];show(if O=O then _ else _)=_;simp
 have ak:∀t,1<=t->XW (rdW A R O) (Ya C 0) t=Ya C 0:=λt ht=>by rw[ae];exact MJ C Qw t ht
 have done:∀{Q:Nat->ByteArray},(∀b,(∀x∈A,x.1≠b)->Q b=R b)->(WJ (Q O)≠1∨Q O=R O)->Wm Q J rs/\∀b,2*J.half<=b->Q b=R b:=by intro Q hQ hq;refine⟨h.ZcY (λb aw ay=>hQ b λx hx e=>by have:=Z x hx;omega) QB,λb hb=>hQ b λx hx e=>by have:=Z x hx;omega⟩
 rcases Kq ak hc with ⟨j,hb⟩|hb|hb
 .left;refine done (λb af=>hb.other λx hx=>af x (ZdK hx)) ?_;have⟨t,ht,e⟩:=hb.once (LF aq j) (b:=O) (s:=Ya (Yl C) 0) (λx hx=>(Z x (ZdK hx)).2.2);rw[e];rcases Fu (R O) (Ya (Yl C) 0) t (Mi C Qw) with e2|e2
  .right;exact e2
  .left;rw[e2];exact Ee C
 .left;refine done (λb af=>by rw[hb];exact FU af) (Zv ?_);rw[hb,ae];exact Ee C
 .right;exact hb
structure Cu(half:Nat)(R:Nat->ByteArray):Prop where
 a:WJ (R 0)≠1∨R 0=str (QO 1 0 Yk)
 b:WJ (R 1)≠1
 c:WJ (R half)≠1
theorem Cu.Zci(h:Cu half R)(hh:2<=half)(hc:Cut (Ed half) R R'):Cu half R'∨R'=Y0 (Z3 half) R:=by
 have⟨C,F⟩:=ZK (QO 1 0 Yk);have J:C.length=64:=by rw[<-F];exact Xw _
 have ag:C≠[]:=by intro e;rw[e] at J;simp at J
 have aj:(Yl C).length=64:=by rw[Jj C ag,J]
 rw[GX,I9];have ae:(Jn.first half).ZaO true 0=[(half,YY)]:=by unfold Jn.ZaO Jn.first Jn.at_;rw[Zw QA];simp
 have af:(Jn.first half).ZaO false 1=[(1,YY)]:=by unfold Jn.ZaO Jn.first Jn.at_;rw[Zw QA];simp
 unfold Ed at hc⊢;rw[F,ae,af,DU _ _ J,DU _ _ aj] at hc⊢;obtain⟨A,M⟩:∃A:Seg,[(half,YY)]++([(0,Ya (Yl C) 0)]++[(1,YY)])=A:=⟨_,rfl⟩;rw[M] at hc⊢;have U:∀x∈A,x=(half,YY)∨x=(0,Ya (Yl C) 0)∨x=(1,YY):=by grind
 have ai:(A.map Prod.fst).Nodup:=by grind
 have Z:rdW A R 0=Ya (Yl C) 0:=by rw[<-M];rfl
 have ah:∀t,1<=t->XW (rdW A R 0) (Ya C 0) t=Ya C 0:=λt O=>by rw[Z];exact MJ C Qw t O
 rcases Kq ah hc with ⟨j,hb⟩|hb|hb
 .left;have once:=λ(b:Nat) (s:Qq) hs=>hb.once (LF ai j) (b:=b) (s:=s) hs;refine⟨?_,?_,?_⟩
  .have⟨t,O,e⟩:=once 0 (Ya (Yl C) 0) (λx hx e=>by
    rcases U x (ZdK hx) with rfl|rfl|rfl
    .omega
    .rfl
    .simp at e)
   rw[e,F];rcases Fu (R 0) (Ya (Yl C) 0) t (Mi C Qw) with e2|e2
   .rw[e2,<-F];exact h.a
   .left;rw[e2];exact Ee C
  .have⟨t,O,e⟩:=once 1 YY (λx hx e=>by
    rcases U x (ZdK hx) with rfl|rfl|rfl
    .rfl
    .omega
    .rfl)
   rw[e];rcases Fu (R 1) YY t (by rw[N1];omega) with e2|e2
   .rw[e2];exact h.b
   .rw[e2];exact AA
  .have⟨t,O,e⟩:=once half YY (λx hx e=>by
    rcases U x (ZdK hx) with rfl|rfl|rfl
    .rfl
    .omega
    .rfl)
   rw[e];rcases Fu (R half) YY t (by rw[N1];omega) with e2|e2
   .rw[e2];exact h.c
   .rw[e2];exact AA
 .left;have e1:rdW A R 1=YY:=by rw[<-M];rfl
  have e2:rdW A R half=YY:=by rw[<-M];show(if 1=half then YY else if 0=half then Ya (Yl C) 0 else if half=half then YY else R half)=_;rw[Zw (show¬1=half by omega),Zw (show¬0=half by omega),Zx rfl]
  rw[hb];exact⟨by rw[Z];exact Zv (Ee C),by rw[e1];exact AA,by rw[e2];exact AA⟩
 .simp_all
variable{d d' d0:Dir}{e:Ent}{i k:Nat}
theorem Z6N(n:Bs)(e:Ent)(d:Dir):(Dir.ins n e d).Zat.Perm (e.Zat++d.Zat):=by
 induction d with
 |nil=>simp[Dir.ins,Dir.Zat]
 |cons x r ih=>
  unfold Dir.ins;split
  .rfl
  .show(x.2.Zat++(Dir.ins n e r).Zat).Perm (e.Zat++(x.2.Zat++Dir.Zat r));grind
def Mk(d:Dir)(n:Bs)(e:Ent):(d.put n e).Zat.Perm (e.Zat++(d.del n).Zat):=Z6N n e _
theorem Z6O(hs:d.Zax){n:Bs}{e:Ent}(h:d.get n=some e):d.Zat.Perm (e.Zat++(d.del n).Zat):=by
 induction d with
 |nil=>cases h
 |cons x r ih=>
  have⟨F,C⟩:=Ze9.1 hs;rw[Dir.get] at h;split at h
  .rename_i hx;cases h;have:Dir.del (x::r) n=r:=by unfold Dir.del;rw[Zfl,Zw QA];refine List.filter_eq_self.2 (λy J=> ?_);grind
   rw[this];exact List.Perm.refl _
  .rename_i hx;have:Dir.del (x::r) n=x::Dir.del r n:=by unfold Dir.del;rw[Zfl,Zx QA]
   rw[this];show(x.2.Zat++Dir.Zat r).Perm (e.Zat++(x.2.Zat++(Dir.del r n).Zat));refine(List.Perm.append_left _ (ih C h)).trans ?_;grind
def Cb{n:Bs}(h:i∈(d.del n).Zat):i∈d.Zat:=by have⟨x,hx,hi⟩:=Zeg.1 h;exact Zeg.2 ⟨x,(Z9j.1 hx).1,hi⟩
theorem G7(h:d.Zat.Nodup)(n:Bs):(d.del n).Zat.Nodup:=by
 have:(d.del n).Zat.Sublist d.Zat:=by
  unfold Dir.Zat Dir.del
  induction d with
  |nil=>exact List.Sublist.refl _
  |cons x r ih=>
   have:Dir.Zat r|>.Nodup:=by unfold Dir.Zat at h⊢;grind
   grind
 grind
def Z2d(h:∀x∈d,1<=x.1.length/\x.1.length<=220){m:Bs}{e:Ent}(hm:d.get m=some e):1<=m.length/\m.length<=220:=h _ (Z4 hm)
def QF.by:QF->Bs->Option Nat
 |[],_=>none
 |x::r,m=>if x.1=m then some x.2 else QF.by r m
theorem Z9c(f:QF)(n m:Bs):(f.del n).by m=if m=n then none else f.by m:=by
 induction f with
 |nil=>simp[QF.del,QF.by]
 |cons x r ih=>
  unfold QF.del at ih⊢;rw[Zfl];by_cases hx:x.1=n
  .rw[Zw QA,ih,QF.by];grind
  .rw[Zx QA,QF.by,ih,QF.by];grind
theorem Z9p(f g:QF)(m:Bs):QF.by (f++g) m=match f.by m with|some k=>some k|none=>g.by m:=by
 induction f with
 |nil=>rfl
 |cons x r ih=>rw[Zef,QF.by,QF.by,ih];grind
theorem Z9t(f:QF)(m:Bs):f.has m=(f.by m).isSome:=by
 unfold QF.has
 induction f with
 |nil=>rfl
 |cons x r ih=>rw[List.any_cons,QF.by,ih];grind
theorem Z9s{f:QF}(h:(f.map (·.1)).Nodup){x:Bs×Nat}(hx:x∈f):f.by x.1=some x.2:=by
 induction f with
 |nil=>cases hx
 |cons y r ih=>rw[QF.by];grind
theorem Z9f{f:QF}{m:Bs}(h:f.by m=some k):(m,k)∈f:=by
 induction f with
 |nil=>cases h
 |cons y r ih=>rw[QF.by] at h;grind
def Z9a{f:QF}{n:Bs}{x:Bs×Nat}:x∈f.del n↔x∈f/\x.1≠n:=by simp[QF.del]
def Z9q{f:QF}(h:(f.map (·.1)).Nodup)(n:Bs):((f.del n).map (·.1)).Nodup:=h.sublist ((Zer).map _)
def X4(R:Nat->ByteArray)(e:Ent):Bs:=(e.Zat.flatMap λa=>(R a).data.toList).take e.size
theorem IH(h:∀b∈e.Zat,R' b=R b):X4 R' e=X4 R e:=by
 unfold X4;have:(e.Zat.flatMap λa=>(R' a).data.toList)=e.Zat.flatMap λa=>(R a).data.toList:=by
  revert h
  induction e.Zat with
  |nil=>intro _;rfl
  |cons a l ih=>intro h;rw[Zm,Zm,ih (λb hb=>h b QA),h a Qx]
 grind
abbrev Tab:=Bs->Option (Option Bs)
def JP(R:Nat->ByteArray)(e:Ent):Option Bs:=if WD (X4 R e)=e.sum then some (X4 R e) else none
def stR(R:Nat->ByteArray)(d:Dir):Tab:=λm=>(d.get m).map (JP R)
def Ac.on(T:Tab)(a:Ac):Tab:=match a.kind with
 |1=>λm=>if m=a.name then some (some a.value) else T m
 |2=>λm=>if m=a.name then none else T m
 |3=>λm=>if m=a.to then T a.name else if m=a.name then none else T m
 |_=>T
def acV(Zan:List Ac)(k:Nat):Bs:=(Zan.getD k ⟨0,[],[],[]⟩).value
def Ck(R:Nat->ByteArray)(Zan:List Ac)(d:Dir)(f:QF):Tab:=λm=>match f.by m with
 |some k=>some (some (acV Zan k))
 |none=>(d.get m).map (JP R)
structure Cv(n half:Nat)(d0:Dir)(Zan:List Ac)(d:Dir)(f:QF):Prop where
 sorted:d.Zax
 name:∀x∈d,1<=x.1.length/\x.1.length<=220
 apart:d.Zat.Nodup
 sub:∀i∈d.Zat,i∈d0.Zat
 fr:(f.map (·.1)).Nodup
 fresh:∀x∈f,∃e,d.get x.1=some e/\e.runs=[]/\e.size=(acV Zan x.2).length/\e.sum=WD (acV Zan x.2)/\e.size<=12000/\x.2<Zan.length
 old:∀m e,d.get m=some e->f.by m=none->Ent.Ok n half e
def GL(v:Bs):WD v<4294967296:=by unfold WD;exact BitVec.isLt _
def Z9W{a:Ac}(h:a.ZaA=false)(C:a.kind=1):1<=a.name.length/\a.name.length<=220/\a.value.length<=12000:=by unfold Ac.ZaA at h;simp_all
def Zab{a:Ac}(h:a.ZaA=false)(C:a.kind=3):1<=a.to.length/\a.to.length<=220:=by unfold Ac.ZaA at h;simp_all
theorem Cv.act{Zan:List Ac}{f f':QF}{a:Ac}(h:Cv n half d0 Zan d f)(hk:k<Zan.length)(hv:acV Zan k=a.value)(ha:a.ZaA=false)(C:Xv k a d f=some (d',f')):Cv n half d0 Zan d' f':=by
 unfold Xv at C;split at C
 .rename_i h1;obtain⟨rfl,rfl⟩:=C;have⟨a1,a2,a3⟩:=Z9W ha h1;have Z:∀m,((d.del a.name).put a.name ⟨a.value.length,WD a.value,[]⟩).get m=if m=a.name then some ⟨a.value.length,WD a.value,[]⟩ else d.get m:=λm=>by rw[Z9b,Z99];split<;>rfl
  have O:=Mk (d.del a.name) a.name ⟨a.value.length,WD a.value,[]⟩;have aj:((d.del a.name).put a.name ⟨a.value.length,WD a.value,[]⟩).Zat.Perm ((d.del a.name).del a.name).Zat:=O;refine⟨Z9l (Z9e h.sorted _) _ _,?_,aj.nodup_iff.2 (G7 (G7 h.apart _) _),?_,?_,?_,?_⟩
  .intro x hx;rcases Z9o.1 hx with rfl|⟨hx,_⟩
   .simp_all
   .exact h.name x (Z9j.1 hx).1
  .intro i hi;exact h.sub i (Cb (Cb (aj.mem_iff.1 hi)))
  .rw[Zo,ZdP];refine⟨Z9q h.fr _,Qx,?_⟩;intro x hx y U;simp at U;subst U;obtain⟨z,hz,rfl⟩:=Zz.1 hx;exact(Z9a.1 hz).2
  .intro x hx;rcases Zj.1 hx with hx|hx
   .have⟨J,ah⟩:=Z9a.1 hx;have⟨e,he,r⟩:=h.fresh x J;grind
   .simp_all
  .intro m e hm hb;rw[Z9p,Z9c] at hb;rw[Z] at hm;by_cases F:m=a.name
   .rw[Zx F] at hb;simp[QF.by,F] at hb
   .rw[Zw F] at hm hb;refine h.old m e hm ?_;grind
 .rename_i h2;split at C
  .rename_i e0 af;obtain⟨rfl,rfl⟩:=C;refine⟨Z9e h.sorted _,λx hx=>h.name x (Z9j.1 hx).1,G7 h.apart _,λi hi=>h.sub i (Cb hi),Z9q h.fr _,?_,?_⟩
   .intro x hx;have⟨J,ah⟩:=Z9a.1 hx;have⟨e,he,r⟩:=h.fresh x J;exact⟨e,by rw[Z99,Zw ah];exact he,r⟩
   .intro m e hm hb;rw[Z9c] at hb;rw[Z99] at hm;by_cases F:m=a.name
    .simp_all
    .rw[Zw F] at hm hb;exact h.old m e hm hb
  .grind
 .rename_i h3;split at C
  .rename_i e0 af;split at C
   .grind
   .rename_i aq;obtain⟨rfl,rfl⟩:=C;have Z:∀m,((d.del a.name).put a.to e0).get m=if m=a.to then some e0 else if m=a.name then none else d.get m:=λm=>(by rw[Z9b,Z99]);have ae:f.by a.name=none:=by have:=Z9t f a.name;simp_all
    have O:=Mk (d.del a.name) a.to e0;have hs:=Z6O h.sorted af;have M:=hs.nodup_iff.1 h.apart;rw[ZdP] at M;refine⟨Z9l (Z9e h.sorted _) _ _,?_,?_,?_,Z9q (Z9q h.fr _) _,?_,?_⟩
    .intro x hx;rcases Z9o.1 hx with rfl|⟨hx,_⟩
     .exact Zab ha h3
     .exact h.name x (Z9j.1 hx).1
    .refine O.nodup_iff.2 (ZdP.2 ⟨M.1,G7 M.2.1 _,λx hx y U=>M.2.2 x hx y (Cb U)⟩)
    .intro i hi;rcases Zj.1 (O.mem_iff.1 hi) with hi|hi
     .exact h.sub i (hs.mem_iff.2 (Zen _ hi))
     .exact h.sub i (Cb (Cb hi))
    .intro x hx;have⟨J,ah⟩:=Z9a.1 hx;have⟨ak,au⟩:=Z9a.1 J;have⟨e,he,r⟩:=h.fresh x ak;grind
    .intro m e hm hb;rw[Z] at hm;by_cases ag:m=a.to
     .rw[Zx ag] at hm;cases hm;exact h.old a.name e0 af ae
     .rw[Zw ag] at hm;by_cases ai:m=a.name
      .simp_all
      .rw[Zw ai] at hm;rw[Z9c,Zw ag,Z9c,Zw ai] at hb;exact h.old m e hm hb
  .grind
 .grind
theorem Z7z{Zan:List Ac}{f f':QF}{a:Ac}(hv:acV Zan k=a.value)(h:Xv k a d f=some (d',f')):Ck R Zan d' f'=Ac.on (Ck R Zan d f) a:=by
 unfold Xv at h
 funext m
 split at h
 .rename_i J;obtain⟨rfl,rfl⟩:=h;unfold Ac.on Ck;rw[J];rw[Z9p,Z9c,Z9b,Z99];by_cases hm:m=a.name
  .simp[hm,QF.by,hv]
  .simp[hm];cases hb:f.by m with
   |some q=>rfl
   |none=>simp[QF.by];rw[Zw (λe=>hm e.symm)]
 .rename_i O;split at h
  .rename_i e0 C;obtain⟨rfl,rfl⟩:=h;unfold Ac.on Ck;rw[Z9c,Z99];grind
  .grind
 .rename_i U;split at h
  .rename_i e0 C;split at h
   .grind
   .rename_i M;obtain⟨rfl,rfl⟩:=h;have F:f.by a.name=none:=by have:=Z9t f a.name;simp_all
    unfold Ac.on Ck;rw[Z9c,Z9c,Z9b,Z99,F,C];grind
  .grind
 .grind
theorem IT{Zan:List Ac}(l:List Ac)(k:Nat)(hl:l=Zan.drop k){d d':Dir}{f f':QF}(h:Cv n half d0 Zan d f)(ha:∀a∈Zan,a.ZaA=false)(C:Wi l k d f=some (d',f')):Cv n half d0 Zan d' f'/\Ck R Zan d' f'=l.foldl Ac.on (Ck R Zan d f):=by
 induction l generalizing k d f with
 |nil=>simp[Wi] at C;obtain⟨rfl,rfl⟩:=C;exact⟨h,rfl⟩
 |cons a r ih=>
  rw[Wi] at C;split at C
  .rename_i d1 f1 J;have M:k<Zan.length:=by
    by_cases M:k<Zan.length
    .omega
    .rw[ZeH Qw] at hl;cases hl
   have F:Zan[k]? =some a:=by have:=ZF (λl=>l[0]?) hl;grind
   have hv:acV Zan k=a.value:=by unfold acV;rw[Z7,F];rfl
   have O:r=Zan.drop (k+1):=by have:=ZF (List.drop 1) hl;rw[Zf3] at this;grind
   have⟨U,i2⟩:=ih (k+1) O (h.act M hv (ha a (Zfa F)) J) C;refine⟨U,?_⟩;rw[i2,Z7z hv J];rfl
  .grind
def O6(e:Ent)(l:Qj):Ent.Zat {e with runs:=Wh l}=l:=Kh l
def Z3Y{r:Nat×Nat}{rs:List (Nat×Nat)}(h:r∈rs)(C:1<=r.2):r.1∈Yc rs/\r.1+(r.2-1)∈Yc rs:=⟨by have:=Rt h 0 Qw;simpa using this,Rt h (r.2-1) Qw⟩
theorem Z0w{l:Qj}(F:∀i∈l,2*half<=i/\i<n)(hl:l.length=Yu e.size)(hs:e.size<=12000)(hc:e.sum<4294967296):Ent.Ok n half {e with runs:=Wh l}:=by refine⟨λr h=> ?_,by rw[O6];exact hl,hs,hc⟩;have C:=O5 l r h;have⟨a,b⟩:=Z3Y h C;rw[Kh] at a b;grind
theorem LT(todo:QF):∀ (free:Qj) (d d':Dir),WF free todo d=some d'->d.Zax->(∀x∈d,1<=x.1.length/\x.1.length<=220)->d.Zat.Nodup->free.Nodup->(∀i∈free,i∉d.Zat)->(∀i∈free,2*half<=i/\i<n)->(todo.map (·.1)).Nodup-> (∀x∈todo,∃e,d.get x.1=some e/\e.runs=[]/\e.size<=12000/\e.sum<4294967296)-> d'.Zax/\(∀x∈d',1<=x.1.length/\x.1.length<=220)/\d'.Zat.Nodup/\(∀i∈d'.Zat,i∈d.Zat∨i∈free)/\(∀m,(∀x∈todo,x.1≠m)->d'.get m=d.get m)/\ (∀x∈todo,∃e M,d.get x.1=some e/\d'.get x.1=some M/\M.size=e.size/\M.sum=e.sum/\(∀i∈M.Zat,i∈free)/\Ent.Ok n half M):=by
 induction todo with
 |nil=>intro free d d' h hs hn ha _ _ _ _ _;simp[WF] at h;grind
 |cons x r ih=>
  intro free d d' h hs hn ha hfn aq au J aw;have⟨e,he,bf,az,ay⟩:=aw x Qx;rw[WF,he] at h;simp only at h;split at h
  .rename_i hle;rw[Zn,ZdR] at J;obtain⟨e1,ah⟩:∃e1:Ent,{e with runs:=Wh (free.take (Yu e.size))}=e1:=⟨_,rfl⟩;have ag:e1.Zat=free.take (Yu e.size):=by rw[<-ah];exact O6 e _
   have ak:e1.size=e.size:=QA;have aj:e1.sum=e.sum:=QA;have ai:Ent.Ok n half e1:=by rw[<-ah];exact Z0w (λi hi=>au i (ZdK hi)) QB az ay
   rw[ah] at h;have Z:=Mk d x.1 e1;rw[ag] at Z;have ae:free=free.take (Yu e.size)++free.drop (Yu e.size):=Qx;have af:=hfn;rw[ae,ZdP] at af;have⟨n1,n2,n3⟩:=af;have U:∀m,(d.put x.1 e1).get m=if m=x.1 then some e1 else d.get m:=λm=>Z9b d x.1 e1 m;have⟨i1,i2,i3,i4,i5,i6⟩:=ih (free.drop (Yu e.size)) (d.put x.1 e1) d' h (Z9l hs _ _)
    (λy C=>by
     rcases Z9o.1 C with rfl|⟨C,_⟩
     .exact Z2d hn he
     .exact hn y C)
    (Z.nodup_iff.2 (ZdP.2 ⟨n1,G7 ha _,λa hx b C e2=>aq a (ZdK hx) (by rw[e2];exact Cb C)⟩))
    n2
    (λi hi hm=>by
     rcases Zj.1 (Z.mem_iff.1 hm) with hm|hm
     .exact n3 i hm i hi rfl
     .exact aq i (Zfy hi) (Cb hm))
    (λi hi=>au i (Zfy hi)) J.2
    (λy C=>by
     have⟨e2,k1,k2⟩:=aw y QA;have:y.1≠x.1:=λO=>J.1 (by rw[<-O];exact Zeq C)
     exact⟨e2,by rw[U,Zw this];exact k1,k2⟩)
   refine⟨i1,i2,i3,?_,?_,?_⟩
   .intro i hi;rcases i4 i hi with F|F
    .rcases Zj.1 (Z.mem_iff.1 F) with F|F
     .exact Zy (ZdK F)
     .exact Zv (Cb F)
    .exact Zy (Zfy F)
   .intro m hm;rw[i5 m (λy C=>hm y QA),U,Zw (λe2=>hm x Qx e2.symm)]
   .intro y C;rcases Zk.1 C with rfl|C
    .refine⟨e,e1,he,?_,ak,aj,λi hi=>by rw[ag] at hi;exact ZdK hi,ai⟩;rw[i5 y.1 (λz hz O=>J.1 (by rw[<-O];exact Zeq hz)),U,Zx rfl]
    .have⟨a,b,k1,k2,k3,k4,k5,k6⟩:=i6 y C;have:y.1≠x.1:=λO=>J.1 (by rw[<-O];exact Zeq C);rw[U,Zw this] at k1;exact⟨a,b,k1,k2,k3,k4,λi hi=>Zfy (k5 i hi),k6⟩
  .grind
def Ca:i∈XE (YA n half d)↔i<n/\2*half<=i/\i∉d.Zat:=by
 unfold XE;have hl:(YA n half d).length=n:=by simp[YA]
 rw[ZdV,ZdS,hl];constructor
 .rintro⟨h,C⟩;rw[Z7,YA,Ze8,ZfG h] at C;simp_all
 .rintro⟨h,C,F⟩;refine⟨h,?_⟩;rw[Z7,YA,Ze8,ZfG h];simp_all
def GY(u:Qn):(XE u).Nodup:=ZfE.sublist Zer
theorem Ik(h:d.Ok n half){i:Nat}(hi:i∈d.Zat):2*half<=i/\i<n:=by have⟨x,hx,hi⟩:=Zeg.1 hi;have⟨r,C,hi⟩:=Zeg.1 hi;have:=(h.ent x hx).many r C;grind
theorem Z23(h:d.Ok n half)(F:2*half<=n):(XE (YA n half d)).length+d.Zat.length+2*half=n:=by
 have C:(XE (YA n half d)++(d.Zat++List.range (2*half))).Perm (List.range n):=by
  rw[Zf4]
  .intro i;rw[Zj,Zj,Ca,ZdS,ZdS];constructor
   .rintro(h1|h1|h1)
    .omega
    .exact(Ik h h1).2
    .omega
   .grind
  .rw[ZdP,ZdP];refine⟨GY _,⟨h.apart,ZfE,λa ha b hb e=> ?_⟩,λa ha b hb e=> ?_⟩
   .have:=Ik h ha;rw[ZdS] at hb;omega
   .have⟨k1,J,M⟩:=Ca.1 ha;grind
  .grind
 have:=C.length_eq;grind
structure Cw(n half:Nat)(R:Nat->ByteArray)(d0:Dir)(Zan:List Ac)(d:Dir)(f:QF):Prop where
 ok:d.Ok n half
 fr:(f.map (·.1)).Nodup
 fresh:∀x∈f,∃e,d.get x.1=some e/\e.size=(acV Zan x.2).length/\e.sum=WD (acV Zan x.2)/\(∀i∈e.Zat,2*half<=i/\i<n/\i∉d0.Zat)/\x.2<Zan.length
 old:∀m e,d.get m=some e->f.by m=none->∀i∈e.Zat,i∈d0.Zat
 tab:∀m,(match f.by m with|some k=>some (some (acV Zan k))|none=>(d.get m).map (JP R))=Zan.foldl Ac.on (stR R d0) m
theorem XR{S:Sto}{Zan:List Ac}{f:QF}(R:Nat->ByteArray)(C:S.dir.Ok n half)(hu:S.used=YA n half S.dir)(ha:∀a∈Zan,a.ZaA=false)(h:S.ZaQ Zan=some (d,f)):Cw n half R S.dir Zan d f:=by
 unfold Sto.ZaQ at h;split at h
 .rename_i d1 f1 af;split at h
  .rename_i d2 U;simp at h;obtain⟨rfl,rfl⟩:=h;have h0:Cv n half S.dir Zan S.dir []:=⟨C.sorted,C.name,C.apart,λi hi=>hi,Qx,Qx,λm e hm _=>C.get hm⟩;have⟨p1,p2⟩:=IT (R:=R) Zan 0 rfl h0 ha af;rw[hu] at U;have ae:∀i∈XE (YA n half S.dir),i∉d1.Zat:=λi hi hm=>(Ca.1 hi).2.2 (p1.sub i hm);have⟨q1,q2,q3,q4,q5,q6⟩:=LT (n:=n) (half:=half) f1 _ d1 d2 U p1.sorted p1.name p1.apart (GY _) ae
    (λi hi=>by have:=Ca.1 hi;exact⟨this.2.1,this.1⟩) p1.fr (λx hx=>by
     have⟨e,k1,F,k3,J,k5,M⟩:=p1.fresh x hx
     exact⟨e,k1,F,k5,by rw[J];exact GL _⟩)
   have O:∀m,f1.by m=none->∀x∈f1,x.1≠m:=λm hm x hx e=>by rw[<-e,Z9s p1.fr hx] at hm;cases hm
   refine⟨⟨q1,?_,q2,q3⟩,p1.fr,?_,?_,?_⟩
   .intro x hx;have Z:=Z9k q1 (n:=x.1) (e:=x.2) hx;cases hb:f1.by x.1 with
    |none=>rw[q5 x.1 (O _ hb)] at Z;exact p1.old x.1 x.2 Z hb
    |some k=>have⟨a,b,_,F,_,_,_,M⟩:=q6 _ (Z9f hb);simp_all
   .intro x hx;have⟨e,k1,F,k3,J,k5,M⟩:=p1.fresh x hx;have⟨a,b,j1,j2,j3,j4,j5,j6⟩:=q6 x hx;rw[k1] at j1;cases j1;exact⟨b,j2,by rw[j3,k3],by rw[j4,J],λi hi=>by have:=Ca.1 (j5 i hi);exact⟨this.2.1,this.1,this.2.2⟩,M⟩
   .intro m e hm hb i hi;rw[q5 m (O _ hb)] at hm;exact p1.sub i (Zeg.2 ⟨(m,e),Z4 hm,hi⟩)
   .intro m;have:=congrFun p2 m;have e0:Ck R Zan S.dir []=stR R S.dir:=rfl;rw[e0] at this;rw[<-this];unfold Ck;grind
  .grind
 .grind
theorem Mj(h:d.Zat.Nodup)(hs:d.Zax){x y:Bs×Ent}(hx:x∈d)(C:y∈d)(F:x.1≠y.1){i:Nat}(J:i∈x.2.Zat)(M:i∈y.2.Zat):False:=by
 unfold Dir.Zat at h
 induction d with
 |nil=>cases hx
 |cons z r ih=>
  rw[Zm,ZdP] at h;have⟨_,n2,O⟩:=h;rcases Zk.1 hx with rfl|hx'
  .grind
  .rcases Zk.1 C with rfl|hy'
   .grind
   .exact ih n2 (Ze9.1 hs).2 hx' hy'
theorem KD(h:d.Zat.Nodup){x:Bs×Ent}(hx:x∈d):x.2.Zat.Nodup:=by unfold Dir.Zat at h;grind
variable{Zan:List Ac}{f:QF}{l:List Nat}{s:ByteArray}{v:Bs}
theorem Rw(h:DOp.wr a s∈W7 l v):a∈l:=by
 induction l generalizing v with
 |nil=>cases h
 |cons b r ih=>rw[W7] at h;grind
theorem Z4S(v:Bs):(JZ v).size=64:=by unfold JZ;rw[QW,Zb,ZgZ];grind
theorem Z8i(h:∀a∈l,a<n):∀o∈W7 l v,o.In n:=by
 induction l generalizing v with
 |nil=>intro o C;cases C
 |cons b r ih=>
  intro o C;rcases Zk.1 C with rfl|C
  .exact⟨h b Qx,Z4S v⟩
  .grind
def Z8j:∀{v:Bs} {R:Nat->ByteArray} {i b:Nat},l.Nodup->l[i]? =some b->Y0 (W7 l v) R b=JZ (v.drop (64*i)):=by
 induction l with
 |nil=>intro v R i b _ h;simp at h
 |cons a r ih=>
  intro v R i b C h;rw[ZdR] at C;show Y0 (W7 r (v.drop 64)) (DOp.rd R (.wr a (JZ v))) b=_
  match i,h with
  |0,h=>simp at h;subst h;rw[FT (λc s hm e=>C.1 (by rw[<-e];exact Rw hm))];simp[DOp.rd]
  |i+1,h=>rw[ih C.2 h,Zf3,show 64+64*i=64*(i+1) from Qw]
theorem Z1N:∀{v:Bs},(∀i b,l[i]? =some b->R b=JZ (v.drop (64*i)))->l.length=Yu v.length->(l.flatMap λa=>(R a).data.toList).take v.length=v:=by
 induction l with
 |nil=>
  intro v _ hl;have:v.length=0:=by unfold Yu at hl;simp at hl;omega
  rw[ZdW.1 this];rfl
 |cons a r ih=>
  intro v h hl;rw[Zm];have C:=h 0 a rfl;simp at C;rw[C];have M:(JZ v).data.toList=v.take 64++List.replicate (64- (v.take 64).length) 0:=rfl;rw[M];by_cases F:64<=v.length
  .have e1:(v.take 64).length=64:=by rw[Zg];omega
   rw[e1,Zgm,List.replicate_zero,ZdJ,Zg3,e1,ZfQ,ZgL F];have J:r.length=Yu (v.drop 64).length:=by rw[Zek];unfold Yu at hl⊢;rw[Ze] at hl;omega
   have:=ih (v:=v.drop 64) (λi b hi=>by
    have:=h (i+1) b QB
    rw[this,Zf3,show 64+64*i=64*(i+1) from Qw]) J
   simp_all
  .grind
def Z8o(d:Dir)(Zan:List Ac):Wb d Zan []=[]:=rfl
def EK(d:Dir)(Zan:List Ac)(x:Bs×Nat):List DOp:=match d.get x.1 with
 |some e=>W7 e.Zat (acV Zan x.2)
 |none=>[]
def Gk(d:Dir)(Zan:List Ac)(x:Bs×Nat)(f:QF):Wb d Zan (x::f)=EK d Zan x++Wb d Zan f:=by rfl
theorem Hv(h:DOp.wr a s∈Wb d Zan f):∃x∈f,∃e,d.get x.1=some e/\a∈e.Zat:=by
 induction f with
 |nil=>cases h
 |cons x r ih=>
  rw[Gk] at h;rcases Zj.1 h with h|h
  .unfold EK at h;split at h
   .rename_i e he;exact⟨x,Qx,e,he,Rw h⟩
   .grind
  .simp_all
theorem Z8m(h:∀x∈f,∀e,d.get x.1=some e->∀a∈e.Zat,a<n):∀o∈Wb d Zan f,o.In n:=by
 induction f with
 |nil=>intro o C;cases C
 |cons x r ih=>
  intro o C;rw[Gk] at C;rcases Zj.1 C with C|C
  .unfold EK at C;split at C
   .rename_i e he;exact Z8i (λa ha=>h x Qx e he a ha) o C
   .grind
  .grind
theorem Z8n(hs:d.Zax)(ha:d.Zat.Nodup)(J:(f.map (·.1)).Nodup){x:Bs×Nat}(hx:x∈f){e:Ent}(he:d.get x.1=some e){i b:Nat}(hi:e.Zat[i]? =some b)(R:Nat->ByteArray):Y0 (Wb d Zan f) R b=JZ ((acV Zan x.2).drop (64*i)):=by
 have C:b∈e.Zat:=QA
 induction f generalizing R with
 |nil=>cases hx
 |cons y r ih=>
  rw[Gk,XS];rcases Zk.1 hx with rfl|hx
  .rw[FT,EK,he]
   .exact Z8j (KD ha (Z4 he)) hi
   .intro a s hm e1;have⟨z,M,e2,F,h⟩:=Hv hm;subst e1;refine Mj ha hs (Z4 F) (Z4 he) ?_ h C;grind
  .simp_all
def II:List Nat->Bs->Seg
 |[],_=>[]
 |a::r,v=>(a,JZ v)::II r (v.drop 64)
def Z8k(l:Qj)(v:Bs):W7 l v=(II l v).map λx=>DOp.wr x.1 x.2:=by
 induction l generalizing v with
 |nil=>rfl
 |cons a r ih=>rw[W7,II,ih];rfl
def MU(d:Dir)(Zan:List Ac)(x:Bs×Nat):Seg:=match d.get x.1 with
 |some e=>II e.Zat (acV Zan x.2)
 |none=>[]
def DT(d:Dir)(Zan:List Ac)(f:QF):Seg:=f.flatMap (MU d Zan)
def Z8r(d:Dir)(Zan:List Ac)(x:Bs×Nat)(f:QF):DT d Zan (x::f)=MU d Zan x++DT d Zan f:=by rfl
def IJ(d:Dir)(Zan:List Ac)(f:QF):Wb d Zan f=(DT d Zan f).map λx=>DOp.wr x.1 x.2:=by
 induction f with
 |nil=>rfl
 |cons x r ih=>
  rw[Gk,ih,Z8r,Zo,EK,MU];congr 1;split
  .exact Z8k _ _
  .rfl
def Fe(d:Dir)(Zan:List Ac)(f:QF):List Seg:=if(Wb d Zan f).isEmpty then[] else[DT d Zan f]
def Z0O(d:Dir)(Zan:List Ac)(f:QF):Wq d Zan f=YO (Fe d Zan f):=by
 unfold Wq Fe;split
 .rfl
 .show Wb d Zan f++[DOp.fl]=YO [DT d Zan f];unfold YO Seg.ops;rw[Zm,ZgM,ZdJ,IJ]
def Sto.ZbP(S:Sto)(d:Dir)(f:QF):List Seg:=
 if QQ (JI (YD S.dir d f)).length / 64<=S.j.half-S.j.next then S.j.Zbu (JI (YD S.dir d f)) else S.j.Zbr (Xi d)
def Z37(S:Sto)(d:Dir)(f:QF):S.Zbe d f=YO (S.ZbP d f):=by
 unfold Sto.Zbe Sto.ZbP;split
 .exact Nw _ _
 .exact Sy _ _
def Sto.ZbU(S:Sto)(Zan:List Ac)(d:Dir)(f:QF):List Seg:=Fe d Zan f++S.ZbP d f
def FM(S:Sto)(Zan:List Ac)(d:Dir)(f:QF):S.ops Zan d f=YO (S.ZbU Zan d f):=by unfold Sto.ops Sto.ZbU;rw[Z0O,Z37];simp[YO]
theorem Kd(J:Jn)(s:Bool)(k:Nat):∀o∈J.clean s k,o.In (2*J.half):=by
 intro o h;unfold Jn.clean at h;split at h
 .grind
 .rw[Z6] at h;subst h;exact⟨by unfold Jn.at_;split<;>omega,N1⟩
def K1(J:Jn)(s:Bool)(k:Nat):J.at_ s k<=J.half+k:=by unfold Jn.at_;split<;>omega
theorem PS(J:Jn)(s:Bool)(k:Nat)(l:Bs)(hl:l.length%64=0)(C:l≠[])(M:k+l.length / 64<=J.half):∀o∈J.lay s k l,o.In (2*J.half):=by
 have F:=K1 J s k;intro o h;unfold Jn.lay at h;simp only[Zj,Z6] at h;rcases h with (((h|h)|rfl)|h)|rfl
 .exact Gp (by rw[Jj l C];exact hl) (by rw[Jj l C];omega) o h
 .exact Kd J s _ o h
 .trivial
 .exact Gp QA QA o h
 .trivial
def UU(J:Jn)(r:Bs)(h:QQ r.length / 64<=J.half-J.next):∀o∈J.ZaM r,o.In (2*J.half):=by have⟨m1,m2⟩:=DE J.Zar (J.many+1) r;have:=Fj r.length;exact PS J _ _ _ m2 (B4 _ _ _) Qw
def Z5G(J:Jn)(r:Bs)(O:1+QQ r.length / 64<=J.half):∀o∈J.ZaI r,o.In (2*J.half):=by
 obtain⟨m1,m2⟩:=DE (J.Zar+1) 1 r;have F:=K1 J (!J.second) 1;have M:=K1 J (!J.second) 0;have hh:=Xw (J.Zar+1);have C:QO (J.Zar+1) 0 Yk≠[]:=QA;intro o h;unfold Jn.ZaI at h;simp only[Zj,Z6] at h;rcases h with ((((h|h)|h)|rfl)|h)|rfl
 .exact Gp m2 Qw o h
 .exact Kd J _ _ o h
 .exact Gp (by rw[Jj _ C,hh]) (by rw[Jj _ C,hh];omega) o h
 .trivial
 .exact Gp Qw Qw o h
 .trivial
def GW(half:Nat)(hh:2<=half):∀o∈Z3 half,o.In (2*half):=by
 have:=Xw 1;intro o h;unfold Z3 at h;simp at h;rcases h with h|h
 .exact Kd ⟨half,false,1,0,1,false⟩ _ _ o h
 .exact PS ⟨half,false,1,0,1,false⟩ false 0 (QO 1 0 Yk) Qw (B4 _ _ _) QA o h
def Z5t{l:List DOp}{m:Nat}(h:∀o∈l,o.In m)(R:Nat->ByteArray){b:Nat}(hb:m<=b):Y0 l R b=R b:=FT λa s hm e=>by have:=(h _ hm).1;omega
def Rec.Ok(n half:Nat):Rec->Prop
 |.all d=>d.Ok n half/\d≠[]
 |.some l=>l≠[]/\(l.map (·.1)).Pairwise (· < ·)/\∀x∈l,1<=x.1.length/\x.1.length<=220/\∀e:Ent,x.2=Option.some e->Ent.Ok n half e
structure Wf(n half:Nat)(R:Nat->ByteArray)(S:Sto)(Zau:List Rec):Prop where
 nn:S.n=n
 hh:S.half=half
 ZaP:S.j.half=half
 open_:S.j.closed=false
 img:Wm R S.j (Zau.map Rec.enc)
 dir:Zau.foldl Rec.app []=S.dir
 pre:∀k,k<=Zau.length->Dir.Ok n half ((Zau.take k).foldl Rec.app [])
 used:S.used=YA n half S.dir
 small:∀r∈Zau,r.enc.length<=60000
 few:∀k,k<=Zau.length->((Zau.take k).foldl Rec.app []).length<=10000
 Zau:∀r∈Zau,r.Ok n half
def Wf.ok{S:Sto}{Zau:List Rec}(h:Wf n half R S Zau):S.dir.Ok n half:=by have:=h.pre Zau.length (Zt _);rw[Zs,h.dir] at this;omega
def Wf.congr{S:Sto}{Zau:List Rec}(h:Wf n half R S Zau)(C:1<=half)(F:∀b,b<2*half->R' b=R b):Wf n half R' S Zau:=⟨h.nn,h.hh,h.ZaP,h.open_,h.img.congr (λb hb=>F b (by rw[<-h.ZaP];exact hb)) (by rw[h.ZaP];exact C),h.dir,h.pre,h.used,h.small,h.few,h.Zau⟩
theorem TJ(h:∀b∈d.Zat,R' b=R b):stR R' d=stR R d:=by
 funext m
 unfold stR;cases hm:d.get m with
 |none=>rfl
 |some e=>have:X4 R' e=X4 R e:=IH λb hb=>h b (Zeg.2 ⟨(m,e),Z4 hm,hb⟩);unfold JP;grind
structure Cy(S:Sto)(d:Dir)(f:QF):Prop where
 some_:(JI (YD S.dir d f)).length<=60000
 whole:(Xi d).length<=60000
 fits:1+QQ (Xi d).length / 64<=S.j.half
 ne1:YD S.dir d f≠[]
 ne2:d≠[]
 many:d.length<=10000
def Sto.Zc7(S:Sto)(Zau:List Rec)(d:Dir)(f:QF):List Rec:=
 if QQ (JI (YD S.dir d f)).length / 64<=S.j.half-S.j.next then Zau++[.some (YD S.dir d f)] else[.all d]
theorem Z0q{was now:Dir}(hw:was.Ok n half)(C:now.Ok n half)(M:YD was now f≠[]):Rec.Ok n half (.some (YD was now f)):=by
 refine⟨M,?_,?_⟩
 .have U:((YD was now f).map (·.1)).Sublist (was.both now).names:=OO _ _ λn x h=>(E3 h).1;have Z:((was.both now).names).Pairwise (· < ·):=by have:=Z9n hw.sorted now;unfold Dir.names;rw[Zev];exact this
  grind
 .intro x hx;have⟨m,hm,O⟩:=ZeD.1 hx;have⟨e1,e2⟩:=E3 O;subst e1;have hb:=XI.1 hm;rw[Z9d _ C.sorted] at hb;refine⟨?_,?_,λe he=>C.get (by rw[<-e2];exact he)⟩
  all_goals
   cases J:now.get x.1 with
   |some e=>have:=C.name _ (Z4 J);exact QB
   |none=>
    rw[J] at hb;cases F:was.get x.1 with
    |some e=>have:=hw.name _ (Z4 F);exact QB
    |none=>exact absurd F hb
def La{S:Sto}(C:Cy S d f):∀o∈S.Zbe d f,o.In (2*S.j.half):=by
 unfold Sto.Zbe;split
 .rename_i h;exact UU S.j _ h
 .exact Z5G S.j _ C.fits
section
variable{S:Sto}{Zau:List Rec}
theorem Oj(C:Cw n half R S.dir Zan d f):∀o∈Wq d Zan f,o.In n:=by
 intro o h;unfold Wq at h;split at h
 .grind
 .rcases Zj.1 h with h|h
  .refine Z8m (λx hx e he a ha=> ?_) o h;have⟨J,F,_,_,M,_⟩:=C.fresh x hx;simp_all
  .rw[Z6] at h;subst h;trivial
theorem Sn(hb:∀x∈f,∀e,d.get x.1=some e->b∉e.Zat)(R:Nat->ByteArray):Y0 (Wq d Zan f) R b=R b:=by
 refine FT λa s hm e=> ?_;unfold Wq at hm;split at hm
 .grind
 .rcases Zj.1 hm with hm|hm
  .have⟨x,hx,e2,h,ha⟩:=Hv hm;grind
  .simp_all
def So(R:Nat->ByteArray):Y0 (Wq d Zan f) R=Y0 (Wb d Zan f) R:=by
 unfold Wq;split
 .simp_all
 .rw[XS];rfl
theorem Cw.apart(h:Cw n half R S.dir Zan d f){b:Nat}(hb:b<2*half∨b∈S.dir.Zat):∀x∈f,∀e,d.get x.1=some e->b∉e.Zat:=by intro x hx e he hm;have⟨F,C,_,_,J,_⟩:=h.fresh x hx;grind
def Wf.Zb2(h:Wf n half R S Zau)(h1:1<=half)(h2:2*half<=n)(O:n<=8192)(C:Cw n half R S.dir Zan d f)(J:Cy S d f):Wf n half (Y0 (S.ops Zan d f) R) (S.done d f) (S.Zc7 Zau d f):=by
 have U:Wm (Y0 (Wq d Zan f) R) S.j (Zau.map Rec.enc):=h.img.congr (λb hb=>Sn (C.apart (Zv (by rw[<-h.ZaP];exact hb))) R) (by rw[h.ZaP];exact h1);have e0:Y0 (S.ops Zan d f) R=Y0 (S.Zbe d f) (Y0 (Wq d Zan f) R):=by unfold Sto.ops;rw[XS]
 rw[e0];unfold Sto.Zc7 Sto.done;have ae:(S.Zbp d f).half=S.j.half:=by unfold Sto.Zbp;split<;>rfl
 have Z:(S.Zbp d f).closed=S.j.closed:=by unfold Sto.Zbp;split<;>rfl
 refine⟨h.nn,h.hh,by simp only;rw[ae];exact h.ZaP,by simp only;rw[Z];exact h.open_,?_,?_,?_,by simp only;rw[h.nn,h.hh],?_,?_,?_⟩
 .simp only;unfold Sto.Zbe Sto.Zbp;split
  .rename_i hf;rw[Zo];exact U.append _ hf
  .exact U.reset _ J.fits
 .simp only;split
  .rw[Zeh,h.dir];exact IZ O h.ok C.ok
  .exact IY (was:=[]) C.ok.sorted
 .split
  .intro k F;by_cases M:k<=Zau.length
   .rw[Ze6 M];exact h.pre k M
   .rw[Zi QA,Zeh,h.dir];show Dir.Ok n half (Rec.app S.dir (.some (YD S.dir d f)));rw[IZ O h.ok C.ok];exact C.ok
  .intro k F
   match k,F with
   |0,_=>exact⟨List.Pairwise.nil,Qx,Qx,List.nodup_nil⟩
   |1,_=>show Dir.Ok n half (Rec.app [] (.all d));rw[IY C.ok.sorted];exact C.ok
   |k+2,F=>simp at F
 .split
  .intro r hm;rcases Zj.1 hm with hm|hm
   .exact h.small r hm
   .rw[Z6] at hm;subst hm;exact J.some_
  .intro r hm;rw[Z6] at hm;subst hm;exact J.whole
 .split
  .intro k F;by_cases M:k<=Zau.length
   .rw[Ze6 M];exact h.few k M
   .rw[Zi QA,Zeh,h.dir];show(Rec.app S.dir (.some (YD S.dir d f))).length<=10000;rw[IZ O h.ok C.ok];exact J.many
  .intro k F
   match k,F with
   |0,_=>exact ZeT _
   |1,_=>show(Rec.app [] (.all d)).length<=10000;rw[IY (was:=[]) C.ok.sorted];exact J.many
   |k+2,F=>simp at F
 .split
  .intro r hm;rcases Zj.1 hm with hm|hm
   .exact h.Zau r hm
   .rw[Z6] at hm;subst hm;exact Z0q h.ok C.ok J.ne1
  .intro r hm;rw[Z6] at hm;subst hm;exact⟨C.ok,J.ne2⟩
def TS(h:Wf n half R S Zau)(C:Cw n half R S.dir Zan d f)(hr:Cy S d f):stR (Y0 (S.ops Zan d f) R) d=Zan.foldl Ac.on (stR R S.dir):=by
 funext m
 rw[<-C.tab m];have Z:∀o∈S.Zbe d f,o.In (2*half):=by rw[<-h.ZaP];exact La hr
 have M:∀b,2*half<=b->Y0 (S.ops Zan d f) R b=Y0 (Wq d Zan f) R b:=λb hb=>by unfold Sto.ops;rw[XS,Z5t Z _ hb]
 unfold stR;cases hm:d.get m with
 |none=>
  have:f.by m=none:=by
   cases hb:f.by m with
   |none=>rfl
   |some k=>have⟨e,he,_⟩:=C.fresh _ (Z9f hb);simp_all
  simp_all
 |some e=>
  have O:∀b∈e.Zat,2*half<=b:=λb hb=>(Ik C.ok (Zeg.2 ⟨(m,e),Z4 hm,hb⟩)).1;have:X4 (Y0 (S.ops Zan d f) R) e=X4 (Y0 (Wq d Zan f) R) e:=IH λb hb=>M b (O b hb);cases hb:f.by m with
  |none=>have:X4 (Y0 (Wq d Zan f) R) e=X4 R e:=IH λb U=>Sn (C.apart (Zy (C.old m e hm hb b U))) R;unfold JP;simp_all
  |some k=>
   have⟨e',F,J,af,_,_⟩:=C.fresh _ (Z9f hb);rw[hm] at F;cases F;have:X4 (Y0 (Wq d Zan f) R) e=acV Zan k:=by unfold X4;rw[J,So];refine Z1N (λi b hi=> ?_) (by rw[<-J];exact(C.ok.get hm).Zat);exact Z8n C.ok.sorted C.ok.apart C.fr (Z9f hb) hm hi R
   unfold JP;simp_all
theorem Wf.cut(h:Wf n half R S Zau)(O:1<=half)(hp:Cw n half R S.dir Zan d f)(hr:Cy S d f){R':Nat->ByteArray}(hc:Cut (S.ZbU Zan d f) R R'):(Wf n half R' S Zau/\stR R' S.dir=stR R S.dir)∨R'=Y0 (S.ops Zan d f) R:=by
 have old:∀{Q:Nat->ByteArray},(∀b,(b<2*half∨b∈S.dir.Zat)->Q b=R b)->Wf n half Q S Zau/\stR Q S.dir=stR R S.dir:=λC=>⟨h.congr O (λb hb=>C b (Zv hb)),TJ λb hb=>C b (Zy hb)⟩;have M:∀x∈DT d Zan f,∀b,(b<2*half∨b∈S.dir.Zat)->x.1≠b:=by
  intro x hx b hb e;have hm:DOp.wr x.1 x.2∈Wb d Zan f:=by rw[IJ];exact Zeq hx
  have⟨y,hy,e2,ae,ha⟩:=Hv hm;rw[e] at ha;exact hp.apart hb y hy e2 ae ha
 have J:∀{Q:Nat->ByteArray},(∀b,(b<2*half∨b∈S.dir.Zat)->Q b=R b)->Y0 (Wq d Zan f) R=Q->Cut (S.ZbP d f) Q R'->(Wf n half R' S Zau/\stR R' S.dir=stR R S.dir)∨R'=Y0 (S.ops Zan d f) R:=by
  intro Q C hd hc;have U:Wm Q S.j (Zau.map Rec.enc):=h.img.congr (λb hb=>C b (Zv (by rw[<-h.ZaP];exact hb))) (by rw[h.ZaP];exact O);have fin:(Wm R' S.j (Zau.map Rec.enc)/\∀b,2*S.j.half<=b->R' b=Q b)->Wf n half R' S Zau/\stR R' S.dir=stR R S.dir:=by rintro⟨g1,g2⟩;refine⟨⟨h.nn,h.hh,h.ZaP,h.open_,g1,h.dir,h.pre,h.used,h.small,h.few,h.Zau⟩,TJ λb hb=> ?_⟩;have:=(Ik h.ok hb).1;rw[g2 b (by rw[h.ZaP];exact this)];simp_all
  have e0:Y0 (S.ops Zan d f) R=Y0 (S.Zbe d f) Q:=by unfold Sto.ops;rw[XS,hd]
  rw[e0];unfold Sto.ZbP at hc;unfold Sto.Zbe;split at hc
  .rename_i F;rcases U.Zch _ F hc with g|g
   .simp_all
   .simp_all
  .rename_i F;rw[Zw F];rcases U.Zcr _ hr.fits hc with g|g
   .simp_all
   .simp_all
 unfold Sto.ZbU Fe at hc;split at hc
 .rename_i he;refine J (Q:=R) (λb _=>rfl) ?_ hc;unfold Wq;rw[Zx he];rfl
 .rename_i he;rcases hc with ⟨j,hb⟩|hc
  .left;exact old λb Z=>hb.other λx hx=>M x (ZdK hx) b Z
  .refine J (Q:=rdW (DT d Zan f) R) (λb hb=>FU λx hx=>M x hx b hb) ?_ hc;rw[So,IJ,Ia]
end
variable{a:Option Addr}{rs:List (Nat×Nat)}
def Ww(l:List (Nat×Nat)):Qk:=l.flatMap λr=>[.int .i64 (r.1:Int),.int .i64 (r.2:Int)]
def DG(l:List (Nat×Nat)):(Ww l).length=2*l.length:=by
 induction l with
 |nil=>rfl
 |cons x l ih=>simp[Ww] at ih⊢;omega
def Z5o(x:Nat×Nat)(l:List (Nat×Nat)):Ww (x::l)=.int .i64 (x.1:Int):: .int .i64 (x.2:Int)::Ww l:=rfl
def I7(a b:List (Nat×Nat)):Ww (a++b)=Ww a++Ww b:=by simp[Ww]
theorem FS(l:List (Nat×Nat))(i:Nat)(h:i<l.length):(Ww l)[2*i]? =some (.int .i64 ((l.getD i (0,0)).1:Int))/\(Ww l)[2*i+1]? =some (.int .i64 ((l.getD i (0,0)).2:Int)):=by
 induction l generalizing i with
 |nil=>simp at h
 |cons x l ih=>
  match i,h with
  |0,_=>exact⟨rfl,rfl⟩
  |i+1,h=>rw[Z5o];grind
def EV(w:Qs)(a:Qm)(len:Nat)(rs:List (Nat×Nat)):Prop:=len=rs.length/\(rs=[]∨∃g sp,a=some ⟨g,0,none⟩/\Row w g 197 (Ww rs++sp))
def ER(w:Qs)(a:Qm)(len cap:Nat)(rs:List (Nat×Nat)):Prop:=EV w a len rs/\(rs=[]->a=none/\cap=0)
def Xj(w:Qs)(v:Qt)(e:Ent):Prop:=∃a len cap,v=.agg #[(e.size:Int),.int .u32 (e.sum:Int),.slice a len cap]/\ER w a len cap e.runs
structure Yh(w:Qs)(b n:Nat)(d:Dir):Prop where
 map:∃fv,Yb w b n fv/\(∀k,d.get k=none->fv k=none)/\∀k e,d.get k=some e->∃v,fv k=some v/\Xj w v e
def EV.fr{len:Nat}(h:EV w a len rs)(O:Fr L w w')(M:∀k,k∈L->∀l,¬Row w k 197 l):EV w' a len rs:=by have⟨F,J⟩:=h;refine⟨F,J.imp id ?_⟩;rintro⟨g,sp,ha,C⟩;exact⟨g,sp,ha,C.fr O (λhm=>M g hm _ C)⟩
def ER.fr{len cap:Nat}(h:ER w a len cap rs)(F:Fr L w w')(C:∀k,k∈L->∀l,¬Row w k 197 l):ER w' a len cap rs:=⟨h.1.fr F C,h.2⟩
def Xj.fr{v:Qt}(h:Xj w v e)(F:Fr L w w')(C:∀k,k∈L->∀l,¬Row w k 197 l):Xj w' v e:=by have⟨a,len,cap,hv,J⟩:=h;exact⟨a,len,cap,hv,J.fr F C⟩
def Yh.fr(h:Yh w b n d)(C:Fr L w w')(hb:b∉L)(U:∀k,k∈L->∀l,¬Row w k 197 l):Yh w' b n d:=by have⟨F,J,M,O⟩:=h;refine⟨F,J.fr C hb,M,λk e Z=> ?_⟩;have⟨v,hv,he⟩:=O k e Z;exact⟨v,hv,he.fr C U⟩
def Yh.after(h:Yh w b n d)(hb:Below w w w'):Yh w' b n d:=h.fr (Z1 (L:=[]) hb) Qx Qx
def marks(n lim:Nat)(vis:Qj):Qk:=(List.range n).map λi=>.bool (decide (i<lim)||vis.contains i)
def C8(n lim:Nat)(vis:Qj):(marks n lim vis).length=n:=by simp[marks]
def Du(n lim:Nat)(vis:Qj)(i:Nat)(h:i<n):(marks n lim vis)[i]? =some (.bool (decide (i<lim)||vis.contains i)):=by simp[marks,h]
theorem Z3R(n k:Nat)(vis:Qj)(h:k<n):(marks n k vis).set k (.bool true)=marks n (k+1) vis:=by
 apply ZeB;intro i;rw[Zfb];by_cases hi:i<n
 .rw[Du n (k+1) vis i hi];by_cases e:k=i
  .subst e;rw[Zx rfl,Zx (by rw[C8];exact h)];simp
  .rw[Zw e,Du n k vis i hi];have:decide (i<k)=decide (i<k+1):=QA;grind
 .have:(marks n (k+1) vis)[i]? =none:=Zei (by rw[C8];omega);have:(marks n k vis)[i]? =none:=Zei (by rw[C8];omega);grind
theorem Z3Q(n lim:Nat)(vis:Qj)(k:Nat)(h:k<n):(marks n lim vis).set k (.bool true)=marks n lim (vis++[k]):=by
 apply ZeB;intro i;rw[Zfb];by_cases hi:i<n
 .rw[Du n lim (vis++[k]) i hi];by_cases e:k=i
  .subst e;rw[Zx rfl,Zx (by rw[C8];exact h)];simp
  .rw[Zw e,Du n lim vis i hi];grind
 .have:(marks n lim (vis++[k]))[i]? =none:=Zei (by rw[C8];omega);have:(marks n lim vis)[i]? =none:=Zei (by rw[C8];omega);simp_all
def Z3S(n half:Nat)(d:Dir)(vis:Qj)(h:∀i,i∈vis↔i∈d.Zat):marks n (2*half) vis=(YA n half d).map .bool:=by unfold marks YA;simp_all
def BV(w:Qs)(v:Qt)(used:Qn):Prop:=∃g,v=.slice (g:Nat) used.length used.length/\Row w g 4 (used.map .bool)
def NQ:(prog.info? 4).map (λi=>(i.zero,i.size,i.bytes))=some (some (.bool false),1,1):=Qy
def Z6m(i0:TypeInfo)(hi:prog.info? 4=some i0)(C:i0.zero=some (.bool false))(hs:i0.size=1)(hb:i0.bytes=1)(n:Nat)(M:n<=140737488355328)(W:Qs):(Instr.makeSlice 37 (.int .i64 (n:Int)) (.int .i64 (n:Int))).run prog W=.ok (.slice (some ⟨W,0,none⟩) n n) (W.alloc (.cells (List.replicate n (Value.bool false)).toArray 4)):=by
 have h:=run_make (P:=prog) W 37 4 i0 (.bool false) underlying37 hi C .i64 .i64 (n:Int) (n:Int) Qw Qw QA Qw;have e:madeCells (Value.bool false).cells (((n:Nat):Int).toNat*i0.size)=(List.replicate n (Value.bool false)).toArray:=by
  rw[hs,ZeA,Zg7];apply Zh9
  .simp[madeCells]
  .intro i F J;simp[madeCells,Value.cells,Zh1]
 rw[e] at h;simpa using h
def Z3T(n:Nat):List.replicate n (Value.bool false)=marks n 0 []:=by
 apply ZeB;intro i;by_cases hi:i<n
 .rw[Du n 0 [] i hi];simp[hi]
 .rw[Zei QB,Zei (by rw[C8];omega)]
def Mm(c a:Int)(hc:c≠0)(w:Qs):Calls prog 83 #[c,a] w λe w'=>∃b,e=.returned (.iface 139 (b:Nat))/\QK w' w c (.iface 139 (b:Nat))/\Below w w w':=by go_enter func83,ntmps83;go_wp2;go_ret;exact⟨w.heap.size,rfl,KM hc (Zt _) (Z2 w _ [.int .i64 c,.int .i64 a,.nilIface]),(Zu _ _).alloc (Zt _) _⟩
def Ml(n:Nat)(h:n<=1000000000)(w:Qs):Calls prog 90 #[(n:Int)] w λe w'=>e=.returned (.int .i64 (Yu n:Nat))/\w=w':=by go_enter func90,ntmps90;go_wp2;go_ret;exact⟨A7 (by unfold Yu;omega),rfl⟩
def TD(n:Nat)(h:n<=4294967295)(w:Qs):Calls prog 189 #[(n:Int)] w λe w'=>e=.returned (.string (s32 n))/\Below w w w':=by go_enter func189,ntmps189;go_wp2_with (go_at_call 125;go_fit (LG n h _);rintro e w' ⟨rfl,hb⟩);go_ret;simp_all
variable{e:TypeId}{fv:Bs->Option Value}{l:List Value}{nm:Nat}{vis:List Nat}{wr:World}
def Xr{C:Qu}{l':Qk}(h:Row w g e l)(F:Row w g C l'):e=C:=by have⟨f,M,_⟩:=h;have⟨f',J,_⟩:=F;simp_all
def Aj(h:Row w g e l){es:Array MapEntry}{F:Nat}(J:w.heap[g]? =some (.map es F)):False:=by have⟨f,C,_⟩:=h;rw[J] at C;cases C
def SM(h:Row w g e l){a b c d}(F:w.heap[g]? =some (.mapIter a b c d)):False:=by have⟨f,C,_⟩:=h;rw[F] at C;cases C
structure TkS(w:Qs)(b r nm n half:Nat)(fv:Bs->Option Qt)(d:Dir)(g:Nat)(todo:Bs->Bool)(vis:Qj)(cnt:Nat)(wr:Qs):Prop where
 rg:Xc wr b r nm fv todo cnt
 used:Row wr g 4 (marks n (2*half) vis)
 bel:Below w w wr
 gge:w<=g
 rge:w<=r
def TkS.fr(h:TkS w b r nm n half fv d g todo vis cnt wr)(hb:Below wr wr w'):TkS w b r nm n half fv d g todo vis cnt w':=by exact⟨h.rg.after hb,h.used.after hb,h.bel.trans (hb.mono h.bel.size),h.gge,h.rge⟩
def TkS.mark(h:TkS w b r nm n half fv d g todo vis cnt wr)(k:Nat)(F:k<n):TkS w b r nm n half fv d g todo (vis++[k]) cnt (wr.setCell ⟨g,k,none⟩ (.bool true)):=by
 have hc:=h.rg;have C:Fr [g] wr (wr.setCell ⟨g,k,none⟩ (.bool true)):=(Fr.refl _ _).setCell (Zv Qx) _;obtain⟨es,M,hm⟩:=hc.owns.block;obtain⟨x1,O,U,Z,hi⟩:=hc.iter;have hb:b∉[g]:=by rw[Z6];rintro rfl;exact Aj h.used hm
 have J:r∉[g]:=by rw[Z6];rintro rfl;exact SM h.used hi
 refine⟨hc.fr C hb J,?_,h.bel.setCell h.gge _,h.gge,h.rge⟩;rw[<-Z3Q n _ vis k F];exact h.used.set k _
theorem G4(rs:List (Nat×Nat))(h:∀r∈rs,1<=r.2):rs.length<=(rs.flatMap λr=>List.range' r.1 r.2).length:=by
 induction rs with
 |nil=>simp
 |cons x l ih=>grind
def GV(rs:List (Nat×Nat))(q:Nat)(h:q<rs.length):Yc (rs.take (q+1))=Yc (rs.take q)++List.range' (rs.getD q (0,0)).1 (rs.getD q (0,0)).2:=by unfold Yc;rw[Zc h,Z7,Z8 h,ZdY];simp
def GU(rs:List (Nat×Nat))(q:Nat):∃z,Yc rs=Yc (rs.take q)++z:=by refine⟨Yc (rs.drop q),?_⟩;unfold Yc;rw[<-ZdY,ZdH]
theorem Z6o(h:(Yc rs).Nodup)(q t:Nat)(C:q<rs.length)(J:t<(rs.getD q (0,0)).2):(rs.getD q (0,0)).1+t∉Yc (rs.take q)++List.range' (rs.getD q (0,0)).1 t/\(rs.getD q (0,0)).1+t∈Yc rs:=by have⟨z,F⟩:=GU rs (q+1);rw[GV rs q C] at F;grind
def Gh(B p d n:Nat)(P:Pw)(D:Dk)(L:Qj)(s half b nm:Nat)(dir:Dir)(w:Qs)(h:PD B w p d n P D L)(hs0:w.cell? s=d)(fq:w.cell? ⟨s,2,none⟩=(half:Int))(dm:Yh w b nm dir)(ey:Dir.Ok n half dir)(h2:2*half<=n):Calls prog 94 #[s,.map (some b)] w λe w'=>∃uv,e=.returned (.tuple #[uv,true])/\BV w' uv (YA n half dir)/\Below w w w':=by
 obtain⟨i0,hi,fc,fe,fg⟩:=ZE NQ;have hn:=h.ok.n2;have cy:=λW=>Z6m i0 hi fc fe fg n Qw W;have ft:s<w:=Z9 w _ fq;obtain⟨fv,hm,bf,bh⟩:=dm;obtain⟨gh,v,_,hd⟩:=h.dk;have HK:=ZI h.ok.len;have HD:=ZI hd;have HM:=ZX hm bf bh;have HO:=ZI ey;clear h hd hm bf bh ey hi fc fe fg;go_enter func94,ntmps94;go_wp2_with (go_at_call 138;refine(BK p d gh v D n _ HD.o HK.o hn).mono ?_;rintro e w' ⟨rfl,rfl⟩);go_loopw [7,24] (λ_ C wr=>∃k:Nat,k<=2*half/\C=(k:Int)/\Row wr w 4 (marks n k [])/\Below w w wr) (λ_ C _=>2*half- (intOf C).toNat)
 .exact⟨0,Qw,rfl,by rw[<-Z3T];exact Z2 w _ _,(Zu _ _).alloc (Zt _) _⟩
 obtain⟨k,hk,rfl,U,hb⟩:=hrel;by_cases O:k<2*half
 .have cw:=U.free (j:=k) (by rw[C8];omega);have ay:=U.cell (Du n k [] k Qw);have k1:(k:Int)<(n:Int):=Qw;have k2:k<n:=Qw;have HR:=ZM U hb;clear U hb cy;go_wp2;go_roundw
  .exact⟨k+1,Qw,QC,by rw[<-Z3R n k [] Qw];exact HR.1.set k _,HR.2.setCell (Zt _) _⟩
  simp[intOf];omega
 .obtain rfl:k=2*half:=by omega
  rw[show((2*half:Nat):Int)=2*(half:Int) from Qw];have HR:=ZM U hb;have hz:=hb.size;have eo:Yb wr b nm fv:=HM.1.fr (Z1 (L:=[]) hb) Qx;clear U hb cy;go_wp2_with (at_range;refine IL _ rfl _ 155 rfl 164 underlying155 b nm fv rfl eo ?_;intro w1 cnt cz dh du);have T0:TkS w b wr nm n half fv dir w (λk=>(fv k).isSome) [] cnt w1:=
   ⟨cz,HR.1.after dh,HR.2.trans (dh.mono hz),Zt _,hz⟩
  have de:∀k,(fv k).isSome=true->dir.get k≠none:=λk hk he=>by rw[HM.2 k he] at hk;cases hk
  have bj:∀i,i∈([]:Qj)↔∃x∈dir,(fv x.1).isSome=false/\i∈x.2.Zat:=λi=>by
   constructor
   .intro h;cases h
   .rintro⟨x,hx,J,_⟩;obtain⟨u,hu,_⟩:=HM.3 x.1 x.2 (Z9k HO.o.sorted hx);rw[hu] at J;cases J
  have cn:=ZN T0 de bj;obtain⟨r,hr⟩:=ZK wr.heap.size;rw[hr] at cn⊢;obtain⟨g,hg⟩:=ZK w.heap.size;have HG:=ZI hg;rw[hg] at cn;clear T0 de bj cz dh du hr eo hz;rw[hg];clear hg;go_frame;go_loopw [9] (λ_ wq=>∃ (todo:Bs->Bool) (vis:Qj) (ak:Nat),TkS w b r nm n half fv dir g todo vis ak wq/\(∀k,todo k=true->dir.get k≠none)/\∀i,i∈vis↔∃x∈dir,todo x.1=false/\i∈x.2.Zat) (λ_ wq=>wq.rangeLeft b r)
  .exact⟨_,_,_,cn.1,cn.2.1,cn.2.2⟩
  obtain⟨todo,vis,ak,hS,fa,df⟩:=hrel;have ag:=hS.rg;have F:=ZX hS fa df;have ae:World.rangeLeft _ b r=ak:=ag.left_eq;have fi:=ZI ae;clear hS fa df ae;go_wp2_with (at_next;refine IK _ rfl _ rfl b r nm fv todo ak rfl ag ?_ ?_)
  .intro az
   have cu:BV _ (.slice g n n) (YA n half dir):=⟨g,by simp[YA],by
    rw[<-Z3S n half dir vis (λi=>by
     rw[F.3 i];unfold Dir.Zat;rw[Zeg]
     exact⟨λ⟨x,hx,_,hi⟩=>⟨x,hx,hi⟩,λ⟨x,hx,hi⟩=>⟨x,hx,az _,hi⟩⟩)]
    exact F.1.used⟩
   have HF:=ZM cu F.1.bel;clear az cu ag;go_wp2;go_ret2;exact⟨_,rfl,HF.1,HF.2⟩
  .intro k v w2 aq fo dw ek cz O dq ia gj;obtain⟨e,he⟩:∃e,dir.get k=some e:=by
    cases fm:dir.get k with
    |none=>exact absurd fm (F.2 k dw)
    |some e=>exact⟨e,rfl⟩
   obtain⟨v',dx,fj⟩:=HM.3 k e he;rw[ek] at dx;obtain rfl:=ZdZ dx;obtain⟨a,len,cap,rfl,⟨hlen,bg⟩, -⟩:=fj;have ai:=Z4 he;have ez:r≠g:=by rintro rfl;obtain⟨x1,x2,x3,x4,hi⟩:=ag.iter;exact SM F.1.used hi
   have dj:Below w w w2:=F.1.bel.trans (dq.below F.1.bel.size (by simp;exact F.1.rge));have T1:TkS w b r nm n half fv dir g (λm=>todo m&& !decide (m=k)) vis aq w2:=⟨cz,F.1.used.fr dq QA,dj,F.1.gge,F.1.rge⟩;have ct:∀q,q<e.runs.length->∃gr,a=some ⟨gr,0,none⟩/\∀W,Below w w W->W.cell? ⟨gr,q*2,none⟩=((e.runs.getD q (0,0)).1:Int)/\W.cell? ⟨gr,q*2+1,none⟩=((e.runs.getD q (0,0)).2:Int):=by
    intro q hq;rcases bg with h0|⟨gr,sp,ha,U⟩
    .rw[h0] at hq;cases hq
    .refine⟨gr,ha,λW hW=> ?_⟩;have h1:=U.after hW;obtain⟨g1,g2⟩:=FS e.runs q hq;have hl:=DG e.runs;exact⟨h1.cell (by rw[Za Qw,Ze0];exact g1),h1.cell (by rw[Za Qw,Ze0];exact g2)⟩
   have au:Ent.Ok n half e:=HO.o.ent _ ai;have ah:=au.many;have eu:(Yc e.runs).Nodup:=KD HO.o.apart ai;have ef:∀i,i∈Yc e.runs->i∉vis:=λi hi hv=>by obtain⟨x,hx,J,fy⟩:=(F.3 i).1 hv;refine Mj HO.o.apart HO.o.sorted hx ai ?_ fy hi;rintro e1;simp only at e1;rw[e1,dw] at J;cases J
   have gy:e.runs.length<=100000:=by have:=au.Zat;have h3:=au.size;have h4:e.runs.length<=e.Zat.length:=G4 e.runs (λr hr=>(ah r hr).1);unfold Yu at this;omega
   have HT:=ZN T1 O ai;have HE:=ZY ct ah eu ef;have fu:=dj.size;clear T1 ct ah eu ef au bg ek he dx cz dq ag dw fo O ai dj;subst hlen;go_wp2;have T3:=HT.1.fr ((Zu w2 w2).alloc (Zt _) (Obj.cells #[Value.int IntKind.i64 ↑e.size,Value.int IntKind.u32 ↑e.sum,Value.slice a e.runs.length cap] 164));have dy:=ZI T3;clear T3;obtain⟨af,bu⟩:=ZK (λm=>todo m&& !decide (m=k));have ee:=ZI bu;rw[bu] at dy HT;clear bu;go_loopw [40] (λC Z=>∃q:Nat,q<=e.runs.length/\C=(q:Int)/\TkS w b r nm n half fv dir g af (vis++Yc (e.runs.take q)) aq Z) (λC _=>e.runs.length- (intOf C).toNat)
   .exact⟨0,Qw,rfl,by simpa[Yc] using dy.o⟩
   obtain⟨q,hq,rfl,cr⟩:=hrel;obtain⟨Z,fx⟩:∃Z:Qs,Z=wr:=⟨_,rfl⟩;subst fx;have HQ:=ZI cr;by_cases O:q<e.runs.length
   .obtain⟨gr,rfl,ct⟩:=HE.1 q O;obtain⟨c1,c2⟩:=ct _ cr.bel;obtain⟨f,J⟩:=ZK (e.runs.getD q (0,0)).1;obtain⟨m,hm⟩:=ZK (e.runs.getD q (0,0)).2;have er:=HE.2 (e.runs.getD q (0,0)) (by rw[Z7,Z8 O];exact Zl O);have bq:=λt ht=>Z6o HE.3 q t O ht;have dp:=GV e.runs q O;rw[J,hm] at er bq dp;rw[J] at c1;rw[hm] at c2;have ib:=cr.bel.size;have HN:=ZM bq dp;clear bq dp ct J hm;obtain⟨m1,m2,m3⟩:=er;go_wp2;obtain⟨x,hx⟩:=ZK Z.heap.size;have T4:=HQ.o.fr ((Zu Z Z).alloc (Zt _) (Obj.cells #[Value.int IntKind.i64 ↑f,Value.int IntKind.i64 ↑m] 197));have aj:=Z2 Z 197 [.int .i64 (f:Int),.int .i64 (m:Int)];rw[hx] at aj;have dz:=ZM T4 aj;have HX:=ZI hx;rw[hx];clear T4 aj hx c1 c2;go_loopw [12] (λC wj=>∃t:Nat,t<=m/\C=((f+t:Nat):Int)/\TkS w b r nm n half fv dir g af (vis++(Yc (e.runs.take q)++List.range' f t)) aq wj/\Row wj x 197 [(f:Int),(m:Int)]) (λC _=>f+m- (intOf C).toNat)
    .exact⟨0,Qw,Qx,by simpa using dz.1,dz.2⟩
    obtain⟨t,ht,rfl,bm,cj⟩:=hrel;have x0:=cj.c0;have x1:=cj.c1;by_cases fw:t<m
    .obtain⟨C,dt⟩:=ZK (f+t);obtain⟨aw,bz⟩:=HN.1 t fw;rw[dt] at aw bz⊢;have ew:=HE.4 C bz;have cy:(decide (C<2*half)||(vis++(Yc (e.runs.take q)++List.range' f t)).contains C)=false:=by have h1:¬C<2*half:=Qw;simp only[h1,decide_false,Bool.false_or];rw[List.contains_eq_mem];simp only[ZfN,Zj,not_or] at aw⊢;exact⟨ew,aw⟩
     have ay:=bm.used.cell (Du n (2*half) (vis++(Yc (e.runs.take q)++List.range' f t)) C Qw);rw[cy] at ay;have cw:=bm.used.free (j:=C) (by rw[C8];omega);have k1:(C:Int)<(n:Int):=Qw;have k2:C<n:=Qw;have k3:(C:Int)<(f:Int)+(m:Int):=Qw;have fp:x≠g:=λe1=>by have:=Xr cj (by rw[e1];exact bm.used);revert this;decide
     have M:=ZO bm cj dt fp;clear bm cj dt cy ew aw bz;go_wp2;go_roundw
     .refine⟨t+1,Qw,?_,?_,?_⟩
      .rw[<-M.2.2.1];go_num
      .have:=M.1.mark C k2;rw[Zd,Zd,<-M.2.2.1,<-Zfx,M.2.2.1] at this;exact this
      .exact M.2.1.other M.2.2.2 _
     have:=M.2.2.1;simp[intOf];omega
    .obtain rfl:t=m:=(by omega);have k3:¬ ((f+t:Nat):Int)<(f:Int)+(t:Int):=Qw;have M:=ZI bm;clear bm cj;go_wp2;go_roundw
     .exact⟨q+1,Qw,QC,by rw[HN.2];exact M.o⟩
     simp[intOf];omega
   .obtain rfl:q=e.runs.length:=(by omega);have ae:=cr.rg.left_eq;have fh:=ZI ae;clear cr ae;go_wp2;go_roundw
    .have h5:=HQ.o;rw[Zs] at h5;refine⟨af,vis++Yc e.runs,aq,h5,?_,?_⟩
     .intro m hm;rw[<-ee.o] at hm;simp only[ZeZ] at hm;exact F.2 m hm.1
     .intro i;rw[Zj,F.3 i,<-ee.o];constructor
      .rintro(⟨x,hx,J,hi⟩|hi)
       .exact⟨x,hx,by simp[J],hi⟩
       .exact⟨(k,e),HT.2.2,Qx,hi⟩
      .rintro⟨x,hx,J,hi⟩;by_cases hk:x.1=k
       .right;have h1:=Z9k HO.o.sorted hx;have h2:dir.get k=some e:=Z9k HO.o.sorted HT.2.2;rw[hk,h2] at h1;rw[ZdZ h1];exact hi
       .left;have eh:(todo x.1&& !decide (x.1=k))=false:=J;rw[ZC hk,Bool.not_false,Bool.and_true] at eh;exact⟨x,hx,eh,hi⟩
    rw[fh.o,fi.o];exact HT.2.1
theorem Yb.tight{f:Bs->Option Qt}(h:Yb w b n f)(l:List Bs)(hl:∀k,(f k).isSome=true->k∈l):Yb w b l.length f:=by
 obtain⟨D,⟨es,O,hb,F,hs,rfl⟩,ht⟩:=h;refine⟨_,⟨es,O,hb,F,?_,rfl⟩,ht⟩;have:∀p∈es.toList.map (WideElems.rg prog 9 Jq),∃k:Bs,p.1=.string k/\k∈l:=by intro p J;obtain⟨x,hx,rfl⟩:=Zz.1 J;have⟨y,C⟩:=F.reads x hx;have hk:=WideElems.rd_key C;rw[WideElems.rg_of C];have⟨s,e1,e2,e3⟩:=string_of_keyOf underlying9 hk;refine⟨s.data.toList,e2,hl _ ?_⟩;rw[<-(ht _).1,has_eq,Zf0];exact⟨y,mem_sorted.2 (Zz.2 ⟨x,hx,WideElems.rg_of C⟩),by rw[e2,Td];simp⟩
 have M:=F.apart (string_law underlying9);obtain⟨g,hg⟩:∃g:Lit×DataW Qt->Bs,g=λp=>match p.1 with|.string k=>k|_=>[]:=⟨_,rfl⟩
 have U:((es.toList.map (WideElems.rg prog 9 Jq)).map g).Nodup:=by unfold List.Nodup;rw[Zev];refine List.Pairwise.imp_of_mem (fun{p q} J hq hne=> ?_) M;grind
 have Z:∀k,k∈(es.toList.map (WideElems.rg prog 9 Jq)).map g->k∈l:=QA;have:=U.length_le_of_subset Z;simp_all
def Yh.tight(h:Yh w b n d):Yh w b d.length d:=by have⟨fv,J,C,M⟩:=h;refine⟨fv,?_,C,M⟩;have:=J.tight d.names (λk F=>XI.2 (λe=>by rw[C k e] at F;cases F));rwa[show d.names.length=d.length from Zf ..] at this
def AcV(a:Ac):Qt:=.agg #[(a.kind:Int),.string (str a.name),.string (str a.to),.string (str a.value)]
def Ix(s:Qq)(hs:s.size<=1000000)(h:1<=s.size)(C:s.size<=220)(w:Qs):Calls prog 128 #[.string s] w λe w'=>e=.returned true/\w=w':=by have:decide ((s.size:Int)<=220)=true:=QA;go_enter func128,ntmps128;go_wp2;go_ret;simp
def Z7v(N V:Qq)(h:1<=N.size)(C:N.size<=220)(F:V.size<=12000)(w:Qs):Calls prog 84 #[.agg #[(1:Int),.string N,.string ⟨#[]⟩,.string V]] w λe w'=>e=.returned false/\Below w w w':=by go_enter func84,ntmps84;go_wp2_with (go_at_call 128;go_fit (Ix N Qw h C _);rintro e w' ⟨rfl,rfl⟩);go_ret;refine⟨?_,(Zu _ _).alloc (Zt _) _⟩;rw[ZC Qw];rfl
def Z7w(N:Qq)(h:1<=N.size)(C:N.size<=220)(w:Qs):Calls prog 84 #[.agg #[(2:Int),.string N,.string ⟨#[]⟩,.string ⟨#[]⟩]] w λe w'=>e=.returned false/\Below w w w':=by go_enter func84,ntmps84;go_wp2_with (go_at_call 128;go_fit (Ix N Qw h C _);rintro e w' ⟨rfl,rfl⟩);go_ret;exact⟨rfl,(Zu _ _).alloc (Zt _) _⟩
def Z7x(N T:Qq)(C:1<=N.size)(F:N.size<=220)(t1:1<=T.size)(t2:T.size<=220)(w:Qs):Calls prog 84 #[.agg #[(3:Int),.string N,.string T,.string ⟨#[]⟩]] w λe w'=>e=.returned false/\Below w w w':=by have h:=ZI True.intro;go_enter func84,ntmps84;go_wp2_with (first|(go_at_call 128;clear h;go_fit (Ix T Qw t1 t2 _);rintro e w' ⟨rfl,rfl⟩)|(go_at_call 128;go_fit (Ix N Qw C F _);rintro e w' ⟨rfl,rfl⟩));go_ret;exact⟨rfl,(Zu _ _).alloc (Zt _) _⟩
theorem Z7y(a:Ac)(h:a.ZaA=false)(w:Qs):Calls prog 84 #[AcV a] w λe w'=>e=.returned false/\Below w w w':=by
 have⟨kind,name,J,value⟩:=a;unfold Ac.ZaA at h;split at h
 .rename_i e;subst e;simp at h;obtain⟨⟨⟨C,F⟩,rfl⟩,h3,h4⟩:=h;exact Z7x (str name) (str J) (by rw[QW];omega) (by rw[QW];omega) (by rw[QW];omega) (by rw[QW];omega) w
 .split at h
  .rename_i _ e;subst e;simp at h;obtain⟨⟨rfl,C,F⟩,rfl⟩:=h;exact Z7w (str name) (by rw[QW];omega) (by rw[QW];omega) w
  .split at h
   .rename_i _ _ e;subst e;simp at h;obtain⟨⟨⟨C,F⟩,rfl⟩,h3⟩:=h;exact Z7v (str name) (str value) (by rw[QW];omega) (by rw[QW];omega) (by rw[QW];omega) w
   .grind
def CE(used:Qn)(k:Nat):Nat:=((List.range k).filter λi=> !used.getD i true).length
theorem Z22(used:Qn)(k:Nat):CE used (k+1)=CE used k+if used.getD k true=false then 1 else 0:=by unfold CE;rw[ZdX,Zeo,Zb];grind
def Z21(used:Qn)(k:Nat):CE used k<=k:=by unfold CE;exact Zq (ZdM _ _) Qx
def Z6Q(s:Nat)(uv:Qt)(used:Qn)(w:Qs)(Z:w.cell? ⟨s,4,none⟩=some uv)(h5:w.cell? ⟨s,5,none⟩=false)(hu:BV w uv used)(hn:used.length<=100000):Calls prog 88 #[s] w λe w'=>e=.returned (.int .i64 ((XE used).length:Nat))/\w=w':=by
 obtain⟨g,rfl,F⟩:=hu
 have J:∀k,k<used.length->w.cell? ⟨g,k,none⟩=some (.bool (used.getD k true)):=λk C=>F.cell (by
  rw[Ze8,Z8 C,Z7,Z8 C];rfl)
 have U:=ZI J;clear J F;go_enter func88,ntmps88;go_wp2;go_loop [3,11] (λz i=>∃k:Nat,k<=used.length/\i=(k:Int)/\z=.int .i64 (CE used k:Nat)) (λ_ i=>used.length- (intOf i).toNat)
 .exact⟨0,Qw,rfl,rfl⟩
 obtain⟨k,C,rfl,rfl⟩:=hrel;by_cases O:k<used.length
 .have hc:=U.o k O;have:=Z21 used k;have hs:=Z22 used k;have⟨z,M⟩:=ZK (CE used k);cases hb:used.getD k true
  .rw[hb] at hc;rw[hb,Zx rfl] at hs;have h:=ZI hs;clear hs hb M;go_wp2;go_round
   .exact⟨k+1,Qw,QC,by rw[h.o];go_num⟩
   simp[intOf];omega
  .rw[hb] at hc;rw[hb,Zw Qx,Zfc] at hs;have h:=ZI hs;clear hs hb M;go_wp2;go_round
   .exact⟨k+1,Qw,QC,by rw[h.o];rfl⟩
   simp[intOf];omega
 .obtain rfl:k=used.length:=by omega
  go_wp2;go_ret;exact⟨rfl,rfl⟩
open Go.Sort
variable{cap:Nat}{l:List Bs}{v:Value}
def Strs(w:Qs)(base:Nat)(v:Qt)(l:List Bs):Prop:=w.ownsRow base 9 1 v l.length (QS (l.map str))
def Strs.nil(w:Qs)(base:Nat):Strs w base (.slice none 0 0) []:=ZA _ _ _ _
def Strs.fr(h:Strs w base v l)(F:Fr L w w')(C:∀g,v.ownBlock=some g->g∉L):Strs w' base v l:=Xy h F C
def Strs.after(h:Strs w base v l)(hb:Below w w w'):Strs w' base v l:=h.fr (Z1 (L:=[]) hb) Qx
def Strs.ge(h:Strs w base v l):∀k,k∈QV v->base<=k:=λk C=>AF h (YV.1 C)
def Strs.cells(h:Strs w base v l){g:Nat}(C:v.ownBlock=some g):∃cur fr,w.heap[g]? =some (.cells cur 9 fr):=by
 rcases h.2 with ⟨hv,_⟩|⟨F,cap,cur,hv,_,hh,_⟩
 .rw[hv] at C;cases C
 .rw[hv] at C;simp[Value.ownBlock] at C;simp_all
def Xc.ZcW{f:Bs->Option Qt}(h:Xc w b r n f todo cnt)(hs:Strs w base v l)(C:Fr (QV v) w w'):Xc w' b r n f todo cnt:=by
 refine h.fr C (λhm=> ?_) (λhm=> ?_)
 .obtain⟨cur,fr,hc⟩:=hs.cells (YV.1 hm);obtain⟨es,F,hb⟩:=h.owns.block;simp_all
 .obtain⟨cur,fr,hc⟩:=hs.cells (YV.1 hm);obtain⟨x1,J,M,O,hi⟩:=h.iter;simp_all
def Um{ops:Array Oper}{rest:List Oper}{a:Act}(w:Qs)(U:o.guard=none)(s x:Operand)(ho:o.op=.call {callee:=.builtin .append,args:= #[s,x],argTypes:= #[96,96]})(base:Nat)(v:Qt)(l:List Bs)(hs:a.eval s=v)(h:Strs w base v l)(p:Nat)(t:Bs)(hx:a.eval x=.slice p 1 1)(hc:w.heap[p]? =some (.cells #[t] 9 (0,0)))(hb:base<=w)(hl:l.length<=1000000)(hK:∀v' w',Strs w' base v' (l++[t])->Fr (QV v) w w'->wpList prog ops Q rest (a.put o.dst v') w'):wpList prog ops Q (o::rest) a w:=by
 have⟨j0,C,F,J,M⟩:=ZE Cj;refine Zel w U s x 96 ho base 9 j0 _ 1 16 underlying96 C F J M rfl Qw v l.length _ hs h ⟨p,0,none⟩ 1 1 [.string (str t)] hx rfl (Ze4 hc) (by simp[Value.oneCell']) (by unfold maxLen;omega) Qw hb ?_;intro v' w' h1 O _;refine hK v' w' ?_ ((Fr.refl (QV v) w).grown O (λk Z=>Zv (YV.2 Z)));unfold Strs;have:QS (l.map str++[str t])=QS (l.map str)++[.string (str t)]:=by simp[QS]
 simp_all
theorem Strs.sorted{q:Nat}{l':List Bs}{os:Array Obj}(h:Strs w base (.slice g n cap) l)(hl:l'.length=l.length):Strs (grow (putRow encStr (Sort.ahead w q) g 0 l'.toArray) os) base (.slice g n cap) l'/\Fr [g] w (grow (putRow encStr (Sort.ahead w q) g 0 l'.toArray) os):=by
 rcases h.2 with ⟨hv,_⟩|⟨g',O,cur,hv,F,hh,h1,J,M,h4⟩
 .grind
 .simp at hv;obtain⟨rfl,rfl,rfl⟩:=hv;have U:g<w:=QA;have C:(grow (putRow encStr (Sort.ahead w q) g 0 l'.toArray) os).heap[g]? =some (.cells (putCells encStr 0 l'.toArray cur) 9 (0,0)):=by rw[heap_grow_old _ _ QB];show(w.heap.modify g (onCells (putCells encStr 0 l'.toArray)))[g]? =_;rw[Array.getElem?_modify,Zx rfl,hh];rfl
  refine⟨⟨by simp[QS],Zy ⟨g,cap,_,?_,F,C,Qw,J,?_,?_⟩⟩,?_⟩
  .grind
  .rw[<-M];simp[putCells]
  .apply ZeB;intro i;rw[ZeR];by_cases hi:i<l'.length*1
   .rw[Zx hi];have hc:i<cur.size:=Qw;simp only[putCells,ZfW,Array.getElem?_mapIdx,Array.getElem?_eq_getElem hc,ZeO,QS,Ze8];rw[Zx ⟨Qw,by simp;omega⟩];have:l'[i]? =some (l'[i]'(Qw)):=Qx;rw[this];congr 2;grind
   .rw[Zw hi,Zei (by simp[QS];omega)]
  .refine⟨rfl,rfl,rfl,?_,λk hk Z=> ?_⟩
   .simp
   .rw[heap_grow_old _ _ QB];show(w.heap.modify g (onCells (putCells encStr 0 l'.toArray)))[k]? =_;grind
theorem Strs.holds(h:Strs w base (.slice g n cap) l):Holds encStr w g 0 l.toArray/\g<w/\n=l.length/\l.length<=cap:=by
 rcases h.2 with ⟨hv,_⟩|⟨U,M,cur,hv,O,hh,F,Z,h3,J⟩
 .grind
 .simp at hv;obtain⟨rfl,rfl,rfl⟩:=hv;refine⟨λj hj=> ?_,(ZdE.1 hh).1,rfl,F⟩;have C:j<l.length:=Qw;have e:cur[j]? =some (encStr (l.toArray[j]!)):=by have:=ZF (λx=>x[j]?) J;simp only[ZeR,Zx (show j<l.length*1 by omega),QS,ZfW] at this;rw[this];simp[str,C]
  exact⟨by simp[World.cell?,hh,e],by simp[World.frozen?,hh]⟩
theorem Z4d(hs:d.Zax){l:List Bs}(C:l.Nodup)(hl:∀k,k∈l↔d.get k≠none):(l.mergeSort λx y=>decide (x<=y))=d.names:=by have F:l.Perm d.names:=(Zf4 C (Z9g hs)).2 (λk=>by rw[hl,XI]);rw[mergeSort_of_perm F];refine List.mergeSort_of_pairwise ?_;unfold Dir.names;rw[Zev];refine hs.imp fun{a b} h=> ?_;grind
variable{f:Bs->Option Value}{w2:World}
structure Met(w:Qs)(b r n:Nat)(f:Bs->Option Qt)(todo:Bs->Bool)(cnt:Nat)(v:Qt)(l:List Bs)(wr:Qs):Prop where
 rg:Xc wr b r n f todo cnt
 own:Strs wr w v l
 below:Below w w wr
 rge:w<=r
 nodup:l.Nodup
 mem:∀k,k∈l↔(f k).isSome=true/\todo k=false
def Met.ZbZ{F:Qs}(h:Met w b r n f todo cnt v l wr)(C:Fr [r] wr w2)(J:Below w2 w2 F):Strs F w v l/\Below w w F:=by
 have M:∀g,v.ownBlock=some g->g∉[r]:=λg O hm=>by have⟨cur,fr,hc⟩:=h.own.cells O;have⟨x1,U,Z,x4,hi⟩:=h.rg.iter;simp_all
 exact⟨(h.own.fr C M).after J,(h.below.trans (C.below h.below.size (by simp;exact h.rge))).trans (J.mono (Zq h.below.size C.size))⟩
theorem Met.next{F:Nat}{v':Qt}{w3:Qs}{k:Bs}{x:Qt}(h:Met w b r n f todo cnt v l wr)(af:todo k=true)(ae:f k=some x)(Z:Xc w2 b r n f (λm=>todo m&& !decide (m=k)) F)(U:Fr [r] wr w2){O:Qs}(J:Below w2 w2 O)(hs:Strs w3 w v' (l++[k]))(M:Fr (QV v) O w3):Met w b r n f (λm=>todo m&& !decide (m=k)) F v' (l++[k]) w3:=by
 obtain⟨ZbZ,C⟩:=h.ZbZ U J;refine⟨(Z.after J).ZcW ZbZ M,hs,C.trans (M.below C.size (λi hi=>ZbZ.ge i hi)),h.rge,?_,λm=> ?_⟩
 .refine ZdP.2 ⟨h.nodup,Qx,λa ha c hc e=> ?_⟩;have:=((h.mem a).1 ha).2;simp_all
 .rw[Zj,Z6,h.mem m];grind
def Met.few(h:Met w b r n f todo cnt v l wr)(C:List Bs)(hl:∀k,(f k).isSome=true->k∈C):l.length<=C.length:=h.nodup.length_le_of_subset (λk F=>hl k ((h.mem k).1 F).1)
def Mr(b nm:Nat)(dir:Dir)(w:Qs)(h:Yh w b nm dir)(hs:dir.Zax)(cr:dir.length<=100000):Calls prog 132 #[.map (some b)] w λe w'=>∃v,e=.returned v/\Strs w' w v dir.names/\Below w w w':=by
 have⟨fv,hm,ag,ah⟩:=h;have ai:∀k,(fv k).isSome=true->k∈dir.names:=λk J=>XI.2 (λe=>by rw[ag k e] at J;cases J)
 have aj:∀k,(fv k).isSome=true↔dir.get k≠none:=λk=>⟨λJ=>XI.1 (ai k J),λJ=>by
  cases hg:dir.get k with
  |none=>exact absurd hg J
  |some e=>have⟨v,hv,_⟩:=ah k e hg;rw[hv];rfl⟩
 have cn:dir.names.length=dir.length:=Zf ..;have Z:=ZY aj ai hs cn;go_enter func132,ntmps132;go_wp2_with (at_range;refine IL _ rfl _ 155 rfl 164 underlying155 b nm fv rfl hm ?_;intro w1 cnt U bq cu);have M0:Met w b w nm fv (λk=>(fv k).isSome) cnt (.slice none 0 0) [] w1:=⟨U,Strs.nil _ _,bq,Zt _,Qx,λk=>by cases fv k<;>simp⟩;have aw:=ZI M0;have⟨r,hr⟩:=ZK w.heap.size;rw[show Met w b w.heap.size nm fv (λk=>(fv k).isSome) cnt (.slice none 0 0) [] w1=Met w b r nm fv (λk=>(fv k).isSome) cnt (.slice none 0 0) [] w1 from by rw[hr]] at aw;rw[show(Value.pointer w)=Value.pointer r from by rw[hr]];go_frame;go_loopw [3] (λv wq=>∃ (todo:Bs->Bool) (l:List Bs) (M:Nat),Met w b r nm fv todo M v l wq) (λ_ wq=>wq.rangeLeft b r)
 .exact⟨_,_,_,aw.o⟩
 have⟨todo,l,M,hS⟩:=hrel;have ae:=hS.rg;have hlen:l.length<=100000:=Zq (hS.few dir.names Z.2) (by rw[Z.4];exact cr);have C:=ZI hS;have bj:Qi (World.rangeLeft _ b r=M):=ZI ae.left_eq;go_wp2_with (at_next;refine IK _ rfl _ rfl b r nm fv todo M rfl ae ?_ ?_)
 .intro af;have ak:(l.mergeSort λx y=>decide (x<=y))=dir.names:=Z4d Z.3 C.o.nodup (λk=>by rw[C.o.mem k,af k,<-Z.1 k];simp);have HF:=ZI ak;rcases C.o.own.2 with ⟨hv,h0⟩|⟨g,cap,cur,hv,_⟩
  .rw[hv];have bz:l=[]:=QB;go_wp2_with (go_at_call 98;go_fit (Tryz.slices_Sort_string_none none 0 _);rintro e w' ⟨rfl,rfl⟩);go_ret;refine⟨_,rfl,?_,C.o.below⟩;have:=HF.o;rw[bz] at this;rw[<-this];simpa using Strs.nil _ _
  .have ho:=C.o.own;rw[hv] at ho⊢;have⟨hH,O,_,_⟩:=ho.holds;have HO:=ZI ho;go_wp2_with (go_at_call 98;refine(Tryz.slices_Sort_string g 0 cap l _ hH O Qw).mono ?_;rw[HF.o];rintro e w' ⟨rfl,q,os,rfl⟩);have cj:dir.names.length=l.length:=by rw[<-HF.o];exact(List.mergeSort_perm l _).length_eq
   have⟨s1,s2⟩:=HO.o.sorted (q:=q) (os:=os) cj;go_ret;refine⟨_,rfl,s1,C.o.below.trans (s2.below C.o.below.size (λi hi=> ?_))⟩;simp_all
 .intro k x w2 bm bu bh bf U O aq ct cw;have ay:∀o,Below w2 w2 (w2.alloc o):=λo=>(Zu _ w2).alloc (Zt _) o;have F:=ZZ bh bf U aq O;have cy:w<=w2.heap.size:=Zq C.o.below.size aq.size;clear ae bh bf U aq O bu ct;go_wp2_with (at_builtin;refine Um _ rfl (.tmp 11) (.tmp 13) rfl w.heap.size _ l rfl (C.o.ZbZ F.4 (ay _)).1 w2.heap.size k rfl (ZB w2 _) (by simp;omega) Qw ?_;intro v' w3 bg az;have M3:=C.o.next F.1 F.2 F.3 F.4 (ay _) bg az;have au:=ZI M3;clear M3 bg az);go_roundw
  .exact⟨_,_,_,au.o⟩
  rw[au.o.rg.left_eq,bj.o];exact F.5
variable{B eb:Nat}{l:Bs}{rv:Value}{sm sz:Int}
def Ih(n:Nat):s32 n=str (QI n):=rfl
structure TlS(w:Qs)(B b eb:Nat)(l:Bs)(sz sm:Int)(rv:Qt)(wr:Qs):Prop where
 bld:Bld wr B b l
 e0:wr.cell? eb=(sz:Int)
 e1:wr.cell? ⟨eb,1,none⟩=some (.int .u32 sm)
 e2:wr.cell? ⟨eb,2,none⟩=some rv
 ebl:eb<wr
 below:Below w w wr
 lo:w<=B
 lo2:B<=wr
 ebB:eb<B
def TlS.after(h:TlS w B b eb l sz sm rv wr)(hb:Below wr wr w'):TlS w B b eb l sz sm rv w':=⟨h.bld.after hb,(hb.cell (p:=⟨eb,0,none⟩) h.ebl).trans h.e0,(hb.cell (p:=⟨eb,1,none⟩) h.ebl).trans h.e1,(hb.cell (p:=⟨eb,2,none⟩) h.ebl).trans h.e2,Zp h.ebl hb.size,h.below.trans (hb.mono h.below.size),h.lo,Zq h.lo2 hb.size,h.ebB⟩
def TlS.wrote{l':Bs}(h:TlS w B b eb l sz sm rv wr)(F:Bld w' B b l')(C:Below B wr w'):TlS w B b eb l' sz sm rv w':=⟨F,(C.cell (p:=⟨eb,0,none⟩) h.ebB).trans h.e0,(C.cell (p:=⟨eb,1,none⟩) h.ebB).trans h.e1,(C.cell (p:=⟨eb,2,none⟩) h.ebB).trans h.e2,Zp h.ebl C.size,h.below.trans (C.mono h.lo),h.lo,Zq h.lo2 C.size,h.ebB⟩
def Z6r(rs:List (Nat×Nat))(k:Nat)(h:k<rs.length):YT (rs.take (k+1))=YT (rs.take k)++(QI (rs.getD k (0,0)).1++QI (rs.getD k (0,0)).2):=by unfold YT;rw[Zc h,ZdY,Z7,Z8 h];simp
def If(rs:List (Nat×Nat)):(YT rs).length=8*rs.length:=by
 unfold YT
 induction rs with
 |nil=>rfl
 |cons x l ih=>rw[Zm,Zb,ih,Zb,Wl,Wl,Ze];omega
def Iy(v:Qt)(e:Ent)(w:Qs)(h:Xj w v e)(h1:e.size<=4294967295)(h2:e.sum<=4294967295)(h3:∀r∈e.runs,r.1<=4294967295/\r.2<=4294967295)(h4:e.runs.length<=100000):Calls prog 133 #[v] w λr w'=>r=.returned (.string (str e.tail))/\Below w w w':=by
 obtain⟨a,len,cap,rfl,⟨hlen,ae⟩, -⟩:=h;subst hlen;have HR:=ZM ae h3;clear ae h3;go_enter func133,ntmps133;go_wp2;have⟨w1,ah⟩:=ZL (w.alloc (.cells #[(e.size:Int),.int .u32 e.sum,.slice a e.runs.length cap] 164));have bu:w1.heap.size=w.heap.size+1:=by rw[ah];simp
 have T0:TlS w (w.heap.size+1) (w.heap.size+1) w [] e.size e.sum (.slice a e.runs.length cap) (w1.alloc (.cells #[.pointer none,()] 258)):=by have hr:=Z2 w 164 [.int .i64 e.size,.int .u32 e.sum,.slice a e.runs.length cap];have ak:=hr.after ((Zu _ (w.alloc _)).alloc (Zt _) (.cells #[.pointer none,()] 258));subst ah;exact⟨by rw[<-bu];exact Z9D _,ak.c0,ak.c1,ak.c2,by simp;omega,((Zu _ w).alloc (Zt _) _).alloc Qx _,Qw,Qx,Qw⟩
 rw[<-ah];clear ah;generalize w1.alloc (.cells #[.pointer none,()] 258)=w2 at*
 have c0:=T0.e0;have c1:=T0.e1;have cat:∀W,(Op.stringOp .add (s32 e.size) (s32 e.sum)).run prog W=.ok (.string (s32 e.size++s32 e.sum)) W:=λW=>ZdO W _ _ (by rw[Jh,Jh];omega);have M:s32 e.size++s32 e.sum=str (QI e.size++QI e.sum):=by rw[Ih,Ih,Mz];rfl
 have O:(str (QI e.size++QI e.sum)).size<=100:=by rw[QW];simp[Wl]
 rw[M] at cat;have az:=ZI O;clear M O;clear c0 c1;have T1:=T0.after ((Zu _ w2).drew);have c0:=T1.e0;have c1:=T1.e1;clear T0;have bz:IntKind.i64.wrap (e.sum:Int)=(e.sum:Int):=Zr _ Qw;go_cut [] from 6 to 14 (λwx=>TlS w (w.heap.size+1) (w.heap.size+1) w (QI e.size++QI e.sum) e.size e.sum (.slice a e.runs.length cap) wx)
 case first=>
  go_region_with (first|(go_at_call 189;go_fit (TD _ (by assumption) _);rintro e w3 ⟨rfl,F⟩;have T3:=TlS.after (w:=w) (by assumption) F;have c3:=T3.e0;have c4:=T3.e1;clear F)|(go_at_call 164;refine(F8 (w.heap.size+1) (w.heap.size+1) [] _ _ (TlS.bld (w:=w) (by assumption)) (by have:=az.o;simp;omega) (TlS.lo2 (w:=w) (by assumption))).mono ?_;rintro e w4 ⟨rfl,ai,aj⟩))
  all_goals have U:=TlS.wrote (w:=w) (by assumption) ai aj
  all_goals go_wp2
  all_goals go_meet
  all_goals (rw[Ze3,Yp] at U;exact U)
 case rest=>
  have T2:=hcut;have c2:=T2.e2;have aw:=ZI T2;clear hcut T2 cat bz T1 c0 c1;go_wp2;have⟨T,hT⟩:=ZK (QI e.size++QI e.sum);have bg:=ZI hT;have bq:T.length=8:=by rw[<-hT];rfl
  rw[hT] at aw;clear hT;go_loopw [18] (λkk wr=>∃k:Nat,k<=e.runs.length/\kk=(k:Int)/\TlS w (w.heap.size+1) (w.heap.size+1) w (T++YT (e.runs.take k)) e.size e.sum (.slice a e.runs.length cap) wr) (λkk _=>e.runs.length- (intOf kk).toNat)
  .exact⟨0,Qw,rfl,by simpa[YT] using aw.o⟩
  obtain⟨k,hk,rfl,C⟩:=hrel;have HS:=ZI C;by_cases J:k<e.runs.length
  .obtain⟨g,sp,rfl,af⟩:∃g sp,a=some ⟨g,0,none⟩/\Row w g 197 (Ww e.runs++sp):=by
    rcases HR.1 with h0|h0
    .rw[h0] at J;cases J
    .exact h0
   have aq:=af.after C.below;have⟨g1,g2⟩:=FS e.runs k J;have hl:=DG e.runs;have d1:=aq.cell (j:=k*2) (by rw[Za Qw,Ze0];exact g1);have d2:=aq.cell (j:=k*2+1) (by rw[Za Qw,Ze0];exact g2);have⟨m1,m2⟩:=HR.2 (e.runs.getD k (0,0)) (by rw[Z7,Z8 J];exact Zl J);have Z:=Z6r e.runs k J;have⟨f,hf⟩:=ZK (e.runs.getD k (0,0)).1;have⟨m,hm⟩:=ZK (e.runs.getD k (0,0)).2;rw[hf] at m1 d1 Z;rw[hm] at m2 d2 Z;have bm:(T++YT (e.runs.take k)).length<=1000000:=by rw[Zb,If,bq,Zg];omega
   have⟨q,hq⟩:=ZK (T++YT (e.runs.take k));rw[hq] at C HS bm;have HK:=ZM Z hq;clear C af aq g1 g2 hl hf hm Z hq;go_wp2;have⟨x,hx⟩:=ZK wr.heap.size;have au:=Z2 wr 197 [.int .i64 (f:Int),.int .i64 (m:Int)];have T5:=HS.o.after ((Zu wr wr).alloc (Zt _) (.cells #[(f:Int),(m:Int)] 197));rw[hx] at au⊢;generalize wr.alloc (.cells #[(f:Int),(m:Int)] 197)=w6 at*
   have:=T5.after ((Zu _ w6).drew);have ag:=au.after ((Zu _ w6).drew);have c0:=ag.c0;have c1:=ag.c1;have cat:∀W,(Op.stringOp .add (s32 f) (s32 m)).run prog W=.ok (.string (s32 f++s32 m)) W:=λW=>ZdO W _ _ (by rw[Jh,Jh];omega);have M:s32 f++s32 m=str (QI f++QI m):=by rw[Ih,Ih,Mz];rfl
   have O:(str (QI f++QI m)).size<=100:=by rw[QW];simp[Wl]
   rw[M] at cat;have bf:=ZI O;clear M O T5 au d1 d2 hx;go_region_with (first|(go_at_call 189;go_fit (TD _ (by assumption) _);rintro e w3 ⟨rfl,F⟩;have T3:=TlS.after (w:=w) (by assumption) F;have ay:=Row.after (g:=x) (by assumption) F;have c3:=ay.c0;have c4:=ay.c1;clear F)|(go_at_call 164;refine(F8 (w.heap.size+1) (w.heap.size+1) q _ _ (TlS.bld (w:=w) (by assumption)) (by have:=bf.o;omega) (TlS.lo2 (w:=w) (by assumption))).mono ?_;rintro e w4 ⟨rfl,ai,aj⟩))
   all_goals have U:=TlS.wrote (w:=w) (by assumption) ai aj
   all_goals go_wp2
   all_goals rw[Yp] at U
   all_goals go_roundw
   all_goals first
    |exact⟨k+1,Qw,QC,by rw[HK.1,<-Zd,HK.2];exact U⟩
    |(simp[intOf];omega)
  .obtain rfl:k=e.runs.length:=(by omega);have hb:=C.bld;have bj:=C.lo2;rw[Zs] at hb;clear C;go_wp2_with (go_at_call 165;go_fit (Ka (w.heap.size+1) (w.heap.size+1) _ _ hb bj);rintro e w7 ⟨rfl,bh⟩);go_ret;refine⟨?_,HS.o.below.trans (bh.mono HS.o.lo)⟩;unfold Ent.tail;rw[bg.o];rfl
def Z7c(s:Qq)(hs:4<=s.size)(w:Qs):Calls prog 218 #[.string s] w λe w'=>e=.returned (Wz s.data.toList:Int)/\∃q,w'=w.drewN q:=by
 have:0<s.size:=Qw;have:(1:Int)<(s.size:Int):=Qw;have:(2:Int)<(s.size:Int):=Qw;have:(3:Int)<(s.size:Int):=Qw;have:(Wz s.data.toList:Int)=(s[0].toNat:Int)*16777216+(s[1].toNat:Int)*65536+(s[2].toNat:Int)*256+(s[3].toNat:Int):=by
  have g:∀i (h:i<s.size),s.data.toList.getD i 0=s[i]:=by intro i h;have C:i<s.data.toList.length:=QB;rw[Z7,Z8 C];rfl
  unfold Wz;rw[g 0 Qw,g 1 Qw,g 2 Qw,g 3 Qw];omega
 have⟨e1,e2,J,M,O,U,Z,e8,e9,F⟩:=I3 s[0].toNat s[1].toNat s[2].toNat s[3].toNat s[0].toNat_lt s[1].toNat_lt s[2].toNat_lt s[3].toNat_lt;go_enter func218,ntmps218;go_wp2;go_quiet (fail);go_wp2;go_ret;exact⟨Ex (Bf Qw),_,rfl⟩
def TG(s:Qq)(hs:4<=s.size)(w:Qs):Calls prog 218 #[.string s] w λe w'=>e=.returned (Wz s.data.toList:Int)/\Below w w w':=(Z7c s hs w).mono λ_ _ ⟨he,q,hw⟩=>⟨he,by rw[hw];exact YE (Zu _ _) q⟩
structure Wo(w:Qs)(s d:Nat)(S:Sto):Prop where
 mem:∃j b uv,Row w s 157 [d,(j:Nat),(S.half:Int),.map (some b),uv,false]/\JAt w j d S.j/\Yh w b S.dir.length S.dir/\BV w uv S.used
def G6(B p d:Nat)(P:Pw)(D:Dk)(L:Qj)(w:Qs)(h:PD B w p d 800 P D L):Calls prog 107 #[d] w λe w'=>∃s b,e=.returned (.tuple #[(s:Nat),.nilIface])/\Row w' s 157 [d,.pointer none,(100:Int),.map (some b),(),false]/\Yh w' b 0 []/\w.heap.size<=s/\w.heap.size<=b/\Below w w w':=by have⟨gh,v,_,J⟩:=h.dk;have hl:=h.ok.len;have:=λW=>run_makeMap_plain (P:=prog) W 155;go_enter func107,ntmps107;go_wp2_with (go_at_call 138;go_fit (BK p d gh v D 800 _ J hl Qw);rintro e w' ⟨rfl,rfl⟩);go_ret2;have hm:=Yb.made w;have F:Below w w (w.alloc (.map #[] 0)):=(Zu _ w).alloc (Zt _) _;have M:(w.alloc (.map #[] 0)).heap.size=w.heap.size+1:=Qx;have C:=Z2 (w.alloc (.map #[] 0)) 157 [.pointer d,.pointer none,.int .i64 100,.map (some w.heap.size),.slice none 0 0,.bool false];rw[M] at C;refine⟨_,w.heap.size,rfl,C,?_,Qx,Zt _,F.alloc Qx _⟩;exact⟨λ_=>none,hm.after ((Zu _ _).alloc (Zt _) _),λ_ _=>rfl,λk e h=>by cases h⟩
def Nk(w:Qs)(v:Qt)(rs:List (Nat×Nat)):Prop:=∃a cap,v=.slice a rs.length cap/\EV w a rs.length rs
def KL:(prog.info? 197).map (λi=>(i.zero,i.size,i.bytes))=some (some (.agg #[(0:Int),(0:Int)]),2,16):=Qy
def DD(h:w.ownsRow base e 2 v n xs)(U:v≠.slice none 0 0):∃g cap sp,v=.slice (g:Nat) n cap/\base<=g/\n<=cap/\cap<=maxLen/\Row w g e (xs++sp):=by
 rcases h.2 with ⟨O,_⟩|⟨g,cap,cur,hv,hb,hh,C,F,M,J⟩
 .simp_all
 .refine⟨g,cap,cur.toList.drop (n*2),hv,hb,C,F,Row.mk ?_⟩;rw[<-J,ZdH];omega
def Z5p(rs:List (Nat×Nat)):∀u∈Ww rs,u.oneCell'=true:=by intro u hu;have⟨r,_,hu⟩:=Zeg.1 hu;simp at hu;rcases hu with rfl|rfl<;>rfl
def Z8W(g cap:Nat)(rs:List (Nat×Nat))(sp:Qk)(w:Qs)(h:Row w g 197 (Ww rs++sp))(hn:rs.length<=1000000):Calls prog 142 #[.slice g rs.length cap] w λe w'=>∃v,e=.returned v/\Nk w' v rs/\Below w w w':=by
 have⟨i0,hi,U,Z,ae⟩:=ZE KL;have HR:=ZI h;have:∀W,(binOp .eql 162 (.slice g rs.length cap) (.slice none 0 0)).run prog W=.ok (.bool false) W:=λW=>by rfl
 go_enter func142,ntmps142;go_wp2_with (at_builtin;refine Zel _ rfl (.tmp 5) (.tmp 6) 162 rfl w.heap.size 197 i0 _ 2 16 underlying162 hi U Z ae rfl Qw _ 0 [] rfl ⟨rfl,Zy ⟨w.heap.size,0,#[],rfl,Zt _,ZB w _,Zt _,Qx,rfl,rfl⟩⟩ ⟨g,0,none⟩ rs.length cap (Ww rs) rfl (by rw[DG];omega) (λj u hj=> ?_) (λu hu=> ?_) (by unfold maxLen;omega) Qw Qx ?_)
 .have C:=HR.o.after ((Zu _ w).alloc (Zt _) (.cells #[] 197));rw[show(⟨g,0,none⟩:Addr).add j=⟨g,j,none⟩ from by unfold Addr.add;split<;>simp_all];exact C.cell QA
 .exact Z5p rs u hu
 .intro v' w' C h2 h3;have O:v'≠.slice none 0 0:=h3;have hb:Below w w w':=Fr.Zbj ((((Fr.refl [] w).alloc _).grown h2 (λk J=>by simp[Value.ownBlock] at J;subst J;exact Zy (Zt _))));have⟨F,M,af,hv,_,_,_,hr⟩:=DD C O;subst hv;go_wp2;go_ret;exact⟨_,rfl,⟨some ⟨F,0,none⟩,M,rfl,rfl,Zy ⟨F,af,rfl,hr⟩⟩,hb⟩
def CD(w:Qs):(zeroValue 164).run prog w=.ok (.agg #[(0:Int),.int .u32 0,()]) w:=Qy
def Wo.after{s d:Nat}{S:Sto}(h:Wo w s d S)(hb:Below w w w'):Wo w' s d S:=by have⟨j,b,uv,C,F,J,g,hv,M⟩:=h;exact⟨j,b,uv,C.after hb,F.after hb,J.after hb,g,hv,M.after hb⟩
def ED(s d:Nat)(S:Sto)(name:Bs)(e:Ent)(w:Qs)(h:Wo w s d S)(hn:name.length<=1000000)(Z:S.dir.get name=some e)(af:e.runs≠[])(O:e.runs.length<=1000000):Calls prog 97 #[s,name] w λr w'=>∃v,r=.returned (.tuple #[v,.nilIface])/\Nk w' v e.runs/\Below w w w':=by
 obtain⟨j,b,uv,F,h2,⟨fv,m1,m2,m3⟩,h4⟩:=h;obtain⟨v,hv,a,len,cap,rfl,⟨hlen,hr⟩, -⟩:=m3 name e Z;have:=m1.ZbA (t:=155) (e:=164) underlying155 (CD w) (show name.length<=maxLen by unfold maxLen;omega) hv;obtain⟨g,sp,rfl,J⟩:∃g sp,a=some ⟨g,0,none⟩/\Row w g 197 (Ww e.runs++sp):=by simp_all
 have c3:=F.c3;have c5:=F.c5;have U:=ZI J;go_enter func97,ntmps97;have M:Below w w (w.alloc (.cells #[(e.size:Int),.int .u32 (e.sum:Int),.slice (g:Nat) e.runs.length cap] 164)):=(Zu _ w).alloc (Zt _) _;have C:=ZI M;go_wp2_with (go_at_call 142;go_fit (Z8W g cap e.runs sp _ (U.o.after C.o) O);rintro r w' ⟨v,rfl,hv,hb⟩);go_ret2;exact⟨_,rfl,hv,C.o.trans (hb.mono C.o.size)⟩
def Gf(s d:Nat)(S:Sto)(name:Bs)(w:Qs)(h:Wo w s d S)(hn:name.length<=1000000)(M:S.dir.get name=none):Calls prog 97 #[s,name] w λr w'=>∃b,r=.returned (.tuple #[(),.iface 139 (b:Nat)])/\QK w' w 13 (.iface 139 (b:Nat))/\Below w w w':=by obtain⟨j,b,uv,F,Z,⟨fv,m1,m2,m3⟩,h4⟩:=h;have:=m1.ZbB (t:=155) (e:=164) underlying155 (CD w) (show name.length<=maxLen by unfold maxLen;omega) (m2 name M);have c3:=F.c3;have:=F.c5;go_enter func97,ntmps97;have J:Below w w (w.alloc (.cells #[(0:Int),.int .u32 0,()] 164)):=(Zu _ w).alloc (Zt _) _;have C:=ZI J;go_wp2_with (go_at_call 83;go_fit (Mm 13 0 Qw _);rintro r w' ⟨bb,rfl,hv,hb⟩);go_ret2;exact⟨_,rfl,hv.base Qx,C.o.trans (hb.mono C.o.size)⟩
def W5(w w':Qs):Prop:=∀g et l,et≠258->et≠5->Row w g et l->Row w' g et l
def VA(B b:Nat)(bs:Qk)(w:Qs)(h:Lib.IsBuilder 258 5 B b bs w):Calls prog 229 #[b] w λe w'=>e=.returned (.tuple #[])/\(Lib.BuilderAt 258 5 B b (.pointer b) bs w'/\Below B w w'/\W5 w w'):=by
 rcases h with h|h
 .go_fit (K4 b w h.cell0 h.shape h.frozen0);rintro e w' ⟨rfl,rfl⟩;refine⟨rfl,h.used _,(Zu B w).setCell (p:=⟨b,0,none⟩) h.1 _,λg F l J M C=>C.other (λe=>J ?_) _⟩;have⟨_,v,hb,_⟩:=h;exact Xr C (by rw[e];exact Row.mk (l:=[_,_]) hb)
 .go_fit (K5 b w h.cell0);rintro e w' ⟨rfl,rfl⟩;exact⟨rfl,h,Zu B _,λg F l _ _ C=>C⟩
def VZ(B b:Nat)(bs:Qk)(s:Qq)(w:Qs)(h:Lib.IsBuilder 258 5 B b bs w)(hlen:bs.length+s.size<=140737488355328)(au:B<=w):Calls prog 164 #[b,.string s] w λe w'=>e=.returned (.tuple #[(s.size:Int),.nilIface])/\(Lib.BuilderAt 258 5 B b (.pointer b) (bs++Lib.strCells s) w'/\Below B w w'/\W5 w w'):=by
 have⟨i0,hi,aj,ak,aq⟩:=ZE Be;go_enter func164,ntmps164;go_wp2_with (go_at_call 229;refine(VA B b bs _ h).mono ?_);rintro e w1 ⟨rfl,F,U,ag⟩;have ae:=ZI ag;have⟨hB,v,af,M,ai⟩:=F;have:w1.cell? ⟨b,1,none⟩=some v:=by rw[ZeQ af];rfl
 go_wp2_with (at_builtin;refine ZeV _ rfl _ _ 75 9 rfl B 5 i0 underlying75 underlying9 hi aj ak aq _ _ _ rfl M s rfl ?c3 ?c4 ?c5 ?_)
 case c3=>unfold maxLen;omega
 case c4=>omega
 case c5=>have:=U.size;omega
 intro v' w2 O J _;have ah:b<w1:=QA;have C:w2.heap[b]? =some (.cells #[b,v] 258 (0,0)):=by rw[J.block b ah (λe=>ai e.symm)];omega
 have:w2.cell? ⟨b,1,none⟩=some v:=by rw[ZeQ C];rfl
 have:w2.frozen? ⟨b,1,none⟩=false:=Zgo C 1;obtain⟨Z,n',cap,rfl⟩:∃Z n' cap,v'=.slice Z n' cap:=by
  rcases O.2 with ⟨hv,_⟩|⟨g,cap,cur,hv,_⟩
  .simp_all
  .simp_all
 go_wp2;go_ret2;refine⟨rfl,?_,?_,?_⟩
 .exact Zgx (T:=258) (e:=5) hB C (bs':=bs++Lib.strCells s) (by simpa[Zgi] using O) Qx
 .exact(U.grown J Qw (λk hk=>(M.lt k hk).1)).setCell (p:=⟨b,1,none⟩) hB _
 .intro g et l F h2 hr;have r1:=ae.o g et l F h2 hr;have r2:Row w2 g et l:=Ez r1 J (DC r1 M h2);exact r2.other (λe=>F (Xr r2 (by rw[e];exact Row.mk C))) _
def NU(B b:Nat)(l:Ql)(s:Qq)(w:Qs)(h:Bld w B b l)(hlen:l.length+s.size<=140737488355328)(C:B<=w):Calls prog 164 #[b,.string s] w λe w'=>e=.returned (.tuple #[(s.size:Int),.nilIface])/\Bld w' B b (l++s.data.toList)/\Below B w w'/\W5 w w':=by
 go_fit (VZ B b _ s w h (by simpa[Lib.byteCells] using hlen) C);rintro e w' ⟨rfl,hw,hb,F⟩;refine⟨rfl,Zy ?_,hb,F⟩;have:Lib.byteCells l++Lib.strCells s=Lib.byteCells (l++s.data.toList):=by simp[Lib.byteCells,Lib.strCells]
 simp_all
def AbT{β:Type}(T:Qu)(B:Nat)(J:β->Qs->Prop):Prop:=∀s W a v l,J s W->B<=a.block->Row W a.block T l->J s (W.setCell a v)
def Nl{α:Type}(T:Qu)(n:Nat)(P:Program)(g:Nat)(lb:Array Qt)(encs:α->Array Qt)(Kp:Qs->Qs->Prop)(S:List α->Prop)(N:Nat)(w:Qs):Prop:=
 ∀ (l:Nat) (J:List α->Qs->Prop) (W:Qs),Below w w W->AbidesFrom W J->AbT T W J->
   (∀pre x W1,J pre W1->pre.length<N->YieldAt Fence.wide (n-1) P l (encs x) W1 λe W'=>e=.returned true/\J (pre++[x]) W'/\Kp W1 W')->
   J [] W->CallsIn Fence.wide n P g (#[.func (.yield l) #[] #[]]++lb) W λe W'=>(∃v,e=.returned v)/\∃xs,S xs/\J xs W'
def Z2f{α:Type}(B:Nat)(Kp:Qs->Qs->Prop)(I:List α->Qs->Prop)(xs:List α)(W:Qs):Exit->Act->Qs->Prop
 |.normal,_,W'=>KeepsFrom B W W'/\Kp W W'/\I xs W'
 |_,_,_=>False
def Sh{α:Type}{T:Qu}{n:Nat}{P:Program}{g:Operand}{ps:Array Tmp}{assign body:Code}{Q:Exit->Act->Qs->Prop}{a:Act}{w:Qs}(h1:1<=n){gf:Nat}{lb:Array Qt}(hg:a.eval g=.func (.func gf) #[] lb)(eg:∀args w,(callFunc gf args).run P w=.ok (.enter gf args) w){encs:α->Array Qt}{Kp:Qs->Qs->Prop}{S:List α->Prop}{N:Nat}{w0:Qs}(ay:Nl T (n-1) P gf lb encs Kp S N w0)(au:∀{A B C:Qs},Kp A B->Kp B C->Kp A C)(az:∀ (W:Qs) (l:Nat) (o o':Obj),w.heap.size<=l->W.heap[l]? =some o->o.isCells=false->o.isWalk=false->Kp W (W.putObj l o'))(bf:Below w0 w0 w)(df:∀x,(encs x).size=ps.size)(I:List α->Qs->Prop)(O:OwnFrom w.heap.size I)(bq:AbT T w.heap.size I)(h0:I [] w)(Ax:α->Act->Qs->Prop)(bj:∀x J,OwnFrom w.heap.size (λ(_:Unit) W=>Ax x J W))(ae:∀ (l:Nat) (pre:List α) (x:α) (W:Qs) (K:Act->Qs->Prop),I pre W->(∀J W',KeepsFrom w.heap.size W W'->Kp W W'->I pre W'->Ax x J W'->K J W')-> assign.wpIn (Fence.wide.inRound l) (n-1-1) P (Exit.then K (λ_ _ _=>False)) {tmps:=(ps.zip (encs x)).foldl (λt (p,v)=>t.setIfInBounds p v) a.tmps,defers:=[]} W)(ai:∀ (l:Nat) (pre:List α) (x:α) (J:Act) (W:Qs),w.heap.size<=l->I pre W->Ax x J W->pre.length<N->body.wpIn (Fence.wide.inRound l) (n-1-1) P (Z2f w.heap.size Kp I (pre++[x]) W) J W)(aj:∀ (D:Nat) (xs:List α) (W:Qs),w.heap.size<=D->S xs->I xs W->W.heap[D]? =some (.deferred (some []))->Q .normal {a with defers:={target:=.collected D,args:= #[]}::a.defers} W):(Code.rangeFunc g ps assign body).wpIn Fence.wide n P Q a w:=by
 refine wpIn_rangeFunc ?_;intro fn hfn;obtain⟨rec,ag⟩:∃rec:LoopState->Option Code->Loop,rec=λst pe=>{state:=st,pending:=pe,fn,tmps:=a.tmps,params:=ps,assign,body,defers:=w.heap.size}:=⟨_,rfl⟩;have⟨F,M⟩:=ZK ((w.alloc (.deferred (some []))).alloc (.loop (rec .ready none)));have bz:F.heap[w.heap.size+1]? =some (.loop (rec .ready none)):=by rw[<-M];have:=World.alloc_heap_new (w.alloc (.deferred (some []))) (.loop (rec .ready none));rwa[World.size_alloc] at this
 have bu:F.heap[w.heap.size]? =some (.deferred (some [])):=by rw[<-M];exact(ZgE _ _ _ Qx).trans (World.alloc_heap_new w _)
 have bm:I [] F:=by rw[<-M];exact O.alloc _ (O.alloc _ h0)
 have cn:Below w0 w0 F:=by rw[<-M];exact bf.trans ((((Zu _ w).alloc (Zt _) _).alloc Qx _).mono bf.size)
 refine⟨w.heap.size+1,[{target:=.collected w.heap.size,args:= #[]}],F,{target:=.fn (.func gf) lb,args:= #[.func (.yield (w.heap.size+1)) #[] #[]]},F,gf,
  #[.func (.yield (w.heap.size+1)) #[] #[]]++lb,F,?_,?_,?_,?_,λ_=>h1,?_⟩
 .rw[<-M,ag];exact run_enterLoop_outer _ _ _ _ _
 .simp[resolve,hg];simp[go_sem]
 .intro f' de;trivial
 .simp[invoke,eg]
 .have cy:∀{A B:Qs} {row:Option Nat},(∀r,row=some r->F.heap.size<=r/\∃o:Obj,A.heap[r]? =some o/\o.isWalk=true)->(∀r,row=some r->w.heap.size<=r/\∃o:Obj,A.heap[r]? =some o/\o.isCells=false):=
   λh r e=>by have⟨hB,o,ho,hw⟩:=h r e;exact⟨by rw[<-M] at hB;simp at hB;omega,o,ho,Obj.not_cells_of_walk hw⟩
  have ak:∀{W:Qs} {b:Nat} {o:Obj} {c:Addr} {v:Qt} {l:Qk},W.heap[b]? =some o->o.isCells=false->Row W c.block T l->(W.setCell c v).heap[b]? =some o:=fun{W b o c v l} hb ho h=>by
   rw[ZfJ W c v b (λe=>by
    subst e;have⟨f,Z,_⟩:=h;rw[Z] at hb;cases hb
    simp[Obj.isCells] at ho)]
   exact hb
  refine(ay (w.heap.size+1)
   (λpre W=>I pre W/\W.heap[w.heap.size+1]? =some (.loop (rec .ready none))/\W.heap[w.heap.size]? =some (.deferred (some [])))
   F cn
   (λs A B row hs Z h=>⟨O s A B row hs.1 Z (cy (B:=B) h),(grownBy_keeps Z (λr e=>(h r e).2) hs.2.1 rfl).trans hs.2.1,(grownBy_keeps Z (λr e=>(h r e).2) hs.2.2 rfl).trans hs.2.2⟩)
   (λs W c v l hs hB h=>⟨bq s W c v l hs.1 (Zq QA hB) h,ak hs.2.1 rfl h,ak hs.2.2 rfl h⟩)
   ?_ ⟨bm,bz,bu⟩).mono ?_
  .rintro pre x W ⟨hi,hl,hk⟩ hlen;have bh:w.heap.size+1<W.heap.size:=QA;have hy:=run_yield (P:=P) (args:=encs x) hl QB;rw[ag] at hy;refine⟨fn,_,assign,body,hy,roundIn_of_wpIn hfn (ae _ pre x W _ hi ?_)⟩;intro J Wa af ah ct cj;replace hl:=af.same _ _ Qw hl rfl;replace hk:=af.same _ _ (Zt _) hk rfl;replace bh:w.heap.size+1<Wa.heap.size:=(ZdE.1 hl).1;replace hi:=ct;revert ah af;intro af ah;obtain⟨W,rfl⟩:=ZL Wa;refine⟨_,run_beginRound hl QA,?_⟩;have cw:(W.putObj (w.heap.size+1) (.loop {rec .ready none with state:=.busy})).heap[w.heap.size+1]? =some (.loop {rec .ready none with state:=.busy}):=World.putObj_heap_same bh;have cu:(W.putObj (w.heap.size+1) (.loop {rec .ready none with state:=.busy})).heap[w.heap.size]? =some (.deferred (some [])):=(World.putObj_heap_other Qw).trans hk;have cz:Kp W (W.putObj (w.heap.size+1) (.loop {rec .ready none with state:=.busy})):=az _ _ _ _ Qw hl rfl rfl;refine wpIn_mono (ai _ pre x J _ Qw (O.putObj _ hi Qw hl rfl) ((bj x J).putObj (s:=()) _ cj Qw hl rfl) hlen) ?_;rintro e a3 W3 U;cases e with
   |normal=>
    have⟨bg,aw,cr⟩:=U;have aq:=bg.same _ _ Qw cw rfl;have h:=run_endRound (P:=P) none aq;refine⟨_,_,h,rfl,⟨O.putObj _ cr Qw aq rfl,?_,?_⟩,au ah (au (au cz aw) (az _ _ _ _ Qw aq rfl rfl))⟩
    .rw[ag];exact World.putObj_heap_same (ZdE.1 aq).1
    .exact(World.putObj_heap_other Qw).trans (bg.same _ _ (Zt _) cu rfl)
   |ret=>exact U.elim
   |exit id=>exact U.elim
   |goto t=>exact U.elim
   |panic ch=>exact U.elim
   |outgrown=>exact U.elim
  .rintro e W2 ⟨⟨v,rfl⟩,xs,hS,hi,hl,hk⟩;exact⟨none,_,by have:=run_endLoop (P:=P) hl QB;rw[ag] at this;exact this,aj _ xs _ (Zt _) hS (O.putObj _ hi Qw hl rfl) ((World.putObj_heap_other Qw).trans hk)⟩
