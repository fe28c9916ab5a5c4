/- Part 5: lemmas about what the program computes. -/
import Derived.Test.YthppfllkocphbaaGreatDoorY03
namespace Go.Proofs.YthppfllkocphbaaGreatDoor
set_option linter.unusedVariables false
set_option linter.unusedSimpArgs false
set_option maxHeartbeats 25600000
set_option maxRecDepth 100000
open Tryz Go.RowKit
section
variable{B d n p:Nat}{L:List Nat}{w:World}
theorem Ng{b:Nat}{c a:Int}(hc:c≠0){B:Nat}(hB:B<=b)(h:Row w b 141 [.int .i64 c,.int .i64 a,.nilIface]):Zk w B c (.iface 139 (.pointer (some ⟨b,0,none⟩))):=Or.inr ⟨hc,1,b,a,.nilIface,rfl,hB,h,Or.inl rfl⟩
theorem K6(c:Int)(hc:c≠0)(w:World):Calls prog 153 #[.int .i64 c] w λe w'=>∃b,e=.returned (.iface 139 (.pointer (some ⟨b,0,none⟩)))/\Zk w' w.heap.size c (.iface 139 (.pointer (some ⟨b,0,none⟩)))/\Below w.heap.size w w':=by go_enter func153,ntmps153;go_wp2;go_ret;exact⟨w.heap.size,rfl,Ng hc Z5D (Row.new w _ [.int .i64 c,.int .i64 0,.nilIface]),Z5E.alloc Z5D _⟩
theorem LO(j d:Nat)(J:Jn)(w:World)(h:JAt w j d J)(C:J.next<=J.half)(hh:J.half<=100000):Calls prog 194 #[.pointer (some ⟨j,0,none⟩)] w λe w'=>e=.returned (.int .i64 ((J.half-J.next:Nat):Int))/\∃q,w'=w.drewN q:=by have c2:=h.cell (j:=2) rfl;have c6:=h.cell (j:=6) rfl;go_enter func194,ntmps194;go_wp2;go_quiet (fail);go_wp2;go_ret;exact⟨Wm (by omega),_,rfl⟩
theorem LN(j d:Nat)(J:Jn)(w:World)(h:JAt w j d J)(hh:J.half<=100000):Calls prog 91 #[.pointer (some ⟨j,0,none⟩)] w λe w'=>e=.returned (.int .i64 ((J.half:Int)-1))/\w=w':=by have c2:=h.cell (j:=2) rfl;go_enter func91,ntmps91;go_wp2;go_ret;simp
theorem IF(j d:Nat)(J:Jn)(B:Nat)(c:Int)(v:Value)(w:World)(h:JAt w j d J)(he:Zk w B c v)(af:j<B)(ht:Ty w)(ae:Ty (w.setCell ⟨j,7,none⟩ (.bool true))):Calls prog 196 #[.pointer (some ⟨j,0,none⟩),v] w λe w'=>∃v',e=.returned v'/\Zk w' (min B w.heap.size) c v'/\JAt w' j d {J with closed:=true}/\Fr [j] w w':=by
 have r7:=h.free (j:=7) (by simp);have c7:=h.cell (j:=7) rfl;have F:Fr [j] w (w.setCell ⟨j,7,none⟩ (.bool true)):=(Fr.refl _ _).setCell (Or.inl (by simp)) _;have O:Zk (w.setCell ⟨j,7,none⟩ (.bool true)) B c v:=he.fr F (by simp_all);have U:JAt (w.setCell ⟨j,7,none⟩ (.bool true)) j d {J with closed:=true}:=Row.set h 7 (.bool true);have Z:(w.setCell ⟨j,7,none⟩ (.bool true)).heap.size=w.heap.size:=by simp
 have H:=Z5L U F O Z;go_enter func196,ntmps196;go_wp2_with fail;refine(AP B c v _ H.out.2.2.1 ae).mono ?_;rintro e w1 ⟨v',rfl,M,hb⟩;have C:=Z5J M hb;go_wp2;go_ret;exact⟨v',rfl,by have:=C.out.1;rwa[H.out.2.2.2] at this,H.out.1.after C.out.2,H.out.2.1.trans (Fr.of_below (L:=[]) C.out.2) (by simp)⟩
theorem BR(B p d n:Nat)(P:Pw)(D:Dk)(L:List Nat)(half:Nat)(w:World)(h:PD B w p d n P D L)(O:2<=half)(U:2*half<=n):Calls prog 149 #[.pointer (some ⟨d,0,none⟩),.int .i64 0,.int .i64 ((2*half:Nat):Int)] w λe w'=>∃j,e=.returned (.tuple #[.pointer (some ⟨j,0,none⟩),.nilIface])/\w.heap.size<=j/\JAt w' j d ⟨half,false,0,0,1,false⟩/\Below w.heap.size w w':=by have M:=h.ok.n2;have C:=h.dk;obtain⟨gh,v,_,C⟩:=C;have J:=Z5F h.ok.len;have F:=Z5F C;go_enter func149,ntmps149;go_wp2_with (go_at_call 138;refine(Ys p d gh v D n _ F.out J.out M).mono ?_;rintro e w' ⟨rfl,rfl⟩);go_ret2;refine⟨w.heap.size,rfl,Z5D,?_,Z5E.alloc Z5D _⟩;exact Row.new w _ [.pointer (some ⟨d,0,none⟩),.int .i64 0,.int .i64 half,.bool false,.int .i64 0,.int .i64 0,.int .i64 1,.bool false]
theorem JAt.ne{j:Nat}{P:Pw}{D:Dk}{J:Jn}(h:PD B w p d n P D L)(C:JAt w j d J):j∉p::L:=h.row_ne C (by simp) (by simp) (by simp) (by simp)
theorem Ty.did{X:List Nat}{P1:Pw}{D1:Dk}{w1:World}{L1:List Nat}(h:Ty w)(J:Did B p d n L X P1 D1 w w1 L1)(hB:0<B)(M:B<=p)(C:∀k,k∈L->B<=k)(F:∀k,k∈X->B<=k):Ty w1:=by
 unfold Ty at h⊢
 have:w1.heap[0]? =w.heap[0]?:=J.fr.block _ (Ty.lt h) (by
  simp
  exact⟨λhm=>by have:=F _ hm;omega,by omega,λhm=>by have:=C _ hm;omega⟩)
 rw[<-h];simp[World.cell?,this]
structure Z54(B p d n:Nat)(L:List Nat)(half:Nat)(P:Pw)(D:Dk)(w:World)(jv ev:Value)(w':World):Prop where
 err:Zk w' w.heap.size (Z2 (Jn.format half) P D).1 ev
 ran:Ran B p d n L [] (Jn.format half) P D w w'
 jn:(Z2 (Jn.format half) P D).1=0->∃j,jv=.pointer (some ⟨j,0,none⟩)/\w.heap.size<=j/\JAt w' j d (Jn.first half)
 none_:(Z2 (Jn.format half) P D).1≠0->jv=.pointer none
theorem PE(B p d n:Nat)(P:Pw)(D:Dk)(L:List Nat)(half:Nat)(w:World)(h:PD B w p d n P D L)(hB:B<=w.heap.size)(ht:Ty w)(hg:0<B)(h1:2<=half)(h2:2*half<=n)(bm:D.wait.length<=100000):Calls prog 144 #[.pointer (some ⟨d,0,none⟩),.int .i64 0,.int .i64 ((2*half:Nat):Int)] w λe w'=>∃jv ev,e=.returned (.tuple #[jv,ev])/\Z54 B p d n L half P D w jv ev w':=by
 have hn:=h.ok.n2;have b7:=h.bp;have az:=h.bL;have aw:(Zh 1 0 ZM).length=64:=QP 1;have bg:(str (Zh 1 0 ZM)).size=64:=by rw[Z5,aw]
 obtain⟨A1,al⟩:=Z5H (Jn.clean ⟨half,false,0,0,1,false⟩ true 0);obtain⟨A2,au⟩:=Z5H (Jn.lay ⟨half,false,1,0,1,false⟩ false 0 (Zh 1 0 ZM));have b8:Jn.format half=A1++A2:=by rw[<-al,<-au];rfl
 have cn:A1.length<=1:=by rw[<-al];unfold Jn.clean;split<;>simp
 have H:=Z5K h ht hB;have J:=Z5K al au b8;have HL:=Z5K b7 az hg;have HP:=Z5J aw bg;have hh:half<=10000:=by omega
 clear h al au b8 b7 az hg ht hB aw bg;go_enter func144,ntmps144;go_wp2_with fail;refine(BR B p d n P D L half w H.out.1 h1 h2).mono ?_;rintro e w1 ⟨j,rfl,b9,O,aq⟩;have c0:=O.cell (j:=0) rfl;have T0:=Stg.start H.out.1 [] aq;have HJ:=Z5K b9 O aq;have S0:=Z5F T0;have bq:=aq.size;clear b9 O aq T0;go_wp2_with fail;refine(Fn B p d n j P D L ⟨half,false,0,0,1,false⟩ true 0 w1 S0.out.did.pd (Z5w H.out.2.2 bq) HJ.out.2.1 (by omega) (by grind) (by omega)).mono ?_;rw[J.out.1];rintro e w2 ⟨ev,rfl,he,Z⟩;rcases he.split with ⟨hc,rfl⟩|⟨hc,b,rfl⟩
 case inr=>
  have U:=S0.out.fail he Z;rw[List.nil_append] at U;obtain⟨L2,ae⟩:=Z;have ak:Ty w2:=Ty.did (H.out.2.1.below HJ.out.2.2) ae HL.out.2.2 HL.out.1 HL.out.2.1 (by simp);have C:=Z5L hc U he ae;clear hc he U ae;go_wp2_with fail;refine(AP _ _ _ _ C.out.2.2.1 ak).mono ?_;rintro e w3 ⟨v3,rfl,ag,M⟩;have H3:=Z5J ag M;have bu:=C.out.2.2.2.fr.size;clear ag M ak;go_wp2;go_ret2;refine⟨_,_,rfl,?_,?_,?_,λ_=>rfl⟩
  .rw[J.out.2.2,Bq C.out.1];exact H3.out.1.base (by omega)
  .rw[J.out.2.2];obtain⟨_,_,_,q⟩:=C.out.2.1;exact(q.stop C.out.1).after H3.out.2
  .intro h0;rw[J.out.2.2,Bq C.out.1] at h0;exact absurd h0 C.out.1
 obtain⟨P1,D1,L1,T1⟩:=S0.out.next hc Z
 rw[List.nil_append] at T1;obtain⟨L2,ae⟩:=Z;have O:JAt w2 j d ⟨half,false,0,0,1,false⟩:=JAt.did ae S0.out.did.pd HJ.out.2.1 (by simp);have bu:=ae.fr.size;have bj:=O.cell (j:=0) rfl;have c4:=O.cell (j:=4) rfl;have r4:=O.free (j:=4) (by simp);have bh:Fr [j] w2 (w2.setCell ⟨j,4,none⟩ (.int .i64 1)):=(Fr.refl _ _).setCell (Or.inl (by simp)) _;have ai:j∉p::L1:=JAt.ne T1.did.pd O;have ah:JAt (w2.setCell ⟨j,4,none⟩ (.int .i64 1)) j d ⟨half,false,1,0,1,false⟩:=Row.set O 4 (.int .i64 1);have T2:Stg B p d n L [] A1 P D w P1 D1 L1 (w2.setCell ⟨j,4,none⟩ (.int .i64 1)):=T1.frame bh (by simp_all) (by simp;exact HJ.out.1);have cj:=T1.few;have aj:(w2.setCell ⟨j,4,none⟩ (.int .i64 1)).heap.size=w2.heap.size:=by simp[World.setCell]
 have S2:=Z5K T2 ah aj;clear T1 T2 ah O ae bh hc he c0 aj;go_wp2_with fail;refine(DE 1 0 (str ZM) _ (by omega) (by omega) (by rw[Z5];decide)).mono ?_;rw[Zn];rintro e w3 ⟨rfl,M⟩;have bz:=M.size;rw[S2.out.2.2] at bz;have T3:=S2.out.1.after M;have ah:=JAt.after S2.out.2.1 M;have F:=Z5J T3 ah;clear T3 ah M c4 r4 bj;go_wp2_with fail;refine(RL B p d n j P1 D1 L1 ⟨half,false,1,0,1,false⟩ false 0 (str (Zh 1 0 ZM)) w3 F.out.1.did.pd (by have:=H.out.2.2;omega) F.out.2 (by rfl) (by rw[HP.out.2];exact Z5D) (by rw[HP.out.2];decide) (by omega) (by grind) (by omega)).mono ?_;rw[Zn,J.out.2.1];rintro e w4 ⟨ev,rfl,he,Z⟩;rcases he.split with ⟨hc,rfl⟩|⟨hc,b,rfl⟩
 case inr=>
  have U:=F.out.1.fail he Z;have ai:=F.out.1.code_ne hc;obtain⟨L4,af⟩:=Z;have ak:Ty w4:=Ty.did (Ty.did H.out.2.1 F.out.1.did HL.out.2.2 HL.out.1 HL.out.2.1 (by simp)) af HL.out.2.2 F.out.1.did.pd.bp F.out.1.did.pd.bL (by simp);have C:=Z5L ai U he af;clear hc he U af ai;go_wp2_with fail;refine(AP _ _ _ _ C.out.2.2.1 ak).mono ?_;rintro e w5 ⟨v3,rfl,ag,M⟩;have H3:=Z5J ag M;have cr:=C.out.2.2.2.fr.size;clear ag M ak;go_wp2;go_ret2;refine⟨_,_,rfl,?_,?_,?_,λ_=>rfl⟩
  .rw[J.out.2.2,A9 F.out.1.run];exact H3.out.1.base (by omega)
  .rw[J.out.2.2];obtain⟨_,_,_,q⟩:=C.out.2.1;exact q.after H3.out.2
  .intro h0;rw[J.out.2.2] at h0;exact absurd h0 C.out.1
 have U:=F.out.1.fail he Z;obtain⟨L4,af⟩:=Z;have bf:JAt w4 j d ⟨half,false,1,0,1,false⟩:=JAt.did af F.out.1.did.pd F.out.2 (by simp);have C:=Z5K hc U bf;clear hc he af U bf;go_wp2;go_ret2;obtain⟨ev,e1,e2,e3⟩:=C.out.2.1;injection e1 with e1;subst e1;exact⟨_,_,rfl,by rw[J.out.2.2];exact e2,by rw[J.out.2.2];exact e3,λ_=>⟨j,rfl,HJ.out.1,C.out.2.2⟩,λai=>absurd (by rw[J.out.2.2,A9 F.out.1.run];exact C.out.1) ai⟩
