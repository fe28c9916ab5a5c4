/- Part 4: lemmas about what the program computes. -/
import Derived.Test.YthppfllkocphbaaGreatDoorV02
namespace Go.Proofs.YthppfllkocphbaaGreatDoor
set_option linter.all false
set_option maxHeartbeats 25600000
set_option maxRecDepth 100000
open Tryz Go.RowKit
open Go renaming World->Qs,Value->Qt,TypeId->Qu,Ending->Qv
variable{B d n p:Nat}{L:List Nat}{w:World}
def KM{b:Nat}{c a:Int}(hc:c≠0){B:Nat}(hB:B<=b)(h:Row w b 141 [c,a,.nilIface]):QK w B c (.iface 139 b):=Zy ⟨hc,1,b,a,.nilIface,rfl,hB,h,Zv rfl⟩
def PA(c:Int)(hc:c≠0)(w:Qs):Calls prog 153 #[c] w λe w'=>∃b,e=.returned (.iface 139 (b:Nat))/\QK w' w c (.iface 139 (b:Nat))/\Below w w w':=by go_enter func153,ntmps153;go_wp2;go_ret;exact⟨w.heap.size,rfl,KM hc (Zt _) (Z2 w _ [.int .i64 c,.int .i64 0,.nilIface]),(Zu _ _).alloc (Zt _) _⟩
def PE(j d:Nat)(J:Jn)(w:Qs)(h:JAt w j d J)(C:J.next<=J.half)(hh:J.half<=100000):Calls prog 194 #[j] w λe w'=>e=.returned ((J.half-J.next:Nat):Int)/\∃q,w'=w.drewN q:=by have c2:=h.c2;have c6:=h.c6;go_enter func194,ntmps194;go_wp2;go_quiet (fail);go_wp2;go_ret;exact⟨A7 Qw,_,rfl⟩
def PB(j d:Nat)(J:Jn)(w:Qs)(h:JAt w j d J)(hh:J.half<=100000):Calls prog 91 #[j] w λe w'=>e=.returned ((J.half:Int)-1:Int)/\w=w':=by have c2:=h.c2;go_enter func91,ntmps91;go_wp2;go_ret;simp
def NS(j d:Nat)(J:Jn)(B:Nat)(c:Int)(v:Qt)(w:Qs)(h:JAt w j d J)(he:QK w B c v)(af:j<B)(ht:Ty w)(ae:Ty (w.setCell ⟨j,7,none⟩ (.bool true))):Calls prog 196 #[j,v] w λe w'=>∃v',e=.returned v'/\QK w' (min B w.heap.size) c v'/\JAt w' j d {J with closed:=true}/\Fr [j] w w':=by have r7:=h.free (j:=7) Qx;have c7:=h.c7;have F:Fr [j] w (w.setCell ⟨j,7,none⟩ (.bool true)):=(Fr.refl _ _).setCell (Zv Qx) _;have O:QK (w.setCell ⟨j,7,none⟩ (.bool true)) B c v:=he.fr F QB;have U:JAt (w.setCell ⟨j,7,none⟩ (.bool true)) j d {J with closed:=true}:=Row.set h 7 (.bool true);have Z:(w.setCell ⟨j,7,none⟩ (.bool true)).heap.size=w.heap.size:=Qx;have H:=ZY U F O Z;go_enter func196,ntmps196;go_wp2_with fail;refine(IM B c v _ H.3 ae).mono ?_;rintro e w1 ⟨v',rfl,M,hb⟩;have C:=ZM M hb;go_wp2;go_ret;exact⟨v',rfl,by have:=C.1;rwa[H.4] at this,H.1.after C.2,H.2.trans (Z1 (L:=[]) C.2) Qx⟩
def Hl(B p d n:Nat)(P:Pw)(D:Dk)(L:Qj)(half:Nat)(w:Qs)(h:PD B w p d n P D L)(O:2<=half)(U:2*half<=n):Calls prog 149 #[d,(0:Int),((2*half:Nat):Int)] w λe w'=>∃j,e=.returned (.tuple #[(j:Nat),.nilIface])/\w.heap.size<=j/\JAt w' j d ⟨half,false,0,0,1,false⟩/\Below w w w':=by have M:=h.ok.n2;have C:=h.dk;have⟨gh,v,_,C⟩:=C;have J:=ZI h.ok.len;have F:=ZI C;go_enter func149,ntmps149;go_wp2_with (go_at_call 138;go_fit (BK p d gh v D n _ F.o J.o M);rintro e w' ⟨rfl,rfl⟩);go_ret2;refine⟨w.heap.size,rfl,Zt _,?_,(Zu _ _).alloc (Zt _) _⟩;exact Z2 w _ [.pointer d,.int .i64 0,.int .i64 half,.bool false,.int .i64 0,.int .i64 0,.int .i64 1,.bool false]
def JAt.ne{j:Nat}{P:Pw}{D:Dk}{J:Jn}(h:PD B w p d n P D L)(C:JAt w j d J):j∉p::L:=h.Zap C Qx Qx Qx Qx
def Ty.did{X:Qj}{P1:Pw}{D1:Dk}{w1:Qs}{L1:Qj}(h:Ty w)(J:Did B p d n L X P1 D1 w w1 L1)(hB:0<B)(M:B<=p)(C:∀k,k∈L->B<=k)(F:∀k,k∈X->B<=k):Ty w1:=by
 unfold Ty at h⊢
 have:w1.heap[0]? =w.heap[0]?:=J.fr.block _ (Ty.lt h) (by
  simp
  exact⟨λhm=>by have:=F _ hm;omega,Qw,λhm=>by have:=C _ hm;omega⟩)
 rw[<-h];simp[World.cell?,this]
structure Ut(B p d n:Nat)(L:Qj)(half:Nat)(P:Pw)(D:Dk)(w:Qs)(jv ev:Qt)(w':Qs):Prop where
 err:QK w' w (QH (Z3 half) P D).1 ev
 ran:Ran B p d n L [] (Z3 half) P D w w'
 jn:(QH (Z3 half) P D).1=0->∃j,jv=.pointer (j:Nat)/\w.heap.size<=j/\JAt w' j d (Jn.first half)
 none_:(QH (Z3 half) P D).1≠0->jv=.pointer none
def Z3a(B p d n:Nat)(P:Pw)(D:Dk)(L:Qj)(half:Nat)(w:Qs)(h:PD B w p d n P D L)(hB:B<=w)(ht:Ty w)(hg:0<B)(h1:2<=half)(h2:2*half<=n)(bz:D.wait.length<=100000):Calls prog 144 #[d,(0:Int),((2*half:Nat):Int)] w λe w'=>∃jv ev,e=.returned (.tuple #[jv,ev])/\Ut B p d n L half P D w jv ev w':=by
 have hn:=h.ok.n2;have bf:=h.bp;have az:=h.bL;have ay:(QO 1 0 Yk).length=64:=Xw 1;have bm:(str (QO 1 0 Yk)).size=64:=by rw[QW,ay]
 obtain⟨A1,aq⟩:=ZK (Jn.clean ⟨half,false,0,0,1,false⟩ true 0);obtain⟨A2,aw⟩:=ZK (Jn.lay ⟨half,false,1,0,1,false⟩ false 0 (QO 1 0 Yk));have bg:Z3 half=A1++A2:=by rw[<-aq,<-aw];rfl
 have cu:A1.length<=1:=by rw[<-aq];unfold Jn.clean;split<;>simp
 have H:=ZX h ht hB;have J:=ZX aq aw bg;have HL:=ZX bf az hg;have HP:=ZM ay bm;have hh:half<=10000:=Qw;clear h aq aw bg bf az hg ht hB ay bm;go_enter func144,ntmps144;go_wp2_with fail;refine(Hl B p d n P D L half w H.1 h1 h2).mono ?_;rintro e w1 ⟨j,rfl,bh,O,au⟩;have c0:=O.c0;have T0:=Stg.start H.1 [] au;have HJ:=ZX bh O au;have S0:=ZI T0;have cj:=au.size;clear bh O au T0;go_wp2_with fail;refine(Ke B p d n j P D L ⟨half,false,0,0,1,false⟩ true 0 w1 S0.o.did.pd (Zq H.3 cj) HJ.2 Qw QA Qw).mono ?_;rw[J.1];rintro e w2 ⟨ev,rfl,he,Z⟩;rcases he.split with ⟨hc,rfl⟩|⟨hc,b,rfl⟩
 case inr=>
  have U:=S0.o.fail he Z;rw[Ze3] at U;obtain⟨L2,ae⟩:=Z;have ak:Ty w2:=Ty.did (H.2.below HJ.3) ae HL.3 HL.1 HL.2 Qx;have C:=ZO hc U he ae;clear hc he U ae;go_wp2_with fail;refine(IM _ _ _ _ C.2.2.1 ak).mono ?_;rintro e w3 ⟨v3,rfl,ag,M⟩;have H3:=ZM ag M;have cn:=C.2.2.2.fr.size;clear ag M ak;go_wp2;go_ret2;refine⟨_,_,rfl,?_,?_,?_,λ_=>rfl⟩
  .rw[J.3,Fc C.1];exact H3.1.base Qw
  .rw[J.3];obtain⟨_,_,_,q⟩:=C.2.1;exact(q.stop C.1).after H3.2
  .intro h0;rw[J.3,Fc C.1] at h0;exact absurd h0 C.1
 obtain⟨P1,D1,L1,T1⟩:=S0.o.next hc Z
 rw[Ze3] at T1;obtain⟨L2,ae⟩:=Z;have O:JAt w2 j d ⟨half,false,0,0,1,false⟩:=JAt.did ae S0.o.did.pd HJ.2 Qx;have cn:=ae.fr.size;have bu:=O.c0;have c4:=O.c4;have r4:=O.free (j:=4) Qx;have bq:Fr [j] w2 (w2.setCell ⟨j,4,none⟩ (.int .i64 1)):=(Fr.refl _ _).setCell (Zv Qx) _;have ai:j∉p::L1:=JAt.ne T1.did.pd O;have ah:JAt (w2.setCell ⟨j,4,none⟩ (.int .i64 1)) j d ⟨half,false,1,0,1,false⟩:=Row.set O 4 (.int .i64 1);have T2:Stg B p d n L [] A1 P D w P1 D1 L1 (w2.setCell ⟨j,4,none⟩ (.int .i64 1)):=T1.frame bq QB (by simp;exact HJ.1);have ct:=T1.few;have aj:(w2.setCell ⟨j,4,none⟩ (.int .i64 1)).heap.size=w2.heap.size:=by simp[World.setCell]
 have S2:=ZX T2 ah aj;clear T1 T2 ah O ae bq hc he c0 aj;go_wp2_with fail;refine(FO 1 0 (str Yk) _ Qw Qw (by rw[QW];decide)).mono ?_;rw[Yp];rintro e w3 ⟨rfl,M⟩;have cr:=M.size;rw[S2.3] at cr;have T3:=S2.1.after M;have ah:=JAt.after S2.2 M;have F:=ZM T3 ah;clear T3 ah M c4 r4 bu;go_wp2_with fail;refine(PT B p d n j P1 D1 L1 ⟨half,false,1,0,1,false⟩ false 0 (str (QO 1 0 Yk)) w3 F.1.did.pd (by have:=H.3;omega) F.2 (by rfl) (by rw[HP.2];exact Zt _) (by rw[HP.2];decide) Qw QA Qw).mono ?_;rw[Yp,J.2];rintro e w4 ⟨ev,rfl,he,Z⟩;rcases he.split with ⟨hc,rfl⟩|⟨hc,b,rfl⟩
 case inr=>
  have U:=F.1.fail he Z;have ai:=F.1.Zb7 hc;obtain⟨L4,af⟩:=Z;have ak:Ty w4:=Ty.did (Ty.did H.2 F.1.did HL.3 HL.1 HL.2 Qx) af HL.3 F.1.did.pd.bp F.1.did.pd.bL Qx;have C:=ZO ai U he af;clear hc he U af ai;go_wp2_with fail;refine(IM _ _ _ _ C.2.2.1 ak).mono ?_;rintro e w5 ⟨v3,rfl,ag,M⟩;have H3:=ZM ag M;have cw:=C.2.2.2.fr.size;clear ag M ak;go_wp2;go_ret2;refine⟨_,_,rfl,?_,?_,?_,λ_=>rfl⟩
  .rw[J.3,CB F.1.run];exact H3.1.base Qw
  .rw[J.3];obtain⟨_,_,_,q⟩:=C.2.1;exact q.after H3.2
  .intro h0;rw[J.3] at h0;exact absurd h0 C.1
 have U:=F.1.fail he Z;obtain⟨L4,af⟩:=Z;have bj:JAt w4 j d ⟨half,false,1,0,1,false⟩:=JAt.did af F.1.did.pd F.2 Qx;have C:=ZN hc U bj;clear hc he af U bj;go_wp2;go_ret2;obtain⟨ev,e1,e2,e3⟩:=C.2.1;injection e1 with e1;subst e1;exact⟨_,_,rfl,by rw[J.3];exact e2,by rw[J.3];exact e3,λ_=>⟨j,rfl,HJ.1,C.2.2⟩,λai=>absurd (by rw[J.3,CB F.1.run];exact C.1) ai⟩
