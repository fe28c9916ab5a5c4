/-
  Part 10 of the proof: lemmas about what the program computes.
-/
import Derived.Test.YthppfllkocphbaaGreatDoorQ08
namespace Go.Proofs.YthppfllkocphbaaGreatDoor
set_option linter.unusedVariables false
set_option linter.unusedSimpArgs false
set_option maxHeartbeats 25600000
set_option maxRecDepth 100000
open Tryz
section
open Go.RowKit
variable{B d n p:Nat}{L:List Nat}{w:World}
theorem Z8W{b:Nat}{c a:Int}(hc:c≠0){B:Nat}(hB:B<=b)(h:Row w b 141 [.int .i64 c,.int .i64 a,.nilIface]):Zu w B c (.iface 139 (.pointer (some ⟨b,0,none⟩))):=
 Or.inr ⟨hc,1,b,a,.nilIface,rfl,hB,h,Or.inl rfl⟩
theorem Z6B(c:Int)(hc:c≠0)(w:World):
  Calls prog 153 #[.int .i64 c] w fun e w'=>∃b,e=.returned (.iface 139 (.pointer (some ⟨b,0,none⟩)))/\Zu w' w.heap.size c (.iface 139 (.pointer (some ⟨b,0,none⟩)))/\Below w.heap.size w w':=by
 go_enter func153,ntmps153
 go_wp2
 go_ret
 exact⟨w.heap.size,rfl,Z8W hc Zk8 (Row.new w _ [.int .i64 c,.int .i64 0,.nilIface]),Zk9.alloc Zk8 _⟩
theorem Z7R(j d:Nat)(J:Jn)(w:World)(h:JAt w j d J)(hn:J.next<=J.half)(hh:J.half<=100000):
  Calls prog 194 #[.pointer (some ⟨j,0,none⟩)] w fun e w'=>e=.returned (.int .i64 ((J.half-J.next:Nat):Int))/\∃q,w'=w.drewN q:=by
 have c2:=h.cell (j:=2) rfl
 have c6:=h.cell (j:=6) rfl
 clear h
 have hi:=Zk2 ((J.half:Int)- (J.next:Int)) (by omega)
 go_enter func194,ntmps194
 go_wp2
 go_quiet (fail)
 go_wp2
 go_ret
 exact⟨YP (by omega),_,rfl⟩
theorem Z7Q(j d:Nat)(J:Jn)(w:World)(h:JAt w j d J)(hh:J.half<=100000):
  Calls prog 91 #[.pointer (some ⟨j,0,none⟩)] w fun e w'=>e=.returned (.int .i64 ((J.half:Int)-1))/\w=w':=by
 have c2:=h.cell (j:=2) rfl
 clear h
 go_enter func91,ntmps91
 go_wp2
 go_ret
 exact⟨rfl,rfl⟩
theorem Z6q(j d:Nat)(J:Jn)(B:Nat)(c:Int)(v:Value)(w:World)(h:JAt w j d J)(he:Zu w B c v)(ai:j<B)(ht:Ty w)(aj:Ty (w.setCell ⟨j,7,none⟩ (.bool true))):
  Calls prog 196 #[.pointer (some ⟨j,0,none⟩),v] w fun e w'=>∃v',e=.returned v'/\Zu w' (min B w.heap.size) c v'/\JAt w' j d {J with closed:=true}/\Fr [j] w w':=by
 have r7:=h.free (j:=7) (by simp)
 have c7:=h.cell (j:=7) rfl
 have hf:Fr [j] w (w.setCell ⟨j,7,none⟩ (.bool true)):=(Fr.refl _ _).setCell (Or.inl (by simp)) _
 have af:Zu (w.setCell ⟨j,7,none⟩ (.bool true)) B c v:=he.fr hf (by simpa using ai)
 have ag:JAt (w.setCell ⟨j,7,none⟩ (.bool true)) j d {J with closed:=true}:=Row.set h 7 (.bool true)
 have ah:(w.setCell ⟨j,7,none⟩ (.bool true)).heap.size=w.heap.size:=by simp[World.setCell]
 have H:=Zka (Zkb ag (Zkb hf (Zkb af ah)))
 clear h he hf af ag ah
 go_enter func196,ntmps196
 go_wp2_with fail
 refine(Z0C B c v _ H.out.2.2.1 aj).mono ?_
 rintro e w1 ⟨v',rfl,ae,hb⟩
 have H2:=Zka (Zkb ae hb)
 clear ae hb
 go_wp2
 go_ret
 exact⟨v',rfl,by have:=H2.out.1;rwa[H.out.2.2.2] at this,H.out.1.after H2.out.2,H.out.2.1.trans (Fr.of_below (L:=[]) H2.out.2) (by simp)⟩
theorem Z1q(B p d n:Nat)(P:Pw)(D:Dk)(L:List Nat)(half:Nat)(w:World)(h:PD B w p d n P D L)(h1:2<=half)(h2:2*half<=n):
  Calls prog 149 #[.pointer (some ⟨d,0,none⟩),.int .i64 0,.int .i64 ((2*half:Nat):Int)] w fun e w'=>∃j,e=.returned (.tuple #[.pointer (some ⟨j,0,none⟩),.nilIface])/\w.heap.size<=j/\JAt w' j d ⟨half,false,0,0,1,false⟩/\Below w.heap.size w w':=by
 have hn:=h.ok.n2
 have hd:=h.dk
 have a1:¬ ((2*half:Nat):Int)<4:=by omega
 have a2:((2*half:Nat):Int)%2=0:=by omega
 have a3:¬ (n:Int)<((2*half:Nat):Int):=by omega
 have a4:¬ ((n:Int)- ((2*half:Nat):Int))<0:=by omega
 have a5:((2*half:Nat):Int) / 2=(half:Int):=by omega
 obtain⟨gh,v,_,hd⟩:=hd
 have HK:=Zka h.ok.len
 have HD:=Zka hd
 clear h hd
 go_enter func149,ntmps149
 go_wp2_with (go_at_call 138;refine(Yt p d gh v D n _ HD.out HK.out hn).mono ?_;rintro e w' ⟨rfl,rfl⟩)
 go_ret2
 refine⟨w.heap.size,rfl,Zk8,?_,Zk9.alloc Zk8 _⟩
 exact Row.new w _ [.pointer (some ⟨d,0,none⟩),.int .i64 0,.int .i64 half,.bool false,.int .i64 0,.int .i64 0,.int .i64 1,.bool false]
theorem JAt.ne{j:Nat}{P:Pw}{D:Dk}{J:Jn}(h:PD B w p d n P D L)(hj:JAt w j d J):j∉p::L:=
 h.row_ne hj (by decide) (by decide) (by decide) (by decide)
theorem Ty.did{X:List Nat}{P1:Pw}{D1:Dk}{w1:World}{L1:List Nat}(h:Ty w)(hd:Did B p d n L X P1 D1 w w1 L1)(hB:0<B)(hp:B<=p)(hL:∀k,k∈L->B<=k)(hX:∀k,k∈X->B<=k):Ty w1:=by
 unfold Ty at h⊢
 have:w1.heap[0]? =w.heap[0]?:=hd.fr.block _ (Ty.lt h) (by
  simp only[ZjU,ZjV,not_or]
  exact⟨fun hm=>by have:=hX _ hm;omega,by omega,fun hm=>by have:=hL _ hm;omega⟩)
 rw[<-h]
 simp only[World.cell?,this]
structure Zjz(B p d n:Nat)(L:List Nat)(half:Nat)(P:Pw)(D:Dk)(w:World)(jv ev:Value)(w':World):Prop where
 err:Zu w' w.heap.size (Z2 (Jn.format half) P D).1 ev
 ran:Ran B p d n L [] (Jn.format half) P D w w'
 jn:(Z2 (Jn.format half) P D).1=0->∃j,jv=.pointer (some ⟨j,0,none⟩)/\w.heap.size<=j/\JAt w' j d (Jn.first half)
 none_:(Z2 (Jn.format half) P D).1≠0->jv=.pointer none
theorem ZaN(B p d n:Nat)(P:Pw)(D:Dk)(L:List Nat)(half:Nat)(w:World)(h:PD B w p d n P D L)(hB:B<=w.heap.size)(ht:Ty w)(hg:0<B)(h1:2<=half)(h2:2*half<=n)(bu:D.wait.length<=100000):
  Calls prog 144 #[.pointer (some ⟨d,0,none⟩),.int .i64 0,.int .i64 ((2*half:Nat):Int)] w fun e w'=>∃jv ev,e=.returned (.tuple #[jv,ev])/\Zjz B p d n L half P D w jv ev w':=by
 have hn:=h.ok.n2
 have b9:=h.bp
 have az:=h.bL
 have ay:(Zb 1 0 ZI).length=64:=Qx 1
 have bj:(str (Zb 1 0 ZI)).size=64:=by rw[Z5,ay]
 obtain⟨A1,au⟩:∃A1,Jn.clean ⟨half,false,0,0,1,false⟩ true 0=A1:=⟨_,rfl⟩
 obtain⟨A2,ax⟩:∃A2,Jn.lay ⟨half,false,1,0,1,false⟩ false 0 (Zb 1 0 ZI)=A2:=⟨_,rfl⟩
 have bf:Jn.format half=A1++A2:=by rw[<-au,<-ax];rfl
 have ct:A1.length<=1:=by rw[<-au];unfold Jn.clean;split<;>simp
 have H:=Zka (Zkb h (Zkb ht hB))
 have HA:=Zka (Zkb au (Zkb ax bf))
 have HL:=Zka (Zkb b9 (Zkb az hg))
 have HP:=Zka (Zkb ay bj)
 have hh:half<=10000:=by omega
 clear h au ax bf b9 az hg ht hB ay bj
 go_enter func144,ntmps144
 go_wp2_with fail
 refine(Z1q B p d n P D L half w H.out.1 h1 h2).mono ?_
 rintro e w1 ⟨j,rfl,bg,af,aw⟩
 have c0:=af.cell (j:=0) rfl
 have T0:=Stg.start H.out.1 [] aw
 have HJ:=Zka (Zkb bg (Zkb af aw))
 have S0:=Zka T0
 have bz:=aw.size
 clear bg af aw T0
 go_wp2_with fail
 refine(Z4a B p d n j P D L ⟨half,false,0,0,1,false⟩ true 0 w1 S0.out.did.pd (Zk1 H.out.2.2 bz) HJ.out.2.1 (by omega) (by show half<=_;omega) (by omega)).mono ?_
 rw[HA.out.1]
 rintro e w2 ⟨ev,rfl,he,hr⟩
 rcases he.split with ⟨hc,rfl⟩|⟨hc,b,rfl⟩
 case inr=>
  have hX:=S0.out.fail he hr
  rw[List.nil_append] at hX
  obtain⟨L2,ag⟩:=hr
  have aq:Ty w2:=Ty.did (H.out.2.1.below HJ.out.2.2) ag HL.out.2.2 HL.out.1 HL.out.2.1 (by simp)
  have HZ:=Zka (Zkb hc (Zkb hX (Zkb he ag)))
  clear hc he hX ag
  go_wp2_with fail
  refine(Z0C _ _ _ _ HZ.out.2.2.1 aq).mono ?_
  rintro e w3 ⟨v3,rfl,aj,ae⟩
  have H3:=Zka (Zkb aj ae)
  have cj:=HZ.out.2.2.2.fr.size
  clear aj ae aq
  go_wp2
  go_ret2
  refine⟨_,_,rfl,?_,?_,?_,fun _=>rfl⟩
  ·rw[HA.out.2.2,Z16 HZ.out.1];exact H3.out.1.base (by omega)
  ·rw[HA.out.2.2]
   obtain⟨_,_,_,q⟩:=HZ.out.2.1
   exact(q.stop HZ.out.1).after H3.out.2
  ·intro h0;rw[HA.out.2.2,Z16 HZ.out.1] at h0;exact absurd h0 HZ.out.1
 obtain⟨P1,D1,L1,T1⟩:=S0.out.next hc hr
 rw[List.nil_append] at T1
 obtain⟨L2,ag⟩:=hr
 have af:JAt w2 j d ⟨half,false,0,0,1,false⟩:=JAt.did ag S0.out.did.pd HJ.out.2.1 (by simp)
 have cj:=ag.fr.size
 have bq:=af.cell (j:=0) rfl
 have c4:=af.cell (j:=4) rfl
 have r4:=af.free (j:=4) (by simp)
 have bm:Fr [j] w2 (w2.setCell ⟨j,4,none⟩ (.int .i64 1)):=(Fr.refl _ _).setCell (Or.inl (by simp)) _
 have ah:j∉p::L1:=JAt.ne T1.did.pd af
 have ak:JAt (w2.setCell ⟨j,4,none⟩ (.int .i64 1)) j d ⟨half,false,1,0,1,false⟩:=Row.set af 4 (.int .i64 1)
 have T2:Stg B p d n L [] A1 P D w P1 D1 L1 (w2.setCell ⟨j,4,none⟩ (.int .i64 1)):=T1.frame bm (by simpa using ah) (by simp;exact HJ.out.1)
 have cr:=T1.few
 have al:(w2.setCell ⟨j,4,none⟩ (.int .i64 1)).heap.size=w2.heap.size:=by simp[World.setCell]
 have S2:=Zka (Zkb T2 (Zkb ak al))
 clear T1 T2 ak af ag bm hc he c0 al
 go_wp2_with fail
 refine(Z2K 1 0 (str ZI) _ (by omega) (by omega) (by rw[Z5];decide)).mono ?_
 rw[Ze]
 rintro e w3 ⟨rfl,ae⟩
 have cn:=ae.size
 rw[S2.out.2.2] at cn
 have T3:=S2.out.1.after ae
 have ak:=JAt.after S2.out.2.1 ae
 have S3:=Zka (Zkb T3 ak)
 clear T3 ak ae c4 r4 bq
 go_wp2_with fail
 refine(Zbv B p d n j P1 D1 L1 ⟨half,false,1,0,1,false⟩ false 0 (str (Zb 1 0 ZI)) w3 S3.out.1.did.pd (by have:=H.out.2.2;omega) S3.out.2 (by rw[HP.out.2]) (by rw[HP.out.2];exact Zk8) (by rw[HP.out.2];decide) (by omega) (by show half<=_;omega) (by omega)).mono ?_
 rw[Ze,HA.out.2.1]
 rintro e w4 ⟨ev,rfl,he,hr⟩
 rcases he.split with ⟨hc,rfl⟩|⟨hc,b,rfl⟩
 case inr=>
  have hX:=S3.out.1.fail he hr
  have ah:=S3.out.1.code_ne hc
  obtain⟨L4,ai⟩:=hr
  have aq:Ty w4:=Ty.did (Ty.did H.out.2.1 S3.out.1.did HL.out.2.2 HL.out.1 HL.out.2.1 (by simp)) ai HL.out.2.2 S3.out.1.did.pd.bp S3.out.1.did.pd.bL (by simp)
  have HZ:=Zka (Zkb ah (Zkb hX (Zkb he ai)))
  clear hc he hX ai ah
  go_wp2_with fail
  refine(Z0C _ _ _ _ HZ.out.2.2.1 aq).mono ?_
  rintro e w5 ⟨v3,rfl,aj,ae⟩
  have H3:=Zka (Zkb aj ae)
  have cu:=HZ.out.2.2.2.fr.size
  clear aj ae aq
  go_wp2
  go_ret2
  refine⟨_,_,rfl,?_,?_,?_,fun _=>rfl⟩
  ·rw[HA.out.2.2,Z06 S3.out.1.run];exact H3.out.1.base (by omega)
  ·rw[HA.out.2.2]
   obtain⟨_,_,_,q⟩:=HZ.out.2.1
   exact q.after H3.out.2
  ·intro h0;rw[HA.out.2.2] at h0;exact absurd h0 HZ.out.1
 have hX:=S3.out.1.fail he hr
 obtain⟨L4,ai⟩:=hr
 have bh:JAt w4 j d ⟨half,false,1,0,1,false⟩:=JAt.did ai S3.out.1.did.pd S3.out.2 (by simp)
 have HZ:=Zka (Zkb hc (Zkb hX bh))
 clear hc he ai hX bh
 go_wp2
 go_ret2
 obtain⟨ev,e1,e2,e3⟩:=HZ.out.2.1
 injection e1 with e1
 subst e1
 exact⟨_,_,rfl,by rw[HA.out.2.2];exact e2,by rw[HA.out.2.2];exact e3,fun _=>⟨j,rfl,HJ.out.1,HZ.out.2.2⟩,fun ah=>absurd (by rw[HA.out.2.2,Z06 S3.out.1.run];exact HZ.out.1) ah⟩
end
end Go.Proofs.YthppfllkocphbaaGreatDoor
