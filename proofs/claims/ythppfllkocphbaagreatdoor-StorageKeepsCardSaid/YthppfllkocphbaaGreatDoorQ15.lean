/-
  Part 16 of the proof: lemmas about what the program computes.
-/
import Derived.Test.YthppfllkocphbaaGreatDoorQ14
namespace Go.Proofs.YthppfllkocphbaaGreatDoor
set_option linter.unusedVariables false
set_option linter.unusedSimpArgs false
set_option maxHeartbeats 25600000
set_option maxRecDepth 100000
open Tryz
section
open Go.RowKit
set_option maxRecDepth 1000000 in
theorem ZhJ(g c:Nat)(st:List (BitVec 32))(ae:List UInt8)(w:World)(hs:YH w g st)(hb:ae.length=64):
  Calls prog 275 #[.slice (some ⟨g,0,none⟩) 8 c,.agg (Z3 ae).toArray] w fun e w'=>e=.returned (.tuple #[])/\YH w' g (mixed st ae)/\Fr [g] w w':=by
 have HS:=Zka hs
 have HB:=Zka hb
 clear hs hb
 go_enter func275,ntmps275
 go_upto_region 1 with fail
 refine Zg2 _ _ _ _ _ _ _ _ _ _ _ _ _ _ _ _ _ _ _ _ _ _ _ _ _ _ _ _ _ _ _ _ _ _ _ _ _ _ _ _ _ _ _ _ _ _ _ _ _ _ _ _ _ _ _ _ _ _ _ _ _ _ _ _ _ _ _ _ _ _ _ _ _ _ _ _ _ _ _ _ _ _ _ _ _ _ _ _ _ _ _ _ _ _ _ _ _ _ _ _ _ _ _ _ _ _ _ _ _ _ _ _ _ _ _ _ _ _ _ _ _ _ _ _ _ _ _ _ _ _ _ _ _ _ _ _ _ _ _ _ _ _ _ _ _ _ _ _ _ _ _ _ _ _ _ _ _ _ _ _ _ _ _ _ _ _ _ _ _ _ _ _ _ _ _ _ _ _ _ _ _ _ _ _ _ _ _ _ _ _ _ _ _ _ _ _ _ _ _ _ _ _ _ _ _ _ _ _ _ _ _ _ _ _ _ _ _ _ _ _ _ _ _ _ _ _ ?_
 go_upto_region 3 with fail
 refine Zg3 _ _ _ _ _ _ _ _ _ _ _ _ _ _ _ _ _ _ _ _ _ _ _ _ _ _ _ _ _ _ _ _ _ _ _ _ _ _ _ _ _ _ _ _ _ _ _ _ _ _ _ _ _ _ _ _ _ _ _ _ _ _ _ _ _ _ _ _ _ _ _ _ _ _ _ _ _ _ _ _ _ _ _ _ _ _ _ _ _ _ _ _ _ _ _ _ _ _ _ _ _ _ _ _ _ _ _ _ _ _ _ _ _ _ _ _ _ _ _ _ _ _ _ _ _ _ _ _ _ _ _ _ _ _ _ _ _ _ _ _ _ _ _ _ _ _ _ _ _ _ _ _ _ _ _ _ _ _ _ _ _ _ _ _ _ _ _ _ _ _ _ _ _ _ _ _ _ _ _ _ _ _ _ _ _ _ _ _ _ _ _ _ _ _ _ _ _ _ _ _ _ _ _ _ _ _ _ _ _ _ _ _ _ _ _ _ _ _ _ _ _ _ _ _ _ _ ?_
 go_wp2_with fail
 have rb:Row (((w.alloc (.cells (Z3 ae).toArray 346)).alloc (.cells Z00 352)).alloc (.cells Z26 352)) w.heap.size 346 (Z3 ae):=((Row.new w _ _).alloc _).alloc _
 have rk:Row (((w.alloc (.cells (Z3 ae).toArray 346)).alloc (.cells Z00 352)).alloc (.cells Z26 352)) (w.alloc (.cells (Z3 ae).toArray 346)).heap.size 352 (Qe Z2s):=by
  have h:=(Row.new (w.alloc (.cells (Z3 ae).toArray 346)) 352 (Qe Z2s)).alloc (.cells Z26 352)
  rw[<-ZhD] at h⊢
  exact h
 have fy:Row (((w.alloc (.cells (Z3 ae).toArray 346)).alloc (.cells Z00 352)).alloc (.cells Z26 352)) ((w.alloc (.cells (Z3 ae).toArray 346)).alloc (.cells Z00 352)).heap.size 352 (Qe (wl ae 0)):=by
  have h:=Row.new ((w.alloc (.cells (Z3 ae).toArray 346)).alloc (.cells Z00 352)) 352 (Qe (List.replicate 64 0#32))
  rw[wl,<-ZiF] at*
  exact h
 have iq:Below w.heap.size w (((w.alloc (.cells (Z3 ae).toArray 346)).alloc (.cells Z00 352)).alloc (.cells Z26 352)):=(((Below.refl _ w).alloc Zk8 _).alloc (by simp) _).alloc (by simp;omega) _
 have bh:(w.alloc (.cells (Z3 ae).toArray 346)).heap.size=w.heap.size+1:=by simp
 have bj:((w.alloc (.cells (Z3 ae).toArray 346)).alloc (.cells Z00 352)).heap.size=w.heap.size+2:=by simp
 obtain⟨gk,iu⟩:∃gk,(w.alloc (.cells (Z3 ae).toArray 346)).heap.size=gk:=⟨_,rfl⟩
 obtain⟨gw,iw⟩:∃gw,((w.alloc (.cells (Z3 ae).toArray 346)).alloc (.cells Z00 352)).heap.size=gw:=⟨_,rfl⟩
 obtain⟨w3,j8⟩:∃w3,(((w.alloc (.cells (Z3 ae).toArray 346)).alloc (.cells Z00 352)).alloc (.cells Z26 352))=w3:=⟨_,rfl⟩
 rw[iu] at rk bh
 rw[iw] at fy bj
 rw[j8] at rb rk fy iq
 rw[j8,iu,iw]
 obtain⟨gb,fx⟩:∃gb,w.heap.size=gb:=⟨_,rfl⟩
 rw[fx] at rb bh bj
 have F3:=Zka (Zkb iq (Zkb bh (Zkb bj fx)))
 have R0:=Zka (Zkb rb (Zkb rk fy))
 clear j8 iu iw rb rk fy iq bh bj
 rw[fx]
 clear fx
 go_loopw [27] (fun i wr=>∃k:Nat,k<=64/\i=.int .i64 k/\Row wr gb 346 (Z3 ae)/\Row wr gw 352 (Qe (wl ae k))/\Fr [gw] w3 wr) (fun i _=>64- (intOf i).toNat)
 case atStart=>exact⟨0,by omega,rfl,R0.out.1,R0.out.2.2,Fr.refl _ _⟩
 case round=>
  obtain⟨k,hk,rfl,rb,rr,hf⟩:=hrel
  by_cases bg:k<64
  ·by_cases jg:k<16
   ·have S0:=Zka (Zkb rb (Zkb rr hf))
    have ix:=HB.out
    have ek:∀j,j<4->∃u:UInt8,ae.getD (4*k+j) 0=u/\wr.cell? ⟨gb,4*k+j,none⟩=some (.int .u8 (u.toNat:Int)):=fun j hj=>by
     have h2:4*k+j<ae.length:=by omega
     refine⟨_,rfl,?_⟩
     rw[ZjE,ZjF h2]
     exact rb.cell (YR ae (4*k+j) h2)
    obtain⟨u0,jw,c0⟩:=ek 0 (by omega)
    obtain⟨u1,jx,c1⟩:=ek 1 (by omega)
    obtain⟨u2,jy,c2⟩:=ek 2 (by omega)
    obtain⟨u3,jz,c3⟩:=ek 3 (by omega)
    have HU:=Zka (Zkb jw (Zkb jx (Zkb jy jz)))
    obtain⟨e1,e2,e3,e4,e5,e6,e7,e8,e9,qp⟩:=ZcL u0.toNat u1.toNat u2.toNat u3.toNat u0.toNat_lt u1.toNat_lt u2.toNat_lt u3.toNat_lt
    obtain⟨q,hq⟩:∃q,4*k=q:=⟨_,rfl⟩
    rw[hq] at c0 c1 c2 c3
    rw[Nat.add_zero] at c0
    have rf:(4:Int)*(k:Int)=(q:Int):=by omega
    have ju:=Z6K gb 0 q (by omega)
    rw[Nat.zero_add] at ju
    have HQ:=Zka hq
    have jr:(0:Int)<((64-q:Nat):Int)/\(1:Int)<((64-q:Nat):Int)/\(2:Int)<((64-q:Nat):Int)/\(3:Int)<((64-q:Nat):Int):=by omega
    obtain⟨m,hm⟩:∃m,64-q=m:=⟨_,rfl⟩
    rw[hm] at ju jr
    obtain⟨b0,b1,b2,b3⟩:=jr
    have n0:0<m:=by omega
    have ki:(k:Int)<64:=by omega
    have fw:=rr.free (j:=k) (by rw[YF,Z0d];omega)
    have ir:=rr.cell (Wu (wl ae k) k (by rw[Z0d];omega))
    clear jw jx jy jz ek rb rr hf ix hq hm
    go_wp2_with fail
    go_still_tail 24,(by kernel_rfl)
    repeat still_step
    change wpList _ _ _ _ _ wr.drew
    go_wp2
    go_roundw
    case measure=>simp[intOf];omega
    case rel=>
     have hF:Fr [gw] wr (wr.drew.setCell ⟨gw,k,none⟩ (.int .u32 ((u0.toNat:Int)*16777216+(u1.toNat:Int)*65536+(u2.toNat:Int)*256+(u3.toNat:Int)))):=((Fr.refl _ wr).drew).setCell (Or.inl (by simp)) _
     have af:((u0.toNat:Int)*16777216+(u1.toNat:Int)*65536+(u2.toNat:Int)*256+(u3.toNat:Int))=uv (Z6T ae (wl ae k) k):=by
      unfold Z6T be4
      rw[if_pos jg,Z8w (ZhW _)]
      unfold YI
      have g:∀j,(ae.drop (4*k)).getD j 0=ae.getD (4*k+j) 0:=fun j=>by simp[ZjE]
      rw[g 0,g 1,g 2,g 3,HU.out.1,HU.out.2.1,HU.out.2.2.1,HU.out.2.2.2]
      omega
     refine⟨k+1,by omega,by go_num,S0.out.1.fr hF (by have:=F3.out;simp;omega),?_,S0.out.2.2.trans hF (fun i hi _=>hi)⟩
     have h:=(S0.out.2.1.drew).set k (.int .u32 ((u0.toNat:Int)*16777216+(u1.toNat:Int)*65536+(u2.toNat:Int)*256+(u3.toNat:Int)))
     rw[af,Z6Q] at h
     rw[af]
     exact h
   ·obtain⟨i16,kg⟩:∃i,k=i+16:=⟨k-16,by omega⟩
    obtain⟨ez,kf⟩:∃i,k=i+15:=⟨k-15,by omega⟩
    obtain⟨i7,k7⟩:∃i,k=i+7:=⟨k-7,by omega⟩
    obtain⟨i2,k2⟩:∃i,k=i+2:=⟨k-2,by omega⟩
    have tr:IntKind.i64.wrap ((k:Int)-16)=(i16:Int):=by rw[show(k:Int)-16=(i16:Int) from by omega];exact Zk2 _ (by omega)
    have tq:IntKind.i64.wrap ((k:Int)-15)=(ez:Int):=by rw[show(k:Int)-15=(ez:Int) from by omega];exact Zk2 _ (by omega)
    have w7:IntKind.i64.wrap ((k:Int)-7)=(i7:Int):=by rw[show(k:Int)-7=(i7:Int) from by omega];exact Zk2 _ (by omega)
    have w2:IntKind.i64.wrap ((k:Int)-2)=(i2:Int):=by rw[show(k:Int)-2=(i2:Int) from by omega];exact Zk2 _ (by omega)
    have cx:∀i,i<64->∃x,(wl ae k).getD i 0#32=x/\wr.cell? ⟨gw,i,none⟩=some (.int .u32 (uv x)):=fun i hi=>⟨_,rfl,rr.cell (Wu (wl ae k) i (by rw[Z0d];exact hi))⟩
    obtain⟨gj,jd,je⟩:=cx i16 (by omega)
    obtain⟨bm,jc,mu⟩:=cx ez (by omega)
    obtain⟨x7,X7,c7⟩:=cx i7 (by omega)
    obtain⟨x2,X2,c2⟩:=cx i2 (by omega)
    have n16:i16<64:=by omega
    have m16:(i16:Int)<64:=by omega
    have m7:(i7:Int)<64:=by omega
    have n15:ez<64:=by omega
    have n7:i7<64:=by omega
    have n2:i2<64:=by omega
    obtain⟨a1,A1⟩:∃a,QN bm 7=a:=⟨_,rfl⟩
    obtain⟨a2,A2⟩:∃a,QN bm 18=a:=⟨_,rfl⟩
    obtain⟨a3,A3⟩:∃a,bm>>>3=a:=⟨_,rfl⟩
    obtain⟨a4,A4⟩:∃a,a1^^^a2=a:=⟨_,rfl⟩
    obtain⟨a5,A5⟩:∃a,a4^^^a3=a:=⟨_,rfl⟩
    obtain⟨b1,B1⟩:∃a,QN x2 17=a:=⟨_,rfl⟩
    obtain⟨b2,B2⟩:∃a,QN x2 19=a:=⟨_,rfl⟩
    obtain⟨b3,B3⟩:∃a,x2>>>10=a:=⟨_,rfl⟩
    obtain⟨b4,B4⟩:∃a,b1^^^b2=a:=⟨_,rfl⟩
    obtain⟨b5,B5⟩:∃a,b4^^^b3=a:=⟨_,rfl⟩
    obtain⟨d1,D1⟩:∃a,gj+a5=a:=⟨_,rfl⟩
    obtain⟨d2,D2⟩:∃a,d1+x7=a:=⟨_,rfl⟩
    obtain⟨d3,D3⟩:∃a,d2+b5=a:=⟨_,rfl⟩
    have qs:uv bm / 8=uv a3:=by rw[<-A3];exact Z51 bm 3
    have qt:bits .xor .u32 (uv a1) (uv a2)=uv a4:=by rw[<-A4];exact Wo _ _
    have qu:bits .xor .u32 (uv a4) (uv a3)=uv a5:=by rw[<-A5];exact Wo _ _
    have qv:uv x2 / 1024=uv b3:=by rw[<-B3];exact Z51 x2 10
    have qw:bits .xor .u32 (uv b1) (uv b2)=uv b4:=by rw[<-B4];exact Wo _ _
    have qx:bits .xor .u32 (uv b4) (uv b3)=uv b5:=by rw[<-B5];exact Wo _ _
    have qy:IntKind.u32.wrap (uv gj+uv a5)=uv d1:=by rw[<-D1];exact XX _ _
    have r8:IntKind.u32.wrap (uv d1+uv x7)=uv d2:=by rw[<-D2];exact XX _ _
    have re:IntKind.u32.wrap (uv d2+uv b5)=uv d3:=by rw[<-D3];exact XX _ _
    have jh:d3=Z6T ae (wl ae k) k:=by
     unfold Z6T
     rw[if_neg jg,show k-16=i16 from by omega,show k-15=ez from by omega,show k-7=i7 from by omega,show k-2=i2 from by omega,jd,jc,X7,X2,A1,A2,A3,A4,A5,B1,B2,B3,B4,B5,D1,D2,D3]
    have mi:=Zka jh
    have t7:∀W,Calls prog 280 #[.int .u32 (uv bm),.int .i64 7] W fun e w'=>e=.returned (.int .u32 (uv a1))/\w'=W:=fun W=>by rw[<-A1];exact Z5k (Zjg bm W)
    have t18:∀W,Calls prog 280 #[.int .u32 (uv bm),.int .i64 18] W fun e w'=>e=.returned (.int .u32 (uv a2))/\w'=W:=fun W=>by rw[<-A2];exact Z5k (Zip bm W)
    have t17:∀W,Calls prog 280 #[.int .u32 (uv x2),.int .i64 17] W fun e w'=>e=.returned (.int .u32 (uv b1))/\w'=W:=fun W=>by rw[<-B1];exact Z5k (Zio x2 W)
    have t19:∀W,Calls prog 280 #[.int .u32 (uv x2),.int .i64 19] W fun e w'=>e=.returned (.int .u32 (uv b2))/\w'=W:=fun W=>by rw[<-B2];exact Z5k (Ziq x2 W)
    have T7:=Zka t7
    have mo:=Zka t18
    have mn:=Zka t17
    have mq:=Zka t19
    have S0:=Zka (Zkb rb (Zkb rr hf))
    have fw:=rr.free (j:=k) (by rw[YF,Z0d];omega)
    have ir:=rr.cell (Wu (wl ae k) k (by rw[Z0d];omega))
    have ki:(k:Int)<64:=by omega
    have HK:=Zka (Zkb kg (Zkb kf (Zkb k7 k2)))
    clear jd jc X7 X2 A1 A2 A3 A4 A5 B1 B2 B3 B4 B5 D1 D2 D3 jh t7 t18 t17 t19 rb rr hf cx kg kf k7 k2
    go_wp2_with fail
    go_quiet ((go_at_call 280;(first|(with_reducible refine Calls.quiet_of_same (T7.out _))|(with_reducible refine Calls.quiet_of_same (mo.out _)))))
    go_wp2_with fail
    generalize af:World.drewN wr _=wd
    have q2:wd.cell? ⟨gw,i2,none⟩=some (.int .u32 (uv x2)):=by rw[<-af];exact c2
    have kj:wd.cell? ⟨gw,i16,none⟩=some (.int .u32 (uv gj)):=by rw[<-af];exact je
    have q7:wd.cell? ⟨gw,i7,none⟩=some (.int .u32 (uv x7)):=by rw[<-af];exact c7
    have qz:wd.cell? ⟨gw,k,none⟩=some (.int .u32 (uv ((wl ae k).getD k 0#32))):=by rw[<-af];exact ir
    have qf:wd.frozen? ⟨gw,k,none⟩=false:=by rw[<-af];exact fw
    have HW:=Zka af
    clear af c2 je c7 mu ir fw
    go_quiet ((go_at_call 280;(first|(with_reducible refine Calls.quiet_of_same (mn.out _))|(with_reducible refine Calls.quiet_of_same (mq.out _)))))
    go_wp2_with fail
    generalize af:World.drewN wd _=we
    have tp:we.cell? ⟨gw,i16,none⟩=some (.int .u32 (uv gj)):=by rw[<-af];exact kj
    have p7:we.cell? ⟨gw,i7,none⟩=some (.int .u32 (uv x7)):=by rw[<-af];exact q7
    have pz:we.cell? ⟨gw,k,none⟩=some (.int .u32 (uv ((wl ae k).getD k 0#32))):=by rw[<-af];exact qz
    have pf:we.frozen? ⟨gw,k,none⟩=false:=by rw[<-af];exact qf
    have mm:=Zka af
    clear af q2 kj q7 qz qf
    go_still_tail 15,(by kernel_rfl)
    repeat still_step
    change wpList _ _ _ _ _ we.drew
    go_wp2
    go_roundw
    case measure=>simp[intOf];omega
    case rel=>
     obtain⟨n1,jq⟩:∃n,wd=wr.drewN n:=⟨_,HW.out.symm⟩
     obtain⟨kh,eu⟩:∃n,we=wd.drewN n:=⟨_,mm.out.symm⟩
     have hF:Fr [gw] wr (we.drew.setCell ⟨gw,k,none⟩ (.int .u32 (uv d3))):=by
      rw[eu,jq]
      exact(Fr.setCell (Fr.drew ((Fr.of_below (L:=[]) (Zp (Zp (Below.refl _ wr) n1) kh)).mono (L':=[gw]) (by simp))) (Or.inl (by simp)) _)
     refine⟨k+1,by omega,by go_num,S0.out.1.fr hF (by have:=F3.out;simp;omega),?_,S0.out.2.2.trans hF (fun i hi _=>hi)⟩
     have h:=((S0.out.2.1.drewN (n1)).drewN kh).drew.set k (.int .u32 (uv d3))
     rw[Z6Q] at h
     rw[wl,<-mi.out,eu,jq]
     exact h
  ·obtain rfl:k=64:=by omega
   have rk:=R0.out.2.1.fr hf (by have:=F3.out;simp;omega)
   have S0:=Zka (Zkb rk (Zkb rr hf))
   clear rb rr rk
   obtain⟨gv,jl⟩:∃gv,wr.heap.size=gv:=⟨_,rfl⟩
   have rv:ZC (wr.alloc (.cells #[.int .u32 0,.int .u32 0,.int .u32 0,.int .u32 0,.int .u32 0,.int .u32 0,.int .u32 0,.int .u32 0] 354)) gv 354 [.int .u32 0,.int .u32 0,.int .u32 0,.int .u32 0,.int .u32 0,.int .u32 0,.int .u32 0,.int .u32 0]:=by
    rw[<-jl];exact ZC.new wr _ _
   have j7:YH wr g st:=(HS.out.after F3.out.1).fr hf (by have:=F3.out.2.2.1;have:=HS.out.lt;have:=F3.out.2.2.2;simp;omega)
   have ew:YH (wr.alloc (.cells #[.int .u32 0,.int .u32 0,.int .u32 0,.int .u32 0,.int .u32 0,.int .u32 0,.int .u32 0,.int .u32 0] 354)) g st:=j7.after (Zk9.alloc Zk8 _)
   have RV:=Zka rv
   have du:=Zka ew
   have ra:=Zgu gv
   have fu:=Zka jl
   have gy:=Zka j7
   clear rv j7 ew hf
   go_wp2_with (refine Z5n rfl (.tmp 113) (.tmp 114) 344 344 rfl 161 underlying344 Ziu gv 0 8 8 g 0 8 c rfl rfl 354 _ (Qe st) RV.out (by rw[YF,du.out.len];rfl) (by rw[YF,du.out.len];decide) du.out.news (Z6P st) ?_;intro w5 js ji;have jt:ZC w5 gv 354 (Qe st):=(by simpa[YF,du.out.len] using js);clear js)
   have cv:∀j,j<8->w5.cell? ⟨gv,j,none⟩=some (.int .u32 (uv (st.getD j 0#32))):=fun j hj=>jt.row.cell (Wu st j (by rw[du.out.len];exact hj))
   have v0:=cv 0 (by omega)
   have v1:=cv 1 (by omega)
   have v2:=cv 2 (by omega)
   have v3:=cv 3 (by omega)
   have v4:=cv 4 (by omega)
   have v5:=cv 5 (by omega)
   have v6:=cv 6 (by omega)
   have v7:=cv 7 (by omega)
   have ft:=Zka ji
   clear cv jt ji
   go_wp2_with fail
   go_quiet (fail)
   go_wp2_with fail
   have jo:Row (w5.drewN nq) gk 352 (Qe Z2s):=((S0.out.1.alloc _).fr ft.out (by have:=S0.out.1.lt;have:=fu.out;simp;omega)).drewN nq
   have ke:Row (w5.drewN nq) gw 352 (Qe (wl ae 64)):=((S0.out.2.1.alloc _).fr ft.out (by have:=S0.out.2.1.lt;have:=fu.out;simp;omega)).drewN nq
   have aj:YH (w5.drewN nq) g st:=(du.out.fr ft.out (by have:=gy.out.lt;have:=fu.out;simp;omega)).after (Zp Zk9 nq)
   have jk:Fr [] w (w5.drewN nq):=by
    have h1:Fr [] w wr:=(Fr.of_below F3.out.1).trans S0.out.2.2 (fun i hi hl=>by have:=F3.out;simp at hi;omega)
    have h2:Fr [] w w5:=(h1.alloc _).trans ft.out (fun i hi hl=>by have:=h1.size;have:=fu.out;simp at hi;omega)
    exact h2.trans (Fr.of_below (L:=[]) (Zp Zk9 nq)) (by simp)
   generalize ey:World.drewN w5 nq=w6 at*
   have R6:=Zka (Zkb jo (Zkb ke (Zkb aj jk)))
   have qo:=Zka ey
   clear jo ke aj jk ey v0 v1 v2 v3 v4 v5 v6 v7
   go_loopw [12,13,14,15,16,17,18,19,132] (fun sa sb sc sd se sf sg sh i wr=>∃ (k:Nat) (r:R8),k<=64/\r=Z7i ae st k/\i=.int .i64 k/\sa=.int .u32 (uv r.a)/\sb=.int .u32 (uv r.b)/\sc=.int .u32 (uv r.c)/\sd=.int .u32 (uv r.d)/\se=.int .u32 (uv r.e)/\sf=.int .u32 (uv r.f)/\sg=.int .u32 (uv r.g)/\sh=.int .u32 (uv r.h)/\Fr [] w6 wr) (fun _ _ _ _ _ _ _ _ i _=>64- (intOf i).toNat)
   case atStart=>exact⟨0,R8.of st,by omega,rfl,rfl,by simp[R8.of],by simp[R8.of],by simp[R8.of],by simp[R8.of],by simp[R8.of],by simp[R8.of],by simp[R8.of],by simp[R8.of],Fr.refl _ _⟩
   case round=>
    obtain⟨k,⟨a,b,c',d,e,f,g',h⟩,hk,hr,rfl,rfl,rfl,rfl,rfl,rfl,rfl,rfl,rfl,hf⟩:=hrel
    by_cases bg:k<64
    ·have kK:=(R6.out.1.fr hf (by simp)).cell (Wu Z2s k (by rw[ZaP];exact bg))
     have kW:=(R6.out.2.1.fr hf (by simp)).cell (Wu (wl ae 64) k (by rw[Z0d];exact bg))
     have ai:Z7i ae st (k+1)=R8.next ⟨a,b,c',d,e,f,g',h⟩ (Z2s.getD k 0#32) ((wl ae 64).getD k 0#32):=by rw[Z7i,<-hr]
     obtain⟨K,ik⟩:∃z,Z2s.getD k 0#32=z:=⟨_,rfl⟩
     obtain⟨W,im⟩:∃z,(wl ae 64).getD k 0#32=z:=⟨_,rfl⟩
     rw[ik,im] at ai
     rw[ik] at kK
     rw[im] at kW
     obtain⟨fi,cy⟩:∃z,QN e 6=z:=⟨_,rfl⟩
     obtain⟨fj,cz⟩:∃z,QN e 11=z:=⟨_,rfl⟩
     obtain⟨fm,dc⟩:∃z,QN e 25=z:=⟨_,rfl⟩
     obtain⟨ak,ag⟩:∃z,fi^^^fj=z:=⟨_,rfl⟩
     obtain⟨ef,de⟩:∃z,ak^^^fm=z:=⟨_,rfl⟩
     obtain⟨ff,cn⟩:∃z,e&&&f=z:=⟨_,rfl⟩
     obtain⟨ee,cu⟩:∃z, ~~~ e=z:=⟨_,rfl⟩
     obtain⟨fh,cw⟩:∃z,ee&&&g'=z:=⟨_,rfl⟩
     obtain⟨dw,cj⟩:∃z,ff^^^fh=z:=⟨_,rfl⟩
     obtain⟨dp,ax⟩:∃z,h+ef=z:=⟨_,rfl⟩
     obtain⟨dq,ay⟩:∃z,dp+dw=z:=⟨_,rfl⟩
     obtain⟨dr,az⟩:∃z,dq+K=z:=⟨_,rfl⟩
     obtain⟨aq,b9⟩:∃z,dr+W=z:=⟨_,rfl⟩
     obtain⟨fo,df⟩:∃z,QN a 2=z:=⟨_,rfl⟩
     obtain⟨fp,dh⟩:∃z,QN a 13=z:=⟨_,rfl⟩
     obtain⟨fq,dj⟩:∃z,QN a 22=z:=⟨_,rfl⟩
     obtain⟨al,ah⟩:∃z,fo^^^fp=z:=⟨_,rfl⟩
     obtain⟨eh,dm⟩:∃z,al^^^fq=z:=⟨_,rfl⟩
     obtain⟨fa,bq⟩:∃z,a&&&b=z:=⟨_,rfl⟩
     obtain⟨fc,bu⟩:∃z,a&&&c'=z:=⟨_,rfl⟩
     obtain⟨fe,bz⟩:∃z,b&&&c'=z:=⟨_,rfl⟩
     obtain⟨fg,cr⟩:∃z,fa^^^fc=z:=⟨_,rfl⟩
     obtain⟨dx,ct⟩:∃z,fg^^^fe=z:=⟨_,rfl⟩
     obtain⟨dt,bf⟩:∃z,eh+dx=z:=⟨_,rfl⟩
     obtain⟨dy,au⟩:∃z,aq+dt=z:=⟨_,rfl⟩
     obtain⟨dz,aw⟩:∃z,d+aq=z:=⟨_,rfl⟩
     have eu:Z7i ae st (k+1)=⟨dy,a,b,c',dz,e,f,g'⟩:=by
      rw[ai,R8.next,R8.t,R8.u]
      simp only[]
      rw[cy,cz,dc,ag,de,cn,cu,cw,cj,ax,ay,az,b9,df,dh,dj,ah,dm,bq,bu,bz,cr,ct,bf,au,aw]
     have ja:bits .xor .u32 (uv fi) (uv fj)=uv ak:=by rw[<-ag];exact Wo _ _
     have lh:bits .xor .u32 (uv ak) (uv fm)=uv ef:=by rw[<-de];exact Wo _ _
     have kx:bits .and .u32 (uv e) (uv f)=uv ff:=by rw[<-cn];exact Z2U _ _
     have gx:bits .xor .u32 IntKind.u32.max (uv e)=uv ee:=by rw[<-cu,show IntKind.u32.max=uv 0xFFFFFFFF#32 from by rw[QE];rfl,Wo];congr 1
     have j9:bits .xor .u32 (if IntKind.u32.signed=true then -1 else IntKind.u32.max) (uv e)=uv ee:=gx
     have ld:bits .and .u32 (uv ee) (uv g')=uv fh:=by rw[<-cw];exact Z2U _ _
     have ku:bits .xor .u32 (uv ff) (uv fh)=uv dw:=by rw[<-cj];exact Wo _ _
     have lj:IntKind.u32.wrap (uv h+uv ef)=uv dp:=by rw[<-ax];exact XX _ _
     have mb:(uv h+uv ef)%4294967296=uv dp:=by rw[<-ax];exact Z0z _ _
     have lk:IntKind.u32.wrap (uv dp+uv dw)=uv dq:=by rw[<-ay];exact XX _ _
     have me:(uv dp+uv dw)%4294967296=uv dq:=by rw[<-ay];exact Z0z _ _
     have lq:IntKind.u32.wrap (uv dq+uv K)=uv dr:=by rw[<-az];exact XX _ _
     have mf:(uv dq+uv K)%4294967296=uv dr:=by rw[<-az];exact Z0z _ _
     have lr:IntKind.u32.wrap (uv dr+uv W)=uv aq:=by rw[<-b9];exact XX _ _
     have mg:(uv dr+uv W)%4294967296=uv aq:=by rw[<-b9];exact Z0z _ _
     have jb:bits .xor .u32 (uv fo) (uv fp)=uv al:=by rw[<-ah];exact Wo _ _
     have lu:bits .xor .u32 (uv al) (uv fq)=uv eh:=by rw[<-dm];exact Wo _ _
     have km:bits .and .u32 (uv a) (uv b)=uv fa:=by rw[<-bq];exact Z2U _ _
     have kq:bits .and .u32 (uv a) (uv c')=uv fc:=by rw[<-bu];exact Z2U _ _
     have kt:bits .and .u32 (uv b) (uv c')=uv fe:=by rw[<-bz];exact Z2U _ _
     have ky:bits .xor .u32 (uv fa) (uv fc)=uv fg:=by rw[<-cr];exact Wo _ _
     have kz:bits .xor .u32 (uv fg) (uv fe)=uv dx:=by rw[<-ct];exact Wo _ _
     have ly:IntKind.u32.wrap (uv eh+uv dx)=uv dt:=by rw[<-bf];exact XX _ _
     have mh:(uv eh+uv dx)%4294967296=uv dt:=by rw[<-bf];exact Z0z _ _
     have l7:IntKind.u32.wrap (uv aq+uv dt)=uv dy:=by rw[<-au];exact XX _ _
     have lz:(uv aq+uv dt)%4294967296=uv dy:=by rw[<-au];exact Z0z _ _
     have l9:IntKind.u32.wrap (uv d+uv aq)=uv dz:=by rw[<-aw];exact XX _ _
     have ma:(uv d+uv aq)%4294967296=uv dz:=by rw[<-aw];exact Z0z _ _
     have ia:Hid (∀W,Calls prog 280 #[.int .u32 (uv e),.int .i64 6] W fun e w'=>e=.returned (.int .u32 (uv fi))/\W=w'):=Zka (fun W=>by rw[<-cy];exact Zjf e W)
     have ib:Hid (∀W,Calls prog 280 #[.int .u32 (uv e),.int .i64 11] W fun e w'=>e=.returned (.int .u32 (uv fj))/\W=w'):=Zka (fun W=>by rw[<-cz];exact Zim e W)
     have ic:Hid (∀W,Calls prog 280 #[.int .u32 (uv e),.int .i64 25] W fun e w'=>e=.returned (.int .u32 (uv fm))/\W=w'):=Zka (fun W=>by rw[<-dc];exact Zis e W)
     have ie:Hid (∀W,Calls prog 280 #[.int .u32 (uv a),.int .i64 2] W fun e w'=>e=.returned (.int .u32 (uv fo))/\W=w'):=Zka (fun W=>by rw[<-df];exact Zje a W)
     have ig:Hid (∀W,Calls prog 280 #[.int .u32 (uv a),.int .i64 13] W fun e w'=>e=.returned (.int .u32 (uv fp))/\W=w'):=Zka (fun W=>by rw[<-dh];exact Zin a W)
     have ij:Hid (∀W,Calls prog 280 #[.int .u32 (uv a),.int .i64 22] W fun e w'=>e=.returned (.int .u32 (uv fq))/\W=w'):=Zka (fun W=>by rw[<-dj];exact Zir a W)
     have HN:=Zka eu
     have ki:(k:Int)<64:=by omega
     have eo:=hf
     have S9:=Zka hf
     clear eu ai ik im hr hf eo cy cz dc ag de cn cu cw cj ax ay az b9 df dh dj ah dm bq bu bz cr ct bf au aw
     have rh:=ZM a
     have ri:=ZM b
     have rj:=ZM c'
     have rm:=ZM d
     have rp:=ZM e
     have rq:=ZM f
     have ru:=ZM g'
     have ry:=ZM h
     have rz:=ZM K
     have si:=ZM W
     have mw:=ZM fi
     have mx:=ZM fj
     have my:=ZM fm
     have mz:=ZM ak
     have n9:=ZM ef
     have nf:=ZM ff
     have nh:=ZM ee
     have nj:=ZM fh
     have nr:=ZM dw
     have nt:=ZM dp
     have nu:=ZM dq
     have ny:=ZM dr
     have nz:=ZM aq
     have o4:=ZM fo
     have o5:=ZM fp
     have o7:=ZM fq
     have oc:=ZM al
     have od:=ZM eh
     have oe:=ZM fa
     have og:=ZM fc
     have oh:=ZM fe
     have oi:=ZM fg
     have oj:=ZM dx
     have om:=ZM dt
     have oo:=ZM dy
     have oq:=ZM dz
     have sq:=ZL a
     have su:=ZL b
     have sw:=ZL c'
     have sx:=ZL d
     have sy:=ZL e
     have te:=ZL f
     have tf:=ZL g'
     have ti:=ZL h
     have tj:=ZL K
     have tm:=ZL W
     have ot:=ZL fi
     have ou:=ZL fj
     have ov:=ZL fm
     have ow:=ZL ak
     have oy:=ZL ef
     have oz:=ZL ff
     have p5:=ZL ee
     have p6:=ZL fh
     have p8:=ZL dw
     have p9:=ZL dp
     have pj:=ZL dq
     have pq:=ZL dr
     have pr:=ZL aq
     have pt:=ZL fo
     have px:=ZL fp
     have py:=ZL fq
     have qb:=ZL al
     have qd:=ZL eh
     have qe:=ZL fa
     have qg:=ZL fc
     have qh:=ZL fe
     have qj:=ZL fg
     have qk:=ZL dx
     have ql:=ZL dt
     have qm:=ZL dy
     have qn:=ZL dz
     go_wp2_with (go_at_call 280;(first|(with_reducible refine(ia.out _).mono ?_)|(with_reducible refine(ib.out _).mono ?_)|(with_reducible refine(ic.out _).mono ?_));rintro e w' ⟨rfl,rfl⟩)
     go_quiet (fail)
     go_wp2_with (go_at_call 280;(first|(with_reducible refine(ie.out _).mono ?_)|(with_reducible refine(ig.out _).mono ?_)|(with_reducible refine(ij.out _).mono ?_));rintro e w' ⟨rfl,rfl⟩)
     go_roundw
     case measure=>simp[intOf];omega
     case rel=>exact⟨k+1,⟨dy,a,b,c',dz,e,f,g'⟩,by omega,HN.out.symm,by go_num,rfl,rfl,rfl,rfl,rfl,rfl,rfl,rfl,S9.out.trans (Fr.of_below (L:=[]) (Zp Zk9 _)) (by simp)⟩
    ·obtain rfl:k=64:=by omega
     have aj:YH wr g (Z2t st (R8.list ⟨a,b,c',d,e,f,g',h⟩) 0):=by
      have h0:=R6.out.2.2.1.fr hf (by simp)
      rw[ZiV _ _ h0.len];exact h0
     have S9:=Zka (Zkb aj hf)
     have HR:=Zka hr
     clear hr hf aj
     go_wp2_with fail
     have jm:=ZcZ ⟨a,b,c',d,e,f,g',h⟩
     have mj:=Zka jm
     clear jm
     go_loopw [211] (fun i wq=>∃k:Nat,k<=8/\i=.int .i64 k/\YH wq g (Z2t st (R8.list ⟨a,b,c',d,e,f,g',h⟩) k)/\Fr [g] wr wq) (fun i _=>8- (intOf i).toNat)
     case atStart=>exact⟨0,by omega,rfl,S9.out.1,Fr.refl _ _⟩
     case round=>
      obtain⟨k,hk,rfl,hs,hf⟩:=hrel
      by_cases bg:k<8
      ·have hx:=mj.out k bg
       have hc:=hs.cell k bg
       have fw:=hs.free k bg
       rw[Z3p _ _ _ _ bg,if_neg (by omega)] at hc
       obtain⟨sk,iz⟩:∃z,st.getD k 0#32=z:=⟨_,rfl⟩
       obtain⟨rk,iy⟩:∃z,(R8.list ⟨a,b,c',d,e,f,g',h⟩).getD k 0#32=z:=⟨_,rfl⟩
       rw[iz] at hc
       rw[iy] at hx
       have ea:(uv sk+uv rk)%4294967296=uv (sk+rk):=Z0z _ _
       have l1:=ZM sk
       have l2:=ZL sk
       have l3:=ZM rk
       have l4:=ZL rk
       have HH:=Zka (Zkb iz iy)
       have S7:=Zka (Zkb hs hf)
       clear iz iy hs hf
       go_wp2_with fail
       go_roundw
       case measure=>simp[intOf];omega
       case rel=>
        refine⟨k+1,by omega,by go_num,?_,S7.out.2.trans ((Fr.refl [g] _).setCell (Or.inl (by simp)) _) (fun i hi _=>hi)⟩
        have h9:=S7.out.1.step bg
        rw[HH.out.1,HH.out.2] at h9
        exact h9
      ·obtain rfl:k=8:=by omega
       have er:YH wr g (mixed st ae):=by
        rw[ZiW _ _ HS.out.len] at hs
        unfold mixed
        rw[<-HR.out]
        exact hs
       have hF:Fr [g] w wr:=by
        have h1:=R6.out.2.2.2.trans S9.out.2 (by simp)
        exact(h1.mono (L':=[g]) (by simp)).trans hf (fun i hi _=>hi)
       have S7:=Zka (Zkb er hF)
       clear hs hf er hF
       go_wp2_with fail
       go_end0
       exact⟨rfl,S7.out.1,S7.out.2⟩
end
end Go.Proofs.YthppfllkocphbaaGreatDoor
