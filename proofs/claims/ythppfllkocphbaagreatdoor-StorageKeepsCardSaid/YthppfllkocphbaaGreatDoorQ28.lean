/-
  Part 29 of the proof: lemmas about what the program computes.
-/
import Derived.Deep.OwnRows
import Derived.Test.YthppfllkocphbaaGreatDoorQ27
namespace Go.Proofs.YthppfllkocphbaaGreatDoor
set_option linter.unusedVariables false
set_option linter.unusedSimpArgs false
set_option maxHeartbeats 25600000
set_option maxRecDepth 100000
open Tryz
section
open Go.RowKit Go.Shelf
theorem ZgG:(prog.info? 89).map (fun i=>(i.zero,i.size,i.bytes))=some (some (.pointer none),1,8):=by kernel_rfl
section
variable{B:Nat}{w0 w1 wr:World}{G:Eg}{V0:Ev}{Ls:Nat->List Nat}{Ss:Nat->Sto}{g gb sb t:Nat}{q:Int}{sf jf:Nat->Nat}{gl sl:List Value}{K:List Bs}{E:Nat}{H:Bs->Option Bs}
theorem Zg9(h:Op1 B w0 w1 G V0 Ls Ss g gb sb t q sf jf gl sl wr)(ht:t<G.n)(hD:Q8 K E (V0.Ds t) (Ss t))(hg:V0.P.gone=false)(hd:(V0.Ds t).dead=false)(hE:E<=2000000000):
  Calls prog 62 #[.pointer (some ⟨G.ds t,0,none⟩)] wr fun e w'=>∃s j,e=.returned (.tuple #[.pointer (some ⟨s,0,none⟩),.nilIface])/\wr.heap.size<=s/\wr.heap.size<=j/\Wi w' s j (G.ds t) (Ss t)/\Below wr.heap.size wr w':=by
 obtain⟨recs,hi,ae⟩:=hD.img
 refine(ZgE B G.p (G.ds t) V0.P (V0.Ds t) (Ls t) (Ss t) recs wr (h.ep.pd t ht) (Z4H hg hd) hi (by have:=hD.ep;omega) ae).mono ?_
 rintro e w' ⟨s,rfl,hs,hb⟩
 obtain⟨h0,j,hj,af⟩:=hs.j
 exact⟨s,j,rfl,h0,hj,af,hb⟩
theorem ZhL(h:Op1 B w0 w1 G V0 Ls Ss g gb sb t q sf jf gl sl wr)(ht:t<G.n){s j:Nat}(af:Wi wr s j (G.ds t) (Ss t))(hD:Q8 K E (V0.Ds t) (Ss t))(hg:V0.P.gone=false)(hd:(V0.Ds t).dead=false)(hR:WT V0.k V0.m t g H (stR (V0.Ds t).reads (Ss t).dir))(hk:V0.k<=16)(hm:V0.m<=16)(ae:g<=1000000000):
  Calls prog 63 #[.pointer (some ⟨G.s,0,none⟩),.pointer (some ⟨s,0,none⟩),.string ⟨#[33]⟩,.int .i64 (t:Int)] wr fun e w'=>e=.returned (.int .i64 (g:Int))/\Below wr.heap.size wr w':=
 Zcx G.s s wr (h.ep.pd t ht) af.at_ hD hg hd hR hk hm (by have:=h.ep.n16;omega) ae (h.ep.set.cell (j:=0) rfl) (h.ep.set.cell (j:=1) rfl)
variable{V:Ev}{Os:Nat->List Nat}
theorem ZhM(h:Op2 B w0 w1 G V0 Ls Ss g gb sb t sf jf gl sl V Os wr)(ht:t<G.n)(hK:KOk K)(hD:Q8 K E (V0.Ds t) (Ss t))(hR:WT V0.k V0.m t g H (stR (V0.Ds t).reads (Ss t).dir)):
  Calls prog 64 #[.pointer (some ⟨G.s,0,none⟩),.int .i64 (t:Int),.pointer (some ⟨sf t,0,none⟩),.int .i64 (g:Int)] wr fun e w'=>e=.returned (.tuple #[.bool true,.nilIface])/\Below wr.heap.size wr w':=by
 have c3:=h.ep.set.cell (j:=3) rfl
 rw[show V.gen=(g:Int) from by rw[h.eq]] at c3
 exact Z9D G.s (sf t) (G.ds t) wr c3 (h.st t ht).at_ hK hD hR
theorem Zeq(h:Op2 B w0 w1 G V0 Ls Ss g gb sb t sf jf gl sl V Os wr)(ht:t<G.n)(hd:(V0.Ds t).dead=false)(ak:∀a,a<G.n->w1.heap.size<=sf a/\w1.heap.size<=jf a)(af:∀a b,a<G.n->b<G.n->a≠b->sf a≠sf b/\jf a≠jf b)(al:w0.heap.size<=w1.heap.size)(hB:B<=w0.heap.size)(aq:∀a,a<G.n->w0.heap.size<=G.xs a/\G.xs a<w1.heap.size):
  Calls prog 65 #[.pointer (some ⟨G.s,0,none⟩),.int .i64 (t:Int),.pointer (some ⟨sf t,0,none⟩)] wr fun e w'=>e=.returned (.tuple #[])/\∃V' ai,Op2 B w0 w1 G V0 Ls Ss g gb sb (t+1) sf jf gl sl V' ai w':=by
 have ag:=h.ep.at_ t ht
 rw[(h.out t Zk8).1] at ag
 obtain⟨sv,lf,inn,hO,ae, -⟩:=ag
 obtain⟨gh,v, -,ah⟩:=(h.ep.pd t ht).dk
 have aj:V.Ds=V0.Ds:=by rw[h.eq]
 rw[aj] at ah
 refine(Z4h G.s G.ms (G.xs t) t G.n G.cap G.p (G.ds t) gh (sf t) v sv (.int .i64 lf) (.bool inn) (V0.Ds t) wr ht (h.ep.set.cell (j:=2) rfl) (h.ep.mcell ht) ae ah).mono ?_
 rintro e w' ⟨rfl,hr,hf⟩
 exact⟨rfl,_,_,h.next ht ae hr hf hd ak af al hB aq⟩
end
theorem Zfm(B:Nat)(w:World)(K:List Bs)(E gd n cap k m p g:Nat)(ds:Nat->Nat)(P:Pw)(Ds:Nat->Dk)(Ls:Nat->List Nat)(Ss:Nat->Sto)(H:Bs->Option Bs)(hc:∀i,i<n->w.cell? ⟨gd,i,none⟩=some (.pointer (some ⟨ds i,0,none⟩)))(ct:gd<w.heap.size)(dr:1<=k)(hn:n=k+m)(ax:n<=16)(bu:B<=w.heap.size)(cw:∀i,i<n->PD B w p (ds i) 800 P (Ds i) (Ls i))(aq:∀i j,i<n->j<n->i≠j->∀q∈Ls i,q∉Ls j)(hK:KOk K)(af:P.gone=false)(ak:∀i,i<n->Q8 K E (Ds i) (Ss i)/\WT k m i g H (stR (Ds i).reads (Ss i).dir)/\(Ds i).dead=false)(hE:E<=2000000000)(dp:g<=1000000000):
  Calls prog 27 #[.slice (some ⟨gd,0,none⟩) n cap,.int .i64 (k:Int),.int .i64 (m:Int)] w fun e w'=>∃s ms c xs V Os,e=.returned (.tuple #[.pointer (some ⟨s,0,none⟩),.nilIface])/\Q0 B w' ⟨n,p,s,ms,c,xs,ds⟩ V Ls Os/\V=⟨k,m,(g:Int),P,Ds,V.Ms⟩/\(∀i,i<n->V.Ms i=some (Ss i))/\Below w.heap.size w w'/\w.heap.size<=s:=by
 have al:=Z7B w gd n cap k m ds hc ct dr hn ax
 have cu:1<=n:=by omega
 have bg:k<=16:=by omega
 have bh:m<=16:=by omega
 have dt:=run_make_row' (P:=prog) 46 3 (.int .i64 0) 8 underlying46 Z7P rfl .i64 .i64 n (by omega) (by omega)
 have du:=run_make_row' (P:=prog) 126 89 (.pointer none) 8 underlying126 ZgG rfl .i64 .i64 n (by omega) (by omega)
 have ee:decide (n<k)=false:=by simp;omega
 have dx:decide ((g:Int)<0)=false:=by simp
 have HA:=Zka (Zkb al (Zkb cw (Zkb aq (Zkb ak (Zkb af (Zkb hc hn))))))
 clear al cw aq ak af hn hc
 go_enter func27,ntmps27
 go_wp2_with (go_at_call 47;refine HA.out.1.mono ?_;rintro e w1 ⟨s,v,xs,rfl,hS⟩;obtain⟨ms,c,hp⟩:=hS.eat bu cu ax HA.out.2.1 HA.out.2.2.1;have dc:∀i,i<n->xs i<w1.heap.size:=fun i hi=>(hS.mem i hi).lt;have c3:w1.cell? ⟨s,3,none⟩=some (.int .i64 0):=hp.set.cell (j:=3) rfl;have f3:w1.frozen? ⟨s,3,none⟩=false:=hp.set.free (j:=3) (by simp);have bm:s<w1.heap.size:=hp.set.lt;have ay:s<w1.heap.size+1:=(by omega);have fA:∀o o',((w1.alloc o).alloc o').frozen? ⟨s,3,none⟩=false:=(fun o o'=>((hp.set.alloc o).alloc o').free (j:=3) (by simp));have cA:∀o o',((w1.alloc o).alloc o').cell? ⟨s,3,none⟩=some (.int .i64 0):=(fun o o'=>((hp.set.alloc o).alloc o').cell (j:=3) rfl);have H1:=Zka (Zkb hp (Zkb hS.bel (Zkb hS.sge (Zkb hS.ge dc))));clear hS hp dc)
 have bq:Op1 B w (w1.setCell ⟨s,3,none⟩ (.int .i64 (-1))) ⟨n,p,s,ms,c,xs,ds⟩ ⟨k,m,0,P,Ds,fun _=>none⟩ Ls Ss g w1.heap.size (w1.heap.size+1) 0 (-1) (fun _=>0) (fun _=>0) (madeCells #[.int .i64 0] n).toList (madeCells #[.pointer none] n).toList (((w1.setCell ⟨s,3,none⟩ (.int .i64 (-1))).alloc (.cells (madeCells #[.int .i64 0] n) 3)).alloc (.cells (madeCells #[.pointer none] n) 89)):=by
  have e:(w1.setCell ⟨s,3,none⟩ (.int .i64 (-1))).heap.size=w1.heap.size:=by simp
  have h9:=Op1.start (w1:=w1.setCell ⟨s,3,none⟩ (.int .i64 (-1))) (G:=⟨n,p,s,ms,c,xs,ds⟩) (V0:=⟨k,m,0,P,Ds,fun _=>none⟩) (q:= -1) (Ss:=Ss) (g:=g) (sf:=fun _=>0) (jf:=fun _=>0) (H1.out.1.setGen (-1)) (H1.out.2.1.setCell (p:=⟨s,3,none⟩) H1.out.2.2.1 _) H1.out.2.2.1
  rw[e] at h9
  exact h9
 have H2:=Zka bq
 clear bq c3 f3 bm ay fA cA
 have de:∀a,a<n->w.heap.size<=xs a/\xs a<(w1.setCell ⟨s,3,none⟩ (.int .i64 (-1))).heap.size:=fun a ha=>⟨H1.out.2.2.2.1 a ha,by
  have e:(w1.setCell ⟨s,3,none⟩ (.int .i64 (-1))).heap.size=w1.heap.size:=by simp
  rw[e];exact H1.out.2.2.2.2 a ha⟩
 have df:=Zka de
 clear de
 generalize dj:((w1.setCell ⟨s,3,none⟩ (.int .i64 (-1))).alloc (.cells (madeCells #[.int .i64 0] n) 3)).alloc (.cells (madeCells #[.pointer none] n) 89)=w2 at*
 clear dj dt du
 generalize w1.setCell ⟨s,3,none⟩ (.int .i64 (-1))=wb at*
 generalize w1.heap.size+1=sb at*
 generalize w1.heap.size=gb at*
 generalize (madeCells #[.int .i64 0] n).toList=dw at*
 generalize (madeCells #[.pointer none] n).toList=eo at*
 go_loopw [42] (fun kv wr=>∃ (t:Nat) (q:Int) (sf jf:Nat->Nat) (gl sl:List Value),t<=n/\kv=.int .i64 t/\(t=0->q= -1)/\(1<=t->q=(g:Int))/\Op1 B w wb ⟨n,p,s,ms,c,xs,ds⟩ ⟨k,m,0,P,Ds,fun _=>none⟩ Ls Ss g gb sb t q sf jf gl sl wr) (fun kv _=>n- (intOf kv).toNat)
 case atStart=>exact⟨0, -1,_,_,_,_,by omega,rfl,fun _=>rfl,fun h=>by omega,H2.out⟩
 case round=>
  obtain⟨t,q,sf,jf,gl,sl,ek,rfl,bj,bf,hS⟩:=hrel
  by_cases ae:t<n
  ·have eh:(t:Int)<(n:Int):=by omega
   have dm:=(hS.bel.cell (p:=⟨gd,t,none⟩) ct).trans (HA.out.2.2.2.2.2.1 t ae)
   obtain⟨hD,aj,au⟩:=HA.out.2.2.2.1 t ae
   have hM:=hS.mark (.int .i64 (-1))
   have f1:=hS.gr.free (j:=t) (by rw[hS.gn];exact ae)
   have y1:∃u,wr.cell? ⟨gb,t,none⟩=some u:=⟨_,hS.gr.cell (ZjF (by rw[hS.gn];exact ae))⟩
   obtain⟨u1,y1⟩:=y1
   have ag:max q (g:Int)=(g:Int):=by
    rcases Nat.eq_zero_or_pos t with h9|h9
    ·rw[bj h9];omega
    ·rw[bf h9];omega
   have HM:=Zka (Zkb hM (Zkb hD (Zkb aj (Zkb au (Zkb HA.out.2.2.2.2.1 ag)))))
   clear hS hM hD aj au bj bf ag
   go_wp2_with (first
    |(go_at_call 62;refine(Zg9 HM.out.1 ae HM.out.2.1 HM.out.2.2.2.2.1 HM.out.2.2.2.1 hE).mono ?_;rintro e w3 ⟨s3,j3,rfl,cy,cn,az,ai⟩;have R3:=Zka (Zkb (HM.out.1.after ai) (Zkb az (Zkb cy (Zkb cn ai))));clear cy cn az ai)
    |(go_at_call 19;refine(Z4j 10 _).mono ?_;rintro e w4 ⟨rfl,rfl⟩)
    |(go_at_call 63;refine(ZhL R3.out.1 ae R3.out.2.1 HM.out.2.1 HM.out.2.2.2.2.1 HM.out.2.2.2.1 HM.out.2.2.1 bg bh dp).mono ?_;rintro e w5 ⟨rfl,b9⟩;have h5:=R3.out.1.after b9;have z1:=h5.gr.free (j:=t) (by rw[h5.gn];exact ae);have z2:=h5.sr.free (j:=t) (by rw[h5.sn];exact ae);obtain⟨v1,z3⟩:∃u,w5.cell? ⟨gb,t,none⟩=some u:=⟨_,h5.gr.cell (ZjF (by rw[h5.gn];exact ae))⟩;obtain⟨v2,z4⟩:∃u,w5.cell? ⟨sb,t,none⟩=some u:=⟨_,h5.sr.cell (ZjF (by rw[h5.sn];exact ae))⟩;have dq:gb≠sb:=Row.ne h5.gr h5.sr (by decide);have ef:sb≠gb:=dq.symm;have R5:=Zka (Zkb (HM.out.1.next (R3.out.2.2.2.2.trans (b9.mono R3.out.2.2.2.2.size)) ae (R3.out.2.1.after b9) R3.out.2.2.1 R3.out.2.2.2.1) True.intro);clear h5 b9))
   have h6:=R5.out.1
   clear R5 z1 z2 z3 z4 f1 y1 dm
   generalize ((w5.setCell ⟨gb,t,none⟩ (.int .i64 (g:Int))).setCell ⟨sb,t,none⟩ (.pointer (some ⟨s3,0,none⟩)))=W at*
   have c3:W.cell? ⟨s,3,none⟩=some (.int .i64 q):=h6.ep.set.cell (j:=3) rfl
   have f3:W.frozen? ⟨s,3,none⟩=false:=h6.ep.set.free (j:=3) (by simp)
   have cg:W.cell? ⟨gb,t,none⟩=some (.int .i64 (g:Int)):=h6.gr.cell (h6.gv t (by omega))
   have ag:=HM.out.2.2.2.2.2
   have H7:=Zka ((h6.tell (g:Int)).after (Zk9.drew))
   clear h6
   go_region
   go_wp2_with fail
   go_roundw
   case measure=>simp[intOf];omega
   case rel=>exact⟨t+1,g,_,_,_,_,by omega,by go_num,fun h=>by omega,fun _=>rfl,H7.out⟩
  ·obtain rfl:t=n:=by omega
   have h2:=hS.op2 (fun _=>rfl) (bf cu)
   have bz:=hS.ge
   have aw:=hS.inj
   have cr:=hS.le.1
   have cj:=hS.gv
   have cz:=hS.sv
   have c3:wr.cell? ⟨s,3,none⟩=some (.int .i64 (g:Int)):=h2.ep.set.cell (j:=3) rfl
   have ah:=Zka (Zkb h2 (Zkb bz (Zkb aw (Zkb cr (Zkb cj cz)))))
   clear hS h2 bz aw cr cj cz bj bf H2
   go_wp2_with fail
   go_loopw [16,94] (fun mv kv wk=>∃ (i:Nat) (V:Ev) (Os:Nat->List Nat),i<=t/\mv=.int .i64 i/\kv=.int .i64 i/\Op2 B w wb ⟨t,p,s,ms,c,xs,ds⟩ ⟨k,m,0,P,Ds,fun _=>none⟩ Ls Ss g gb sb i sf jf gl sl V Os wk) (fun _ kv _=>t- (intOf kv).toNat)
   case atStart=>exact⟨0,_,_,by omega,rfl,rfl,ah.out.1⟩
   case round=>
    obtain⟨i,V,Os,dz,rfl,rfl,hS⟩:=hrel
    by_cases ae:i<t
    ·have dy:(i:Int)<(t:Int):=by omega
     obtain⟨hD,aj,au⟩:=HA.out.2.2.2.1 i ae
     have cg:=hS.gr.cell (ah.out.2.2.2.2.1 i ae)
     have cs:=hS.sr.cell (ah.out.2.2.2.2.2 i ae)
     have HS:=Zka (Zkb hS (Zkb hD (Zkb aj au)))
     clear hS hD aj au
     go_wp2_with (first
      |(go_at_call 64;refine(ZhM HS.out.1 ae hK HS.out.2.1 HS.out.2.2.1).mono ?_;rintro e w3 ⟨rfl,ai⟩;have R3:=Zka (HS.out.1.after ai);clear ai)
      |(go_at_call 65;refine(Zeq R3.out ae HS.out.2.2.2 ah.out.2.1 ah.out.2.2.1 ah.out.2.2.2.1 bu df.out).mono ?_;rintro e w4 ⟨rfl,V4,dh,h4⟩;have R4:=Zka h4;clear h4))
     go_roundw
     case measure=>simp[intOf];omega
     case rel=>exact⟨i+1,V4,dh,by omega,by go_num,by go_num,R4.out⟩
    ·obtain rfl:i=t:=by omega
     have HS:=Zka hS
     clear hS
     go_wp2_with fail
     go_ret2
     first
      |exact⟨s,ms,c,xs,V,Os,rfl,HS.out.ep,HS.out.eq,fun a ha=>(HS.out.in_ a ha).1,HS.out.bel,H1.out.2.2.1⟩
      |exact⟨s,ms,c,xs,V,rfl,Os,HS.out.ep,HS.out.eq,fun a ha=>(HS.out.in_ a ha).1,HS.out.bel,H1.out.2.2.1⟩
theorem ZW.of{K:List Bs}{E k m n g:Nat}{H:Bs->Option Bs}{V V':Ev}(h:ZW K E k m n g H V){Ss:Nat->Sto}(hS:∀i,i<n->V.Ms i=some (Ss i))(hV:V'=⟨k,m,(g:Int),V.P,V.Ds,V'.Ms⟩)(hM:∀i,i<n->V'.Ms i=some (Ss i)):ZW K E k m n g H V':=by
 have e1:V'.P=V.P:=by rw[hV]
 have e2:V'.Ds=V.Ds:=by rw[hV]
 refine⟨h.hK,h.k1,h.kn,by rw[hV],by rw[hV],by rw[hV],by rw[e1];exact h.gone,by rw[e1];exact h.fuse,fun i hi=>by rw[e2];exact h.life i hi,fun i hi=> ?_⟩
 obtain⟨S,h1,h2⟩:=h.all_ i hi
 rw[hS i hi] at h1
 cases h1
 rw[e2]
 exact⟨Ss i,hM i hi,h2⟩
section
variable{B:Nat}{w w1:World}{R:Rg}{G G':Eg}{V V':Ev}{bl bl':List Nat}{hv:Value}{ha:Option Addr}{hc:Nat}{hs:ZS}{E g:Nat}
theorem ZdW(h:Qj B w R G V bl hv ha hc hs)(ae:ZW K11 E R.k R.m R.n g (Hof hs) V)(hE:E<=2000000000)(hg:g<=1000000000):
  Calls prog 27 #[.slice (some ⟨R.gd,0,none⟩) R.n R.cd,.int .i64 (R.k:Int),.int .i64 (R.m:Int)] w fun e w'=>∃G' V' bl',e=.returned (.tuple #[.pointer (some ⟨G'.s,0,none⟩),.nilIface])/\EAt B w' G' V' bl'/\ZW K11 E R.k R.m R.n g (Hof hs) V'/\G'.n=R.n/\G'.p=G.p/\G'.ds=G.ds/\Below w.heap.size w w':=by
 have ax:=h.gn
 obtain⟨sp,af⟩:=h.drow
 have ak:=h.bw
 have al:=h.set.nle
 obtain⟨Ls,Os,aw,hp⟩:=h.set
 have hS:∀i,i<R.n->V.Ms i=some ((V.Ms i).getD Sto.first):=fun i hi=>by
  obtain⟨S,h1,_⟩:=ae.all_ i hi
  rw[h1];rfl
 refine(Zfm B w K11 E R.gd R.n R.cd R.k R.m G.p g G.ds V.P V.Ds Ls (fun i=>(V.Ms i).getD Sto.first) (Hof hs) (fun i hi=>h.dcell hi) af.lt h.k1 h.kn.symm (by omega) ak (fun i hi=>hp.pd i (by omega)) (fun i j hi hj=>hp.dap i j (by omega) (by omega)) ae.hK ae.gone (fun i hi=> ?_) hE hg).mono ?_
 ·obtain⟨S,h1,h2,h3,h4⟩:=ae.all_ i hi
  have ag:=hp.at_ i (by omega)
  rw[h1] at ag
  obtain⟨s,j,_,_,_,hd⟩:=ag
  simp only[h1,Option.getD_some]
  exact⟨h2,h3,hd⟩
 ·rintro e w' ⟨s,ms,c,xs,V1,ah,rfl,aq,aj,ai,hb,au⟩
  exact⟨⟨R.n,G.p,s,ms,c,xs,G.ds⟩,V1,_,rfl,⟨Ls,ah,rfl,aq⟩,ae.of hS aj ai,rfl,rfl,rfl,hb⟩
theorem Qj.swap(h:Qj B w R G V bl hv ha hc hs)(hb:Below w.heap.size w w1)(he:EAt B w1 G' V' bl')(hp:G'.p=G.p)(ae:G'.ds=G.ds)(hn:G'.n=R.n):Qj B (w1.setCell ⟨R.r,4,none⟩ (.pointer (some ⟨G'.s,0,none⟩))) R G' V' bl' hv ha hc hs:=by
 have h1:=h.after hb
 obtain⟨s1,d1⟩:=h1.drow
 obtain⟨s2,d2⟩:=h1.srow
 have hf:Fr [R.r] w1 (w1.setCell ⟨R.r,4,none⟩ (.pointer (some ⟨G'.s,0,none⟩))):=(Fr.refl _ _).setCell (Or.inl (by simp)) _
 refine⟨?_,⟨s1,?_⟩,⟨s2,d2.fr hf (by rw[ZjD];exact Row.ne d2 h1.room (by decide))⟩,h1.held.set h1.room (by decide) _,he.setCell (a:=⟨R.r,4,none⟩) h1.room (by decide) (by decide) (by decide) (by decide) _,h.rB,hn,h.kn,h.k1⟩
 ·rw[hp];exact h1.room.set 4 _
 ·rw[ae];exact d1.fr hf (by rw[ZjD];exact Row.ne d1 h1.room (by decide))
theorem Qj.heal(h:Qj B w R G V bl hv ha hc hs)(ae:Value):Qj B (w.setCell ⟨R.r,5,none⟩ ae) R G V bl ae ha hc hs:=by
 obtain⟨s1,d1⟩:=h.drow
 obtain⟨s2,d2⟩:=h.srow
 have hf:Fr [R.r] w (w.setCell ⟨R.r,5,none⟩ ae):=(Fr.refl _ _).setCell (Or.inl (by simp)) _
 exact⟨h.room.set 5 _,⟨s1,d1.fr hf (by rw[ZjD];exact Row.ne d1 h.room (by decide))⟩,⟨s2,d2.fr hf (by rw[ZjD];exact Row.ne d2 h.room (by decide))⟩,h.held.set h.room (by decide) _,h.set.setCell (a:=⟨R.r,5,none⟩) h.room (by decide) (by decide) (by decide) (by decide) _,h.rB,h.gn,h.kn,h.k1⟩
end
theorem Ty.belowB{B:Nat}{w w':World}(h:Ty w)(hb:Below B w w')(hg:0<B):Ty w':=by
 unfold Ty at h⊢
 rw[hb.cell (p:=⟨0,0,none⟩) hg]
 exact h
structure OpL(B:Nat)(w0:World)(R:Rg)(G:Eg)(V:Ev)(hv:Value)(ha:Option Addr)(hc:Nat)(hs:ZS)(ka:Option Addr)(L:List Bs)(wr:World):Prop where
 at_:∃bl,Qj B wr R G V bl hv ha hc hs
 ks:Zw wr ka (L.map str)/\∀g o,ka=some ⟨g,o,none⟩->∃r,Row wr g 9 r
 bel:Below B w0 wr
 ty:Ty wr
theorem OpL.ran{B:Nat}{w0:World}{R:Rg}{G:Eg}{V:Ev}{bl:List Nat}{hv:Value}{ha:Option Addr}{hc:Nat}{hs:ZS}{ka:Option Addr}{L:List Bs}{wr w':World}(h:OpL B w0 R G V hv ha hc hs ka L wr)(hr:Qj B wr R G V bl hv ha hc hs)(ae:Zf B G bl V wr w')(af:0<B):OpL B w0 R G V hv ha hc hs ka L w':=
 ⟨hr.ran ae,Z6i h.ks.1 h.ks.2 hr.set ae,h.bel.trans (ae.below hr.set),Zf.ty ae hr.set h.ty af⟩
theorem Z4z(B:Nat)(w:World)(R:Rg)(G:Eg)(V:Ev)(bl:List Nat)(hv:Value)(ha:Option Addr)(hc:Nat)(hs:ZS)(E g:Nat)(h:Qj B w R G V bl hv ha hc hs)(bu:ZW K11 E R.k R.m R.n g (Hof hs) V)(hh:HOk K11 hs)(ht:Ty w)(ah:0<B)(hE:E<=2000000000)(hg:g<=1000000000):
  Calls prog 13 #[.pointer (some ⟨R.r,0,none⟩)] w fun e w'=>∃G' V' bl' dr,e=.returned (.bool true)/\Qj B w' R G' V' bl' dr ha hc hs/\ZW K11 E R.k R.m R.n g (Hof hs) V'/\Below B w w':=by
 have c1:=h.room.cell (j:=1) rfl
 have c2:=h.room.cell (j:=2) rfl
 have c3:=h.room.cell (j:=3) rfl
 have dq:R.n<=16:=by have h1:=h.set.nle;have h2:=h.gn;omega
 have de:=fun(wx:World) (hx:(wx.cell? ⟨R.r,1,none⟩=some (.slice (some ⟨R.gd,0,none⟩) R.n R.cd)/\wx.cell? ⟨R.r,2,none⟩=some (.int .i64 (R.k:Int))/\wx.cell? ⟨R.r,3,none⟩=some (.int .i64 (R.m:Int))/\Below w.heap.size w wx))=>ZdW (h.after hx.2.2.2) bu hE hg
 have bg:∀A C:World,(A.cell? ⟨R.r,1,none⟩=some (.slice (some ⟨R.gd,0,none⟩) R.n R.cd)/\A.cell? ⟨R.r,2,none⟩=some (.int .i64 (R.k:Int))/\A.cell? ⟨R.r,3,none⟩=some (.int .i64 (R.m:Int))/\Below w.heap.size w A)->Below A.heap.size A C->(C.cell? ⟨R.r,1,none⟩=some (.slice (some ⟨R.gd,0,none⟩) R.n R.cd)/\C.cell? ⟨R.r,2,none⟩=some (.int .i64 (R.k:Int))/\C.cell? ⟨R.r,3,none⟩=some (.int .i64 (R.m:Int))/\Below w.heap.size w C):=by
  rintro A C ⟨h0,h1,h2,h7⟩ hb
  have key:∀{p:Addr} {v:Value},A.cell? p=some v->C.cell? p=some v:=fun h=>(hb.cell (ZjG A _ h)).trans h
  exact⟨key h0,key h1,key h2,h7.trans (hb.mono h7.size)⟩
 have hs0:=bg w w.drew ⟨c1,c2,c3,Zk9⟩ (Zk9.drew)
 have HK:=Zka bg
 have H:=Zka (Zkb h (Zkb bu (Zkb hh (Zkb ht de))))
 clear h bu hh ht de bg
 go_enter func13,ntmps13
 go_wp2_with fail
 go_region_held3 (fun x=>x.cell? ⟨R.r,1,none⟩=some (.slice (some ⟨R.gd,0,none⟩) R.n R.cd)/\x.cell? ⟨R.r,2,none⟩=some (.int .i64 (R.k:Int))/\x.cell? ⟨R.r,3,none⟩=some (.int .i64 (R.m:Int))/\Below w.heap.size w x) (first|exact hs0|(exact HK.out _ _ (by assumption) (by assumption)))
  (first|(go_at_call 27;refine(H.out.2.2.2.2 _ (by assumption)).mono ?_;rintro e w8 ⟨G',V',bl',rfl,ct,ai,bq,df,cr,dp⟩))
 rename_i hHeld
 have h1:=H.out.1.after hHeld.2.2.2
 have f4:=h1.room.free (j:=4) (by simp[Z8v])
 have c4:=h1.room.cell (j:=4) rfl
 have dh:=H.out.1.swap hHeld.2.2.2 ct df cr bq
 have cn:Below B w (w8.setCell ⟨R.r,4,none⟩ (.pointer (some ⟨G'.s,0,none⟩))):=(hHeld.2.2.2.mono H.out.1.bw).trans (h1.below _ 4)
 have H8:=Zka (Zkb dh (Zkb ai (Zkb bq cn)))
 clear ct ai bq df cr dp hHeld h1 dh cn hs0 c1 c2 c3
 go_wp2_with (first
  |(go_at_call 30;refine(Z5x _ G'.s).mono ?_;rintro e w9 ⟨hh,rfl,b9⟩;have h9:=H8.out.1.after b9;have f5:=h9.room.free (j:=5) (by simp[Z8v]);have c5:=h9.room.cell (j:=5) rfl;have h5:=h9.heal (.pointer (some ⟨hh,0,none⟩));have az:Below B w (w9.setCell ⟨R.r,5,none⟩ (.pointer (some ⟨hh,0,none⟩))):=(H8.out.2.2.2.trans (b9.mono H8.out.1.bw)).trans (h9.below _ 5);have H9:=Zka (Zkb h5 (Zkb az (Ty.belowB H.out.2.2.2.1 az ah)));clear b9 h9 h5 az)
  |(go_at_call 43;refine(show Calls prog 43 #[.pointer (some ⟨G'.s,0,none⟩),.string ⟨#[]⟩] _ _ from H8.out.2.1.keysW H9.out.1.set H8.out.2.2.1).mono ?_;rintro e dt ⟨v,L,rfl,au,cz,ag,ae⟩;obtain⟨a1,dw,rfl⟩:=au.sl;have hL:OpL B w R G' V' (.pointer (some ⟨hh,0,none⟩)) ha hc hs a1 L dt:=⟨H9.out.1.ran ae,⟨au.rd,fun g o e=>(by subst e;exact Qw au g (ZG.2 rfl))⟩,H9.out.2.1.trans (ae.below H9.out.1.set),Zf.ty ae H9.out.1.set H9.out.2.2 ah⟩;have hlen:=Z9g H.out.2.2.1.nd cz ag;have bf:=H.out.2.2.1.few Z8s;obtain⟨NL,ax⟩:∃NL,L.length=NL:=⟨_,rfl⟩;have dx:NL<=18:=(by omega);have aw:=Zka (Zkb hL (Zkb ag ax));rw[ax];clear au cz ag ae hL ax hlen bf))
 go_loopw [7] (fun kv wr=>∃t:Nat,t<=R.n/\kv=.int .i64 t/\OpL B w R G' V' (.pointer (some ⟨hh,0,none⟩)) ha hc hs a1 L wr) (fun kv _=>R.n- (intOf kv).toNat)
 case atStart=>exact⟨0,by omega,rfl,aw.out.1⟩
 case round=>
  obtain⟨t,ee,rfl,hO⟩:=hrel
  obtain⟨cj,af⟩:=hO.at_
  have c1:=af.room.cell (j:=1) rfl
  by_cases aq:t<R.n
  ·have dz:(t:Int)<(R.n:Int):=by omega
   have c7:=af.room.cell (j:=7) rfl
   have cs:=af.scell aq
   have cw:(V'.Ms t).isSome=true:=by
    obtain⟨S,h1,_⟩:=H8.out.2.1.all_ t aq
    rw[h1];rfl
   have al:=Zhp B wr G' V' cj t af.set (by rw[H8.out.2.2.1];exact aq)
   rw[cw] at al
   have HO:=Zka (Zkb hO (Zkb af al))
   clear hO af al cw
   go_wp2_with (go_at_call 44;refine HO.out.2.2.mono ?_;rintro e ef ⟨rfl,aj⟩;have dj:=Zka (HO.out.1.ran HO.out.2.1 aj ah);clear aj)
   go_loopw [8] (fun kv wi=>∃i:Nat,i<=NL/\kv=.int .i64 i/\OpL B w R G' V' (.pointer (some ⟨hh,0,none⟩)) ha hc hs a1 L wi) (fun kv _=>NL- (intOf kv).toNat)
   case atStart=>exact⟨0,by omega,rfl,dj.out⟩
   case round=>
    obtain⟨i,al,rfl,hO⟩:=hrel
    by_cases bj:i<NL
    ·have dy:(i:Int)<(NL:Int):=by omega
     have cu:i<L.length:=by rw[aw.out.2.2];exact bj
     obtain⟨du,ay⟩:=hO.at_
     obtain⟨gk,ok,rfl,ck⟩:=hO.ks.1 i (by rw[ZjN];exact cu)
     rw[List.getElem_map] at ck
     have dc:=(aw.out.2.1 L[i]).1 (ZjW cu)
     obtain⟨v9,bz⟩:=Option.ne_none_iff_exists'.1 dc
     have bm:=Zf5 bz
     have bh:=H8.out.2.1.look ay.set H8.out.2.2.1 hO.ty ah bz (H.out.2.2.1.key _ bm) (H.out.2.2.1.val _ bm) aq
     obtain⟨kk,cy⟩:∃kk,L[i]=kk:=⟨_,rfl⟩
     rw[cy] at ck bh
     have HI:=Zka (Zkb hO (Zkb ay bh))
     clear hO ay bh cy dc bz bm
     go_wp2_with (go_at_call 45;refine HI.out.2.2.mono ?_;rintro e eh ⟨rfl,ak⟩;have dm:=Zka (HI.out.1.ran HI.out.2.1 ak ah);clear ak)
     go_roundw
     case measure=>simp[intOf];omega
     case rel=>exact⟨i+1,by omega,by go_num,dm.out⟩
    ·obtain rfl:i=NL:=by omega
     have HI:=Zka hO
     clear hO
     go_wp2_with fail
     go_roundw
     case measure=>simp[intOf];omega
     case rel=>exact⟨t+1,by omega,by go_num,HI.out⟩
  ·obtain rfl:t=R.n:=by omega
   have HO:=Zka (Zkb hO af)
   clear hO af
   go_wp2_with fail
   go_ret
   exact⟨G',V',cj,_,rfl,HO.out.2,H8.out.2.1,HO.out.1.bel⟩
def Z4q:Bs:=[104,101,108,108,111]
def Z97:List Chg:=[⟨[97],some Z4q⟩]
theorem ZaL:JL (fun _=>none) Z97 [97]=some Z4q:=by simp[JL,Z97]
theorem ZfR{E g:Nat}{H:Bs->Option Bs}{V:Ev}{D:Dk}(h:ZW K11 E 2 1 3 g H V){key v:Bs}(hH:H key=some v):
  Z54 K11 E {V with Ds:=upd V.Ds 0 D,Ms:=upd V.Ms 0 none} 3 key v/\2<=Yh {V with Ds:=upd V.Ds 0 D,Ms:=upd V.Ms 0 none} key v 3:=by
 refine⟨⟨fun i hi S hM=> ?_,fun i hi S hM=> ?_⟩,?_⟩
 ·by_cases e:i=0
  ·subst e;simp only[Zn] at hM;cases hM
  ·simp only[Z7 _ _ e] at hM⊢
   exact(h.shard hH hi hM).1
 ·by_cases e:i=0
  ·subst e;simp only[Zn] at hM;cases hM
  ·simp only[Z7 _ _ e] at hM⊢
   exact Or.inr (Or.inr (h.shard hH hi hM).2)
 ·have ae:∀i,i≠0->i<3->QO {V with Ds:=upd V.Ds 0 D,Ms:=upd V.Ms 0 none} key v i=true:=fun i h0 hi=>by
   obtain⟨S,h1,_⟩:=h.all_ i hi
   unfold QO
   simp only[Z7 _ _ h0,h1]
   exact decide_eq_true (h.shard hH hi h1).2
  unfold Yh
  rw[show List.range 3=[0,1,2] from rfl,List.filter_cons,List.filter_cons,List.filter_cons,ae 1 (by omega) (by omega),ae 2 (by omega) (by omega)]
  split<;>simp
theorem Zc1(w:World)(ht:Ty w):
  Calls prog 7 #[] w fun e w'=>e=.returned (.bool true)/\Below w.heap.size w w':=by
 have aj:=ht.lt
 have HT:=Zka ht
 clear ht
 have cj:((str Z4q).toList==[104,101,108,108,111])=true:=by rw[ByteArray.toList_eq,Ze];rfl
 go_enter func7,ntmps7
 go_wp2_with (first
  |(go_at_call 8;refine(show Calls prog 8 #[.int .i64 2,.int .i64 1,.int .i64 800] _ _ from Z9H _ 2 1 (by omega) (by omega) (by omega) HT.out).mono ?_;rintro e w1 ⟨R,G,V,bl,hh,rfl,hR,ay,hk,hm,hb⟩;have c4:=hR.room.cell (j:=4) rfl;have c5:=hR.room.cell (j:=5) rfl;have ax:R.n=3:=(by have:=hR.kn;omega);have bz:0<R.n:=(by omega);rw[hk,hm,ax] at ay;have au:=hR.gn;rw[ax] at au;have ah:=(Below.refl w1.heap.size w1).alloc Zk8 (.cells #[.string ⟨#[97]⟩,.string ⟨#[104,101,108,108,111]⟩,.bool false] 68);have ag:Z14 (w1.alloc (.cells #[.string ⟨#[97]⟩,.string ⟨#[104,101,108,108,111]⟩,.bool false] 68)) w1.heap.size Z97:=⟨[],Row.new w1 _ _⟩;have bj:=(Ty.below HT.out hb).below ah;have R1:=Zka (Zkb (hR.after ah) (Zkb ay (Zkb au (Zkb (hb.trans (ah.mono hb.size)) (Zkb ag bj)))));clear hR ay au hb ah ag bj hk hm ax)
  |(go_at_call 11;refine(R1.out.2.1.commitW R1.out.1.set R1.out.2.2.1 R1.out.2.2.2.2.2 aj (by omega) (by omega) (by decide) (by decide) (by decide) (by decide) R1.out.2.2.2.2.1 rfl Zk8).mono ?_;rintro e w3 ⟨l,V3,hl,rfl,ak,ae⟩;rw[ZeU hl] at ae;have bg:=Zf.ty ak R1.out.1.set R1.out.2.2.2.2.2 aj;have az:=ak.below R1.out.1.set;obtain⟨bm,af⟩:=R1.out.1.ran ak;have c1:=af.room.cell (j:=1) rfl;have d0:=af.dcell (i:=0) (by have h1:=af.gn;have h2:=R1.out.2.2.1;omega);have R3:=Zka (Zkb af (Zkb ae (Zkb bg (R1.out.2.2.2.1.trans az))));clear hl ak ae bg az af)
  |(go_at_call 26;refine(ZdV _ _ G V3 bm 0 R3.out.1.set (by have h2:=R1.out.2.2.1;omega) (R3.out.2.1.life 0 (by omega))).mono ?_;rintro e w4 ⟨rfl,al⟩;have bh:=Zf.ty al R3.out.1.set R3.out.2.2.1 aj;have b9:=al.below R3.out.1.set;obtain⟨bq,aq⟩:=R3.out.1.ran al;have bu:=aq.room.cell (j:=4) rfl;have R4:=Zka (Zkb aq (Zkb bh b9));clear al bh b9 aq)
  |(go_at_call 28;have ai:=R1.out.2.2.1;have aw:=ZfR (D:=(V3.Ds 0).killed) R3.out.2.1 (key:=[97]) (v:=Z4q) ZaL;refine(show Calls prog 28 #[.pointer (some ⟨G.s,0,none⟩),.string ⟨#[97]⟩] _ _ from Zbr w.heap.size _ G {V3 with Ds:=upd V3.Ds 0 (V3.Ds 0).killed,Ms:=upd V3.Ms 0 none} bq K11 (2+2) [97] Z4q R4.out.1.set R4.out.2.1 aj (by decide) (by decide) (by decide) (by show 1<=V3.k;rw[R3.out.2.1.vk];omega) (by show V3.k+V3.m=G.n;rw[R3.out.2.1.vk,R3.out.2.1.vm,ai]) R3.out.2.1.gone (by rw[ai];exact aw.1) (by rw[ai];exact Zk1 (Nat.le_of_eq R3.out.2.1.vk) aw.2)).mono ?_;rintro e w5 ⟨rfl,bf⟩;have R5:=Zka ((R3.out.2.2.2.trans R4.out.2.2).trans (bf.below R4.out.1.set));clear bf aw ai))
 go_ret
 exact⟨rfl,R5.out⟩
theorem ZfA(l:ZS)(c:Chg):(l.filter fun p=>p.1 !=c.key)++(if c.val.isNone=true then[] else[(c.key,c.val.getD [])])=J6 l c:=by
 unfold J6
 cases c.val<;>rfl
theorem ZdE(l:ZS)(cs:List Chg)(t:Nat)(ht:t<cs.length):Je l (cs.take (t+1))=J6 (Je l (cs.take t)) cs[t]:=by
 unfold Je
 rw[List.take_add_one,ZjF ht,List.foldl_append]
 rfl
theorem Zfa(cs:List Chg):∀l:ZS,(Je l cs).length<=l.length+cs.length:=by
 induction cs with
 |nil=>intro l;exact Zk8
 |cons c r ih=>
  intro l
  have h1:=ih (J6 l c)
  have h2:=Ze8 l c
  show(Je (J6 l c) r).length<=_
  rw[ZjM]
  omega
theorem Zc2(w:World)(r:Nat)(a:Option Addr)(cp:Nat)(hs:ZS)(gc n cap:Nat)(cs:List Chg)(c6:w.cell? ⟨r,6,none⟩=some (.slice a hs.length cp))(h:Y7 w a hs)(hl:hs.length<=100)(au:Z1j w gc cs)(hn:n=cs.length)(bg:n<=100):
  Calls prog 12 #[.pointer (some ⟨r,0,none⟩),.slice (some ⟨gc,0,none⟩) n cap] w fun e w'=>∃a' c',e=.returned (.slice a' (Je hs cs).length c')/\Y7 w' a' (Je hs cs)/\Below w.heap.size w w':=by
 have H:=Zka (Zkb h (Zkb au hn))
 clear h au hn
 go_enter func12,ntmps12
 go_wp2_with fail
 go_loopw [5,6] (fun v kv wr=>∃ (t:Nat) (a':Option Addr) (L' c':Nat),t<=n/\kv=.int .i64 t/\v=.slice a' L' c'/\L'=(Je hs (cs.take t)).length/\Y7 wr a' (Je hs (cs.take t))/\Below w.heap.size w wr) (fun _ kv _=>n- (intOf kv).toNat)
 case atStart=>exact⟨0,a,hs.length,cp,by omega,rfl,rfl,rfl,H.out.1,Zk9⟩
 case round=>
  obtain⟨t,a',L',c',bj,rfl,rfl,hL,hh,hb⟩:=hrel
  by_cases bf:t<n
  ·have ag:t<cs.length:=by rw[<-H.out.2.2];exact bf
   have bh:(t:Int)<(n:Int):=by omega
   obtain⟨q0,q1,q2⟩:=H.out.2.1.2 t ag
   have aj:=H.out.2.1.1
   have d0:=(hb.cell (p:=⟨gc,t*3,none⟩) aj).trans q0
   have d1:=(hb.cell (p:=⟨gc,t*3+1,none⟩) aj).trans q1
   have d2:=(hb.cell (p:=⟨gc,t*3+2,none⟩) aj).trans q2
   have ae:=ZdE hs cs t ag
   rw[<-ZfA] at ae
   have ai:(Je hs (cs.take t)).length<=1000:=by
    have h1:=Zfa (cs.take t) hs
    have h2:(cs.take t).length<=t:=by rw[ZjO];omega
    omega
   obtain⟨P,hP⟩:∃P,Je hs (cs.take t)=P:=⟨_,rfl⟩
   obtain⟨ck,aq⟩:∃ck,cs[t].key=ck:=⟨_,rfl⟩
   obtain⟨cv,aw⟩:∃cv,cs[t].val.getD []=cv:=⟨_,rfl⟩
   obtain⟨cg,al⟩:∃cg,cs[t].val.isNone=cg:=⟨_,rfl⟩
   rw[hP] at hL hh ae ai
   rw[aq] at d0 ae
   rw[aw] at d1 ae
   rw[al] at d2 ae
   subst hL
   have hd:=(Below.refl wr.heap.size wr).drew
   obtain⟨PP,ah⟩:∃PP,(P.filter fun p=>p.1 !=ck)++(if cg=true then[] else[(ck,cv)])=PP:=⟨_,rfl⟩
   rw[ah] at ae
   have af:∀x:World,(x.cell? ⟨gc,t*3,none⟩=some (.string (str ck))/\x.cell? ⟨gc,t*3+1,none⟩=some (.string (str cv))/\x.cell? ⟨gc,t*3+2,none⟩=some (.bool cg)/\Below wr.heap.size wr x)->Calls prog 42 #[.slice a' P.length c',.string (str ck),.string (str cv),.bool cg] x fun e w'=>∃ak az,e=.returned (.slice ak PP.length az)/\Y7 w' ak PP/\Below x.heap.size x w':=fun x hx=>by
    have h9:=ZfB x a' c' P ck cv cg (hh.after hx.2.2.2) ai
    rw[ah] at h9
    exact h9
   have ay:∀x y:World,(x.cell? ⟨gc,t*3,none⟩=some (.string (str ck))/\x.cell? ⟨gc,t*3+1,none⟩=some (.string (str cv))/\x.cell? ⟨gc,t*3+2,none⟩=some (.bool cg)/\Below wr.heap.size wr x)->Below x.heap.size x y->(y.cell? ⟨gc,t*3,none⟩=some (.string (str ck))/\y.cell? ⟨gc,t*3+1,none⟩=some (.string (str cv))/\y.cell? ⟨gc,t*3+2,none⟩=some (.bool cg)/\Below wr.heap.size wr y):=by
    rintro A C ⟨h0,h1,h2,h7⟩ hb
    have key:∀{p:Addr} {v:Value},A.cell? p=some v->C.cell? p=some v:=fun h=>(hb.cell (ZjG A _ h)).trans h
    exact⟨key h0,key h1,key h2,h7.trans (hb.mono h7.size)⟩
   have HK:=Zka ay
   clear ay
   have HX:=Zka (Zkb af (Zkb hb (Zkb ae hd)))
   clear af hb ae hh hP aq aw al q0 q1 q2 ai ah
   have hs0:(wr.drew.cell? ⟨gc,t*3,none⟩=some (.string (str ck))/\wr.drew.cell? ⟨gc,t*3+1,none⟩=some (.string (str cv))/\wr.drew.cell? ⟨gc,t*3+2,none⟩=some (.bool cg)/\Below wr.heap.size wr wr.drew):=⟨d0,d1,d2,hd⟩
   go_wp2_with fail
   go_region_held3 (fun x=>x.cell? ⟨gc,t*3,none⟩=some (.string (str ck))/\x.cell? ⟨gc,t*3+1,none⟩=some (.string (str cv))/\x.cell? ⟨gc,t*3+2,none⟩=some (.bool cg)/\Below wr.heap.size wr x) (first|exact hs0|(exact HK.out _ _ (by assumption) (by assumption)))
    (first|(go_at_call 42;refine(HX.out.1 _ (by assumption)).mono ?_;rintro e w8 ⟨a8,c8,rfl,ax,b9⟩))
   rename_i hHeld
   have HY:=Zka (Zkb ax hHeld.2.2.2)
   clear ax b9 hHeld hs0 d0 d1 d2
   go_wp2_with fail
   go_roundw
   case measure=>simp[intOf];omega
   case rel=>exact⟨t+1,a8,_,c8,by omega,by go_num,rfl,by rw[HX.out.2.2.1],by rw[HX.out.2.2.1];exact HY.out.1,HX.out.2.1.trans (HY.out.2.mono HX.out.2.1.size)⟩
  ·obtain rfl:t=n:=by omega
   have e9:cs.take t=cs:=ZjT (by rw[H.out.2.2];exact Zk8)
   rw[e9] at hL hh
   subst hL
   have HE:=Zka (Zkb hh hb)
   clear hh hb
   go_wp2_with fail
   go_ret
   exact⟨_,_,rfl,HE.out.1,HE.out.2⟩
end
end Go.Proofs.YthppfllkocphbaaGreatDoor
