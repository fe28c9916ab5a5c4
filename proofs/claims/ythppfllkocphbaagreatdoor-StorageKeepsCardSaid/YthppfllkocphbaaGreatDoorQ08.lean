/-
  Part 9 of the proof: lemmas about what the program computes.
-/
import Derived.Test.YthppfllkocphbaaGreatDoorQ07
namespace Go.Proofs.YthppfllkocphbaaGreatDoor
set_option linter.unusedVariables false
set_option linter.unusedSimpArgs false
set_option maxHeartbeats 25600000
set_option maxRecDepth 100000
open Tryz
section
open Go.RowKit
variable{L:List Nat}{base c g n o size:Nat}{e:TypeId}{w w':World}{xs:List Value}
theorem Xb{w0:World}{B e:Nat}{v:Value}(h1:w.ownsRow B e size v n xs)(h3:Below B w0 w)(hB:B<=w.heap.size)(hg:w.grownBy w' v.ownBlock):Below B w0 w':=by
 have hf:Fr (match v.ownBlock with|some g=>[g]|none=>[]) w w':=(Fr.refl _ _).grown hg (fun g hg=>Or.inl (by rw[hg];simp))
 refine h3.trans (hf.below hB (fun g hm=> ?_))
 cases hv:v.ownBlock with
 |none=>rw[hv] at hm;simp at hm
 |some g'=>
  rw[hv] at hm
  simp only[ZjD] at hm
  rcases h1.2 with ⟨h,_⟩|⟨g2,cap,cur,h,hb,_⟩
  ·rw[h] at hv;cases hv
  ·rw[h] at hv
   simp only[Value.ownBlock,ZjJ] at hv
   omega
section
variable{P:Program}
end
def WL(L:List Nat):List Value:=L.map fun(x:Nat)=>.int .i64 (x:Int)
theorem ZcB(L:List Nat)(j:Nat)(h:j<L.length):(WL L)[j]? =some (.int .i64 (L[j]:Int)):=by simp[WL,h]
theorem Z5A(L:List Nat)(j:Nat)(h:j<L.length):(WL L)[j]? =some (.int .i64 (L.getD j 0:Int)):=by
 rw[ZcB L j h,ZjE,ZjF h,Option.getD_some]
theorem Z8k(L M:List Nat):WL (L++M)=WL L++WL M:=by simp[WL]
def Yu(w:World)(g o:Nat)(L:List Nat):Prop:=∀j,j<L.length->w.cell? ⟨g,o+j,none⟩=some (.int .i64 (L.getD j 0:Int))
theorem Yu.fr(h:Yu w g o L){Ls:List Nat}(hf:Fr Ls w w')(hg:g∉Ls):Yu w' g o L:=fun j hj=>Z55 hf hg (h j hj)
theorem Yu.after(h:Yu w g o L)(hb:Below w.heap.size w w'):Yu w' g o L:=h.fr (Fr.of_below (L:=[]) hb) (by simp)
theorem Yu.own(h:w.ownsRow base e 1 (.slice (some ⟨g,0,none⟩) n c) n (WL L)):Yu w g 0 L:=fun j hj=>by
 obtain⟨g',ha,_,hc⟩:=Zet h (Z5A L j hj)
 simp only[ZjJ,Addr.mk.injEq] at ha
 rw[Nat.zero_add,ha.1];exact hc
theorem Z9z{a:Option Addr}(h:w.ownsRow base e size (.slice a n c) n xs)(hn:0<n):∃g,a=some ⟨g,0,none⟩/\base<=g/\n<=c/\c<=maxLen:=by
 rcases h.2 with ⟨_,h0⟩|⟨g,cap,cur,hv,hb,_,h1,h2,_⟩
 ·omega
 ·simp only[Value.slice.injEq,true_and] at hv
  obtain⟨rfl,rfl⟩:=hv
  exact⟨g,rfl,hb,h1,h2⟩
end
section
open Go.RowKit
def Wl(k m l:Int):Bool:=decide (1<=k)&&(decide (0<=m)&&(decide (0<=l)&&(decide (k<=255)&&decide (m<=255-k))))
theorem ZfY{k m l:Int}(h:Wl k m l=true):∃a b c:Nat,k=a/\m=b/\l=c/\1<=a/\a+b<=255:=by
 unfold Wl at h
 simp only[Bool.and_eq_true,decide_eq_true_eq] at h
 exact⟨k.toNat,m.toNat,l.toNat,by omega,by omega,by omega,by omega,by omega⟩
theorem Z0I{a b c:Nat}(h1:1<=a)(h2:a+b<=255):Wl a b c=true:=by
 unfold Wl
 simp only[Bool.and_eq_true,decide_eq_true_eq]
 omega
theorem Ju(k m l:Int)(w:World):
  Calls prog 119 #[.int .i64 k,.int .i64 m,.int .i64 l] w fun e w'=>e=.returned (.bool (Wl k m l))/\w=w':=by
 have go:∀b,Wl k m l=b->Ending.returned (.bool b)=.returned (.bool (Wl k m l)):=fun b h=>by rw[h]
 by_cases h1:1<=k
 ·by_cases h2:0<=m
  ·by_cases h3:0<=l
   ·by_cases h4:k<=255
    ·by_cases h5:m<=255-k
     ·have H:=Zka (go true (by unfold Wl;rw[decide_eq_true h1,decide_eq_true h2,decide_eq_true h3,decide_eq_true h4,decide_eq_true h5];rfl))
      clear go
      go_enter func119,ntmps119
      go_wp2
      go_ret
      exact⟨H.out,rfl⟩
     ·have H:=Zka (go false (by unfold Wl;rw[decide_eq_false h5];simp))
      clear go
      go_enter func119,ntmps119
      go_wp2
      go_ret
      exact⟨H.out,rfl⟩
    ·have H:=Zka (go false (by unfold Wl;rw[decide_eq_false h4];simp))
     clear go
     go_enter func119,ntmps119
     go_wp2
     go_ret
     exact⟨H.out,rfl⟩
   ·have H:=Zka (go false (by unfold Wl;rw[decide_eq_false h3];simp))
    clear go
    go_enter func119,ntmps119
    go_wp2
    go_ret
    exact⟨H.out,rfl⟩
  ·have H:=Zka (go false (by unfold Wl;rw[decide_eq_false h2];simp))
   clear go
   go_enter func119,ntmps119
   go_wp2
   go_ret
   exact⟨H.out,rfl⟩
 ·have H:=Zka (go false (by unfold Wl;rw[decide_eq_false h1];simp))
  clear go
  go_enter func119,ntmps119
  go_wp2
  go_ret
  exact⟨H.out,rfl⟩
theorem WY(c:Int)(hc:c≠0)(w:World):
  Calls prog 114 #[.int .i64 c] w fun e w'=>∃v,e=.returned v/\Qb w.heap.size w' v c/\Below w.heap.size w w':=by
 have HC:=Zka hc
 clear hc
 go_enter func114,ntmps114
 go_wp2
 go_ret
 exact⟨_,rfl,Or.inr ⟨HC.out,w.heap.size,rfl,Zk8,Row.new w _ [.int .i64 c,.int .i64 0,.nilIface]⟩,Zk9.alloc Zk8 _⟩
def ZR(k l:Nat):Nat:=l / k+(if 0<l%k then 1 else 0)
theorem ZgC(k l:Int)(w:World)(h:Wl k 0 l=false):
  Calls prog 113 #[.int .i64 k,.int .i64 l] w fun e w'=>∃ev,e=.returned (.tuple #[.int .i64 0,ev])/\Qb w.heap.size w' ev 1/\Below w.heap.size w w':=by
 have H:=Zka h
 clear h
 go_enter func113,ntmps113
 go_wp2_with (first
  |(go_at_call 119;refine(Ju k 0 l _).mono ?_;rintro e w1 ⟨rfl,rfl⟩;rw[H.out])
  |(go_at_call 114;refine(WY 1 (by decide) _).mono ?_;rintro e w2 ⟨ev,rfl,he,hb⟩;have S2:=Zka (Zkb he hb);clear he hb))
 go_ret2
 exact⟨ev,rfl,S2.out.1,S2.out.2⟩
theorem Z0M(k l:Nat)(w:World)(h1:1<=k)(h2:k<=255)(h3:l<=9223372036854775807):
  Calls prog 113 #[.int .i64 k,.int .i64 l] w fun e w'=>e=.returned (.tuple #[.int .i64 (ZR k l),.nilIface])/\w=w':=by
 have H:=Zka (Z0I (b:=0) (c:=l) h1 (by omega))
 obtain⟨d,hd⟩:∃d,d=l / k:=⟨_,rfl⟩
 obtain⟨m,hm⟩:∃d,d=l%k:=⟨_,rfl⟩
 have ed:Int.tdiv (l:Int) (k:Int)=(d:Int):=by rw[hd];exact(Int.ofNat_tdiv l k).symm
 have em:Int.tmod (l:Int) (k:Int)=(m:Int):=by rw[hm];exact(Int.ofNat_tmod l k).symm
 have ae:d<=9223372036854775807:=by rw[hd];exact Zk1 (Nat.div_le_self _ _) h3
 have ag:¬k=0:=by omega
 by_cases hz:0<m
 ·have af:d<=9223372036854775806:=by
   have h4:l=k*(l / k)+l%k:=(Nat.div_add_mod l k).symm
   have h5:l / k<=k*(l / k):=Nat.le_mul_of_pos_left _ (by omega)
   rw[hd]
   omega
  have hs:ZR k l=d+1:=by unfold ZR;rw[<-hm,if_pos hz,<-hd]
  rw[hs]
  clear hd hm hs
  go_enter func113,ntmps113
  go_wp2_with (go_at_call 119;refine(Ju k 0 l _).mono ?_;rintro e w1 ⟨rfl,rfl⟩;rw[show Wl (k:Int) 0 (l:Int)=true from H.out])
  go_ret2
  exact⟨by simp,rfl⟩
 ·have hs:ZR k l=d:=by unfold ZR;rw[<-hm,if_neg hz,<-hd];omega
  rw[hs]
  clear hd hm hs
  go_enter func113,ntmps113
  go_wp2_with (go_at_call 119;refine(Ju k 0 l _).mono ?_;rintro e w1 ⟨rfl,rfl⟩;rw[show Wl (k:Int) 0 (l:Int)=true from H.out])
  go_ret2
  exact⟨rfl,rfl⟩
end
section
open Go.RowKit
variable{F G:World->Prop}{w w0:World}
structure Bun(w0:World)(F:World->Prop)(w:World):Prop where
 all:∀w',Below w.heap.size w w'->F w'
 bel:Below w0.heap.size w0 w
theorem Bun.start(w:World):Bun w (fun _=>True) w:=⟨fun _ _=>trivial,Zk9⟩
theorem Bun.here(h:Bun w0 F w):F w:=h.all w Zk9
theorem Bun.after{w':World}(h:Bun w0 F w)(hb:Below w.heap.size w w'):Bun w0 F w':=⟨fun af ae=>h.all af (hb.trans (ae.mono hb.size)),h.bel.trans (hb.mono h.bel.size)⟩
theorem Bun.add(h:Bun w0 F w)(hG:∀w',Below w.heap.size w w'->G w'):Bun w0 (fun x=>F x/\G x) w:=⟨fun w' hb=>⟨h.all w' hb,hG w' hb⟩,h.bel⟩
theorem Bun.box(h:Bun w0 F w)(T:TypeId)(L:List Value):Bun w0 (fun x=>F x/\Row x w.heap.size T L) (w.alloc (.cells L.toArray T)):=
 ⟨fun w' hb=>⟨h.all w' ((Zk9.alloc Zk8 _).trans (hb.mono (by simp))),(Row.new w T L).after hb⟩,h.bel.alloc h.bel.size _⟩
theorem Bun.map(h:Bun w0 F w)(hG:∀x,F x->G x):Bun w0 G w:=⟨fun w' hb=>hG _ (h.all w' hb),h.bel⟩
theorem Bun.of(h:∀w',Below w.heap.size w w'->F w')(hb:Below w0.heap.size w0 w):Bun w0 F w:=⟨h,hb⟩
end
section
open Go.RowKit
variable{M:Nat->Nat->BitVec 8}{c g r:Nat}{w:World}
theorem ZC.after{w':World}{e:TypeId}{l:List Value}(h:ZC w g e l)(hb:Below w.heap.size w w'):ZC w' g e l:=h.fr (Fr.of_below (L:=[]) hb) (by simp)
theorem Qu.of_row{sp:List Value}(h:Row w g 5 (Za (mat r c M).cells++sp)):Qu w g 0 r c M:=fun i j hi hj=>by
 refine h.cell ?_
 rw[Nat.zero_add]
 have h1:=Z6A hi hj
 rw[ZjH (by rw[Qg,Z23,Zk];exact h1),X8 _ _ (by rw[Z23,Zk];exact h1)]
 simp only[Z23]
 rw[Yn _ _ _ h1,Wt _ _ _ hj]
theorem Qu.of_row0(h:ZC w g 5 (Za (mat r c M).cells)):Qu w g 0 r c M:=Qu.of_row (sp:=[]) (by rw[Zk7];exact h.row)
theorem Zhu(k:Nat):mat k k idm=mat k k (gen k):=Zeo fun i j hi _=>by unfold gen;rw[if_pos hi]
theorem Z7j(k m:Nat)(w:World)(h1:1<=k)(h2:k+m<=255):
  Calls prog 159 #[.int .i64 k,.int .i64 m] w fun e w'=>∃g,e=.returned (.tuple #[Xh (k+m) k g,.nilIface])/\w.heap.size<=g/\ZC w' g 5 (Za (mat (k+m) k (gen k)).cells)/\Below w.heap.size w w':=by
 obtain⟨qi,au⟩:∃q,q=k*k:=⟨_,rfl⟩
 have S0:=Zka ((Bun.start w).box 250 [.int .i64 0,.int .i64 0,.slice none 0 0])
 have ah:=Zka au
 clear au
 by_cases hm:m=0
 ·subst hm
  go_enter func159,ntmps159
  go_wp2_with (go_at_call 220;have h9:=S0.out;clear S0;refine(Z5B k _ (by omega) (by omega)).mono ?_;rintro e w4 ⟨gi,he,hg,ae,hb⟩;have ag:e=.returned (.tuple #[.agg #[.int .i64 k,.int .i64 k,.slice (some ⟨gi,0,none⟩) qi qi],.nilIface]):=(by rw[he,ah.out];rfl);subst ag;clear he;have ai:w.heap.size<=gi:=Zk1 h9.bel.size hg;have af:=((h9.after hb).add (fun _ h=>ae.after h)).box 250 [.int .i64 k,.int .i64 k,.slice (some ⟨gi,0,none⟩) qi qi];obtain⟨x0,x1,x2⟩:=Zd af.here.2;obtain⟨z0,z1,z2⟩:=Zd af.here.1.1.2;obtain⟨f0,f1,f2⟩:=Xk af.here.1.1.2;have S4:=Zka af;clear h9 hb ae hg af)
  have hy:=Qy (a:=.int .i64 k) (b:=.int .i64 k) (c:=.slice (some ⟨gi,0,none⟩) qi qi) S4.out.here.1.1.2
  obtain⟨y0,y1,y2⟩:=Zd hy
  exact bodyPost_ret (v:=.tuple #[.agg #[.int .i64 k,.int .i64 k,.slice (some ⟨gi,0,none⟩) qi qi],.nilIface]) (by simp[results,Tryz.results159,go_sem,y0,y1,y2]) rfl ⟨gi,by rw[ah.out];rfl,ai,by
   have h9:=S4.out.here.1.2
   rw[Zhu] at h9
   exact h9.fr ((((Fr.refl [w.heap.size] _).setCell (Or.inl (by simp)) _).setCell (Or.inl (by simp)) _).setCell (Or.inl (by simp)) _) (by simp only[ZjD];exact fun e=>S4.out.here.1.1.2.ne h9.row (by decide) e.symm),Qd S4.out.bel Zk8⟩
 ·obtain⟨qc,aq⟩:∃q,q=m*k:=⟨_,rfl⟩
  obtain⟨K,hK⟩:∃q,q=k+m:=⟨_,rfl⟩
  obtain⟨qa,al⟩:∃q,q=K*k:=⟨_,rfl⟩
  have aw:((m:Int)==0)=false:=by simp;omega
  have ak:=Zka aq
  have HK:=Zka hK
  have aj:=Zka al
  have HM:=Zka hm
  clear aq hK al hm
  go_enter func159,ntmps159
  go_wp2_with (first
   |(go_at_call 220;have h9:=S0.out;clear S0;refine(Z5B k _ (by omega) (by omega)).mono ?_;rintro e w4 ⟨gi,he,hg,ae,hb⟩;have ag:e=.returned (.tuple #[.agg #[.int .i64 k,.int .i64 k,.slice (some ⟨gi,0,none⟩) qi qi],.nilIface]):=(by rw[he,ah.out];rfl);subst ag;clear he;have af:=((h9.after hb).add (fun _ h=>ae.after h)).box 250 [.int .i64 k,.int .i64 k,.slice (some ⟨gi,0,none⟩) qi qi];have S4:=Zka af;clear h9 hb ae hg af)
   |(go_at_call 221;have h9:=S4.out;clear S4;refine(ZdM m k _ (by have:=HM.out;omega) (by omega) (by omega) (by omega) (by omega)).mono ?_;rintro e w5 ⟨gc,he,hg,ae,hb⟩;have ag:e=.returned (.tuple #[.agg #[.int .i64 m,.int .i64 k,.slice (some ⟨gc,0,none⟩) qc qc],.nilIface]):=(by rw[he,ak.out];rfl);subst ag;clear he;have af:=((h9.after hb).add (fun _ h=>ae.after h)).box 250 [.int .i64 m,.int .i64 k,.slice (some ⟨gc,0,none⟩) qc qc];obtain⟨x0,x1,x2⟩:=Zd af.here.1.1.2;obtain⟨y0,y1,y2⟩:=Zd af.here.2;have S5:=Zka af;clear h9 hb ae hg af)
   |(go_at_call 222;have h9:=S5.out;clear S5;refine(ZgN k m k gi 0 gc 0 qi qc qi qc idm (cau k) _ (by omega) (by omega) (by omega) (by have:=HM.out;omega) (by omega) ah.out ak.out (Qu.of_row0 h9.here.1.1.1.2) (Qu.of_row0 h9.here.1.2)).mono ?_;rintro e w6 ⟨ga,he,hg,ae,hb⟩;have ag:e=.returned (.tuple #[.agg #[.int .i64 K,.int .i64 k,.slice (some ⟨ga,0,none⟩) qa qa],.nilIface]):=(by rw[he,aj.out,HK.out];rfl);subst ag;clear he;have ai:w.heap.size<=ga:=Zk1 h9.bel.size hg;have af:=(h9.after hb).add (fun _ h=>ae.after h);obtain⟨z0,z1,z2⟩:=Zd af.here.1.1.1.1.1.2;obtain⟨f0,f1,f2⟩:=Xk af.here.1.1.1.1.1.2;have S6:=Zka (af.map (fun x h=>Zkb h.1.1.1.1.1.2 h.2));clear h9 hb ae hg af))
  have hy:=Qy (a:=.int .i64 K) (b:=.int .i64 k) (c:=.slice (some ⟨ga,0,none⟩) qa qa) S6.out.here.1
  obtain⟨y0,y1,y2⟩:=Zd hy
  exact bodyPost_ret (v:=.tuple #[.agg #[.int .i64 K,.int .i64 k,.slice (some ⟨ga,0,none⟩) qa qa],.nilIface]) (by simp[results,Tryz.results159,go_sem,y0,y1,y2]) rfl ⟨ga,by rw[aj.out,HK.out];rfl,ai,by
   have h9:=S6.out.here.2
   exact h9.fr ((((Fr.refl [w.heap.size] _).setCell (Or.inl (by simp)) _).setCell (Or.inl (by simp)) _).setCell (Or.inl (by simp)) _) (by simp only[ZjD];exact fun e=>S6.out.here.1.ne h9.row (by decide) e.symm),Qd S6.out.bel Zk8⟩
theorem Zdw(k m ag len:Nat)(la:Option Addr)(cols:List ByteArray)(w:World)(h1:1<=k)(h2:k+m<=255)(hlen:cols.length=k)(aq:∀i,i<cols.length->(cols.getD i ⟨#[]⟩).size=len)(hl:len<=100000)(hL:Zw w la cols):
  Calls prog 121 #[.int .i64 k,.int .i64 m,.slice la k ag] w fun e w'=>∃g ae,e=.returned (.tuple #[.slice (some ⟨g,0,none⟩) (k+m) ae,.nilIface])/\(Zw w' (some ⟨g,0,none⟩) (Qn (gen k) cols len k (k+m))/\k+m<=ae/\ae<=9223372036854775807)/\Below w.heap.size w w':=by
 obtain⟨K,hK⟩:∃q,q=k+m:=⟨_,rfl⟩
 obtain⟨qa,ak⟩:∃q,q=K*k:=⟨_,rfl⟩
 have ax:qa<=255*255:=by rw[ak];exact Nat.mul_le_mul (by omega) (by omega)
 have S0:=Zka (Bun.start w)
 have HK:=Zka hK
 have al:=Zka ak
 have ah:=Zka hlen
 have au:=Zka aq
 have HL:=Zka hL
 have ay:k<=K:=by omega
 have az:K<=255:=by omega
 rw[<-hK]
 clear hK ak hlen aq hL
 go_enter func121,ntmps121
 go_wp2_with (first
  |(go_at_call 159;have h9:=S0.out;clear S0;refine(Z7j k m _ h1 h2).mono ?_;rintro e w1 ⟨ga,he,hg,af,hb⟩;have aw:e=.returned (.tuple #[.agg #[.int .i64 K,.int .i64 k,.slice (some ⟨ga,0,none⟩) qa qa],.nilIface]):=(by rw[he,al.out,HK.out];rfl);subst aw;clear he;rw[<-HK.out] at af;have aj:=((h9.after hb).add (fun _ h=>(Qu.of_row0 af).after h)).box 250 [.int .i64 K,.int .i64 k,.slice (some ⟨ga,0,none⟩) qa qa];obtain⟨x0,x1,x2⟩:=Zd aj.here.2;have S1:=Zka aj;clear h9 hb af hg aj)
  |(go_at_call 162;have h9:=S1.out;clear S1;refine(ZbT K k ga 0 qa qa ag len la (gen k) cols _ (by omega) (by omega) (by omega) (by omega) al.out Zk8 (by omega) ah.out au.out hl h9.here.1.2 (HL.out.after h9.bel)).mono ?_;rintro e w2 ⟨g5,ai,rfl,ht,hb⟩;have S2:=Zka (Zkb ht (h9.after hb).bel);clear h9 hb ht))
 go_ret2
 exact⟨g5,ai,rfl,S2.out.1,S2.out.2⟩
end
section
open Go.RowKit
def Wv(n:Nat):ByteArray:=⟨(List.replicate n 0).toArray⟩
theorem XM(n:Nat):(Wv n).size=n:=by
 show(List.replicate n (0:UInt8)).toArray.size=n
 rw[List.size_toArray,List.length_replicate]
theorem Ji(z:Nat):(⟨(Lib.repeatL (⟨#[0]⟩:ByteArray).data.toList z).toArray⟩:ByteArray)=Wv z:=by
 unfold Wv
 congr 2
 show Lib.repeatL [0] z=List.replicate z 0
 induction z with
 |zero=>rfl
 |succ z ih=>rw[List.replicate_succ,<-ih];rfl
def Wj(T:ByteArray)(n k:Nat):List ByteArray:=(List.range k).map fun i=>T.extract (i*n) ((i+1)*n)
theorem YT(T:ByteArray)(n k:Nat):(Wj T n k).length=k:=by simp[Wj]
theorem Z8S(T:ByteArray)(n k i:Nat)(h:i<k):(Wj T n k).getD i ⟨#[]⟩=T.extract (i*n) ((i+1)*n):=by
 rw[ZjE]
 simp[Wj,h]
theorem Z7A(T:ByteArray)(n k:Nat):Z6 (Wj T n (k+1))=Z6 (Wj T n k)++[.string (T.extract (k*n) ((k+1)*n))]:=by
 unfold Z6 Wj
 rw[List.range_succ,ZjZ,ZjZ]
 rfl
theorem Z4e(T:ByteArray)(n k:Nat)(h:T.size=k*n):∀i,i<(Wj T n k).length->((Wj T n k).getD i ⟨#[]⟩).size=n:=by
 intro i hi
 rw[YT] at hi
 rw[Z8S T n k i hi,ByteArray.size_extract,h]
 have h1:(i+1)*n<=k*n:=Nat.mul_le_mul_right n hi
 have h2:(i+1)*n=i*n+n:=by rw[Nat.add_mul,Nat.one_mul]
 omega
def XZ(t:ByteArray)(N:Nat):ByteArray:=t++Wv (N-t.size)
theorem Z4C(t:ByteArray)(N:Nat)(h:t.size<=N):(XZ t N).size=N:=by
 unfold XZ
 rw[ByteArray.size_append,XM]
 omega
theorem Z0c(k l:Nat)(hk:1<=k):l<=k*ZR k l:=by
 unfold ZR
 have h:=Nat.div_add_mod l k
 split
 ·have:=Nat.mod_lt l (show k>0 by omega)
  rw[Nat.mul_add]
  omega
 ·rw[Nat.mul_add]
  omega
theorem ZbG(k l:Nat)(hk:1<=k):k*ZR k l<=l+k:=by
 unfold ZR
 have h:=Nat.div_add_mod l k
 split
 ·rw[Nat.mul_add];omega
 ·rw[Nat.mul_add];omega
theorem Z2T(k l:Nat)(hk:1<=k):ZR k l<=l+1:=by
 unfold ZR
 have:=Nat.div_le_self l k
 split<;>omega
def Zl(k m:Nat)(t:ByteArray):List ByteArray:=Qn (gen k) (Wj (XZ t (k*ZR k t.size)) (ZR k t.size) k) (ZR k t.size) k (k+m)
open Go.RowKit
end
section
open Go.RowKit
variable{A:Nat->Nat->BitVec 8}{B K i k n s:Nat}{L:List (Bool×ByteArray)}{a:Option Addr}{e:Ending}{v:Value}{w w':World}{xs:List Value}
def Z2Z(w:World)(a:Option Addr)(L:List (Bool×ByteArray)):Prop:=∀j (h:j<L.length),∃g o,a=some ⟨g,o,none⟩/\w.cell? ⟨g,o+j*2,none⟩=some (.bool L[j].1)/\w.cell? ⟨g,o+j*2+1,none⟩=some (.string L[j].2)
def QU(L:List (Bool×ByteArray))(j:Nat):Bool×ByteArray:=L.getD j (false,⟨#[]⟩)
theorem Zge(L:List (Bool×ByteArray))(j:Nat)(h:j<L.length):L[j]=QU L j:=by
 unfold QU;rw[ZjE,ZjF h,Option.getD_some]
theorem Z2Z.at_(h:Z2Z w a L){j:Nat}(hj:j<L.length):∃g o,a=some ⟨g,o,none⟩/\g<w.heap.size/\w.cell? ⟨g,o+j*2,none⟩=some (.bool (QU L j).1)/\w.cell? ⟨g,o+j*2+1,none⟩=some (.string (QU L j).2):=by
 obtain⟨g,o,ha,h1,h2⟩:=h j hj
 rw[Zge L j hj] at h1 h2
 exact⟨g,o,ha,QD h1,h1,h2⟩
def whF(L:List (Bool×ByteArray))(i:Nat):List Nat:=(List.range i).filter fun j=>(QU L j).1
def hvF(L:List (Bool×ByteArray))(i:Nat):List ByteArray:=(whF L i).map fun j=>(QU L j).2
theorem Z7u(h:(QU L i).1=true):whF L (i+1)=whF L i++[i]:=by
 unfold whF
 rw[List.range_succ,List.filter_append]
 simp[h]
theorem Za9(h:(QU L i).1=false):whF L (i+1)=whF L i:=by
 unfold whF
 rw[List.range_succ,List.filter_append]
 simp[h]
theorem Zhy(h:(QU L i).1=true):hvF L (i+1)=hvF L i++[(QU L i).2]:=by
 unfold hvF;rw[Z7u h,ZjZ];rfl
theorem ZiP(h:(QU L i).1=false):hvF L (i+1)=hvF L i:=by
 unfold hvF;rw[Za9 h]
theorem Z1p(L:List (Bool×ByteArray))(i:Nat):(hvF L i).length=(whF L i).length:=by simp[hvF]
theorem Z6U(L:List (Bool×ByteArray))(i:Nat):(whF L i).length<=i:=by
 unfold whF
 exact Zk1 (List.length_filter_le _ _) (by simp)
theorem Z52{j:Nat}(h:j∈whF L i):j<i/\(QU L j).1=true:=by
 unfold whF at h
 simpa using h
theorem ZeY(L:List (Bool×ByteArray))(i:Nat):(whF L i).Nodup:=by
 unfold whF
 exact List.Pairwise.filter (fun j=>(QU L j).1) List.nodup_range
theorem Z80{e B2 e2 s2 n2:Nat}{v2:Value}{ag:List Value}(h1:w.ownsRow B e s v n xs)(h2:w.ownsRow B2 e2 s2 v2 n2 ag)(aj:e≠e2)(hg:w.grownBy w' v.ownBlock):w'.ownsRow B2 e2 s2 v2 n2 ag:=by
 refine⟨h2.1,?_⟩
 rcases h2.2 with h|⟨g,cap,cur,hv,hb,hh,r⟩
 ·exact Or.inl h
 ·refine Or.inr ⟨g,cap,cur,hv,hb,(hg.block g (ZjQ.1 hh).1 ?_).trans hh,r⟩
  intro e1
  rcases h1.2 with ⟨af,_⟩|⟨g1,ah,ai,af,_,ae,_⟩
  ·rw[af] at e1;cases e1
  ·rw[af] at e1
   simp only[Value.ownBlock,ZjJ] at e1
   subst e1
   rw[hh] at ae
   simp only[ZjJ,Obj.cells.injEq] at ae
   exact aj ae.2.1.symm
theorem Z5I(cols:List ByteArray)(u:ByteArray):Z6 (cols++[u])=Z6 cols++[.string u]:=by simp[Z6]
theorem Wx{e:Nat}(h:w.ownsRow B e s v n xs):∃a c,v=.slice a n c:=by
 rcases h.2 with ⟨hv,hn⟩|⟨g,cap,cur,hv,_⟩
 ·exact⟨none,0,by rw[hv,hn]⟩
 ·exact⟨_,_,hv⟩
theorem ZfI:(prog.info? 3).map (fun i=>(i.zero,i.size,i.bytes))=some (some (.int .i64 0),1,8):=by kernel_rfl
theorem ZcO{r c:Nat}{L:List Int}(hx:Zbm w r c A L e w')(h:∀i,i<L.length->0<=L.getD i 0/\L.getD i 0<r):∃g,e=.returned (.tuple #[Xh L.length c g,.nilIface])/\w.heap.size<=g/\Qu w' g 0 L.length c (fun i j=>A (L.getD i 0).toNat j)/\Below w.heap.size w w':=by
 obtain⟨hx,hb⟩:=hx
 rcases hx with ⟨⟨i,hi,hn⟩,_⟩|⟨_,g,he,hg,ae⟩
 ·exact absurd (h i hi) hn
 ·exact⟨g,he,hg,Qu.of_row0 ae,hb⟩
theorem Zea{N:Nat}(hx:Zdr w N A e w')(hI:Inj N A):∃g B,Z1f N A B/\e=.returned (.tuple #[Xh N N g,.nilIface])/\w.heap.size<=g/\Qu w' g 0 N N B/\Below w.heap.size w w':=by
 obtain⟨hx,hb⟩:=hx
 rcases hx with ⟨h,_⟩|⟨_,g,B,h1,h2,h3,h4⟩
 ·exact absurd hI h
 ·exact⟨g,B,h1,h2,h3,Qu.of_row0 h4,hb⟩
theorem Zw.take{ss:List ByteArray}(h:Zw w a ss)(k:Nat):Zw w a (ss.take k):=fun j hj=>by
 rw[ZjO] at hj
 obtain⟨g,o,ha,hc⟩:=h j (by omega)
 exact⟨g,o,ha,by rw[hc,List.getElem_take]⟩
theorem ZfD(h:∀j,j<K->(QU L j).1=true->(QU L j).2.size=n)(k:Nat):∀i,i<((hvF L K).take k).length->(((hvF L K).take k).getD i ⟨#[]⟩).size=n:=by
 intro i hi
 rw[ZjE,ZjF hi,Option.getD_some]
 have hm:((hvF L K).take k)[i]∈hvF L K:=List.mem_of_mem_take (ZjW hi)
 unfold hvF at hm
 obtain⟨j,hj,he⟩:=List.mem_map.1 hm
 have h2:=Z52 hj
 have h3:=h j h2.1 h2.2
 rw[he] at h3
 exact h3
theorem ZcW{P P' B:Nat->Nat->BitVec 8}(h:∀i j,i<k->P i j=P' i j)(hB:Z1f k P B):Z1f k P' B:=fun i l hi hl=>by
 rw[<-hB i l hi hl]
 unfold Ys
 exact ZQ fun j _=>by rw[h i j hi]
theorem Z2k(L:List Nat)(k i:Nat)(h:i<k):(L.take k).getD i 0=L.getD i 0:=by
 rw[ZjE,ZjE,List.getElem?_take,if_pos h]
theorem ZfX(L:List Nat)(i:Nat):(L.map fun(x:Nat)=>(x:Int)).getD i 0=(L.getD i 0:Int):=by
 rw[ZjE,List.getElem?_map,ZjE]
 cases L[i]?<;>rfl
theorem Z6f{m:Nat}(hK:K=k+m)(ae:K<=255)(hc:k<=(whF L K).length):Inj k (fun i j=>gen k (((whF L K).take k).getD i 0) j):=
 ZhA k m (by omega) _ (by rw[ZjO];omega) ((ZeY L K).sublist (List.take_sublist _ _)) (fun a ha=>by have:=Z52 (List.mem_of_mem_take ha);omega)
def Z5f(k:Nat)(L:List (Bool×ByteArray))(K i j:Nat):BitVec 8:=gen k ((whF L K).getD i 0) j
def Z2z(k m n:Nat)(L:List (Bool×ByteArray))(code:Int)(T:List ByteArray):Prop:=
 ((∃j,j<k+m/\(QU L j).1=true/\(QU L j).2.size≠n)/\code=19/\T=[])∨
 ((∀j,j<k+m->(QU L j).1=true->(QU L j).2.size=n)/\(whF L (k+m)).length<k/\code=17/\T=[])∨
 ((∀j,j<k+m->(QU L j).1=true->(QU L j).2.size=n)/\k<=(whF L (k+m)).length/\code=0/\∃B,Z1f k (Z5f k L (k+m)) B/\T=Qn (gen k) (Qn B ((hvF L (k+m)).take k) n k k) n k (k+m))
theorem Z9G(k m l:Nat)(pa:Option Addr)(pc:Nat)(L:List (Bool×ByteArray))(w:World)(h1:1<=k)(h2:k+m<=255)(h3:l<=9223372036854775807)(hl:L.length=k+m)(hP:Z2Z w pa L)(cz:∀j,j<k+m->(QU L j).1=true->(QU L j).2.size<=100000):
  Calls prog 112 #[.int .i64 k,.int .i64 m,.int .i64 l,.slice pa (k+m) pc] w fun e w'=>∃code T a' aq ev,Z2z k m (ZR k l) L code T/\e=.returned (.tuple #[.slice a' T.length aq,ev])/\Qb w.heap.size w' ev code/\(Zw w' a' T/\T.length<=aq/\aq<=9223372036854775807)/\Below w.heap.size w w':=by
 have H:=Zka (Z0I (c:=l) h1 h2)
 obtain⟨n,hn⟩:∃n,n=ZR k l:=⟨_,rfl⟩
 obtain⟨K,hK⟩:∃K,K=k+m:=⟨_,rfl⟩
 have k1:K<=255:=by omega
 have k2:k<=K:=by omega
 have hb:((K:Int) !=(k:Int)+(m:Int))=false:=by simp;omega
 have gx:n<=9223372036854775807:=by
  rw[hn]
  unfold ZR
  have h4:=Nat.div_add_mod l k
  have h5:l / k<=k*(l / k):=Nat.le_mul_of_pos_left _ (by omega)
  split<;>omega
 obtain⟨j0,ff,fo,fp,fq⟩:=info_parts XK
 obtain⟨i9,fe,fi,fj,fm⟩:=info_parts ZfI
 unfold Z2z
 rw[<-hn,<-hK]
 rw[<-hK] at hl cz
 have HN:=Zka hn
 have HK:=Zka hK
 have HL:=Zka hl
 have HP:=Zka hP
 have dm:=Zka cz
 clear hn hK hl hP cz
 go_enter func112,ntmps112
 go_wp2_with (first
  |(go_at_call 119;refine(Ju k m l _).mono ?_;rintro e w1 ⟨rfl,rfl⟩;rw[H.out])
  |(go_at_call 113;refine(Z0M k l _ h1 (by omega) h3).mono ?_;rintro e w1 ⟨rfl,rfl⟩;rw[<-HN.out]))
 obtain⟨w0,fh⟩:∃w0:World,w0=w:=⟨_,rfl⟩
 subst fh
 go_loopw [12,13,39] (fun hv wv ii wr=>∃i:Nat,i<=K/\ii=.int .i64 i/\(∀j,j<i->(QU L j).1=true->(QU L j).2.size=n)/\wr.ownsRow w0.heap.size 9 1 hv (whF L i).length (Z6 (hvF L i))/\wr.ownsRow w0.heap.size 3 1 wv (whF L i).length (WL (whF L i))/\Below w0.heap.size w0 wr) (fun _ _ ii _=>K- (intOf ii).toNat)
 case atStart=>exact⟨0,by omega,rfl,fun j h=>by omega,World.ownsRow_nil _ _ _ _,World.ownsRow_nil _ _ _ _,Zk9⟩
 case round=>
  obtain⟨i,hi,rfl,az,ag,ae,af⟩:=hrel
  have ai:=Zka az
  clear az
  by_cases cj:i<K
  ·obtain⟨pg,po,rfl,eh,c0,c1⟩:=HP.out.at_ (j:=i) (by rw[HL.out];exact cj)
   have d0:=(af.cell (p:=⟨pg,po+i*2,none⟩) eh).trans c0
   have d1:=(af.cell (p:=⟨pg,po+i*2+1,none⟩) eh).trans c1
   obtain⟨b,ct⟩:∃b,b=(QU L i).1:=⟨_,rfl⟩
   obtain⟨t,ht⟩:∃t,t=(QU L i).2:=⟨_,rfl⟩
   rw[<-ct] at d0
   rw[<-ht] at d1
   have HB:=Zka ct
   have HT:=Zka ht
   clear c0 c1 ct ht
   cases b
   ·have S1:=Zka (Zkb ag (Zkb ae af))
    clear ag ae af
    go_wp2
    go_roundw
    case measure=>simp[intOf];omega
    case rel=>
     refine⟨i+1,by omega,by go_num,fun j hj bm=> ?_,by rw[Za9 HB.out.symm,ZiP HB.out.symm];exact S1.out.1,by rw[Za9 HB.out.symm];exact S1.out.2.1,S1.out.2.2⟩
     by_cases e:j=i
     ·rw[e,<-HB.out] at bm;cases bm
     ·exact ai.out j (by omega) bm
   ·have gy:t.size<=100000:=by rw[HT.out];exact dm.out i cj HB.out.symm
    by_cases bq:t.size=n
    ·have fg:((t.size:Int) !=(n:Int))=false:=by simp[bq]
     have cn:=Zka bq
     have hz:=af.size
     have ez:=Z6U L i
     obtain⟨c,hc⟩:∃c,c=(whF L i).length:=⟨_,rfl⟩
     rw[<-hc] at ag ae ez
     have S1:=Zka (Zkb ag (Zkb ae af))
     have HC:=Zka hc
     clear ag ae af bq hc
     go_wp2_with (first
      |(at_builtin;have h9:=S1.out;clear S1;refine wpList_append_own _ rfl (.tmp 57) (.tmp 63) 96 rfl w0.heap.size 9 j0 _ 1 16 underlying96 ff fo fp fq rfl (by omega) _ c (Z6 (hvF L i)) rfl (h9.1.alloc _) ⟨wr.heap.size,0,none⟩ 1 1 [.string t] rfl rfl (World.news_of_block (cs:= #[.string t]) (t:=9) (fr:=(0,0)) (heap_alloc_new wr _)) (by simp[Value.oneCell']) (by unfold maxLen;omega) (by omega) (Zk1 hz (by simp)) ?_;intro v' w7 ae ah ak;clear ak;have S2:=Zka (Zkb ae (Zkb (Z80 (h9.1.alloc _) (h9.2.1.alloc _) (by decide) ah) (Xb (h9.1.alloc _) (h9.2.2.alloc hz _) (Zk1 hz (by simp)) ah)));have dc:=S2.out.2.2.size;clear h9 ae ah)
      |(at_builtin;have h9:=S2.out;clear S2;refine wpList_append_own _ rfl (.tmp 65) (.tmp 67) 46 rfl w0.heap.size 3 i9 _ 1 8 underlying46 fe fi fj fm rfl (by omega) _ c (WL (whF L i)) rfl (h9.2.1.alloc _) ⟨w7.heap.size,0,none⟩ 1 1 [.int .i64 (i:Int)] rfl rfl (World.news_of_block (cs:= #[.int .i64 (i:Int)]) (t:=3) (fr:=(0,0)) (heap_alloc_new w7 _)) (by simp[Value.oneCell']) (by unfold maxLen;omega) (by omega) (Zk1 dc (by simp)) ?_;intro v8 w8 ae ah ak;clear ak;have S3:=Zka (Zkb (Z80 (h9.2.1.alloc _) (h9.1.alloc _) (by decide) ah) (Zkb ae (Xb (h9.2.1.alloc _) (h9.2.2.alloc dc _) (Zk1 dc (by simp)) ah)));clear h9 ae ah))
     go_roundw
     case measure=>simp[intOf];omega
     case rel=>
      have e1:(whF L (i+1)).length=c+1:=by rw[Z7u HB.out.symm,ZjI,HC.out];rfl
      refine⟨i+1,by omega,by go_num,fun j hj bm=> ?_,?_,?_,S3.out.2.2⟩
      ·by_cases e:j=i
       ·rw[e,<-HT.out];exact cn.out
       ·exact ai.out j (by omega) bm
      ·rw[e1,Zhy HB.out.symm,Z5I,<-HT.out];exact S3.out.1
      ·rw[e1,Z7u HB.out.symm,Z8k];exact S3.out.2.1
    ·have fg:((t.size:Int) !=(n:Int))=true:=by simp;omega
     have S1:=Zka af
     have cn:=Zka bq
     clear ag ae af bq
     go_wp2_with (go_at_call 114;refine(WY 19 (by decide) _).mono ?_;rintro e w2 ⟨ev,rfl,he,hb⟩;have S2:=Zka (Zkb (he.mono S1.out.size) (S1.out.trans (hb.mono S1.out.size)));clear he hb)
     go_ret2
     exact⟨19,[],none,0,ev,Or.inl ⟨⟨i,cj,HB.out.symm,by rw[<-HT.out];exact cn.out⟩,rfl,rfl⟩,rfl,S2.out.1,⟨fun j hj=>by simp at hj,by simp,by simp⟩,S2.out.2⟩
  ·obtain rfl:K=i:=by omega
   clear cj hi
   obtain⟨c,hc⟩:∃c,c=(whF L K).length:=⟨_,rfl⟩
   have fw:c<=K:=by rw[hc];exact Z6U L K
   rw[<-hc] at ag ae
   obtain⟨ha,bf,rfl⟩:=Wx ag
   have HC:=Zka hc
   by_cases ey:c<k
   ·have S1:=Zka af
    clear ag ae af hc
    go_wp2_with (go_at_call 114;refine(WY 17 (by decide) _).mono ?_;rintro e w2 ⟨ev,rfl,he,hb⟩;have S2:=Zka (Zkb (he.mono S1.out.size) (S1.out.trans (hb.mono S1.out.size)));clear he hb)
    go_ret2
    exact⟨17,[],none,0,ev,Or.inr (Or.inl ⟨ai.out,by rw[<-HC.out];exact ey,rfl,rfl⟩),rfl,S2.out.1,⟨fun j hj=>by simp at hj,by simp,by simp⟩,S2.out.2⟩
   ·have bg:k<=c:=by omega
    obtain⟨gh,rfl,_,fx,fy⟩:=Z9z ag (by omega)
    obtain⟨wa,bu,rfl⟩:=Wx ae
    obtain⟨gw,rfl,_,ia,ib⟩:=Z9z ae (by omega)
    have ef:=Zw.own ag
    have dx:=Yu.own ae
    obtain⟨qa,cw⟩:∃q,q=K*k:=⟨_,rfl⟩
    obtain⟨qi,cy⟩:∃q,q=k*k:=⟨_,rfl⟩
    have ic:qa<=255*255:=by rw[cw];exact Nat.mul_le_mul k1 (by omega)
    have ie:qi<=255*255:=by rw[cy];exact Nat.mul_le_mul (by omega) (by omega)
    obtain⟨R,hR⟩:∃R:List Int,R=((whF L K).take k).map fun(x:Nat)=>(x:Int):=⟨_,rfl⟩
    have dw:R.length=k:=by rw[hR,ZjN,ZjO,<-hc];omega
    have ay:∀j,R.getD j 0=(((whF L K).take k).getD j 0:Int):=fun j=>by rw[hR,ZfX]
    have ax:∀i,i<R.length->0<=R.getD i 0/\R.getD i 0<K:=fun i hi=>by
     rw[ay]
     have al:((whF L K).take k).getD i 0∈(whF L K).take k:=by
      rw[ZjE,ZjF (by rw[ZjO,<-hc];omega),Option.getD_some]
      exact ZjW _
     have:=Z52 (List.mem_of_mem_take al)
     omega
    have dr:(fun i j=>gen k (R.getD i 0).toNat j)=fun i j=>gen k (((whF L K).take k).getD i 0) j:=by
     funext i j
     rw[ay,Int.toNat_natCast]
    have hI:Inj k (fun i j=>gen k (R.getD i 0).toNat j):=by rw[dr];exact Z6f HK.out k1 (by rw[<-hc];exact bg)
    have dt:∀x,Yu x gw 0 (whF L K)->∀j,j<R.length->x.cell? ⟨gw,0+j,none⟩=some (.int .i64 (R.getD j 0)):=fun x hx j hj=>by
     rw[ay,Z2k _ _ _ (by omega)]
     exact hx j (by rw[<-hc];omega)
    have du:∀B,Z1f k (fun i j=>gen k (R.getD i 0).toNat j) B->Z1f k (Z5f k L K) B:=fun B hB=>ZcW (fun i j hi=>by
     show gen k (R.getD i 0).toNat j=gen k ((whF L K).getD i 0) j
     rw[ay,Int.toNat_natCast,Z2k _ _ _ hi]) hB
    have dp:((hvF L K).take k).length=k:=by rw[ZjO,Z1p,<-hc];omega
    have dq:=ZfD ai.out k
    have S1:=Zka (Bun.of (F:=fun x=>Zw x (some ⟨gh,0,none⟩) (hvF L K)/\Yu x gw 0 (whF L K)) (fun x hx=>⟨ef.after hx,dx.after hx⟩) af)
    obtain⟨P,hP⟩:∃P:Nat->Nat->BitVec 8,P=fun i j=>gen k (R.getD i 0).toNat j:=⟨_,rfl⟩
    have ee:n<=100000:=by
     have e0:0<((hvF L K).take k).length:=by omega
     have al:(hvF L K)[0]'(by rw[Z1p,<-hc];omega)∈hvF L K:=ZjW _
     unfold hvF at al
     obtain⟨j,hj,_⟩:=List.mem_map.1 al
     have h5:=Z52 hj
     have h6:=dm.out j h5.1 h5.2
     rw[ai.out j h5.1 h5.2] at h6
     exact h6
    rw[<-hP] at hI
    have dj:=Zka cw
    have bz:=Zka cy
    have aw:=Zka dw
    have ek:=Zka ax
    have HI:=Zka hI
    have eu:=Zka dt
    have ew:=Zka du
    have de:=Zka dp
    have df:=Zka dq
    have dh:=Zka hP
    have er:=Zka bg
    clear ag ae af hc ef dx cw cy hR dw ay ax dr hI dt du dp dq hP
    go_wp2_with (go_at_call 159;have h9:=S1.out;clear S1;refine(Z7j k m _ h1 h2).mono ?_;rintro e w1 ⟨ga,he,hg,au,hb⟩;have bh:e=.returned (.tuple #[.agg #[.int .i64 K,.int .i64 k,.slice (some ⟨ga,0,none⟩) qa qa],.nilIface]):=(by rw[he,dj.out,HK.out];rfl);subst bh;clear he;rw[<-HK.out] at au;have dy:=(h9.after hb).add (fun _ h=>(Qu.of_row0 au).after h);have aj:=Row.new w1 250 [.int .i64 K,.int .i64 k,.slice (some ⟨ga,0,none⟩) qa qa];obtain⟨x0,x1,x2⟩:=Zd aj;have SB:=Zka dy;have SX:=Zka (Zkb aj ((Below.refl w1.heap.size w1).alloc Zk8 (.cells #[.int .i64 K,.int .i64 k,.slice (some ⟨ga,0,none⟩) qa qa] 250)));clear h9 hb au hg dy aj)
    have e1:0<=(k:Int):=by omega
    have e2:(k:Int)<=(bu:Int):=by omega
    have e3:((k:Int)).toNat=k:=by omega
    have e4:(k:Int)<=(bf:Int):=by omega
    go_region_law
     (first|(go_simp;go_at_call 160;have h9:=SX.out;clear SX;have b9:=h9.2.drew;have hF:=SB.out.after b9;have hp:=ZhS K k ga 0 qa qa gw 0 bu (gen k) R _ (by omega) (by omega) (by omega) (by omega) dj.out Zk8 (by omega) (by rw[aw.out];omega) (by rw[aw.out];omega) hF.here.2 (eu.out _ hF.here.1.2);rw[aw.out] at hp;refine hp.mono ?_;rintro e ft hx;obtain⟨gp,he,fa,cu,hb⟩:=ZcO hx ek.out;have bh:e=.returned (.tuple #[.agg #[.int .i64 k,.int .i64 k,.slice (some ⟨gp,0,none⟩) qi qi],.nilIface]):=(by rw[he,aw.out,bz.out];rfl);subst bh;clear he hx hp;rw[aw.out,<-dh.out] at cu;have bj:gp≠w1.heap.size:=(by have h8:(w1.alloc (.cells #[.int .i64 K,.int .i64 k,.slice (some ⟨ga,0,none⟩) qa qa] 250)).drew.heap.size=w1.heap.size+1:=(by show(w1.alloc _).heap.size=_;simp);omega);have aj:=Row.after h9.1.drew hb;have gj:=Zd aj;obtain⟨f0,f1,f2⟩:=Xk aj;have hy:=Qy (a:=.int .i64 k) (b:=.int .i64 k) (c:=.slice (some ⟨gp,0,none⟩) qi qi) aj;obtain⟨y0,y1,y2⟩:=Zd hy;have SY:=Zka (Zkb hy (Zkb (Qd (a:=.int .i64 k) (b:=.int .i64 k) (c:=.slice (some ⟨gp,0,none⟩) qi qi) (h9.2.drew.trans (hb.mono h9.2.drew.size)) (Nat.le_refl w1.heap.size)) (cu.fr ((((Fr.refl [w1.heap.size] ft).setCell (p:=⟨w1.heap.size,0,none⟩) (Or.inl (by simp)) (.int .i64 k)).setCell (p:=⟨w1.heap.size,1,none⟩) (Or.inl (by simp)) (.int .i64 k)).setCell (p:=⟨w1.heap.size,2,none⟩) (Or.inl (by simp)) (.slice (some ⟨gp,0,none⟩) qi qi)) (by simp only[ZjD];exact bj))));clear h9 b9 hF cu hb aj bj fa))
    clear e1 e2 e3 x0 x1 x2
    go_wp2_with (go_at_call 161;have h9:=SY.out;clear SY;refine(Zec k gp 0 qi qi P _ h1 (by omega) bz.out Zk8 (by omega) h9.2.2).mono ?_;intro e fu hx;obtain⟨gz,B,hB,he,fc,dz,hb⟩:=Zea hx HI.out;have bh:e=.returned (.tuple #[.agg #[.int .i64 k,.int .i64 k,.slice (some ⟨gz,0,none⟩) qi qi],.nilIface]):=(by rw[he,bz.out];rfl);subst bh;clear he hx;have bj:gz≠w1.heap.size:=(by have h8:=h9.1.lt;omega);have aj:=Row.after h9.1 hb;obtain⟨v0,v1,v2⟩:=Zd aj;obtain⟨f3,f4,f5⟩:=Xk aj;have hy:=Qy (a:=.int .i64 k) (b:=.int .i64 k) (c:=.slice (some ⟨gz,0,none⟩) qi qi) aj;obtain⟨z0,z1,z2⟩:=Zd hy;have SZ:=Zka (Zkb hy (Zkb (Qd (a:=.int .i64 k) (b:=.int .i64 k) (c:=.slice (some ⟨gz,0,none⟩) qi qi) (h9.2.1.trans (hb.mono h9.2.1.size)) (Nat.le_refl w1.heap.size)) (dz.fr ((((Fr.refl [w1.heap.size] fu).setCell (p:=⟨w1.heap.size,0,none⟩) (Or.inl (by simp)) (.int .i64 k)).setCell (p:=⟨w1.heap.size,1,none⟩) (Or.inl (by simp)) (.int .i64 k)).setCell (p:=⟨w1.heap.size,2,none⟩) (Or.inl (by simp)) (.slice (some ⟨gz,0,none⟩) qi qi)) (by simp only[ZjD];exact bj))));have eo:=Zka hB;clear h9 dz hb aj bj fc hy hB)
    clear f0 f1 f2 f3 f4 f5 v0 v1 v2 y0 y1 y2
    have e1:0<=(k:Int):=by omega
    have e3:((k:Int)).toNat=k:=by omega
    go_region_law (first
     |(go_simp;go_at_call 162;have h9:=SZ.out;clear SZ;have b9:=h9.2.1.drew;have hF:=SB.out.after b9;refine(ZbU k k gz 0 qi qi bf n (some ⟨gh,0,none⟩) B ((hvF L K).take k) _ h1 (by omega) h1 (by omega) bz.out Zk8 (by omega) de.out df.out ee (h9.2.2.after (Zk9.drew)) (Zw.take hF.here.1.1 k)).mono ?_;rintro e ig ⟨gq,cq,rfl,ht,hb⟩;have SW:=Zka (Zkb ht (hF.after hb).bel);clear h9 b9 hF ht hb))
    go_wp2_with (go_at_call 121;have h9:=SW.out;clear SW;refine(Zdw k m cq n _ (Qn B ((hvF L K).take k) n k k) _ h1 h2 (QS _ _ _ _ _) (Z1Y B ((hvF L K).take k) n k k df.out (by rw[de.out];exact Zk8)) ee h9.1).mono ?_;rw[<-HK.out];rintro e ij ⟨g8,cr,rfl,hs,hb⟩;have S4:=Zka (Zkb hs (h9.2.trans (hb.mono h9.2.size)));clear h9 hs hb)
    go_ret2
    exact⟨0,_,some ⟨g8,0,none⟩,cr,.nilIface,Or.inr (Or.inr ⟨ai.out,by rw[<-HC.out];exact er.out,rfl,B,ew.out B (by rw[<-dh.out];exact eo.out),rfl⟩),by rw[QS];rfl,Qb.ok0 _ _,⟨S4.out.1.1,by rw[QS];exact S4.out.1.2.1,S4.out.1.2.2⟩,S4.out.2⟩
end
section
open Go.RowKit
theorem data_append(a b:ByteArray):(a++b).data.toList=a.data.toList++b.data.toList:=by simp
theorem Z8J{a b:ByteArray}(h:a.data.toList=b.data.toList):a=b:=ByteArray.ext (Array.toList_inj.1 h)
theorem size_data(s:ByteArray):s.data.toList.length=s.size:=by simp
def Zjt:ByteArray:=⟨#[1,0,0,0]⟩
def Z4p(e n len:Nat):ByteArray:=s32 len++s32 n++s32 (e / 4294967296)++s32 e
theorem Z2r(e n len:Nat):(Z4p e n len).data.toList=Xl e n len:=by
 simp only[Z4p,data_append,Z20,Xl]
theorem ZaK(e n len:Nat):(Z4p e n len).size=16:=by rw[<-size_data,Z2r];rfl
theorem Z2K(e n:Nat)(p:ByteArray)(w:World)(he:e<=4000000000)(hn:n<=4000000000)(hp:p.size<=60000):
  Calls prog 193 #[.int .i64 e,.int .i64 n,.string p] w fun x w'=>x=.returned (.tuple #[.string ⟨(Zb e n p.data.toList).toArray⟩,.nilIface])/\Below w.heap.size w w':=by
 have hr:=Z7K e n (by omega) (by omega)
 obtain⟨E,hE⟩:∃E,e / 4294967296=E:=⟨_,rfl⟩
 have bj:(e:Int) / 4294967296=(E:Int):=by omega
 have bm:E<=4:=by omega
 obtain⟨hd,aq⟩:∃hd,s32 p.size++s32 n++s32 E++s32 e=hd:=⟨_,rfl⟩
 have ae:hd=Z4p e n p.size:=by rw[<-aq,Z4p,hE]
 have aj:hd.size=16:=by rw[ae,ZaK]
 have bh:hd.size<=maxLen:=by rw[aj];unfold maxLen;omega
 have lp:p.size<=maxLen:=by unfold maxLen;omega
 obtain⟨c,hc⟩:∃c,XR (crc hd.data.toList) p.data.toList=c:=⟨_,rfl⟩
 have ai:uv c=((Z0P e n p.data.toList:Nat):Int):=by
  rw[QE,<-hc,ae,Z2r];unfold Z0P;rw[size_data]
 obtain⟨q,hq⟩:∃q,Z0P e n p.data.toList=q:=⟨_,rfl⟩
 rw[hq] at ai
 have bz:q<4294967296:=by rw[<-hq];unfold Z0P;exact BitVec.isLt _
 have b9:=Z5Y p.size
 obtain⟨m,hm⟩:∃m,Z8 p.size=m:=⟨_,rfl⟩
 obtain⟨z,hz⟩:∃z,m- (24+p.size)=z:=⟨_,rfl⟩
 have bu:m<=60100:=by rw[<-hm];unfold Z8;omega
 obtain⟨b1,af⟩:∃b,Zjt++hd=b:=⟨_,rfl⟩
 obtain⟨b2,ag⟩:∃b,b1++s32 q=b:=⟨_,rfl⟩
 obtain⟨b3,ah⟩:∃b,b2++p=b:=⟨_,rfl⟩
 have au:b1.size=20:=by rw[<-af,ByteArray.size_append,aj];rfl
 have aw:b2.size=24:=by rw[<-ag,ByteArray.size_append,au];rfl
 have al:b3.size=24+p.size:=by rw[<-ah,ByteArray.size_append,aw]
 have k1:∀W,(Op.stringOp .add (s32 p.size) (s32 n)).run prog W=.ok (.string (s32 p.size++s32 n)) W:=fun W=>run_string_add_sum W _ _ (by rw[Qa,Qa];omega)
 have k2:∀W,(Op.stringOp .add (s32 p.size++s32 n) (s32 E)).run prog W=.ok (.string (s32 p.size++s32 n++s32 E)) W:=fun W=>run_string_add_sum W _ _ (by rw[ByteArray.size_append,Qa,Qa,Qa];omega)
 have k3:∀W,(Op.stringOp .add (s32 p.size++s32 n++s32 E) (s32 e)).run prog W=.ok (.string hd) W:=fun W=>by rw[<-aq];exact run_string_add_sum W _ _ (by rw[ByteArray.size_append,ByteArray.size_append,Qa,Qa,Qa,Qa];omega)
 have k4:∀W,(Op.stringOp .add ⟨#[1,0,0,0]⟩ hd).run prog W=.ok (.string b1) W:=fun W=>by rw[<-af];exact run_string_add_sum W _ _ (by rw[aj];show 4+16<=_;omega)
 have k5:∀W,(Op.stringOp .add b1 (s32 q)).run prog W=.ok (.string b2) W:=fun W=>by rw[<-ag];exact run_string_add_sum W _ _ (by rw[au,Qa];omega)
 have k6:∀W,(Op.stringOp .add b2 p).run prog W=.ok (.string b3) W:=fun W=>by rw[<-ah];exact run_string_add_sum W _ _ (by rw[aw];omega)
 have k7:∀W,(Op.stringOp .add b3 (Wv z)).run prog W=.ok (.string (b3++Wv z)) W:=fun W=>run_string_add_sum W _ _ (by rw[al,XM];omega)
 have ak:b3++Wv z=⟨(Zb e n p.data.toList).toArray⟩:=by
  apply Z8J
  rw[<-ah,<-ag,<-af,ae,data_append,data_append,data_append,data_append,Z2r]
  show[1,0,0,0]++Xl e n p.size++Z4 q++p.data.toList++List.replicate z 0=Zb e n p.data.toList
  unfold Zb
  rw[size_data,hq,hm,hz]
 have HF:=Zka ak
 have HX:=Zka (Zkb aq (Zkb ae (Zkb hc (Zkb hq (Zkb hm (Zkb hz b9))))))
 have HY:=Zka (Zkb au (Zkb aw (Zkb al aj)))
 have HS:=Zka ai
 have cj:z<=60100:=by omega
 have bf:m=24+p.size+z:=by omega
 have bg:=Zka bf
 have bq:p.size<=60000:=by omega
 clear ak aq ae hc hq hm hz b9 au aw aj ai bf af ag ah hE
 have zl:b3.size<=60100:=by rw[al];omega
 have HD:Hid ((m:Int)- (b3.size:Int)=(z:Int)):=Zka (by rw[al];have:=bg.out;omega)
 clear al
 have T0:=Zka True.intro
 go_enter func193,ntmps193
 go_wp2_with (first
  |(go_at_call 213;refine(Z0m _ _ _).mono ?_;rw[hr];rintro e w' ⟨rfl,rfl⟩)
  |(go_at_call 181;have t0:=T0.out;clear T0 t0;refine(Jv p.size (by omega) _).mono ?_;rintro e w1 ⟨rfl,af⟩;have T1:=Zka af;clear af)
  |(go_at_call 181;have t1:=T1.out;clear T1;refine(Jv n (by omega) _).mono ?_;rintro e w2 ⟨rfl,ag⟩;have T2:=Zka (t1.trans (ag.mono t1.size));clear ag t1)
  |(go_at_call 181;have t2:=T2.out;clear T2;refine(Jv E (by omega) _).mono ?_;rintro e w3 ⟨rfl,ah⟩;have T3:=Zka (t2.trans (ah.mono t2.size));clear ah t2)
  |(go_at_call 181;have t3:=T3.out;clear T3;refine(Jv e (by omega) _).mono ?_;rintro e w4 ⟨rfl,ax⟩;have T4:=Zka (t3.trans (ax.mono t3.size));clear ax t3)
  |(go_at_call 130;refine(Z2S _ _ bh).mono ?_;rintro e w8 ⟨rfl,rfl⟩)
  |(go_at_call 186;refine(Z6a _ _ _ lp).mono ?_;rw[HX.out.2.2.1,HS.out];rintro e w8 ⟨rfl,rfl⟩)
  |(go_at_call 181;have t4:=T4.out;clear T4;refine(Jv q (by omega) _).mono ?_;rintro e w5 ⟨rfl,ay⟩;have T5:=Zka (t4.trans (ay.mono t4.size));clear ay t4)
  |(go_at_call 215;refine(Z5Z p.size (by omega) _).mono ?_;rw[HX.out.2.2.2.2.1];rintro e w8 ⟨rfl,rfl⟩)
  |(go_at_call 120;rw[HD.out];refine(Tryz.strings_Repeat ⟨#[0]⟩ z _ (by omega) (by show 1*z<=_;omega)).mono ?_;rw[Ji];rintro e w6 ⟨rfl,az⟩;have t5:=T5.out;have T6:=Zka (t5.trans (az.mono t5.size));clear az t5))
 go_ret2
 exact⟨by rw[HF.out];rfl,T6.out⟩
theorem Zbc(ss:List ByteArray)(k:Nat)(h:k<ss.length):Z6 (ss.take (k+1))=Z6 (ss.take k)++[.string (ss.getD k ⟨#[]⟩)]:=by
 rw[ZjK h,Z5I,ZjE,ZjF h];rfl
theorem Z6h(ss:List ByteArray)(k:Nat)(h:k<ss.length):
  Zv (ZT ss)=(Z4 ss.length++We (ZT (ss.take k)))++(Z4 (ss.getD k ⟨#[]⟩).size++((ss.getD k ⟨#[]⟩).data.toList++We (ZT (ss.drop (k+1))))):=by
 have e:ss=ss.take k++[ss.getD k ⟨#[]⟩]++ss.drop (k+1):=by
  have h1:=(Zk4 (k+1) ss).symm
  rw[ZjK h] at h1
  rw[ZjE,ZjF h]
  exact h1
 have e2:ZT ss=ZT (ss.take k)++[(ss.getD k ⟨#[]⟩).data.toList]++ZT (ss.drop (k+1)):=by
  unfold ZT
  rw[<-List.map_singleton (f:=fun s:ByteArray=>s.data.toList),<-ZjZ,<-ZjZ,<-e]
 rw[Zv,WJ,e2,Z1R,Z1R,Z7V,size_data]
 simp
theorem Z2j(ss:List ByteArray)(k:Nat):(Z4 ss.length++We (ZT (ss.take k))).length=4+Zt (ZT (ss.take k)):=by
 rw[ZjI,Z0p];rfl
theorem Z0N(s:ByteArray)(ss:List ByteArray)(w:World)(h:s.data.toList=Zv (ZT ss))(hs:s.size<=100000):
  Calls prog 155 #[.string s] w fun e w'=>∃a cap,e=.returned (.tuple #[.slice a ss.length cap,.nilIface])/\w'.ownsRow w.heap.size 9 1 (.slice a ss.length cap) ss.length (Z6 ss)/\Below w.heap.size w w':=by
 obtain⟨j0,cw,dc,de,df⟩:=info_parts XK
 have hlen:s.size=4+Zt (ZT ss):=by rw[W7 h,ZF]
 have dj:4*ss.length<=100000:=by have:=Yv (ZT ss);rw[WJ] at this;omega
 have hr:YI s.data.toList=ss.length:=by
  rw[h,Zv,Yy _ (by rw[WJ];omega),WJ]
 have bu:4<=s.size:=by omega
 have dm:ss.length<=s.size-4:=by have:=Yv (ZT ss);rw[WJ] at this;omega
 have cy:(ss.length:Int)<=(s.size:Int)-4:=by omega
 have aj:∀k,k<ss.length->4+Zt (ZT (ss.take k))+4+(ss.getD k ⟨#[]⟩).size+Zt (ZT (ss.drop (k+1)))=s.size:=fun k hk=>by
  rw[W7 h,Z6h ss k hk,ZjI,Z2j,ZjI,ZjI,Z0p,size_data];simp[Zq];omega
 have ai:∀k,k<ss.length->4+Zt (ZT (ss.take (k+1)))=4+Zt (ZT (ss.take k))+4+(ss.getD k ⟨#[]⟩).size:=fun k hk=>by
  rw[Z1l ss k hk,J8,Z1Q,size_data];omega
 have bq:∀k,k<ss.length->YI (s.extract (4+Zt (ZT (ss.take k))) s.size).data.toList=(ss.getD k ⟨#[]⟩).size:=fun k hk=>by
  rw[Lib.extract_to_end,h,Z6h ss k hk,<-Z2j ss k,List.drop_left,Yy _ (by have:=aj k hk;omega)]
 have hcut:∀k,k<ss.length->s.extract (4+Zt (ZT (ss.take k))+4) (4+Zt (ZT (ss.take k))+4+(ss.getD k ⟨#[]⟩).size)=ss.getD k ⟨#[]⟩:=fun k hk=>by
  have:=Z6t (s:=s) (a:=Z4 ss.length++We (ZT (ss.take k))++Z4 (ss.getD k ⟨#[]⟩).size) (m:=(ss.getD k ⟨#[]⟩).data.toList) (r:=We (ZT (ss.drop (k+1)))) (by rw[h,Z6h ss k hk];simp) (4+Zt (ZT (ss.take k))+4) (4+Zt (ZT (ss.take k))+4+(ss.getD k ⟨#[]⟩).size) (by rw[ZjI,Z2j];rfl) (by rw[ZjI,Z2j,size_data];rfl)
  rw[this]
 have H:=Zka h
 have HL:=Zka hlen
 have HR:=Zka hr
 have HE:=Zka aj
 have HS:=Zka ai
 have ct:=Zka bq
 have HC:=Zka hcut
 clear h hlen hr aj ai bq hcut
 go_enter func155,ntmps155
 have M0:=Zka True.intro
 go_wp2_with (first
  |(go_at_call 214;have m0:=M0.out;clear M0 m0;refine(Z3w _ bu _).mono ?_;rw[HR.out];rintro e w1 ⟨rfl,bj⟩;have M1:=Zka bj;clear bj)
  |(go_at_call 214;refine(Z3w _ bu _).mono ?_;rw[HR.out];rintro e w2 ⟨rfl,bm⟩;have M2:=Zka (M1.out.trans (bm.mono M1.out.size));clear bm))
 have ak:=M2.out
 go_loopw [5,6,25] (fun l z i wr=>∃k:Nat,k<=ss.length/\i=.int .i64 k/\z=.int .i64 ((4+Zt (ZT (ss.take k)):Nat):Int)/\wr.ownsRow w.heap.size 9 1 l k (Z6 (ss.take k))/\Below w.heap.size w wr) (fun _ _ i _=>ss.length- (intOf i).toNat)
 case atStart=>exact⟨0,by omega,rfl,rfl,World.ownsRow_nil _ _ _ _,ak⟩
 case round=>
  obtain⟨k,hk,rfl,rfl,ae,af⟩:=hrel
  have hz:=af.size
  by_cases aq:k<ss.length
  ·have he:=HE.out k aq
   have az:=HS.out k aq
   have hr:=ct.out k aq
   have hc:=HC.out k aq
   have b9:=Zbc ss k aq
   obtain⟨t,ht⟩:∃t,ss.getD k ⟨#[]⟩=t:=⟨_,rfl⟩
   obtain⟨z,bg⟩:∃z,4+Zt (ZT (ss.take k))=z:=⟨_,rfl⟩
   rw[ht] at he az hr hc b9
   rw[bg] at he az hr hc⊢
   have e1:z+4+t.size<=s.size:=by omega
   have e2:¬ ((s.size:Int)- (z:Int)<4):=by omega
   have e3:¬ ((s.size:Int)- (z:Int)-4<(t.size:Int)):=by omega
   have e4:(z:Int)<=(s.size:Int):=by omega
   have e5:(z:Int)+4+(t.size:Int)<=(s.size:Int):=by omega
   have bz:4<=(s.extract z s.size).size:=by rw[ByteArray.size_extract];omega
   have cz:t.size<=140737488355328:=by omega
   have dh:=Zka he
   have cu:=Zka az
   have bh:=Zka hr
   have cr:=Zka hc
   have HT:=Zka b9
   have HX:=Zka (Zkb ht bg)
   have S0:=Zka (Zkb ae af)
   have M0:=Zka True.intro
   clear he az hr hc b9 ht bg ae af
   go_wp2_with (first
    |(go_at_call 214;have m0:=M0.out;clear M0 m0;refine(Z3w _ bz _).mono ?_;rw[bh.out];rintro e w3 ⟨rfl,aw⟩;have M1:=Zka (Zkb (Y3 S0.out.1 aw) (S0.out.2.trans (aw.mono hz)));have cj:=Zk1 hz aw.size;clear aw)
    |(go_at_call 214;have m1:=M1.out;clear M1;refine(Z3w _ bz _).mono ?_;rw[bh.out];rintro e w4 ⟨rfl,ax⟩;have M2:=Zka (Zkb (Y3 m1.1 ax) (m1.2.trans (ax.mono cj)));have cn:=Zk1 cj ax.size;clear ax m1)
    |(go_at_call 216;rw[cr.out];refine(Z4b _ _ cz).mono ?_;rintro e w5 ⟨rfl,ay⟩;have m2:=M2.out;clear M2;have M3:=Zka (Zkb (Y3 m2.1 ay) (m2.2.trans (ay.mono cn)));have bf:=Zk1 cn ay.size;clear ay m2)
    |(at_builtin;have m3:=M3.out;clear M3;refine wpList_append_own _ rfl (.tmp 57) (.tmp 63) 96 rfl w.heap.size 9 j0 _ 1 16 underlying96 cw dc de df rfl (by omega) _ k (Z6 (ss.take k)) rfl (m3.1.alloc _) ⟨w5.heap.size,0,none⟩ 1 1 [.string t] rfl rfl (World.news_of_block (cs:= #[.string t]) (t:=9) (fr:=(0,0)) (heap_alloc_new w5 _)) (by simp[Value.oneCell']) (by unfold maxLen;omega) (by omega) (Zk1 bf (by simp)) ?_;intro v' w7 ah al au;clear au;have S4:=Zka (Zkb ah (Xb (m3.1.alloc _) (m3.2.alloc bf _) (Zk1 bf (by simp)) al));clear ah al))
   go_roundw
   case measure=>simp[intOf];omega
   case rel=>
    refine⟨k+1,by omega,by go_num,Xy ?_,?_,S4.out.2⟩
    ·rw[cu.out];omega
    ·rw[HT.out];exact S4.out.1
  ·obtain rfl:k=ss.length:=by omega
   rw[Zk5] at ae⊢
   obtain⟨a,cap,rfl⟩:=Wx ae
   have ag:4+Zt (ZT ss)=s.size:=HL.out.symm
   rw[ag]
   have S0:=Zka (Zkb ae af)
   clear ae af ag
   go_wp2
   go_ret2
   exact⟨a,cap,rfl,S0.out.1,S0.out.2⟩
end
end Go.Proofs.YthppfllkocphbaaGreatDoor
