/-
  Part 24 of the proof: lemmas about what the program computes.
-/
import Derived.Test.YthppfllkocphbaaGreatDoorQ20
namespace Go.Proofs.YthppfllkocphbaaGreatDoor
set_option linter.unusedVariables false
set_option linter.unusedSimpArgs false
set_option maxHeartbeats 25600000
set_option maxRecDepth 100000
open Tryz
section
open Go.RowKit Go.Shelf
theorem Zfk(B:Nat)(w:World)(G:Eg)(V:Ev)(bl:List Nat)(K:List Bs)(E i:Nat)(S:Sto)(key v:Bs)(h:EAt B w G V bl)(ht:Ty w)(cw:0<B)(hi:i<G.n)(hM:V.Ms i=some S)(de:1<=key.length)(bf:key.length<=200)(hv:v.length<=200)(b9:1<=V.k)(cr:V.k+V.m=G.n)(hg:V.P.gone=false)(hb:Q8 K E (V.Ds i) S)(af:Z8z V G.n)(ae:stR (V.Ds i).reads S.dir (nmD key)=some (some (shL V.k V.m i key v))):
  Calls prog 45 #[.pointer (some ⟨G.s,0,none⟩),.int .i64 (i:Int),.string (str key)] w fun e w'=>e=.returned .nilIface/\Zf B G bl V w w':=by
 have hn:=h.nle
 have c4:=h.scell.cell (j:=4) rfl
 have c2:=h.scell.cell (j:=2) rfl
 have bm:(List.range G.n).any (WE V key)=true:=List.any_eq_true.2 ⟨i,List.mem_range.2 hi,by
  unfold WE
  rw[hM]
  simp only
  cases h9:S.dir.get (nmD key) with
  |none=>rw[stR,h9] at ae;cases ae
  |some e=>rfl⟩
 obtain⟨e,aq⟩:∃e,S.dir.get (nmD key)=some e:=by
  cases h9:S.dir.get (nmD key) with
  |none=>rw[stR,h9] at ae;cases ae
  |some e=>exact⟨e,rfl⟩
 obtain⟨ct,df⟩:=af i hi S hM _ _ aq
 have bg:(nmD key).length<=1000000:=by simp[nmD];omega
 have hm:(decide (1<=(str key).size)&&decide ((str key).size<=200))=true:=by rw[Z5];simp;omega
 have aj:=Z88 B w G V bl key h bf af
 rw[bm] at aj
 have ag:=Z37 key (by omega)
 have cy:decide ((i:Int)<0)=false:=by simp
 have cz:decide ((i:Int)≥(G.n:Int))=false:=by simp;omega
 have dc:(i:Int)<(G.n:Int):=by omega
 have H:=Zka (Zkb h (Zkb aj (Zkb hM (Zkb ht (Zkb hb (Zkb ae (Zkb aq ag)))))))
 clear h aj bm hM ht hb ae aq ag af
 go_enter func45,ntmps45
 go_wp2_with (first
  |(go_at_call 66;refine(Z3a _ _).mono ?_;rw[hm];rintro e w1 ⟨rfl,rfl⟩)
  |(go_at_call 67;refine H.out.2.1.mono ?_;rintro e w2 ⟨rfl,ak,e2,g2,f2⟩;have R2:=Zka (Zkb e2 (Zkb g2 f2));have bq:=e2.scell.cell (j:=2) rfl;have bz:=e2.mcell hi;obtain⟨s,ai,bj,hd,L,bh⟩:=e2.mem hi H.out.2.2.1;have x0:=ai.cell (j:=0) rfl;have R3:=Zka (Zkb ai (Zkb bj (Zkb hd bh)));clear e2 g2 f2 ai bj hd bh c2 c4)
  |(go_at_call 22;obtain⟨cn,v9, -,ay⟩:=R3.out.2.2.2.dk;refine(Z39 _ _ cn v9 _ _ ay).mono ?_;rw[R3.out.2.2.1];rintro e w4 ⟨rfl,rfl⟩;clear ay x0)
  |(go_at_call 34;refine(JX B _ G V ak i R2.out.1 hi S H.out.2.2.1).mono ?_;rintro e w5 ⟨rfl,au⟩;have R5:=Zka au;clear au bq bz)
  |(go_at_call 35;have t2:=Zf.ty (w:=w) ⟨ak,R2.out⟩ H.out.1 H.out.2.2.2.1;refine(Z4i B _ G V ak (R2.out.1.after R5.out) hg).mono ?_;rintro e w6 ⟨cu,rfl,az,aw⟩;obtain rfl:=az.zero;have ah:=R5.out.trans (aw.mono R5.out.size);have bu:=(R2.out.1.after ah).scell.cell (j:=2) rfl;have cj:=(R2.out.1.after ah).mcell hi;have x1:=(R3.out.1.after ah).cell (j:=1) rfl;have ag:=H.out.2.2.2.2.2.2.2;have R6:=Zka ah;clear az aw ah t2)
  |(go_at_call 97;refine(Z12 s (G.ds i) S (nmD key) e _ (R3.out.2.1.after R6.out) bg H.out.2.2.2.2.2.2.1 ct (by omega)).mono ?_;rintro e7 w7 ⟨v7,rfl, -,ah⟩;have R7:=Zka (R6.out.trans (ah.mono R6.out.size));clear ah bu cj x1 ag)
  |(go_at_call 100;have al:=R2.out.1.after R7.out;refine(Z83 G.s G.ms (G.xs i) s V.k V.m i G.cap G.n key v _ b9 (by omega) hi cr.symm hv bf (al.scell.cell (j:=0) rfl) (al.scell.cell (j:=2) rfl) (al.mcell hi) ((R3.out.1.after R7.out).cell (j:=1) rfl) (Z3s (R3.out.2.2.2.after R7.out) (R3.out.2.1.after R7.out) H.out.2.2.2.2.1 hg R3.out.2.2.1 bg (by simp[nmD];omega) (Z3C (m:=V.m) (i:=i) (key:=key) b9 hv).2 H.out.2.2.2.2.2.1)).mono ?_;rintro e8 w8 ⟨rfl,ax⟩;have R8:=Zka (R7.out.trans (ax.mono R7.out.size));clear ax al))
 go_ret
 exact⟨rfl,Zf.after ⟨ak,R2.out⟩ R8.out⟩
theorem Z4h(b ms q i n cap p d gh t:Nat)(v sv lf inn:Value)(D:Dk)(w:World)(hi:i<n)(c2:w.cell? ⟨b,2,none⟩=some (.slice (some ⟨ms,0,none⟩) n cap))(cm:w.cell? ⟨ms,i,none⟩=some (.pointer (some ⟨q,0,none⟩)))(hr:Row w q 91 [.pointer (some ⟨d,0,none⟩),sv,lf,inn])(hd:Zr w p d gh v D):
  Calls prog 65 #[.pointer (some ⟨b,0,none⟩),.int .i64 (i:Int),.pointer (some ⟨t,0,none⟩)] w fun e w'=>e=.returned (.tuple #[])/\Row w' q 91 [.pointer (some ⟨d,0,none⟩),.pointer (some ⟨t,0,none⟩),.int .i64 D.life,.bool true]/\Fr [q] w w':=by
 have ae:(i:Int)<(n:Int):=by omega
 have x0:=hr.cell (j:=0) rfl
 have x1:=hr.cell (j:=1) rfl
 have x2:=hr.cell (j:=2) rfl
 have x3:=hr.cell (j:=3) rfl
 have f1:=hr.free (j:=1) (by simp)
 have f2:=hr.free (j:=2) (by simp)
 have f3:=hr.free (j:=3) (by simp)
 have H:=Zka (Zkb hr hd)
 clear hr hd
 go_enter func65,ntmps65
 go_wp2_with (go_at_call 72;refine(Z3n p d gh v D _ H.out.2).mono ?_;rintro e w' ⟨rfl,rfl⟩)
 go_end0
 exact⟨rfl,((H.out.1.set 1 (.pointer (some ⟨t,0,none⟩))).set 2 (.int .i64 D.life)).set 3 (.bool true),(((Fr.refl _ _).setCell (Or.inl (by simp)) _).setCell (Or.inl (by simp)) _).setCell (Or.inl (by simp)) _⟩
end
section
open Go.RowKit
variable{K:List Bs}{R:Nat->ByteArray}
def QY(k m i g:Nat):Ac:=⟨1,nmC,[],QJ k m i g⟩
theorem Z4n(R:Nat->ByteArray):YL 800 100 (Zm (Jn.format 100) R) Sto.first [] where
 nn:=rfl
 hh:=rfl
 jhalf:=rfl
 open_:=rfl
 img:=by
  have h:=Yk.format R 100 (by decide)
  show Yk (Zm (Jn.format 100) R) (Jn.first 100) []
  exact h
 dir:=rfl
 pre:=fun k hk=>by simpa using Z62
 used:=rfl
 small:=by simp
 few:=by simp
 recs:=by simp
theorem Zf6{S:Sto}{recs:List Rec}(hi:YL 800 100 R S recs)(ai:Dir.Sm (Yi K) S.dir)(hK:KOk K){acts:List Ac}(hw:∀a∈acts,a.wrong=false)(ha:∀a∈acts,Ac.Sm (Yi K) a)(hl:acts.length<=12)(ae:acts≠[]){d0:Dir}{f:Z1}
  (hd:Ql acts 0 S.dir []=some (d0,f)) (ag:∃m,f.by m≠none∨(S.dir.get m≠none/\d0.get m=none)) (af:d0≠[]):∃d,Yd K S acts d f:=by
 obtain⟨d,h1,h2,h3,h4⟩:=Z4d hi (fun m hm=>(Z0a hK m hm).2) (Z5c hK) ai hw ha hl hd ag af
 have ah:=YO R hi.ok hi.used hw h1
 refine⟨d,h1,h2,hw,ae,hl,fun o ho=> ?_,h3⟩
 unfold Sto.ops at ho
 rcases ZjU.1 ho with ho|ho
 ·exact Zbq ah o ho
 ·have:=Z7d h2 o ho
  rw[hi.jhalf] at this
  cases o with
  |wr a s=>exact⟨Zk0 this.1 (by omega),this.2⟩
  |fl=>trivial
theorem Z35(hK:KOk K)(k m i g:Nat):∃d f,Yd K Sto.first [QY k m i g] d f:=by
 have hi:=Z4n (fun _=>Qf)
 obtain⟨d0,f,hd⟩:=Z5v (l:=[QY k m i g]) (by simp[QY]) 0 Sto.first.dir []
 have ae:f.by nmC≠none/\d0.get nmC≠none:=Z5u (a:=QY k m i g) (l:=[]) rfl (by simpa using hd)
 have af:Ac.wrong (QY k m i g)=false/\Ac.Sm (Yi K) (QY k m i g):=put_ok hK (YD.2 (by simp)) (by rw[Z0j];omega) (by rw[Z0j];omega)
 obtain⟨d,ha⟩:=Zf6 hi (K:=K) (S:=Sto.first) (fun x hx=>by cases hx) hK (acts:=[QY k m i g]) (by simpa using af.1) (by simpa using af.2) (by simp) (by simp) hd ⟨nmC,Or.inl ae.1⟩ (fun e=>ae.2 (by rw[e];rfl))
 exact⟨d,f,ha⟩
def JB(k m i g:Nat):Tab:=fun n=>if n=nmC then some (some (QJ k m i g)) else none
theorem ZdG{k m i g:Nat}{D:Dk}{d:Dir}{f:Z1}(hK:KOk K)(ok:D.ok 800)(hR:D.reads=Zm (Jn.format 100) R)(ha:Yd K Sto.first [QY k m i g] d f):
  Q8 K 2 (Q1 (Sto.first.ops [QY k m i g] d f) D) (Sto.first.done d f)/\stR (Q1 (Sto.first.ops [QY k m i g] d f) D).reads (Sto.first.done d f).dir=JB k m i g:=by
 have hi:YL 800 100 D.reads Sto.first []:=by rw[hR];exact Z4n R
 have ae:=YO D.reads hi.ok hi.used ha.wrong ha.plan
 have e1:(Q1 (Sto.first.ops [QY k m i g] d f) D).reads=Zm (Sto.first.ops [QY k m i g] d f) D.reads:=Jd ok.fit ha.in_
 refine⟨⟨⟨Sto.first.recs' [] d f,?_,?_⟩,ha.sm,?_,?_⟩,?_⟩
 ·rw[e1];exact hi.commit (by omega) (by omega) (by omega) ae ha.room
 ·unfold Sto.recs';split<;>simp
 ·obtain⟨l,hl⟩:=Zbx Sto.first [QY k m i g] d f
  rw[hl];exact Z28 l D
 ·exact Z7X Sto.first d f
 ·rw[e1]
  rw[show(Sto.first.done d f).dir=d from rfl,Z6O hi ae ha.room]
  rfl
theorem Zc3(k m i g:Nat):WT k m i g (fun _=>none) (JB k m i g) where
 card:=by simp[JB]
 next:=by unfold JB;rw[if_neg (by decide)]
 under:=by unfold JB;rw[if_neg (by decide)]
 staged:=fun x=>by unfold JB;rw[if_neg (by unfold nmS nmC;simp)]
 none_:=fun x _=>by unfold JB;rw[if_neg (by unfold nmD nmC;simp)]
 some_:=fun x v h=>by cases h
 other:=fun n h=>by
  unfold JB at h
  by_cases e:n=nmC
  ·exact Or.inl e
  ·rw[if_neg e] at h;exact absurd rfl h
theorem Zap(k m i:Nat)(T:Tab):Z30 k m i (fun _=>none) T:=fun x v h=>by cases h
end
section
open Go.RowKit Go.Shelf
structure BlA(B:Nat)(w:World)(G:Eg)(i:Nat)(L:List Nat)(P1:Pw)(D1:Dk)(s j:Nat)(L1:List Nat)(w1:World):Prop where
 pd:PD B w1 G.p (G.ds i) 800 P1 D1 L1
 grew:∀k∈L1,k∈L∨w.heap.size<=k
 fr:Fr (G.p::L) w w1
 sge:w.heap.size<=s
 jge:w.heap.size<=j
 st:Wi w1 s j (G.ds i) Sto.first
theorem BlA.after{B:Nat}{w:World}{G:Eg}{i:Nat}{L:List Nat}{P1:Pw}{D1:Dk}{s j:Nat}{L1:List Nat}{w1 w2:World}(h:BlA B w G i L P1 D1 s j L1 w1)(hb:Below w1.heap.size w1 w2):BlA B w G i L P1 D1 s j L1 w2:=
 ⟨h.pd.after hb,h.grew,h.fr.trans (Fr.of_below (L:=[]) hb) (by simp),h.sge,h.jge,h.st.fr (Fr.of_below (L:=[]) hb) (ts:=[]) (fun k hk=>by cases hk) (by simp) (by simp) (by simp) (by simp)⟩
theorem Z7v{B:Nat}{w w1:World}{G:Eg}{V:Ev}{Ls Os:Nat->List Nat}{i:Nat}{sv ev:Value}(hf:ZbL B G.p (G.ds i) (Ls i) V.P (V.Ds i) w sv ev w1)(h0:(Z2 (Jn.format 100) V.P (V.Ds i)).1=0):
  ev=.nilIface/\∃s j L1,sv=.pointer (some ⟨s,0,none⟩)/\BlA B w G i (Ls i) (Z2 (Jn.format 100) V.P (V.Ds i)).2.1 (Z2 (Jn.format 100) V.P (V.Ds i)).2.2 s j L1 w1:=by
 have he:=hf.err
 rw[h0] at he
 obtain⟨s,rfl,af,ae⟩:=hf.sto h0
 obtain⟨hs,j,hj,ae⟩:=ae.j
 obtain⟨L1,hd⟩:=hf.ran
 exact⟨he.zero,s,j,L1,rfl,hd.pd,hd.grew,by simpa using hd.fr,af,hj,ae⟩
section
variable{B:Nat}{w w1 w4 w5:World}{G:Eg}{V:Ev}{Ls Os:Nat->List Nat}{i s j:Nat}{P1:Pw}{D1:Dk}{L1:List Nat}{ops:List DOp}{S1:Sto}
theorem Z36(hA:BlA B w G i (Ls i) P1 D1 s j L1 w1){L2:List Nat}{P2:Pw}{D2:Dk}(hd:Did B G.p (G.ds i) 800 L1 [s,j] P2 D2 w1 w4 L2):Fr (G.p::Ls i) w w4/\∀k∈L2,k∈Ls i∨w.heap.size<=k:=by
 have hz:=hA.fr.size
 refine⟨hA.fr.trans hd.fr (fun k hk ae=> ?_),fun k hk=> ?_⟩
 ·simp only[List.cons_append,List.nil_append,ZjV] at hk
  rcases hk with rfl|rfl|rfl|hk
  ·have:=hA.sge;omega
  ·have:=hA.jge;omega
  ·simp
  ·rcases hA.grew k hk with h9|h9
   ·exact ZjS _ h9
   ·omega
 ·rcases hd.grew k hk with h9|h9
  ·exact hA.grew k h9
  ·exact Or.inr (by omega)
theorem Z8L(hp:Q0 B w G V Ls Os)(hi:i<G.n){sv:Value}{lf:Int}{inn:Bool}(hO:Os i=[G.xs i])(hA:BlA B w G i (Ls i) P1 D1 s j L1 w1)(hC:Z8q B G.p (G.ds i) s j L1 ops S1 P1 D1 w1 w4)(h0:(Z2 ops P1 D1).1=0)(ae:D1.dead=false)(hE:Row w5 (G.xs i) 91 [.pointer (some ⟨G.ds i,0,none⟩),.pointer (some ⟨s,0,none⟩),.int .i64 (Z2 ops P1 D1).2.2.life,.bool true]){o:List Value}(hx:Row w4 (G.xs i) 91 o)(hf:Fr [G.xs i] w4 w5):Zf B G (WU G Ls Os) {V with P:=(Z2 ops P1 D1).2.1,Ds:=upd V.Ds i (Z2 ops P1 D1).2.2,Ms:=upd V.Ms i (some S1)} w w5:=by
 obtain⟨L2,hd⟩:=hC.ran
 obtain⟨h1,h2⟩:=Z36 hA hd
 have ag:=hC.ok h0
 have hl:=Wz ops P1 D1
 have af:Zs w4 [G.xs i] [91]:=Zs.row hx (by simp)
 have ai:s∉[G.xs i]:=by obtain⟨b,uv,r1,_⟩:=ag;exact af.row_ne r1 (by decide)
 have ah:j∉[G.xs i]:=by obtain⟨b,uv,_,r2,_⟩:=ag;exact af.row_ne r2 (by decide)
 refine hp.step hi (X:=[G.xs i]) (L':=L2) (O':=[G.xs i,s,j]) ?_ (by rw[hO];simp) (hd.pd.fr hf (af.disj hd.pd.typed (by decide))) ⟨s,j,rfl,hE,ag.fr hf af (by decide) (by decide) ai ah,by rw[hl.2];exact ae⟩ h2 (fun k hk=> ?_)
 ·refine(h1.mono (fun k hk _=>ZjS _ hk)).trans hf (fun k hk _=> ?_)
  rw[ZjD] at hk
  subst hk;simp
 ·rw[hO]
  simp only[ZjV,Zk3,or_false] at hk⊢
  rcases hk with rfl|rfl|rfl
  ·exact Or.inl rfl
  ·exact Or.inr hA.sge
  ·exact Or.inr hA.jge
end
theorem Zcp:∃l,Jn.format 100=l++[.fl]:=by
 unfold Jn.format Jn.lay
 exact⟨_,by rw[<-ZjL,<-ZjL,<-ZjL]⟩
theorem Z7w{P:Pw}{D:Dk}(ok:D.ok 800)(hd:D.dead=false)(h0:(Z2 (Jn.format 100) P D).1=0):YL 800 100 (Z2 (Jn.format 100) P D).2.2.reads Sto.first []/\(Z2 (Jn.format 100) P D).2.2.wait=[]/\(Z2 (Jn.format 100) P D).2.2.dead=false:=by
 have ae:∀o∈Jn.format 100,o.In 800:=fun o ho=>by
  have:=Z7J 100 (by decide) o ho
  cases o with
  |wr a s=>exact⟨Zk0 this.1 (by decide),this.2⟩
  |fl=>trivial
 have hz:=Z5H (Jn.format 100) (P:=P) ae ok.fit hd h0
 have hl:=Wz (Jn.format 100) P D
 refine⟨?_,?_,by rw[hl.2];exact hd⟩
 ·rw[hz,Jd ok.fit ae];exact Z4n _
 ·obtain⟨l,e⟩:=Zcp
  rw[hz,e];exact Z28 l D
theorem Z5P{w:World}{g:Nat}{a:Ac}(h:Row w g 151 (AcC a)):WW w g 0 [a]:=by
 refine⟨⟨h.lt,fun k hk=> ?_⟩,_,h⟩
 have ae:k=0:=by simp at hk;omega
 subst ae
 exact⟨h.cell (j:=0) rfl,h.cell (j:=1) rfl,h.cell (j:=2) rfl,h.cell (j:=3) rfl⟩
theorem BlA.keep{B:Nat}{w w1:World}{G:Eg}{V:Ev}{Ls Os:Nat->List Nat}{i:Nat}{P1:Pw}{D1:Dk}{s j:Nat}{L1:List Nat}(h:BlA B w G i (Ls i) P1 D1 s j L1 w1)(hp:Q0 B w G V Ls Os)(hi:i<G.n){g:Nat}{e:TypeId}{l:List Value}(hr:Row w g e l)(he:e∉Z4f):Row w1 g e l:=hr.fr h.fr ((hp.pd i hi).typed.row_ne hr he)
theorem BlA.ty{B:Nat}{w w1:World}{G:Eg}{V:Ev}{Ls Os:Nat->List Nat}{i:Nat}{P1:Pw}{D1:Dk}{s j:Nat}{L1:List Nat}(h:BlA B w G i (Ls i) P1 D1 s j L1 w1)(hp:Q0 B w G V Ls Os)(hi:i<G.n)(ae:B<=w.heap.size)(ht:Ty w)(af:0<B):Ty w1:=by
 have hb:Below B w w1:=h.fr.below ae (fun k hk=>by
  rcases ZjV.1 hk with rfl|hk
  ·exact(hp.pd i hi).bp
  ·exact(hp.pd i hi).bL k hk)
 unfold Ty at ht⊢
 rw[hb.cell (p:=⟨0,0,none⟩) af]
 exact ht
theorem Z1I{B:Nat}{w w3:World}{G:Eg}{K:List Bs}{i:Nat}{L:List Nat}{P1:Pw}{D1:Dk}{s j:Nat}{L1:List Nat}{acts:List Ac}{d:Dir}{f:Z1}{ga:Nat}(hA:BlA B w G i L P1 D1 s j L1 w3)(ak:B<=w.heap.size)(ty:Ty w3)(ai:0<B)(af:YL 800 100 D1.reads Sto.first [])(ae:D1.wait=[])(ha:Yd K Sto.first acts d f)(ag:WW w3 ga 0 acts){na ca:Nat}(aj:na=acts.length)(ah:na<=ca):
  Calls prog 38 #[.pointer (some ⟨s,0,none⟩),.slice (some ⟨ga,0,none⟩) na ca] w3 (Ans w3.heap.size (Z2 (Sto.first.go acts) P1 D1).1 (Z8q B G.p (G.ds i) s j L1 (Sto.first.go acts) (Sto.first.nx acts) P1 D1 w3)):=by
 rw[ha.go,ha.nx]
 have h1:=hA.sge
 have h2:=hA.jge
 have h3:=hA.fr.size
 exact Z6s B G.p (G.ds i) P1 D1 L1 s j ga 0 na ca Sto.first [] D1.reads acts d f w3 hA.pd (by omega) hA.st (by omega) (by omega) ag aj ah af ha.plan ha.room ha.wrong ha.ne ha.few (by rw[ae];simp) ty ai (by show(1:Nat)<=2000000000;omega) (by show(0:Nat)<=10000;omega)
def Qr(k m i g:Nat)(P:Pw)(D:Dk):Int×Pw×Dk:=if(Z2 (Jn.format 100) P D).1=0 then Z2 (Sto.first.go [QY k m i g]) (Z2 (Jn.format 100) P D).2.1 (Z2 (Jn.format 100) P D).2.2 else Z2 (Jn.format 100) P D
end
section
open Go.RowKit Go.Shelf
variable{B k m s t:Nat}{ds xs:Nat->Nat}{v:Value}{w w' wr:World}
structure Z0D(B:Nat)(s k m:Nat)(ds:Nat->Nat)(t:Nat)(v:Value)(xs:Nat->Nat)(w wr:World):Prop where
 set:Row wr s 78 [.int .i64 (k:Int),.int .i64 (m:Int),v,.int .i64 0,.bool false]
 own:wr.ownsRow B 92 1 v t (Wm t xs)
 mem:∀i,i<t->Row wr (xs i) 91 [.pointer (some ⟨ds i,0,none⟩),.pointer none,.int .i64 0,.bool false]
 ge:∀i,i<t->B<=xs i
 inj:∀i j,i<t->j<t->xs i=xs j->i=j
 sge:B<=s
 bel:Below B w wr
theorem Z0D.after(h:Z0D B s k m ds t v xs w wr)(ae:B<=w.heap.size)(hb:Below wr.heap.size wr w'):Z0D B s k m ds t v xs w w':=
 ⟨h.set.after hb,QK h.own hb,fun i hi=>(h.mem i hi).after hb,h.ge,h.inj,h.sge,h.bel.trans (hb.mono (by have:=h.bel.size;omega))⟩
theorem Z0D.put(h:Z0D B s k m ds t v xs w wr)(hf:Fr (ZE v) wr w'):Row w' s 78 [.int .i64 (k:Int),.int .i64 (m:Int),v,.int .i64 0,.bool false]:=h.set.fr hf (fun hm=>by
 obtain⟨l2,h2⟩:=Qw h.own s hm
 exact Row.ne h.set h2 (by decide) rfl)
theorem Z0D.next{g n c x:Nat}(h:Z0D B s k m ds t v xs w wr)(aq:B<=w.heap.size)(hx:Row wr x 91 [.pointer (some ⟨ds t,0,none⟩),.pointer none,.int .i64 0,.bool false])(al:B<=x)(af:∀i,i<t->xs i≠x)(ho:w'.ownsRow B 92 1 (.slice (some ⟨g,0,none⟩) n c) (t+1) (Wm t xs++[.pointer (some ⟨x,0,none⟩)]))(hf:Fr (ZE v) wr w'):Z0D B s k m ds (t+1) (.slice (some ⟨g,0,none⟩) n c) (upd xs t x) w (w'.setCell ⟨s,2,none⟩ (.slice (some ⟨g,0,none⟩) n c)):=by
 have hs:=h.set
 have ah:∀{y:Nat} {e:TypeId} {l:List Value},Row wr y e l->e≠92->y∉ZE v:=fun{y e l} hy he hm=>by
  obtain⟨l2,h2⟩:=Qw h.own y hm
  exact Row.ne hy h2 he rfl
 have ai:=hs.fr hf (ah hs (by decide))
 have ag:Fr [s] w' (w'.setCell ⟨s,2,none⟩ (.slice (some ⟨g,0,none⟩) n c)):=(Fr.refl _ _).setCell (Or.inl (by simp)) _
 have ae:∀{y:Nat} {l:List Value},Row wr y 91 l->Row (w'.setCell ⟨s,2,none⟩ (.slice (some ⟨g,0,none⟩) n c)) y 91 l:=fun{y l} hy=>
  (hy.fr hf (ah hy (by decide))).fr ag (by simp only[ZjD];exact Row.ne hy hs (by decide))
 have ak:Wm (t+1) (upd xs t x)=Wm t xs++[.pointer (some ⟨x,0,none⟩)]:=by
  unfold Wm
  rw[List.range_succ,ZjZ]
  simp only[ZjY,List.map_nil,Zn]
  congr 1
  refine List.map_congr_left fun i hi=> ?_
  rw[List.mem_range] at hi
  rw[Z7 _ _ (by omega)]
 refine⟨ai.set 2 _,?_,fun i hi=> ?_,fun i hi=> ?_,fun i j hi hj e=> ?_,h.sge,?_⟩
 ·rw[ak]
  refine Wf ho ag (fun q hq hm=> ?_)
  rw[ZjD] at hm
  subst hm
  obtain⟨l2,h2⟩:=Qw ho q hq
  exact Row.ne ai h2 (by decide) rfl
 ·by_cases e:i=t
  ·subst e;rw[Zn];exact ae hx
  ·rw[Z7 _ _ e];exact ae (h.mem i (by omega))
 ·by_cases e:i=t
  ·subst e;rw[Zn];exact al
  ·rw[Z7 _ _ e];exact h.ge i (by omega)
 ·by_cases ei:i=t
  ·by_cases ej:j=t
   ·omega
   ·rw[ei,Zn,Z7 _ _ ej] at e
    exact absurd e.symm (af j (by omega))
  ·by_cases ej:j=t
   ·rw[ej,Zn,Z7 _ _ ei] at e
    exact absurd e (af i (by omega))
   ·rw[Z7 _ _ ei,Z7 _ _ ej] at e
    exact h.inj i j (by omega) (by omega) e
 ·have aj:Below B wr w':=hf.below (by have:=h.bel.size;omega) (WC h.own)
  exact(h.bel.trans aj).trans ((Below.refl B w').setCell (p:=⟨s,2,none⟩) h.sge _)
theorem Z7B(w:World)(gd n cap k m:Nat)(ds:Nat->Nat)(hc:∀i,i<n->w.cell? ⟨gd,i,none⟩=some (.pointer (some ⟨ds i,0,none⟩)))(aw:gd<w.heap.size)(az:1<=k)(hn:n=k+m)(ax:n<=16):
  Calls prog 47 #[.slice (some ⟨gd,0,none⟩) n cap,.int .i64 (k:Int),.int .i64 (m:Int)] w fun e w'=>∃s v xs,e=.returned (.tuple #[.pointer (some ⟨s,0,none⟩),.nilIface])/\Z0D w.heap.size s k m ds n v xs w w':=by
 have d1:decide ((k:Int)<1)=false:=by simp;omega
 have d2:decide ((m:Int)<0)=false:=by simp
 have d3:decide ((n:Int)>16)=false:=by simp;omega
 have d4:decide (n<k)=false:=by simp;omega
 have d5:((m:Int) !=(n:Int)- (k:Int))=false:=by simp;omega
 have d6:IntKind.i64.wrap ((n:Int)- (k:Int))=(n:Int)- (k:Int):=Zk2 _ (by omega)
 have HC:=Zka (Zkb hc hn)
 clear hc hn
 go_enter func47,ntmps47
 go_wp2_with fail
 have ai:Z0D w.heap.size w.heap.size k m ds 0 (.slice none 0 0) (fun _=>0) w (w.alloc (.cells #[.int .i64 (k:Int),.int .i64 (m:Int),.slice none 0 0,.int .i64 0,.bool false] 78)):=
  ⟨Row.new w _ _,World.ownsRow_nil _ _ _ _,fun i hi=>by omega,fun i hi=>by omega,fun i j hi=>by omega,Zk8,(Below.refl w.heap.size w).alloc Zk8 _⟩
 have al:=Zka ai
 clear ai
 go_loopw [43] (fun kv wr=>∃ (t:Nat) (v:Value) (xs:Nat->Nat),t<=n/\kv=.int .i64 t/\Z0D w.heap.size w.heap.size k m ds t v xs w wr) (fun kv _=>n- (intOf kv).toNat)
 case atStart=>exact⟨0,_,_,by omega,rfl,al.out⟩
 case round=>
  obtain⟨t,v,xs,ht,rfl,hS⟩:=hrel
  have HS:=Zka hS
  by_cases ag:t<n
  ·have c2:=hS.set.cell (j:=2) rfl
   have f2:=hS.set.free (j:=2) (by simp)
   have au:=(hS.bel.cell (p:=⟨gd,t,none⟩) aw).trans (HC.out.1 t ag)
   have b9:(t:Int)<(n:Int):=by omega
   have hz:=hS.bel.size
   have af:=((Below.refl wr.heap.size wr).alloc Zk8 (.cells #[.pointer (some ⟨ds t,0,none⟩),.pointer none,.int .i64 0,.bool false] 91)).alloc (by simp) (.cells #[.pointer (some ⟨wr.heap.size,0,none⟩)] 92)
   have hA:=hS.after Zk8 af
   have aj:Row ((wr.alloc (.cells #[.pointer (some ⟨ds t,0,none⟩),.pointer none,.int .i64 0,.bool false] 91)).alloc (.cells #[.pointer (some ⟨wr.heap.size,0,none⟩)] 92)) wr.heap.size 91 [.pointer (some ⟨ds t,0,none⟩),.pointer none,.int .i64 0,.bool false]:=(Row.new wr _ _).alloc _
   have ak:Row ((wr.alloc (.cells #[.pointer (some ⟨ds t,0,none⟩),.pointer none,.int .i64 0,.bool false] 91)).alloc (.cells #[.pointer (some ⟨wr.heap.size,0,none⟩)] 92)) (wr.heap.size+1) 92 [.pointer (some ⟨wr.heap.size,0,none⟩)]:=by
    have h9:=Row.new (wr.alloc (.cells #[.pointer (some ⟨ds t,0,none⟩),.pointer none,.int .i64 0,.bool false] 91)) 92 [.pointer (some ⟨wr.heap.size,0,none⟩)]
    simpa using h9
   have ae:∀i,i<t->xs i≠wr.heap.size:=fun i hi e=>by have:=(hS.mem i hi).lt;omega
   have HX:=Zka (Zkb hA (Zkb aj (Zkb ak (Zkb ae (Zk1 hz af.size)))))
   clear hS af hA aj ak ae
   go_wp2_with (at_builtin;refine Y6 _ rfl (.tmp 51) (.tmp 55) 76 92 rfl underlying76 ZfZ rfl (by omega) (by omega) w.heap.size v t (Wm t xs) rfl HX.out.1.own (wr.heap.size+1) 1 [.pointer (some ⟨wr.heap.size,0,none⟩)] rfl (by omega) (by omega) rfl HX.out.2.2.1 (by simp[Value.oneCell']) HX.out.2.2.2.2 (by omega) ?_;intro g2 aq w8 ho hf _ _ _;have ah:=HX.out.1.put hf;have ay:=ah.cell (j:=2) rfl;have f28:=ah.free (j:=2) (by simp);have R8:=Zka (HX.out.1.next Zk8 HX.out.2.1 hz HX.out.2.2.2.1 ho hf);clear ah ho hf c2 f2 au)
   go_roundw
   case measure=>simp[intOf];omega
   case rel=>exact⟨t+1,_,_,by omega,by go_num,R8.out⟩
  ·obtain rfl:t=n:=by omega
   clear hS
   go_wp2_with fail
   go_ret2
   exact⟨_,v,xs,rfl,HS.out⟩
end
section
open Go.RowKit
variable{S:Sto}
abbrev YX:=Nat×(Sto->List Ac)
def ZP(V:Ev)(x:YX):Int:=match V.Ms x.1 with
 |some S=>(Z2 (S.go (x.2 S)) V.P (V.Ds x.1)).1
 |none=>0
def ZX(V:Ev)(x:YX):Ev:=match V.Ms x.1 with
 |some S=>{V with P:=(Z2 (S.go (x.2 S)) V.P (V.Ds x.1)).2.1,Ds:=upd V.Ds x.1 (Z2 (S.go (x.2 S)) V.P (V.Ds x.1)).2.2,Ms:=upd V.Ms x.1 (some (S.nx (x.2 S)))}
 |none=>V
def ZB:List YX->Ev->Int×Ev
 |[],V=>(0,V)
 |x::r,V=>if ZP V x=0 then ZB r (ZX V x) else(ZP V x,ZX V x)
theorem Z0k(a b:List YX):∀V:Ev,ZB (a++b) V=if(ZB a V).1=0 then ZB b (ZB a V).2 else ZB a V:=by
 induction a with
 |nil=>intro V;simp[ZB]
 |cons x r ih=>
  intro V
  have e:ZB (x::r) V=if ZP V x=0 then ZB r (ZX V x) else(ZP V x,ZX V x):=rfl
  rw[List.cons_append,ZB,e]
  by_cases h:ZP V x=0
  ·rw[if_pos h,if_pos h];exact ih _
  ·rw[if_neg h,if_neg h,if_neg h]
theorem Zcl{a:List YX}{V V1:Ev}(h:ZB a V=(0,V1))(x:YX):ZB (a++[x]) V=(ZP V1 x,ZX V1 x):=by
 rw[Z0k,h]
 simp only[if_true,ZB]
 split
 ·rename_i h2;rw[h2]
 ·rfl
theorem Z0V{V:Ev}{x:YX}(h:V.Ms x.1=some S):ZP V x=(Z2 (S.go (x.2 S)) V.P (V.Ds x.1)).1/\ZX V x={V with P:=(Z2 (S.go (x.2 S)) V.P (V.Ds x.1)).2.1,Ds:=upd V.Ds x.1 (Z2 (S.go (x.2 S)) V.P (V.Ds x.1)).2.2,Ms:=upd V.Ms x.1 (some (S.nx (x.2 S)))}:=by
 unfold ZP ZX
 rw[h];exact⟨rfl,rfl⟩
theorem JC(V:Ev)(x:YX):(ZX V x).k=V.k/\(ZX V x).m=V.m/\(ZX V x).gen=V.gen/\∀i,((ZX V x).Ms i).isSome=(V.Ms i).isSome:=by
 unfold ZX
 cases h:V.Ms x.1 with
 |none=>exact⟨rfl,rfl,rfl,fun i=>rfl⟩
 |some S=>
  refine⟨rfl,rfl,rfl,fun i=> ?_⟩
  simp only
  by_cases e:i=x.1
  ·rw[e,Zn,h];rfl
  ·rw[Z7 _ _ e]
theorem Z5F(l:List DOp):∀{P:Pw} {D:Dk},(∀o∈l,o.In 800)->D.Fit 800->D.dead=false->P.gone=false->((Z2 l P D).1=0/\(Z2 l P D).2.1.gone=false)∨((Z2 l P D).1=10/\(Z2 l P D).2.1.gone=true):=by
 induction l with
 |nil=>intro P D _ _ _ hg;exact Or.inl ⟨rfl,hg⟩
 |cons o r ih=>
  intro P D ae hf hd hg
  rw[Wy]
  by_cases hz:P.fuse=0
  ·obtain⟨h1,h2,h3⟩:=Za4 hf hg hd (ae o (by simp)) hz
   rw[if_neg (by rw[h1];decide)]
   exact Or.inr ⟨h1,h2⟩
  ·by_cases hp:P.fuse<0∨1<=P.fuse
   ·obtain⟨h1,h2,h3⟩:=Z7n hf hg hd (ae o (by simp)) hp
    rw[if_pos h1,h2,h3]
    exact ih (fun q hq=>ae q (by simp[hq])) (hf.app o (ae o (by simp))) (by rw[Z1E];exact hd) (Z31 hg hp).2.1
   ·omega
structure Zx where
 K:List Bs
 E:Nat
 k:Nat
 m:Nat
 g:Nat
 H:Bs->Option Bs
 l:List Chg
 T:Nat->Tab
def Zx.p0(X:Zx)(i:Nat)(D:Dk)(S:Sto):Prop:=Q8 X.K X.E D S/\stR D.reads S.dir=X.T i
def Zx.p1(X:Zx)(i:Nat)(D:Dk)(S:Sto):Prop:=Q8 X.K (X.E+1) D S/\Mid X.k X.m i X.g X.H X.l (X.T i) (stR D.reads S.dir)
def Zx.p2(X:Zx)(i:Nat)(D:Dk)(S:Sto):Prop:=Q8 X.K (X.E+2) D S/\WT X.k X.m i (X.g+1) (upH X.H X.l) (stR D.reads S.dir)/\(Z30 X.k X.m i X.H (X.T i)->Z30 X.k X.m i (upH X.H X.l) (stR D.reads S.dir))
structure Zx.Ok(X:Zx)(n:Nat):Prop where
 hK:KOk X.K
 hl:LOk X.K X.l
 k1:1<=X.k
 rest:∀i,i<n->WT X.k X.m i X.g X.H (X.T i)
structure Zx.At(X:Zx)(ph:Nat->Dk->Sto->Prop)(n:Nat)(V:Ev):Prop where
 gone:V.P.gone=false
 at_:∀i,i<n->∀S,V.Ms i=some S->ph i (V.Ds i) S/\(V.Ds i).ok 800/\(V.Ds i).dead=false
theorem Z4Q(l:List DOp):∀{P:Pw} {D:Dk},(∀o∈l,o.In 800)->D.ok 800->D.wait.length+l.length<=1000000->(Z2 l P D).2.2.ok 800:=by
 induction l with
 |nil=>intro P D _ h _;exact h
 |cons o r ih=>
  intro P D ae h hw
  rw[ZjM] at hw
  have h2:(o.dk P D).ok 800:=by
   cases o with
   |wr a s=>exact ZeX h _ s (by omega)
   |fl=>exact ZdY h
  rw[Wy]
  split
  ·exact ih (fun q hq=>ae q (by simp[hq])) h2 (by have:=DOp.few P D o;omega)
  ·exact h2
theorem Z2V(a:Nat)(l:Bs):(wrs a l).length=l.length / 64:=by unfold wrs;simp
theorem Z2a(J:Jn)(s:Bool)(k:Nat):(J.clean s k).length<=1:=by unfold Jn.clean;split<;>simp
theorem Yd.len{K:List Bs}{E:Nat}{D:Dk}{acts:List Ac}{d:Dir}{f:Z1}(h:Q8 K E D S)(hK:KOk K)(ha:Yd K S acts d f):(S.ops acts d f).length<=100000:=by
 obtain⟨recs,hi,_⟩:=h.img
 have ae:=YO D.reads hi.ok hi.used ha.wrong ha.plan
 have hf:f.length<=40:=by
  have h1:=ae.fr.length_le_of_subset (l₂:=d.names) (fun n hn=>by
   obtain⟨x,hx,rfl⟩:=List.mem_map.1 hn
   obtain⟨e,he,_⟩:=ae.fresh x hx
   exact QC.2 (by rw[he];simp))
  rw[ZjN,show d.names.length=d.length from ZjN ..] at h1
  have h2:=Z1a ha.sm ae.ok.sorted
  have h3:=Z5c hK
  omega
 have hw:=Z6m (d:=d) (acts:=acts) (f:=f) (fun x hx=>by
  obtain⟨e,he,_⟩:=ae.fresh x hx
  exact⟨e,he,ae.ok.get he⟩)
 have hd:(Q5 d acts f).length<=8001:=by
  unfold Q5
  split
  ·simp
  ·rw[ZjI];simp;omega
 have hr:=ha.room
 have ag:=hr.some_
 have ah:=hr.whole
 have pk:∀e n (r:Bs),r.length<=60000->(Zb e n r).length<=61000/\Zb e n r≠[]:=fun e n r hr=>by
  refine⟨?_,WN _ _ _⟩
  rw[Yx];unfold Z8;omega
 have lay:∀ (J:Jn) s k (l:Bs),l.length<=61000->l≠[]->(J.lay s k l).length<=5000:=fun J s k l hl af=>by
  unfold Jn.lay
  rw[ZjI,ZjI,ZjI,ZjI,Z2V,Z2V,Qh l af]
  have h1:=Z2a J s (k+l.length / 64)
  have h2:(l.take 64).length<=64:=by rw[ZjO];exact Nat.min_le_left _ _
  simp only[ZjM,List.length_nil]
  omega
 unfold Sto.ops
 rw[ZjI]
 have hj:(S.jOps d f).length<=50000:=by
  unfold Sto.jOps
  split
  ·unfold Jn.appendOps
   have h9:=pk S.j.epoch (S.j.many+1) _ ag
   have:=lay S.j S.j.second S.j.next _ h9.1 h9.2
   omega
  ·unfold Jn.resetOps
   have h9:=pk (S.j.epoch+1) 1 _ ah
   have h8:=Qx (S.j.epoch+1)
   have h7:Zb (S.j.epoch+1) 0 ZI≠[]:=WN _ _ _
   have h6:=Z2a S.j (!S.j.second) (1+Z8 (Y5 d).length / 64)
   simp only[ZjI,Z2V,Qh _ h7,ZjM,List.length_nil]
   omega
 omega
section
variable{X:Zx}{n:Nat}{V:Ev}
theorem Zx.At.step{ph aj:Nat->Dk->Sto->Prop}(h:X.At ph n V){i:Nat}{S:Sto}{a:Sto->List Ac}{d:Dir}{f:Z1}{E:Nat}(hi:i<n)(hM:V.Ms i=some S)(hB:Q8 X.K E (V.Ds i) S)(hK:KOk X.K)(ha:Yd X.K S (a S) d f)(h0:ZP V (i,a)=0)(ai:∀j,j≠i->∀D S,ph j D S->aj j D S)(af:aj i (Q1 (S.ops (a S) d f) (V.Ds i)) (S.done d f)):X.At aj n (ZX V (i,a)):=by
 obtain⟨e1,e2⟩:=Z0V (V:=V) (x:=(i,a)) hM
 simp only at e1 e2
 rw[e1] at h0
 obtain⟨-,ag,hd⟩:=h.at_ i hi S hM
 rw[ha.go] at h0 e2
 rw[ha.nx] at e2
 have hz:=Z5H (S.ops (a S) d f) ha.in_ ag.fit hd h0
 have hg:=Z5F (S.ops (a S) d f) (P:=V.P) ha.in_ ag.fit hd h.gone
 have ah:=Z4Q (S.ops (a S) d f) (P:=V.P) ha.in_ ag (by have h9:=Yd.len hB hK ha;rw[hB.wait];simp;omega)
 have hl:=Wz (S.ops (a S) d f) V.P (V.Ds i)
 rw[e2]
 refine⟨?_,fun j hj S' ae=> ?_⟩
 ·rcases hg with hg|hg
  ·exact hg.2
  ·rw[hg.1] at h0;cases h0
 ·simp only at ae⊢
  by_cases e:j=i
  ·subst e
   rw[Zn] at ae⊢
   cases ae
   exact⟨by rw[hz];exact af,ah,by rw[hl.2];exact hd⟩
  ·rw[Z7 _ _ e] at ae⊢
   obtain⟨g1,g2,g3⟩:=h.at_ j hj S' ae
   exact⟨ai j e _ _ g1,g2,g3⟩
def ph1(X:Zx)(done:List Nat)(i:Nat)(D:Dk)(S:Sto):Prop:=if i∈done then X.p1 i D S else X.p0 i D S
def ph2(X:Zx)(done:List Nat)(i:Nat)(D:Dk)(S:Sto):Prop:=if i∈done then X.p2 i D S else X.p1 i D S
def op1(X:Zx)(i:Nat):YX:=(i,fun _=>Qz X.k X.m i X.g X.l)
def op2(X:Zx)(i:Nat):YX:=(i,fun S=>Qc S.dir (Zi X.l))
theorem Zx.ready1(hX:X.Ok n){done:List Nat}(h:X.At (ph1 X done) n V){i:Nat}{S:Sto}(hi:i<n)(hM:V.Ms i=some S)(hd:i∉done):Q8 X.K X.E (V.Ds i) S/\∃d f,Yd X.K S (Qz X.k X.m i X.g X.l) d f:=by
 obtain⟨g1,g2,g3⟩:=h.at_ i hi S hM
 unfold ph1 at g1
 rw[if_neg hd] at g1
 exact⟨g1.1,g1.1.first (H:=X.H) hX.hK hX.k1 hX.hl⟩
theorem Zx.step1(hX:X.Ok n){done:List Nat}(h:X.At (ph1 X done) n V){i:Nat}{S:Sto}(hi:i<n)(hM:V.Ms i=some S)(hd:i∉done)(h0:ZP V (op1 X i)=0):X.At (ph1 X (done++[i])) n (ZX V (op1 X i)):=by
 obtain⟨hB,d,f,ha⟩:=Zx.ready1 hX h hi hM hd
 obtain⟨g1,g2,g3⟩:=h.at_ i hi S hM
 unfold ph1 at g1
 rw[if_neg hd] at g1
 refine h.step (a:=fun _=>Qz X.k X.m i X.g X.l) hi hM hB hX.hK ha h0 (fun j hj D S hp=> ?_) ?_
 ·unfold ph1 at hp⊢
  by_cases ae:j∈done
  ·rw[if_pos ae] at hp;rw[if_pos (by simp[ae])];exact hp
  ·rw[if_neg ae] at hp;rw[if_neg (by simp[ae,hj])];exact hp
 ·unfold ph1
  rw[if_pos (by simp)]
  obtain⟨b1,b2⟩:=hB.did hX.hK g2 ha
  refine⟨b1,?_⟩
  rw[b2,g1.2]
  exact ZiU hX.hl.nd (hX.rest i hi)
theorem Zx.ready2(hX:X.Ok n){done:List Nat}(h:X.At (ph2 X done) n V){i:Nat}{S:Sto}(hi:i<n)(hM:V.Ms i=some S)(hd:i∉done):Q8 X.K (X.E+1) (V.Ds i) S/\∃d,Yd X.K S (Qc S.dir (Zi X.l)) d []:=by
 obtain⟨g1,g2,g3⟩:=h.at_ i hi S hM
 unfold ph2 at g1
 rw[if_neg hd] at g1
 exact⟨g1.1,g1.1.second hX.hK hX.hl (hX.rest i hi) g1.2⟩
theorem Zx.step2(hX:X.Ok n){done:List Nat}(h:X.At (ph2 X done) n V){i:Nat}{S:Sto}(hi:i<n)(hM:V.Ms i=some S)(hd:i∉done)(h0:ZP V (op2 X i)=0):X.At (ph2 X (done++[i])) n (ZX V (op2 X i)):=by
 obtain⟨hB,d,ha⟩:=Zx.ready2 hX h hi hM hd
 obtain⟨g1,g2,g3⟩:=h.at_ i hi S hM
 unfold ph2 at g1
 rw[if_neg hd] at g1
 refine h.step (a:=fun S=>Qc S.dir (Zi X.l)) hi hM hB hX.hK ha h0 (fun j hj D S hp=> ?_) ?_
 ·unfold ph2 at hp⊢
  by_cases ae:j∈done
  ·rw[if_pos ae] at hp;rw[if_pos (by simp[ae])];exact hp
  ·rw[if_neg ae] at hp;rw[if_neg (by simp[ae,hj])];exact hp
 ·unfold ph2
  rw[if_pos (by simp)]
  obtain⟨b1,b2⟩:=hB.did hX.hK g2 ha
  obtain⟨r1,r2,r3⟩:=ZbA hX.hl.nd (hX.rest i hi) g1.2 hB.sorted (fun n=>YB)
  refine⟨b1,?_⟩
  rw[b2]
  exact⟨r2,r3⟩
def Q7(V:Ev)(n:Nat):List Nat:=(List.range n).filter fun i=>(V.Ms i).isSome
theorem mem_ins{i:Nat}:i∈Q7 V n↔i<n/\(V.Ms i).isSome=true:=by unfold Q7;simp
theorem Z08:(Q7 V n).Nodup:=List.nodup_range.sublist List.filter_sublist
def W6(X:Zx)(ins:List Nat):List YX:=ins.map (op1 X)++ins.map (op2 X)
theorem Zx.all1{ins:List Nat}(h:∀i,i<n->(V.Ms i).isSome=true->i∈ins)(hp:X.At (ph1 X ins) n V):X.At (ph2 X []) n V:=by
 refine⟨hp.gone,fun i hi S hM=> ?_⟩
 obtain⟨g1,g2⟩:=hp.at_ i hi S hM
 unfold ph1 at g1
 rw[if_pos (h i hi (by rw[hM];rfl))] at g1
 unfold ph2
 rw[if_neg (by simp)]
 exact⟨g1,g2⟩
end
end
section
open Go.RowKit
section
variable{X:Zx}{n:Nat}{V:Ev}
theorem Zx.At.lasts{ph:Nat->Dk->Sto->Prop}(h:X.At ph n V)(hf:V.P.fuse<0){i:Nat}{S:Sto}{a:Sto->List Ac}{d:Dir}{f:Z1}(hi:i<n)(hM:V.Ms i=some S)(ha:Yd X.K S (a S) d f):ZP V (i,a)=0/\(ZX V (i,a)).P.fuse<0:=by
 obtain⟨e1,e2⟩:=Z0V (V:=V) (x:=(i,a)) hM
 obtain⟨-,ae,hd⟩:=h.at_ i hi S hM
 simp only at e1 e2
 rw[ha.go] at e1 e2
 obtain⟨Q,hQ,hl⟩:=Z4P (l:=S.ops (a S) d f) (P:=V.P) ae.fit hd ha.in_ ⟨h.gone,Or.inl hf⟩
 rw[hQ] at e1 e2
 refine⟨e1,?_⟩
 rw[e2]
 show Q.fuse<0
 rw[hl.2,if_pos hf];exact hf
theorem Zx.seq1(hX:X.Ok n):∀ (rest done:List Nat) (V:Ev),X.At (ph1 X done) n V->(∀i∈rest,i<n/\(V.Ms i).isSome=true)->(∀i∈rest,i∉done)->rest.Nodup->((ZB (rest.map (op1 X)) V).1=0->X.At (ph1 X (done++rest)) n (ZB (rest.map (op1 X)) V).2)/\(V.P.fuse<0->(ZB (rest.map (op1 X)) V).1=0/\(ZB (rest.map (op1 X)) V).2.P.fuse<0):=by
 intro rest
 induction rest with
 |nil=>
  intro done V h _ _ _
  rw[Zk7]
  exact⟨fun _=>h,fun hf=>⟨rfl,hf⟩⟩
 |cons i r ih=>
  intro done V h ae af ah
  obtain⟨hi,hs⟩:=ae i (by simp)
  obtain⟨S,hM⟩:=Option.isSome_iff_exists.1 hs
  have hd:=af i (by simp)
  obtain⟨hB,d,f,ha⟩:=Zx.ready1 hX h hi hM hd
  obtain⟨n1,n2⟩:=List.nodup_cons.1 ah
  rw[ZjY]
  unfold ZB
  have ag:ZP V (op1 X i)=0->_:=fun h0=>ih (done++[i]) (ZX V (op1 X i)) (Zx.step1 hX h hi hM hd h0) (fun j hj=>⟨(ae j (by simp[hj])).1,by rw[(JC V (op1 X i)).2.2.2];exact(ae j (by simp[hj])).2⟩) (fun j hj hm=>by
   rcases ZjU.1 hm with h9|h9
   ·exact af j (by simp[hj]) h9
   ·rw[ZjD] at h9;subst h9;exact n1 hj) n2
  by_cases h0:ZP V (op1 X i)=0
  ·rw[if_pos h0]
   obtain⟨g1,g2⟩:=ag h0
   rw[ZjL,List.singleton_append] at g1
   exact⟨g1,fun hf=>g2 (Zx.At.lasts (a:=fun _=>Qz X.k X.m i X.g X.l) h hf hi hM ha).2⟩
  ·rw[if_neg h0]
   exact⟨fun h9=>absurd h9 h0,fun hf=>absurd (Zx.At.lasts (a:=fun _=>Qz X.k X.m i X.g X.l) h hf hi hM ha).1 h0⟩
theorem Zx.seq2(hX:X.Ok n):∀ (rest done:List Nat) (V:Ev),X.At (ph2 X done) n V->(∀i∈rest,i<n/\(V.Ms i).isSome=true)->(∀i∈rest,i∉done)->rest.Nodup->((ZB (rest.map (op2 X)) V).1=0->X.At (ph2 X (done++rest)) n (ZB (rest.map (op2 X)) V).2)/\(V.P.fuse<0->(ZB (rest.map (op2 X)) V).1=0/\(ZB (rest.map (op2 X)) V).2.P.fuse<0):=by
 intro rest
 induction rest with
 |nil=>
  intro done V h _ _ _
  rw[Zk7]
  exact⟨fun _=>h,fun hf=>⟨rfl,hf⟩⟩
 |cons i r ih=>
  intro done V h ae af ah
  obtain⟨hi,hs⟩:=ae i (by simp)
  obtain⟨S,hM⟩:=Option.isSome_iff_exists.1 hs
  have hd:=af i (by simp)
  obtain⟨hB,d,ha⟩:=Zx.ready2 hX h hi hM hd
  obtain⟨n1,n2⟩:=List.nodup_cons.1 ah
  rw[ZjY]
  unfold ZB
  have ag:ZP V (op2 X i)=0->_:=fun h0=>ih (done++[i]) (ZX V (op2 X i)) (Zx.step2 hX h hi hM hd h0) (fun j hj=>⟨(ae j (by simp[hj])).1,by rw[(JC V (op2 X i)).2.2.2];exact(ae j (by simp[hj])).2⟩) (fun j hj hm=>by
   rcases ZjU.1 hm with h9|h9
   ·exact af j (by simp[hj]) h9
   ·rw[ZjD] at h9;subst h9;exact n1 hj) n2
  by_cases h0:ZP V (op2 X i)=0
  ·rw[if_pos h0]
   obtain⟨g1,g2⟩:=ag h0
   rw[ZjL,List.singleton_append] at g1
   exact⟨g1,fun hf=>g2 (Zx.At.lasts (a:=fun S=>Qc S.dir (Zi X.l)) h hf hi hM ha).2⟩
  ·rw[if_neg h0]
   exact⟨fun h9=>absurd h9 h0,fun hf=>absurd (Zx.At.lasts (a:=fun S=>Qc S.dir (Zi X.l)) h hf hi hM ha).1 h0⟩
theorem Z7G(l:List YX):∀V:Ev,∀i,((ZB l V).2.Ms i).isSome=(V.Ms i).isSome:=by
 induction l with
 |nil=>intro V i;rfl
 |cons x r ih=>
  intro V i
  unfold ZB
  split
  ·rw[ih];exact(JC V x).2.2.2 i
  ·exact(JC V x).2.2.2 i
theorem Zx.commit(hX:X.Ok n)(h:X.At (ph1 X []) n V):((ZB (W6 X (Q7 V n)) V).1=0->X.At X.p2 n (ZB (W6 X (Q7 V n)) V).2)/\(V.P.fuse<0->(ZB (W6 X (Q7 V n)) V).1=0/\(ZB (W6 X (Q7 V n)) V).2.P.fuse<0):=by
 obtain⟨a1,a2⟩:=Zx.seq1 hX (Q7 V n) [] V h (fun i hi=>mem_ins.1 hi) (fun i _=>by simp) Z08
 rw[List.nil_append] at a1
 unfold W6
 rw[Z0k]
 by_cases h0:(ZB ((Q7 V n).map (op1 X)) V).1=0
 ·rw[if_pos h0]
  have hs:=Z7G ((Q7 V n).map (op1 X)) V
  obtain⟨b1,b2⟩:=Zx.seq2 hX (Q7 V n) [] _ (Zx.all1 (ins:=Q7 V n) (fun i hi hM=>mem_ins.2 ⟨hi,by rw[<-hs];exact hM⟩) (a1 h0)) (fun i hi=>⟨(mem_ins.1 hi).1,by rw[hs];exact(mem_ins.1 hi).2⟩) (fun i _=>by simp) Z08
  rw[List.nil_append] at b1
  refine⟨fun h9=> ?_,fun hf=>b2 (a2 hf).2⟩
  have hb:=b1 h9
  refine⟨hb.gone,fun i hi S hM=> ?_⟩
  obtain⟨g1,g2⟩:=hb.at_ i hi S hM
  unfold ph2 at g1
  rw[if_pos (mem_ins.2 ⟨hi,by rw[<-hs,<-Z7G ((Q7 V n).map (op2 X)),hM];rfl⟩)] at g1
  exact⟨g1,g2⟩
 ·rw[if_neg h0]
  exact⟨fun h9=>absurd h9 h0,fun hf=>absurd (a2 hf).1 h0⟩
end
end
section
open Go.RowKit Go.Shelf
variable{K:List Bs}{P:Pw}{k m:Nat}
theorem Z0D.eat{B:Nat}{s:Nat}{ds:Nat->Nat}{n:Nat}{v:Value}{xs:Nat->Nat}{w wr:World}{p:Nat}{Ds:Nat->Dk}{Ls:Nat->List Nat}(h:Z0D w.heap.size s k m ds n v xs w wr)(aj:B<=w.heap.size)(ag:1<=n)(af:n<=16)(ai:∀i,i<n->PD B w p (ds i) 800 P (Ds i) (Ls i))(ae:∀i j,i<n->j<n->i≠j->∀q∈Ls i,q∉Ls j):
  ∃ms cap,Q0 B wr ⟨n,p,s,ms,cap,xs,ds⟩ ⟨k,m,0,P,Ds,fun _=>none⟩ Ls (fun i=>[xs i]):=by
 obtain⟨ms,cap,sp,hv,h1,h2,h3,hr⟩:=Xi h.own ag
 refine⟨ms,cap,?_,⟨sp,hr⟩,ag,af,fun i hi=>(ai i hi).after h.bel,ae,fun i hi=>⟨.pointer none,0,false,rfl,h.mem i hi,by simp⟩,fun i j hi hj ah q hq hm=> ?_,fun i hi q hq=> ?_,by have:=h.sge;show B<=s;omega⟩
 ·have:=h.set
  rw[hv] at this
  exact this
 ·simp only[ZjD] at hq hm
  exact ah (h.inj i j hi hj (hq.symm.trans hm))
 ·simp only[ZjD] at hq
  subst hq
  have:=h.ge i hi
  omega
theorem Zcq:(Jn.format 100).length<=900000:=by
 have h1:(Zb 1 0 ZI).length<=61000:=by
  rw[Yx];unfold Z8
  have:ZI.length<=100:=by decide
  omega
 have h2:Zb 1 0 ZI≠[]:=WN _ _ _
 unfold Jn.format
 rw[ZjI]
 have h3:=Z2a ⟨100,false,1,0,1,false⟩ true 0
 unfold Jn.lay
 rw[ZjI,ZjI,ZjI,ZjI,Z2V,Z2V,Qh _ h2]
 have h4:=Z2a ⟨100,false,1,0,1,false⟩ false (0+(Zb 1 0 ZI).length / 64)
 have h5:((Zb 1 0 ZI).take 64).length<=64:=by rw[ZjO];exact Nat.min_le_left _ _
 simp only[ZjM,List.length_nil]
 omega
theorem Zao{i g:Nat}{D:Dk}(hK:KOk K)(ok:D.ok 800)(hd:D.dead=false)(hw:D.wait.length<=1000)(hg:P.gone=false)(hf:P.fuse<0):
  (Qr k m i g P D).1=0/\(Qr k m i g P D).2.1.gone=false/\(Qr k m i g P D).2.1.fuse<0/\Q8 K 2 (Qr k m i g P D).2.2 (Sto.first.nx [QY k m i g])/\stR (Qr k m i g P D).2.2.reads (Sto.first.nx [QY k m i g]).dir=JB k m i g:=by
 have af:∀o∈Jn.format 100,o.In 800:=fun o ho=>by
  have:=Z7J 100 (by decide) o ho
  cases o with
  |wr a s=>exact⟨Zk0 this.1 (by decide),this.2⟩
  |fl=>trivial
 obtain⟨Q,hQ,ah,ai⟩:=Z4P ok.fit hd af (l:=Jn.format 100) (P:=P) ⟨hg,Or.inl hf⟩
 have ae:Q.fuse<0:=by rw[ai,if_pos hf];exact hf
 have ag:(Q1 (Jn.format 100) D).ok 800:=by
  have h9:=Z4Q (Jn.format 100) (P:=P) af ok (by have:=Zcq;omega)
  rw[hQ] at h9;exact h9
 have al:(Q1 (Jn.format 100) D).dead=false:=by rw[Zag];exact hd
 obtain⟨d,f,ha⟩:=Z35 hK k m i g
 obtain⟨Q2,hR,aj,ak⟩:=Z4P ag.fit al ha.in_ (l:=Sto.first.ops [QY k m i g] d f) (P:=Q) ⟨ah,Or.inl ae⟩
 obtain⟨b1,b2⟩:=ZdG (k:=k) (m:=m) (i:=i) (g:=g) (R:=D.reads) hK ag (Jd ok.fit af) ha
 have e:Qr k m i g P D=(0,Q2,Q1 (Sto.first.ops [QY k m i g] d f) (Q1 (Jn.format 100) D)):=by
  unfold Qr
  rw[hQ]
  simp only[if_true]
  rw[ha.go,hR]
 rw[e,ha.nx]
 exact⟨rfl,aj,by show Q2.fuse<0;rw[ak,if_pos ae];exact ae,b1,b2⟩
structure FmS(K:List Bs)(V0:Ev)(t:Nat)(V:Ev):Prop where
 k:V.k=V0.k
 m:V.m=V0.m
 gen:V.gen=V0.gen
 gone:V.P.gone=false
 fuse:V.P.fuse<0
 done:∀i,i<t->∃S,V.Ms i=some S/\Q8 K 2 (V.Ds i) S/\stR (V.Ds i).reads S.dir=JB V0.k V0.m i 0
 rest:∀i,t<=i->V.Ms i=none/\V.Ds i=V0.Ds i
 life:∀i,(V.Ds i).life=(V0.Ds i).life
theorem Z8f(k m i g:Nat)(P:Pw)(D:Dk):(Qr k m i g P D).2.2.life=D.life:=by
 unfold Qr
 split
 ·rw[(Wz _ _ _).1,(Wz _ _ _).1]
 ·rw[(Wz _ _ _).1]
theorem FmS.next{V0 V:Ev}{t:Nat}(h:FmS K V0 t V)(hK:KOk K)(ok:(V.Ds t).ok 800)(hd:(V.Ds t).dead=false)(hw:(V.Ds t).wait.length<=1000):
  (Qr V.k V.m t 0 V.P (V.Ds t)).1=0/\FmS K V0 (t+1) {V with P:=(Qr V.k V.m t 0 V.P (V.Ds t)).2.1,Ds:=upd V.Ds t (Qr V.k V.m t 0 V.P (V.Ds t)).2.2,Ms:=upd V.Ms t (some (Sto.first.nx [QY V.k V.m t 0]))}:=by
 obtain⟨e1,e2,e3,e4,e5⟩:=Zao (k:=V.k) (m:=V.m) (i:=t) (g:=0) hK ok hd hw h.gone h.fuse
 refine⟨e1,h.k,h.m,h.gen,e2,e3,fun i hi=> ?_,fun i hi=> ?_,fun i=> ?_⟩
 ·by_cases e:i=t
  ·subst e
   simp only[Zn]
   exact⟨_,rfl,e4,by rw[e5,h.k,h.m]⟩
  ·simp only[Z7 _ _ e]
   exact h.done i (by omega)
 ·have e:i≠t:=by omega
  simp only[Z7 _ _ e]
  exact h.rest i (by omega)
 ·by_cases e:i=t
  ·subst e
   simp only[Zn]
   rw[Z8f];exact h.life i
  ·simp only[Z7 _ _ e]
   exact h.life i
end
section
open Go.RowKit Go.Shelf
theorem ZdT(B:Nat)(w:World)(G:Eg)(V:Ev)(bl:List Nat)(K:List Bs)(i g:Nat)(h:EAt B w G V bl)(ht:Ty w)(b9:0<B)(hi:i<G.n)(hM:V.Ms i=none)(hK:KOk K)(hk:V.k<=16)(hm:V.m<=16)(hg:g<=1000000000)(cy:(V.Ds i).wait.length<=1000)(aq:(V.Ds i).dead=false)(hz:(Qr V.k V.m i g V.P (V.Ds i)).1=0):
  Calls prog 48 #[.pointer (some ⟨G.s,0,none⟩),.int .i64 (i:Int),.int .i64 (g:Int)] w fun e w'=>e=.returned .nilIface/\Zf B G bl {V with P:=(Qr V.k V.m i g V.P (V.Ds i)).2.1,Ds:=upd V.Ds i (Qr V.k V.m i g V.P (V.Ds i)).2.2,Ms:=upd V.Ms i (some (Sto.first.nx [QY V.k V.m i g]))} w w':=by
 have HZ:=Zka hz
 clear hz
 have hn:=h.nle
 have c2:=h.scell.cell (j:=2) rfl
 have cm:=h.mcell hi
 have aw:=h.bw
 have dc:(i:Int)<(G.n:Int):=by omega
 obtain⟨Ls,Os,rfl,hp⟩:=h
 have bj:=hp.at_ i hi
 rw[hM] at bj
 obtain⟨de,lf,inn,hO,ak, -⟩:=bj
 have x0:=ak.cell (j:=0) rfl
 have bz:=Z5L B G.p (G.ds i) V.P (V.Ds i) (Ls i) w (hp.pd i hi) aw ht b9 (by omega)
 have ae:(Qr V.k V.m i g V.P (V.Ds i))=if(Z2 (Jn.format 100) V.P (V.Ds i)).1=0 then Z2 (Sto.first.go [QY V.k V.m i g]) (Z2 (Jn.format 100) V.P (V.Ds i)).2.1 (Z2 (Jn.format 100) V.P (V.Ds i)).2.2 else Z2 (Jn.format 100) V.P (V.Ds i):=rfl
 have H:=Zka (Zkb hp (Zkb ak (Zkb bz (Zkb hO ht))))
 clear hp ak bz hO ht
 by_cases h1:(Z2 (Jn.format 100) V.P (V.Ds i)).1=0
 ·rw[if_pos h1] at ae
  have H1:=Zka (Zkb h1 ae)
  obtain⟨aj,af,ax⟩:=Z7w (H.out.1.pd i hi).ok aq h1
  have ai:=fun sv ev w1 (hf:ZbL B G.p (G.ds i) (Ls i) V.P (V.Ds i) w sv ev w1)=>Z7v (Os:=Os) hf h1
  clear h1 ae
  obtain⟨P1,cw⟩:∃P1,(Z2 (Jn.format 100) V.P (V.Ds i)).2.1=P1:=⟨_,rfl⟩
  obtain⟨D1,bh⟩:∃D1,(Z2 (Jn.format 100) V.P (V.Ds i)).2.2=D1:=⟨_,rfl⟩
  rw[bh] at aj af ax
  rw[cw,bh] at ai H1
  obtain⟨d,f,ha⟩:=Z35 hK V.k V.m i g
  have cj:=ha.go
  have cr:=ha.nx
  have HI:=Zka (Zkb aj (Zkb af (Zkb ax (Zkb ai (Zkb ha (Zkb cj cr))))))
  clear aj af ax ai ha cj cr
  by_cases h2:(Z2 (Sto.first.go [QY V.k V.m i g]) P1 D1).1=0
  ·have H2:=Zka h2
   clear h2
   go_enter func48,ntmps48
   go_wp2_with (first
    |(go_at_call 101;refine H.out.2.2.1.mono ?_;rintro e w1 ⟨sv,ev,rfl,hf⟩;obtain⟨rfl,s,j,L1,rfl,hA⟩:=HI.out.2.2.2.1 _ _ _ hf;have hA:=Zka hA;clear hf)
    |(go_at_call 79;have bg:=hA.out.keep H.out.1 hi H.out.1.set (by decide);refine(Z1k G.s V.k V.m i g _ (by omega) (by omega) (by omega) (by omega) (bg.cell (j:=0) rfl) (bg.cell (j:=1) rfl)).mono ?_;rintro e w2 ⟨rfl,bm⟩;have R2:=Zka (hA.out.after bm);clear bg bm)
    |(go_at_call 38;have al:=R2.out.after ((Below.refl w2.heap.size w2).alloc Zk8 (.cells #[.int .i64 1,.string ⟨#[33]⟩,.string ⟨#[]⟩,.string (str (QJ V.k V.m i g))] 151));have ag:Row (w2.alloc (.cells #[.int .i64 1,.string ⟨#[33]⟩,.string ⟨#[]⟩,.string (str (QJ V.k V.m i g))] 151)) w2.heap.size 151 (AcC (QY V.k V.m i g)):=Row.new w2 _ _;refine(Z1I al aw (al.ty H.out.1 hi aw H.out.2.2.2.2 b9) b9 HI.out.1 HI.out.2.1 HI.out.2.2.2.2.1 (Z5P ag) rfl Zk8).mono ?_;rintro e w4 ⟨cz,rfl,ay,hC⟩;rw[H2.out] at ay;obtain rfl:=ay.zero;obtain⟨L2,hd⟩:=hC.ran;have au:=(Z36 al hd).1;have ct:=H.out.1.set.fr au ((H.out.1.pd i hi).typed.row_ne H.out.1.set (by decide));have cu:=H.out.2.1.fr au ((H.out.1.pd i hi).typed.row_ne H.out.2.1 (by decide));obtain⟨sp,bf⟩:=H.out.1.mem;have cn:=bf.fr au ((H.out.1.pd i hi).typed.row_ne bf (by decide));obtain⟨gh,vv, -,bq⟩:=hd.pd.dk;have R4:=Zka (Zkb al (Zkb hC (Zkb ct (Zkb cu (Zkb cn bq)))));clear al ag ay hC hd au ct cu bf cn bq)
    |(go_at_call 65;refine(Z4h G.s G.ms (G.xs i) i G.n G.cap G.p (G.ds i) gh s vv _ _ _ _ _ hi (R4.out.2.2.1.cell (j:=2) rfl) (R4.out.2.2.2.2.1.cell (by rw[ZjH (by rw[JG];exact hi)];exact Z1U _ _ _ hi)) R4.out.2.2.2.1 R4.out.2.2.2.2.2).mono ?_;rintro e w5 ⟨rfl,ah,bu⟩;have R5:=Zka (Zkb ah bu);clear ah bu))
   go_ret
   have az:=Z8L H.out.1 hi (sv:=.nilIface) (lf:=0) (inn:=true) H.out.2.2.2.1 R4.out.1 R4.out.2.1 H2.out HI.out.2.2.1 R5.out.1 R4.out.2.2.2.1 R5.out.2
   rw[H1.out.2]
   exact⟨rfl,az⟩
  ·have hz:=HZ.out
   rw[H1.out.2] at hz
   exact absurd hz h2
 ·rw[if_neg h1] at ae
  have hz:=HZ.out
  rw[ae] at hz
  exact absurd hz h1
theorem Zcg(B:Nat)(w:World)(K:List Bs)(gd n cap k m p:Nat)(ds:Nat->Nat)(P:Pw)(Ds:Nat->Dk)(Ls:Nat->List Nat)(hc:∀i,i<n->w.cell? ⟨gd,i,none⟩=some (.pointer (some ⟨ds i,0,none⟩)))(cn:gd<w.heap.size)(cj:1<=k)(hn:n=k+m)(aj:n<=16)(bz:B<=w.heap.size)(bm:∀i,i<n->PD B w p (ds i) 800 P (Ds i) (Ls i))(ai:∀i j,i<n->j<n->i≠j->∀q∈Ls i,q∉Ls j)(ht:Ty w)(bg:0<B)(hK:KOk K)(af:P.gone=false)(hf:P.fuse<0)(bf:∀i,i<n->(Ds i).dead=false/\(Ds i).wait.length<=1000):
  Calls prog 17 #[.slice (some ⟨gd,0,none⟩) n cap,.int .i64 (k:Int),.int .i64 (m:Int)] w fun e w'=>∃s ms c xs V w1,e=.returned (.tuple #[.pointer (some ⟨s,0,none⟩),.nilIface])/\Below w.heap.size w w1/\Zf B ⟨n,p,s,ms,c,xs,ds⟩ (WU ⟨n,p,s,ms,c,xs,ds⟩ Ls (fun i=>[xs i])) V w1 w'/\FmS K ⟨k,m,0,P,Ds,fun _=>none⟩ n V/\w.heap.size<=s/\∀i,i<n->w.heap.size<=xs i:=by
 have ah:=Z7B w gd n cap k m ds hc cn cj hn aj
 have cr:1<=n:=by omega
 have au:k<=16:=by omega
 have aw:m<=16:=by omega
 have H:=Zka (Zkb ah (Zkb bm (Zkb ai (Zkb ht (Zkb bf (Zkb af hf))))))
 clear ah bm ai ht bf af hf hn hc
 go_enter func17,ntmps17
 go_wp2_with (go_at_call 47;refine H.out.1.mono ?_;rintro e w1 ⟨s,v,xs,rfl,hS⟩;obtain⟨ms,c,hp⟩:=hS.eat bz cr aj H.out.2.1 H.out.2.2.1;have c2:w1.cell? ⟨s,2,none⟩=some (.slice (some ⟨ms,0,none⟩) n c):=hp.set.cell (j:=2) rfl;have H1:=Zka (Zkb hp (Zkb hS.bel (Zkb hS.sge hS.ge)));clear hS hp)
 have ay:EAt B w1 ⟨n,p,s,ms,c,xs,ds⟩ ⟨k,m,0,P,Ds,fun _=>none⟩ (WU ⟨n,p,s,ms,c,xs,ds⟩ Ls (fun i=>[xs i])):=⟨_,_,rfl,H1.out.1⟩
 have az:FmS K ⟨k,m,0,P,Ds,fun _=>none⟩ 0 ⟨k,m,0,P,Ds,fun _=>none⟩:=⟨rfl,rfl,rfl,H.out.2.2.2.2.2.1,H.out.2.2.2.2.2.2,fun i hi=>by omega,fun i hi=>⟨rfl,rfl⟩,fun i=>rfl⟩
 have H2:=Zka (Zkb ay az)
 clear ay az
 go_loopw [27] (fun kv wr=>∃ (t:Nat) (V:Ev),t<=n/\kv=.int .i64 t/\Zf B ⟨n,p,s,ms,c,xs,ds⟩ (WU ⟨n,p,s,ms,c,xs,ds⟩ Ls (fun i=>[xs i])) V w1 wr/\FmS K ⟨k,m,0,P,Ds,fun _=>none⟩ t V) (fun kv _=>n- (intOf kv).toNat)
 case atStart=>exact⟨0,_,by omega,rfl,Zf.refl H2.out.1,H2.out.2⟩
 case round=>
  obtain⟨t,V,cy,rfl,hR,hF⟩:=hrel
  have HR:=Zka (Zkb hR hF)
  by_cases ag:t<n
  ·have ak:Ty w1:=H.out.2.2.2.1.below H1.out.2.1
   have bq:=Zf.ty hR H2.out.1 ak bg
   obtain⟨bu,e1,g1,f1⟩:=hR
   have he:=e1
   obtain⟨cu,cw, -,bj⟩:=e1
   obtain⟨hM,ax⟩:=hF.rest t Zk8
   obtain⟨al,aq⟩:=H.out.2.2.2.2.1 t ag
   have bh:=(bj.pd t ag).ok
   have ae:V.Ds t=Ds t:=ax
   obtain⟨n1,n2⟩:=hF.next hK bh (by rw[ae];exact al) (by rw[ae];exact aq)
   have hb:=
    ZdT B wr ⟨n,p,s,ms,c,xs,ds⟩ V bu K t 0 he bq bg ag hM hK (by rw[hF.k];exact au) (by rw[hF.m];exact aw) (by omega) (by rw[ae];exact aq) (by rw[ae];exact al) n1
   have ct:(t:Int)<(n:Int):=by omega
   have HB:=Zka (Zkb hb (Zkb n1 (Zkb n2 (Zkb he (Zkb g1 f1)))))
   clear hb n1 n2 he g1 f1 bj hF hM ax ae bh al aq bq ak
   go_wp2_with (go_at_call 48;refine HB.out.1.mono ?_;rintro e w2 ⟨rfl,b9⟩;have R2:=Zka (Zf.trans HB.out.2.2.2 b9);clear b9)
   go_roundw
   case measure=>simp[intOf];omega
   case rel=>exact⟨t+1,_,by omega,by go_num,R2.out,HB.out.2.2.1⟩
  ·obtain rfl:t=n:=by omega
   clear hR hF
   go_wp2_with fail
   go_ret2
   exact⟨s,rfl,ms,c,xs,V,w1,H1.out.2.1,HR.out.1,HR.out.2,H1.out.2.2.1,H1.out.2.2.2⟩
end
end Go.Proofs.YthppfllkocphbaaGreatDoor
