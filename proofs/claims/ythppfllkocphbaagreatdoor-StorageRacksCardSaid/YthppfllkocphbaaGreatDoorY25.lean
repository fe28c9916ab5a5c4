/- Part 26: lemmas about what the program computes. -/
import Derived.Test.YthppfllkocphbaaGreatDoorY24
namespace Go.Proofs.YthppfllkocphbaaGreatDoor
set_option linter.unusedVariables false
set_option linter.unusedSimpArgs false
set_option maxHeartbeats 25600000
set_option maxRecDepth 100000
open Tryz Go.RowKit
section
open Go.Shelf
structure MD(B:Nat)(w:World)(R:Rg)(p:Nat)(ds:Nat->Nat)(bl:List Nat)(St:(Nat->Dk)->Prop)(x:World):Prop where
 fr:Fr (p::bl) w x
 at_:∃P Ds blx,DAt B x p R.n ds P Ds blx/\Ze x p P/\P.gone=false/\P.fuse<0/\(∀q∈blx,q∈bl∨w.heap.size<=q)/\St Ds
theorem MD.after{B:Nat}{w:World}{R:Rg}{p:Nat}{ds:Nat->Nat}{bl:List Nat}{F:(Nat->Dk)->Prop}{x y:World}(h:MD B w R p ds bl F x)(C:Below x.heap.size x y):MD B w R p ds bl F y:=by obtain⟨P,Ds,J,M,O,U⟩:=h.at_;exact⟨h.fr.trans (Fr.of_below (L:=[]) C) (by simp),P,Ds,J,M.after C,Row.after O C,U⟩
def IA(E k m n g:Nat)(H:Bs->Option Bs)(sd:Nat->Bool)(St:(Nat->Dk)->Prop):Prop:=
 ∀D,St D->(∀i,i<n->(D i).ok 800)->∃ (Ss:Nat->Sto) (A:Nat->List Ac) (gv:Nat->Int),(∀i,i<n->WY K11 E k m g i (D i) (some (Ss i)) (gv i) (some (Ss i)) (A i))/\(∃i,i<n/\gv i=(g:Int))/\
  ∀V:Ev,V.P.gone=false->V.P.fuse<0->V.Ds=D->(∀i,i<n->V.Ms i=some (Ss i))->MK A V n (QC A n V)/\St (QC A n V).2.Ds/\∀V':Ev,V'.k=k->V'.m=m->V'.gen=(g:Int)->V'.P.gone=false->V'.P.fuse<0->V'.Ds=(QC A n V).2.Ds->(∀i,i<n->V'.Ms i=(QC A n V).2.Ms i)->Za K11 E k m n g H sd V'
theorem K8(B:Nat)(w:World)(R:Rg)(p:Nat)(ds:Nat->Nat)(P:Pw)(Ds:Nat->Dk)(bl:List Nat)(sv hv:Value)(ha:Option Addr)(hc:Nat)(hs:ZP)(sd:Nat->Bool)(E g:Nat)(H:Bs->Option Bs)(O:(Nat->Dk)->Prop)(h:RmD B w R p ds P Ds bl sv hv ha hc hs sd)(ak:∀x v,H x=some v->v.length<=200/\x∈K11)(ht:Ty w)(M:0<B)(af:P.gone=false)(ae:P.fuse<0)(al:O Ds)(hO:IA E R.k R.m R.n g H sd O)(hE:E<=2000000000)(hg:g<=1000000000):Calls prog 13 #[.pointer (some ⟨R.r,0,none⟩)] w λe w'=>∃J V' bl' az,e=.returned (.bool true)/\ZX B w' R J V' bl' (.pointer (some ⟨J.s,0,none⟩)) az ha hc hs sd/\Za K11 E R.k R.m R.n g H sd V'/\J.p=p/\J.ds=ds/\(∀q∈bl',q∈bl∨w.heap.size<=q)/\Fr (R.r::p::bl) w w':=by
 refine VC B w R p ds P Ds bl sv hv ha hc hs sd E g H h ak ht M (OpW:=MD B w R p ds bl O) ⟨Fr.refl _ _,P,Ds,bl,h.at_,h.pw,af,ae,λq F=>Or.inl F,al⟩ (λx y hx hb=>hx.after hb) (λwx hx=> ?_);obtain⟨P1,D1,aj,U,h2,h3,h4,h5,h6⟩:=hx.at_;have au:∀i,i<R.n->(D1 i).ok 800:=λi hi=>by obtain⟨Ls,rfl,g1,g2⟩:=U;exact(g1 i hi).ok
 obtain⟨Ss,A,gv,a1,a2,a3⟩:=hO D1 h6 au;obtain⟨b1,b2,b3⟩:=a3 ⟨R.k,R.m,(g:Int),P1,D1,λi=>some (Ss i)⟩ h3 h4 rfl (λ_ _=>rfl);obtain⟨s1,d1⟩:=h.drow;have d2:=d1.fr hx.fr (h.tyd.row_ne d1 (by decide));have aw:Ty wx:=ht.fr hx.fr h.ge h.bw M;refine(Td B wx K11 E R.gd R.n R.cd R.k R.m p g ds P1 D1 aj Ss gv A (λi hi=>d2.cell (by rw[Z5c (by rw[YY];exact hi)];exact XF _ _ _ hi)) d2.lt (λhm=> ?_) h.k1 h.kn.symm h.n16 (Z5w h.bw hx.fr.size) U K7 h3 aw M a1 a2 b1 hE hg).mono ?_
 .rcases Z5q.1 hm with C|C
  .exact Row.ne d2 h2 (by simp) C
  .exact U.typed.row_ne d2 (by decide) C
 .rintro e w' ⟨J,V',bl',rfl,ag,⟨k1,k2,k3,k4,k5⟩,hD,hM,e1,e2,e3,aq,hf⟩;have hz:=hx.fr.size
  have ah:Fr (p::bl) w w':=hx.fr.trans hf (λq F b7=>by
   rcases Z5q.1 F with rfl|F
   .simp
   .rcases h5 q F with C|C
    .simp_all
    .omega)
  have ai:∀q∈bl',q∈bl∨w.heap.size<=q:=λq F=>by
   rcases aq q F with C|C
   .exact h5 q C
   .exact Or.inr (by omega)
  refine⟨J,V',bl',rfl,ag,b3 V' k1 k2 k3 k4 k5 hD hM,e1,e2,e3,ai,ah,ah,?_⟩;obtain⟨Ls,Os,rfl,Z⟩:=ag;refine⟨V'.P,V'.Ds,(List.range R.n).flatMap Ls,⟨Ls,rfl,λi hi=> ?_,λi j hi hj=>Z.dap i j (by omega) (by omega)⟩,by rw[<-e2];exact Z.pw,k4,k5,λq F=> ?_,by rw[hD];exact b2⟩
  .have C:=Z.pd i (by omega);rw[e2,e3] at C;exact C
  .obtain⟨i,hi,F⟩:=A6.1 F;exact ai q (Qh.2 (Or.inr (Or.inl ⟨i,by omega,F⟩)))
section
variable{E k m n g:Nat}{H:Bs->Option Bs}{V0:Ev}{l:List Chg}
def Gk(n:Nat)(V0:Ev)(D:Nat->Dk):Prop:=∀i,i<n->(D i).dead=false/\(D i).life=(V0.Ds i).life
theorem TG(h:Za K11 E k m n g H (λ_=>true) V0)(hX:((Za.ph K11 E k m g H V0).chg l).Ok n)(hg:g<=1000000000):IA (E+2) k m n g H (λ_=>true) (λD=>Gk n V0 D/\((Za.ph K11 E k m g H V0).chg l).o0 n D):=λD C J=>by obtain⟨Ss,A,h1,h2⟩:=Z9.open0 hX hg (λi hi=>⟨(C.1 i hi).1,J i hi⟩) C.2;refine⟨Ss,A,λ_=>(g:Int),h1,⟨0,by have:=h.k1;have:=h.kn;omega,rfl⟩,λV M a2 a3 a4=> ?_⟩;obtain⟨b1,b2⟩:=h2 V M a2 a3 a4;have F:Gk n V0 (QC A n V).2.Ds:=λi hi=>⟨by rw[(b1.dead i),a3];exact(C.1 i hi).1,by rw[b1.life,a3];exact(C.1 i hi).2⟩;refine⟨b1,⟨F,λi hi=> ?_⟩,λV' c1 c2 c3 O U c6 Z=>h.back (l:=l) c1 c2 c3 O U (λi hi=>by rw[c6];exact(F i hi).2) (λi hi=>by rw[c6,Z i hi];exact b2 i hi)⟩;grind
theorem PN(h:Za K11 E k m n g H (λ_=>true) V0)(hX:((Za.ph K11 E k m g H V0).chg l).Ok n)(hg:g<=999999999):IA (E+2) k m n (g+1) (upH H l) (λ_=>true) (λD=>Gk n V0 D/\((Za.ph K11 E k m g H V0).chg l).o2 n D):=λD C M=>by
 obtain⟨Ss,A,gv,h1,J,h2⟩:=Z9.open2 hX hg (λi hi=>⟨(C.1 i hi).1,M i hi⟩) C.2;refine⟨Ss,A,gv,h1,J,λV O a2 a3 a4=> ?_⟩;obtain⟨b1,b2⟩:=h2 V O a2 a3 a4;have F:Gk n V0 (QC A n V).2.Ds:=λi hi=>⟨by rw[(b1.dead i),a3];exact(C.1 i hi).1,by rw[b1.life,a3];exact(C.1 i hi).2⟩;have ae:0<n:=by omega
 refine⟨b1,⟨F,λi hi=> ?_,0,?_⟩,λV' c1 c2 c3 U Z c6 c7=>h.forth (l:=l) c1 c2 c3 U Z (λi hi=>by rw[c6];exact(F i hi).2) (λi hi=>by rw[c6,c7 i hi];exact b2 i hi)⟩
 .grind
 .grind
end
def K3:Bs:=[104,101,108,108,111]
def Nt:List Chg:=[⟨[97],some K3⟩]
theorem PB:JN (λ_=>none) Nt [97]=some K3:=by simp[JN,Nt]
theorem Za.out{K:List Bs}{E k m n g:Nat}{H:Bs->Option Bs}{sd:Nat->Bool}{V:Ev}(h:Za K E k m n g H sd V){i:Nat}{D:Dk}(hl:D.life<=(E:Int)+1)(hm:k<=I4 (upd sd i false) n):Za K (E+1) k m n g H (upd sd i false) {V with Ds:=upd V.Ds i D,Ms:=upd V.Ms i none}:=by
 refine⟨h.hK,h.k1,h.kn,h.vk,h.vm,h.vg,h.gone,h.fuse,λj C=> ?_,λj C S hM=> ?_,λj C hs=> ?_,hm⟩<;>by_cases e:j=i
 .subst e;simp only[Zo];omega
 .simp only[Z6 _ _ e];have:=h.life j C;omega
 .subst e;simp only[Zo] at hM;cases hM
 .simp only[Z6 _ _ e] at hM⊢;exact⟨(h.in_ j C S hM).1.mono (by omega),(h.in_ j C S hM).2⟩
 .subst e;rw[Zo] at hs;cases hs
 .simp only[Z6 _ _ e] at hs⊢;exact h.snd j C hs
theorem SE(w:World)(ht:Ty w):Calls prog 7 #[] w λe w'=>e=.returned (.bool true)/\Below w.heap.size w w':=by
 have O:=ht.lt;have HT:=Z5F ht;clear ht;have bh:((str K3).toList==[104,101,108,108,111])=true:=by rw[ByteArray.toList_eq,Zn];rfl
 go_enter func7,ntmps7;go_wp2_with (first|(go_at_call 8;refine(show Calls prog 8 #[.int .i64 2,.int .i64 1,.int .i64 800] _ _ from Og _ 2 1 (by omega) (by omega) (by omega) HT.out).mono ?_;rintro e w1 ⟨R,G,V,bl,hh,rfl,F,ak,hk,hm,hb⟩;have c4:=F.room.cell (j:=4) rfl;have c5:=F.room.cell (j:=5) rfl;have aj:R.n=3:=(by have:=F.kn;omega);have bg:0<R.n:=(by omega);rw[hk,hm,aj] at ak;have ai:=F.gn;rw[aj] at ai;have M:=(Below.refl w1.heap.size w1).alloc Z5D (.cells #[.string ⟨#[97]⟩,.string ⟨#[104,101,108,108,111]⟩,.bool false] 68);have ag:Jc (w1.alloc (.cells #[.string ⟨#[97]⟩,.string ⟨#[104,101,108,108,111]⟩,.bool false] 68)) w1.heap.size Nt:=⟨[],Row.new w1 _ _⟩;have b7:=(Ty.below HT.out hb).below M;have h:=Z5N (F.after M) ak ai (hb.trans (M.mono hb.size)) ag b7;clear F ak ai hb M ag b7 hk hm aj)|(go_at_call 11;refine(h.out.2.1.commitW h.out.1.set h.out.2.2.1 h.out.2.2.2.2.2 O (by omega) (by omega) (by decide) (by decide) (by decide) (by decide) h.out.2.2.2.2.1 rfl Z5D).mono ?_;rintro e w3 ⟨l,V3,hl,rfl,U,ae⟩;rw[Z0k hl] at ae;have aw:=Zi.ty U h.out.1.set h.out.2.2.2.2.2 O;have al:=U.below h.out.1.set;obtain⟨b8,J⟩:=h.out.1.ran U;have c1:=J.room.cell (j:=1) rfl;have d0:=J.dcell (i:=0) (by have h1:=J.gn;have h2:=h.out.2.2.1;omega);have C:=Z5L J ae aw (h.out.2.2.2.1.trans al);clear hl U ae aw al J)|(go_at_call 26;refine(V6 _ _ G V3 b8 0 C.out.1.set (by have h2:=h.out.2.2.1;omega) (by have:=C.out.2.1.life 0 (by omega);omega)).mono ?_;rintro e w4 ⟨rfl,Z⟩;have az:=Zi.ty Z C.out.1.set C.out.2.2.1 O;have aq:=Z.below C.out.1.set;obtain⟨b9,ah⟩:=C.out.1.ran Z;have bf:=ah.room.cell (j:=4) rfl;have R4:=Z5K ah az aq;clear Z az aq ah)|(go_at_call 28;have af:=C.out.2.1.out (i:=0) (D:=(V3.Ds 0).killed) (by have:=C.out.2.1.life 0 (by omega);show(V3.Ds 0).life+1<=_;omega) (by decide);refine(show Calls prog 28 #[.pointer (some ⟨G.s,0,none⟩),.string ⟨#[97]⟩] _ _ from af.get R4.out.1.set h.out.2.2.1 R4.out.2.1 O (key:=[97]) (v:=K3) PB (by decide) (by decide)).mono ?_;rintro e w5 ⟨rfl,au⟩;have R5:=Z5F ((C.out.2.2.2.trans R4.out.2.2).trans (au.below R4.out.1.set));clear au af));go_ret;exact⟨rfl,R5.out⟩
theorem PD.low{B B':Nat}{w:World}{p d n:Nat}{P:Pw}{D:Dk}{L:List Nat}(h:PD B w p d n P D L)(hB:B'<=B):PD B' w p d n P D L:=⟨h.pw,h.pok,h.dk,h.ok,Z5w hB h.bp,λk C=>Z5w hB (h.bL k C)⟩
theorem EAt.low{B B':Nat}{w:World}{G:Eg}{V:Ev}{bl:List Nat}(h:EAt B w G V bl)(hB:B'<=B):EAt B' w G V bl:=by obtain⟨Ls,Os,e,C⟩:=h;exact⟨Ls,Os,e,C.set,C.mem,C.n1,C.n16,λi hi=>(C.pd i hi).low hB,C.dap,C.at_,C.oap,λi hi k F=>Z5w hB (C.bO i hi k F),Z5w hB C.bs⟩
section
variable{B B':Nat}{w w':World}{R:Rg}{G:Eg}{V:Ev}{bl X:List Nat}{sv hv:Value}{ha:Option Addr}{hc:Nat}{hs:ZP}{sd:Nat->Bool}{P':Pw}{ts:List TypeId}
theorem ZX.low(h:ZX B w R G V bl sv hv ha hc hs sd)(hB:B'<=B):ZX B' w R G V bl sv hv ha hc hs sd:=⟨h.room,h.drow,h.srow,h.held,h.set.low hB,Z5w hB h.rB,h.gn,h.kn,h.k1⟩
theorem EAt.power(h:EAt B w G V bl)(C:Fr X w w')(M:Z8 w X ts)(O:197∉ts)(U:4∉ts)(Z:92∉ts)(F:∀k∈bl,k∉X)(hp:Ze w' G.p P')(pok:P'.ok):EAt B w' G {V with P:=P'} bl:=by obtain⟨Ls,Os,rfl,h⟩:=h;obtain⟨sp,hm⟩:=h.mem;exact⟨Ls,Os,rfl,h.set.fr C (F _ (by simp[Wb])),⟨sp,hm.fr C (M.row_ne hm Z)⟩,h.n1,h.n16,λi hi=>(h.pd i hi).power C (λk J=>F k (Qh.2 (Or.inr (Or.inl ⟨i,hi,J⟩)))) hp pok,h.dap,λi hi=>(h.at_ i hi).fr C M O U (λk J=>F k (Qh.2 (Or.inr (Or.inr ⟨i,hi,J⟩)))),h.oap,h.bO,h.bs⟩
theorem ZX.power(h:ZX B w R G V bl sv hv ha hc hs sd)(C:Fr X w w')(J:Z8 w X (39::Yl))(F:R.r∉X)(M:∀k∈bl,k∉X)(O:Ze w' G.p P')(pok:P'.ok):ZX B w' R G {V with P:=P'} bl sv hv ha hc hs sd:=by
 obtain⟨s1,d1⟩:=h.drow;obtain⟨s2,d2⟩:=h.srow;refine⟨h.room.fr C F,⟨s1,d1.fr C (J.row_ne d1 (by decide))⟩,⟨s2,d2.fr C (J.row_ne d2 (by decide))⟩,?_,h.set.power C J (by decide) (by decide) (by decide) M O pok,h.rB,h.gn,h.kn,h.k1⟩;rcases h.held with h9|⟨g,sp,e,F⟩
 .exact Or.inl h9
 .exact Or.inr ⟨g,sp,e,F.fr C (J.row_ne F (by decide))⟩
theorem EAt.pn(h:EAt B w G V bl):G.p∉bl:=by
 obtain⟨Ls,Os,rfl,h⟩:=h;intro hm;rcases Qh.1 hm with e|⟨i,hi,C⟩|⟨i,hi,C⟩
 .exact Row.ne h.pw h.set (by simp) e
 .exact(h.pd i hi).typedL.row_ne h.pw (by decide) C
 .exact(h.at_ i hi).typed.row_ne h.pw (by decide) C
theorem EAt.pok(h:EAt B w G V bl):Ze w G.p V.P/\V.P.ok:=by obtain⟨Ls,Os,rfl,h⟩:=h;exact⟨h.pw,(h.pd 0 h.n1).pok⟩
end
theorem Pm(B:Nat)(w:World)(G:Eg)(V:Ev)(bl:List Nat)(X:Z9)(gc n cap:Nat)(cs:List Chg)(h:EAt B w G V bl)(ht:Ty w)(dc:0<B)(af:V.P.gone=true)(hX:KOk X.K)(de:1<=V.k)(ai:V.k<=(ZI V G.n).length)(dj:cs≠[])(az:cs.length<=4)(ah:∀c∈cs,c.key∈X.K)(ak:∀c∈cs,∀v,c.val=some v->v.length<=200)(hr:Jc w gc cs)(hn:n=cs.length)(bu:n<=cap):Calls prog 11 #[.pointer (some ⟨G.s,0,none⟩),.slice (some ⟨gc,0,none⟩) n cap] w λe w'=>∃ev,e=.returned ev/\Zk w' w.heap.size 10 ev/\Zi B G bl V w w':=by
 have cj:=h.nle;have c4:=h.scell.cell (j:=4) rfl;have c2:=h.scell.cell (j:=2) rfl;have dh:((n:Int)==0)=false:=by simp_all
 have bz:decide ((n:Int)>32)=false:=by simp;omega
 have ae:∀c∈cs,1<=c.key.length/\c.key.length<=200/\(c.val.getD []).length<=8000:=λc hc=>by
  have h1:=hX.len _ (ah c hc);refine⟨h1.1,by omega,?_⟩;cases hv:c.val with
  |none=>simp
  |some v=>have:=ak c hc v hv;simp;omega
 have bj:=KD gc n cap cs w hr.rd hn (by omega) ae;have H:=Z5L h hr ht bj;clear h hr hn ht ae bj az ah ak;go_enter func11,ntmps11;go_wp2_with (go_at_call 32;refine H.out.2.2.2.mono ?_;rintro e w1 ⟨rfl,au⟩;have cr:=(au.cell (Z5b _ _ c2)).trans c2;have R1:=Z5F au;clear au c4 c2);have I0:CoS B w G V bl gc cs (.slice none 0 0) (ZI V 0) V w1:=⟨Zi.same H.out.1 R1.out,World.ownsRow_nil _ _ _ _,by obtain⟨sp,hr⟩:=H.out.2.1;exact⟨sp,hr.after R1.out⟩⟩;have bm:=Z5F I0;clear I0;go_loopw [5,43] (λiv kv wr=>∃k:Nat,k<=G.n/\kv=.int .i64 k/\CoS B w G V bl gc cs iv (ZI V k) V wr) (λ_ kv _=>G.n- (intOf kv).toNat)
 case atStart=>exact⟨0,by omega,rfl,bm.out⟩
 case round=>
  obtain⟨k,hk,rfl,hS⟩:=hrel;have U:=Z5F hS;obtain⟨aq,F,al,J⟩:=hS.ran;have HE:=Z5K F al J;by_cases bf:k<G.n
  .have M:=LL V k;cases hM:V.Ms k with
   |none=>
    rw[hM] at M;have hh:=AU B wr G V aq k F bf hM;have O:=Z5J hh M;clear F al J hS hh M hM;go_wp2_with (go_at_call 34;refine O.out.1.mono ?_;rintro e w2 ⟨rfl,bg⟩;have C:=Z5F (U.out.next HE.out bg);clear bg);go_roundw
    case measure=>simp[intOf];omega
    case rel=>exact⟨k+1,by omega,by go_num,by rw[O.out.2];simpa using C.out⟩
   |some S=>
    rw[hM] at M;have hh:=JW B wr G V aq k F bf S hM;have b9:(ZI V k).length<=1000000:=by have:(ZI V k).length<=(List.range k).length:=List.length_filter_le _ _;grind
    have O:=Z5K hh M b9;clear F al J hS hh M hM b9;go_wp2_with (first|(go_at_call 34;refine O.out.1.mono ?_;rintro e w2 ⟨rfl,Z⟩;have s2:=(U.out.after Z).after ((Below.refl w2.heap.size w2).alloc Z5D (.cells #[.int .i64 (k:Int)] 3));have bh:Row (w2.alloc (.cells #[.int .i64 (k:Int)] 3)) w2.heap.size 3 [.int .i64 (k:Int)]:=Row.new w2 _ _;have aj:w.heap.size<=(w2.alloc (.cells #[.int .i64 (k:Int)] 3)).heap.size:=(by obtain⟨cn,e9,g9,f9⟩:=s2.ran;exact f9.size);have C:=Z5K s2 bh aj;clear Z s2 bh aj)|(at_builtin;refine KB _ rfl (.tmp 49) (.tmp 51) rfl w.heap.size _ (ZI V k) rfl C.out.1.ints w2.heap.size k rfl C.out.2.1 C.out.2.2 O.out.2.2 ?_;intro g4 bq w4 ho J _ _ _;have R4:=Z5F (C.out.1.put ho J);clear ho J));go_roundw
    case measure=>simp[intOf];omega
    case rel=>exact⟨k+1,by omega,by go_num,by rw[O.out.2.1];simpa using R4.out⟩
  .obtain rfl:k=G.n:=(by omega);obtain⟨ins,ag⟩:=Z5H (ZI V G.n);rw[ag] at U ai;obtain⟨gi,ci,sp,rfl,cz,cu,cw,b8⟩:=YR U.out.ints (by omega);have c0:=F.scell.cell (j:=0) rfl;have df:¬ (ins.length:Int)<(V.k:Int):=(by omega);have b7:=IT B wr G V aq F (Zi.ty U.out.ran H.out.1 H.out.2.2.1);rw[af,if_pos rfl] at b7;have HR:=Z5F b7;clear F al J hS b7 ag b8;go_wp2_with (go_at_call 35;refine HR.out.mono ?_;rintro e w2 ⟨ct,rfl,aw,Z⟩;obtain⟨b2,rfl⟩:=(aw.split.resolve_left (λh=>absurd h.1 (by omega))).2;have C:=Z5K aw (U.out.after Z).ran HE.out.2.2.size;clear aw Z);go_ret;exact⟨_,rfl,C.out.1.base C.out.2.2,C.out.2.1⟩
theorem Z18(l:ZP)(c:Chg):(l.filter λp=>p.1 !=c.key)++(if c.val.isNone=true then[] else[(c.key,c.val.getD [])])=J7 l c:=by unfold J7;cases c.val<;>rfl
theorem UK(l:ZP)(cs:List Chg)(t:Nat)(h:t<cs.length):YO l (cs.take (t+1))=J7 (YO l (cs.take t)) cs[t]:=by unfold YO;rw[List.take_add_one,Z5a h,List.foldl_append];rfl
theorem Z0D(cs:List Chg):∀l:ZP,(YO l cs).length<=l.length+cs.length:=by
 induction cs with
 |nil=>intro l;exact Z5D
 |cons c r ih=>intro l;have h:=ih (J7 l c);have C:=Vm l c;show(YO (J7 l c) r).length<=_;rw[Z5h];omega
theorem SF(w:World)(r:Nat)(a:Option Addr)(cp:Nat)(hs:ZP)(gc n cap:Nat)(cs:List Chg)(c6:w.cell? ⟨r,6,none⟩=some (.slice a hs.length cp))(h:Qk w a hs)(hl:hs.length<=100)(aq:BK w gc cs)(hn:n=cs.length)(bf:n<=100):Calls prog 12 #[.pointer (some ⟨r,0,none⟩),.slice (some ⟨gc,0,none⟩) n cap] w λe w'=>∃U Z,e=.returned (.slice U (YO hs cs).length Z)/\Qk w' U (YO hs cs)/\Below w.heap.size w w':=by
 have H:=Z5K h aq hn;clear h aq hn;go_enter func12,ntmps12;go_wp2_with fail;go_loopw [5,6] (λv kv wr=>∃ (t:Nat) (U:Option Addr) (L' Z:Nat),t<=n/\kv=.int .i64 t/\v=.slice U L' Z/\L'=(YO hs (cs.take t)).length/\Qk wr U (YO hs (cs.take t))/\Below w.heap.size w wr) (λ_ kv _=>n- (intOf kv).toNat)
 case atStart=>exact⟨0,a,hs.length,cp,by omega,rfl,rfl,rfl,H.out.1,Z5E⟩
 case round=>
  obtain⟨t,U,L',Z,bh,rfl,rfl,hL,hh,M⟩:=hrel;by_cases b9:t<n
  .have af:t<cs.length:=by rw[<-H.out.2.2];exact b9
   have bg:(t:Int)<(n:Int):=(by omega);obtain⟨q0,q1,q2⟩:=H.out.2.1.2 t af;have ai:=H.out.2.1.1;have d0:=(M.cell (p:=⟨gc,t*3,none⟩) ai).trans q0;have d1:=(M.cell (p:=⟨gc,t*3+1,none⟩) ai).trans q1;have d2:=(M.cell (p:=⟨gc,t*3+2,none⟩) ai).trans q2;have O:=UK hs cs t af;rw[<-Z18] at O;have ah:(YO hs (cs.take t)).length<=1000:=by
    have h1:=Z0D (cs.take t) hs;have h2:(cs.take t).length<=t:=by rw[Z5j];omega
    omega
   obtain⟨P,hP⟩:=Z5H (YO hs (cs.take t));obtain⟨ck,al⟩:=Z5H cs[t].key;obtain⟨J,au⟩:=Z5H (cs[t].val.getD []);obtain⟨F,ak⟩:=Z5H cs[t].val.isNone;rw[hP] at hL hh O ah;rw[al] at d0 O;rw[au] at d1 O;rw[ak] at d2 O;subst hL;have hd:=(Below.refl wr.heap.size wr).drew;obtain⟨PP,ag⟩:=Z5H ((P.filter λp=>p.1 !=ck)++(if F=true then[] else[(ck,J)]));rw[ag] at O;have ae:∀x:World,(x.cell? ⟨gc,t*3,none⟩=some (.string (str ck))/\x.cell? ⟨gc,t*3+1,none⟩=some (.string (str J))/\x.cell? ⟨gc,t*3+2,none⟩=some (.bool F)/\Below wr.heap.size wr x)->Calls prog 42 #[.slice U P.length Z,.string (str ck),.string (str J),.bool F] x λe w'=>∃aj b7,e=.returned (.slice aj PP.length b7)/\Qk w' aj PP/\Below x.heap.size x w':=λx hx=>by have h9:=Z19 x U Z P ck J F (hh.after hx.2.2.2) ah;rw[ag] at h9;exact h9
   have az:∀x y:World,(x.cell? ⟨gc,t*3,none⟩=some (.string (str ck))/\x.cell? ⟨gc,t*3+1,none⟩=some (.string (str J))/\x.cell? ⟨gc,t*3+2,none⟩=some (.bool F)/\Below wr.heap.size wr x)->Below x.heap.size x y->(y.cell? ⟨gc,t*3,none⟩=some (.string (str ck))/\y.cell? ⟨gc,t*3+1,none⟩=some (.string (str J))/\y.cell? ⟨gc,t*3+2,none⟩=some (.bool F)/\Below wr.heap.size wr y):=by rintro A C ⟨h0,h1,h2,h7⟩ M;have key:∀{p:Addr} {v:Value},A.cell? p=some v->C.cell? p=some v:=λh=>(M.cell (Z5b A _ h)).trans h;exact⟨key h0,key h1,key h2,h7.trans (M.mono h7.size)⟩
   have HK:=Z5F az;clear az;have HX:=Z5L ae M O hd;clear ae M O hh hP al au ak q0 q1 q2 ah ag;have hs0:(wr.drew.cell? ⟨gc,t*3,none⟩=some (.string (str ck))/\wr.drew.cell? ⟨gc,t*3+1,none⟩=some (.string (str J))/\wr.drew.cell? ⟨gc,t*3+2,none⟩=some (.bool F)/\Below wr.heap.size wr wr.drew):=⟨d0,d1,d2,hd⟩;go_wp2_with fail;go_region_held3 (λx=>x.cell? ⟨gc,t*3,none⟩=some (.string (str ck))/\x.cell? ⟨gc,t*3+1,none⟩=some (.string (str J))/\x.cell? ⟨gc,t*3+2,none⟩=some (.bool F)/\Below wr.heap.size wr x) (first|exact hs0|(exact HK.out _ _ (by assumption) (by assumption)))
    (first|(go_at_call 42;refine(HX.out.1 _ (by assumption)).mono ?_;rintro e w8 ⟨a8,c8,rfl,aw,b8⟩))
   rename_i hHeld;have HY:=Z5J aw hHeld.2.2.2;clear aw b8 hHeld hs0 d0 d1 d2;go_wp2_with fail;go_roundw
   case measure=>simp[intOf];omega
   case rel=>exact⟨t+1,a8,_,c8,by omega,by go_num,rfl,by rw[HX.out.2.2.1],by rw[HX.out.2.2.1];exact HY.out.1,HX.out.2.1.trans (HY.out.2.mono HX.out.2.1.size)⟩
  .obtain rfl:t=n:=(by omega);have e9:cs.take t=cs:=Z5o (by rw[H.out.2.2];exact Z5D);rw[e9] at hL hh;subst hL;have HE:=Z5J hh M;clear hh M;go_wp2_with fail;go_ret;exact⟨_,_,rfl,HE.out.1,HE.out.2⟩
end
section
open Go.Shelf
variable{c:Int}
abbrev tt':Nat->Bool:=λ_=>true
structure Hn(E k m n g:Nat)(H:Bs->Option Bs)(V0:Ev)(l:List Chg)(c:Int)(D:Nat->Dk):Prop where
 ok:((Za.ph K11 E k m g H V0).chg l).Ok n
 lives:Gk n V0 D
 st:∀kl tl,(c≠0/\((Za.ph K11 E k m g H V0).chg l).o0 n (Qx kl tl D n))∨((Za.ph K11 E k m g H V0).chg l).o2 n (Qx kl tl D n)
section
variable{B:Nat}{w w':World}{R:Rg}{G:Eg}{V0:Ev}{P1:Pw}{bl:List Nat}{sv hv:Value}{ha:Option Addr}{hc:Nat}{hs:ZP}{E g:Nat}{H:Bs->Option Bs}{cs:List Chg}{gc nc cap:Nat}
theorem ZX.ran_d{V:Ev}{sd:Nat->Bool}(h:ZX B w R G V bl sv hv ha hc hs sd){P2:Pw}{D2:Nat->Dk}(C:Qv B G bl P2 D2 w w'):∃bl2,RmD B w' R G.p G.ds P2 D2 bl2 sv hv ha hc hs sd/\(∀q∈bl2,q∈bl∨w.heap.size<=q)/\Fr (G.p::bl) w w':=by
 obtain⟨bl0,U,Z⟩:=h.d;have F:=h.set.typed;have O:Ze w' G.p P2:=by obtain⟨Ls,g1,_⟩:=C;have M:0<G.n:=h.set.nle.1;exact(g1 0 M).pw
 obtain⟨bl2,g1,g2⟩:=C.at_;obtain⟨-, -, -, -,J⟩:=C;rw[h.gn] at g1;exact⟨bl2,U.fr J F (F.row_ne h.room (by decide)) (by decide) (by decide) (by decide) g1 O,g2,J⟩
theorem Z3F(h:ZX B w R G {V0 with P:=P1} bl sv hv ha hc hs tt')(F:Za K11 E R.k R.m R.n g H tt' V0)(ae:P1.gone=false)(ht:Ty w)(af:0<B)(hE:E<=1900000000)(aj:g<=900000000)(ah:cs≠[])(M:cs.length<=4)(O:∀c∈cs,c.key∈K11)(U:∀c∈cs,∀v,c.val=some v->v.length<=200)(hr:Jc w gc cs)(ag:nc=cs.length)(J:nc<=cap):Calls prog 11 #[.pointer (some ⟨G.s,0,none⟩),.slice (some ⟨gc,0,none⟩) nc cap] w λe w'=>∃ev c l P2 D2 bl2,e=.returned ev/\Zk w' w.heap.size c ev/\((c=0/\P2.gone=false)∨(c=10/\P2.gone=true))/\l.Perm (Q5 cs)/\Hn E R.k R.m R.n g H V0 l c D2/\RmD B w' R G.p G.ds P2 D2 bl2 sv hv ha hc hs tt'/\(∀q∈bl2,q∈bl∨w.heap.size<=q)/\Fr (G.p::bl) w w':=by
 have C:=(F.pre hE (by omega) ah M O U).power ae;rw[<-h.gn] at C;refine(GT B w G {V0 with P:=P1} bl (Za.ph K11 E R.k R.m g H V0) gc nc cap cs h.set ht af C hr ag J).mono ?_;rintro e w' ⟨l,ev,hl,rfl,Z,h0,ai⟩;obtain⟨a1,a2⟩:=F.after (V:={V0 with P:=P1}) rfl h.gn h.set C hl rfl rfl rfl;have hd:Qv B G bl (Zg (QQ ((Za.ph K11 E R.k R.m g H V0).chg l) (ZI {V0 with P:=P1} G.n)) {V0 with P:=P1}).2.P (Zg (QQ ((Za.ph K11 E R.k R.m g H V0).chg l) (ZI {V0 with P:=P1} G.n)) {V0 with P:=P1}).2.Ds w w':=by
  by_cases hz:(Zg (QQ ((Za.ph K11 E R.k R.m g H V0).chg l) (ZI {V0 with P:=P1} G.n)) {V0 with P:=P1}).1=0
  .exact(h0 hz).d
  .simp_all
 obtain⟨bl2,b1,b2,b3⟩:=h.ran_d hd;refine⟨ev,_,l,_,_,bl2,rfl,Z,a1,hl,?_,b1,b2,b3⟩;refine⟨by have:=C.ok hl;rw[h.gn] at this;exact this,λi hi=>⟨?_,IV _ _ i⟩,a2⟩;rw[Te];obtain⟨S,hM,_⟩:=F.snd i hi rfl;exact(h.set.oks (by rw[h.gn];exact hi) hM).2
theorem PT(h:ZX B w R G {V0 with P:=P1} bl sv hv ha hc hs tt')(C:Za K11 E R.k R.m R.n g H tt' V0)(U:P1.gone=true)(ht:Ty w)(ah:0<B)(hE:E<=1900000000)(aj:g<=900000000)(Z:cs≠[])(F:cs.length<=4)(M:∀c∈cs,c.key∈K11)(O:∀c∈cs,∀v,c.val=some v->v.length<=200)(hr:Jc w gc cs)(ai:nc=cs.length)(ae:nc<=cap):Calls prog 11 #[.pointer (some ⟨G.s,0,none⟩),.slice (some ⟨gc,0,none⟩) nc cap] w λe w'=>∃ev l P2 D2 bl2,e=.returned ev/\Zk w' w.heap.size 10 ev/\l.Perm (Q5 cs)/\Hn E R.k R.m R.n g H V0 l 10 D2/\P2.gone=true/\RmD B w' R G.p G.ds P2 D2 bl2 sv hv ha hc hs tt'/\(∀q∈bl2,q∈bl∨w.heap.size<=q)/\Fr (G.p::bl) w w':=by
 have hp:=C.pre hE (by omega) Z F M O;have J:=C.ins;rw[<-h.gn] at J;refine(Pm B w G {V0 with P:=P1} bl (Za.ph K11 E R.k R.m g H V0) gc nc cap cs h.set ht ah U C.hK (by show 1<=V0.k;rw[C.vk];exact C.k1) (by show V0.k<=_;rw[C.vk];exact J) Z F M O hr ai ae).mono ?_;rintro e w' ⟨ev,rfl,ag,af⟩;obtain⟨bl2,b1,b2,b3⟩:=h.ran_d af.d;refine⟨ev,Q5 cs,_,_,bl2,rfl,ag,List.Perm.refl _,⟨hp.ok (List.Perm.refl _),λi hi=>⟨?_,rfl⟩,λkl tl=>Or.inl ⟨by decide,λi hi=> ?_⟩⟩,U,b1,b2,b3⟩
 .obtain⟨S,hM,_⟩:=C.snd i hi rfl;exact(h.set.oks (by rw[h.gn];exact hi) hM).2
 .obtain⟨S,hM,_⟩:=C.snd i hi rfl;refine⟨S,Or.inl ?_⟩;have h2:=C.in_ i hi S hM;show ZO K11 (E+2) (Qx kl tl V0.Ds R.n i) S/\stR (Qx kl tl V0.Ds R.n i).reads S.dir=B7 R.k R.m g V0 i;unfold Qx B7;rw[if_pos hi,Ej h2.1.wait,hM];exact⟨h2.1.mono (by omega),rfl⟩
theorem O7(h:ZX B w R G {V0 with P:=P1} bl sv hv ha hc hs tt')(af:Za K11 E R.k R.m R.n g H tt' V0)(ht:Ty w)(U:0<B)(hE:E<=1900000000)(O:g<=900000000)(ae:cs≠[])(F:cs.length<=4)(J:∀c∈cs,c.key∈K11)(M:∀c∈cs,∀v,c.val=some v->v.length<=200)(hr:Jc w gc cs)(Z:nc=cs.length)(C:nc<=cap):Calls prog 11 #[.pointer (some ⟨G.s,0,none⟩),.slice (some ⟨gc,0,none⟩) nc cap] w λe w'=>∃ev c l P2 D2 bl2,e=.returned ev/\Zk w' w.heap.size c ev/\(c=0∨c=10)/\(c=10->P2.gone=true)/\(P1.gone=true->c=10)/\l.Perm (Q5 cs)/\Hn E R.k R.m R.n g H V0 l c D2/\RmD B w' R G.p G.ds P2 D2 bl2 sv hv ha hc hs tt'/\(∀q∈bl2,q∈bl∨w.heap.size<=q)/\Fr (G.p::bl) w w':=by
 cases hg:P1.gone with
 |false=>refine(Z3F h af hg ht U hE O ae F J M hr Z C).mono ?_;grind
 |true=>refine(PT h af hg ht U hE O ae F J M hr Z C).mono ?_;grind
end
section
variable{B:Nat}{w w':World}{R R':Rg}{p:Nat}{ds:Nat->Nat}{P P':Pw}{Ds:Nat->Dk}{bl X Y:List Nat}{sv hv:Value}{ha:Option Addr}{hc:Nat}{hs:ZP}{sd:Nat->Bool}{G:Eg}{V:Ev}
theorem RmD.power(h:RmD B w R p ds P Ds bl sv hv ha hc hs sd)(C:Fr X w w')(O:Z8 w X (39::Yl))(M:R.r∉X)(J:∀q∈bl,q∉X)(F:Ze w' p P')(pok:P'.ok):RmD B w' R p ds P' Ds bl sv hv ha hc hs sd:=h.fr C O M (by decide) (by decide) (by decide) (h.at_.power C J F pok) F
theorem RmD.pok(h:RmD B w R p ds P Ds bl sv hv ha hc hs sd):P.ok:=by obtain⟨Ls,rfl,C,F⟩:=h.at_;have:=h.k1;have:=h.kn;exact(C 0 (by omega)).pok
theorem ZX.typ(h:ZX B w R G V bl sv hv ha hc hs sd):Z8 w (G.p::bl) (39::Yl)/\Z8 w (R.r::G.p::bl) (39::Yl):=by have C:=h.set.typed.mono (λ_ hi=>hi) (λe he=>Z5n 39 he);exact⟨C,Z8.cons h.room (by simp) C⟩
theorem RmD.typ(h:RmD B w R p ds P Ds bl sv hv ha hc hs sd):Z8 w (p::bl) (39::Yl)/\Z8 w (R.r::p::bl) (39::Yl):=by have C:Z8 w (p::bl) (39::Yl):=h.tyd.mono (λ_ hi=>hi) (by decide);exact⟨C,Z8.cons h.room (by simp) C⟩
theorem Ay{a b C:List Nat}{z:Nat}(h:∀q∈a,q∉b)(J:∀q∈C,q∈a∨z<=q)(F:∀q∈b,q<z):∀q∈C,q∉b:=λq M hm=>by grind
end
structure An(B:Nat)(W:World)(Ra Rb:Rg)(p:Nat)(dsa dsb:Nat->Nat)(P:Pw)(Da Db:Nat->Dk)(sva hva svb hvb:Value)(gx gy:Nat)(lx ly:List Value)(w:World):Prop where
 ex:∃bla blb,RmD B w Ra p dsa P Da bla sva hva none 0 [] tt'/\RmD B w Rb p dsb P Db blb svb hvb none 0 [] tt'/\∀q∈bla,q∉blb
 rr:Ra.r≠Rb.r
 rx:Row w gx 68 lx
 ry:Row w gy 68 ly
 bel:Below B W w
structure W6(B:Nat)(W:World)(Ra Rb:Rg)(Ga Gb:Eg)(Va Vb:Ev)(sva hva svb hvb:Value)(gx gy:Nat)(lx ly:List Value)(w:World):Prop where
 ex:∃bla blb,ZX B w Ra Ga Va bla sva hva none 0 [] tt'/\ZX B w Rb Gb Vb blb svb hvb none 0 [] tt'/\∀q∈bla,q∉blb
 rr:Ra.r≠Rb.r
 pp:Gb.p=Ga.p
 PP:Vb.P=Va.P
 rx:Row w gx 68 lx
 ry:Row w gy 68 ly
 bel:Below B W w
section
variable{B:Nat}{W w w':World}{Ra Rb:Rg}{p:Nat}{dsa dsb:Nat->Nat}{P P':Pw}{Da Db D':Nat->Dk}{sva hva svb hvb:Value}{gx gy:Nat}{lx ly:List Value}{Ga Gb:Eg}{Va Vb:Ev}{X:List Nat}
theorem An.after(h:An B W Ra Rb p dsa dsb P Da Db sva hva svb hvb gx gy lx ly w)(C:Below w.heap.size w w'):An B W Ra Rb p dsa dsb P Da Db sva hva svb hvb gx gy lx ly w':=by obtain⟨bla,blb,F,J,M⟩:=h.ex;exact⟨⟨bla,blb,F.after C,J.after C,M⟩,h.rr,h.rx.after C,h.ry.after C,h.bel.trans (C.mono F.bw)⟩
theorem An.flip(h:An B W Ra Rb p dsa dsb P Da Db sva hva svb hvb gx gy lx ly w):An B W Rb Ra p dsb dsa P Db Da svb hvb sva hva gx gy lx ly w:=by obtain⟨bla,blb,C,F,J⟩:=h.ex;exact⟨⟨blb,bla,F,C,λq M hm=>J q hm M⟩,h.rr.symm,h.rx,h.ry,h.bel⟩
theorem An.lost(h:An B W Ra Rb p dsa dsb P Da Db sva hva svb hvb gx gy lx ly w){bla blb:List Nat}(C:RmD B w Ra p dsa P Da bla sva hva none 0 [] tt')(J:RmD B w Rb p dsb P Db blb svb hvb none 0 [] tt')(Z:∀q∈bla,q∉blb)(hd:∃bl',DAt B w' p Ra.n dsa P' D' bl'/\∀q∈bl',q∈bla)(U:Ze w' p P')(F:Fr (p::bla) w w')(pok:P'.ok):An B W Ra Rb p dsa dsb P' D' Db sva hva svb hvb gx gy lx ly w':=by
 obtain⟨bl',d1,d2⟩:=hd;have M:=C.typ.1;refine⟨⟨bl',blb,C.fr F M (C.tyd.row_ne C.room (by decide)) (by decide) (by decide) (by decide) d1 U,J.power F M (C.tyd.row_ne J.room (by decide)) (λq O hm=> ?_) U pok,λq O=>Z q (d2 q O)⟩,h.rr,h.rx.fr F (M.row_ne h.rx (by decide)),h.ry.fr F (M.row_ne h.ry (by decide)),h.bel.trans (F.below C.bw C.ge)⟩;rcases Z5q.1 hm with rfl|hm
 .exact J.at_.typed.row_ne J.pw (by decide) O
 .simp_all
theorem W6.after(h:W6 B W Ra Rb Ga Gb Va Vb sva hva svb hvb gx gy lx ly w)(C:Below w.heap.size w w'):W6 B W Ra Rb Ga Gb Va Vb sva hva svb hvb gx gy lx ly w':=by obtain⟨bla,blb,F,J,M⟩:=h.ex;exact⟨⟨bla,blb,F.after C,J.after C,M⟩,h.rr,h.pp,h.PP,h.rx.after C,h.ry.after C,h.bel.trans (C.mono F.bw)⟩
theorem W6.flip(h:W6 B W Ra Rb Ga Gb Va Vb sva hva svb hvb gx gy lx ly w):W6 B W Rb Ra Gb Ga Vb Va svb hvb sva hva gx gy lx ly w:=by obtain⟨bla,blb,C,F,J⟩:=h.ex;exact⟨⟨blb,bla,F,C,λq M hm=>J q hm M⟩,h.rr.symm,h.pp.symm,h.PP.symm,h.rx,h.ry,h.bel⟩
theorem W6.ty(h:W6 B W Ra Rb Ga Gb Va Vb sva hva svb hvb gx gy lx ly w)(F:Ty W)(C:0<B):Ty w:=by unfold Ty at F⊢;rw[h.bel.cell (p:=⟨0,0,none⟩) C];omega
theorem An.ty(h:An B W Ra Rb p dsa dsb P Da Db sva hva svb hvb gx gy lx ly w)(F:Ty W)(C:0<B):Ty w:=by unfold Ty at F⊢;rw[h.bel.cell (p:=⟨0,0,none⟩) C];omega
theorem W6.ran(h:W6 B W Ra Rb Ga Gb Va Vb sva hva svb hvb gx gy lx ly w){bla blb:List Nat}(C:ZX B w Ra Ga Va bla sva hva none 0 [] tt')(M:ZX B w Rb Gb Vb blb svb hvb none 0 [] tt')(U:∀q∈bla,q∉blb)(F:Zi B Ga bla Va w w'):W6 B W Ra Rb Ga Gb Va Vb sva hva svb hvb gx gy lx ly w':=by
 have ht:=C.typ.1;have Z:=C.set.typed;obtain⟨bl',he,hg,hf⟩:=id F;obtain⟨s1,d1⟩:=C.drow;obtain⟨s2,d2⟩:=C.srow
 have O:=M.power hf ht (Z.row_ne M.room (by decide)) (λq J hm=>by
  rcases Z5q.1 hm with rfl|hm
  .rw[<-h.pp] at J;exact M.set.pn J
  .exact U q hm J) (P':=Va.P) (by rw[h.pp];exact he.pok.1) he.pok.2
 rw[show({Vb with P:=Va.P}:Ev)=Vb from by rw[<-h.PP]] at O;refine⟨⟨bl',blb,⟨F.row C.set C.room (by decide),⟨s1,F.row C.set d1 (by decide)⟩,⟨s2,F.row C.set d2 (by decide)⟩,C.held.ran F C.set,he,C.rB,C.gn,C.kn,C.k1⟩,O,Ay U hg (λq J=>M.set.typed.lt q (Z5n _ J))⟩,h.rr,h.pp,h.PP,F.row C.set h.rx (by decide),F.row C.set h.ry (by decide),h.bel.trans (F.below C.set)⟩
theorem W6.fuse{Va Vb:Ev}(h:W6 B W Ra Rb Ga Gb Va Vb sva hva svb hvb gx gy lx ly w)(hp:Ze w' Ga.p P')(pok:P'.ok)(J:Fr [Ga.p] w w'):W6 B W Ra Rb Ga Gb {Va with P:=P'} {Vb with P:=P'} sva hva svb hvb gx gy lx ly w':=by
 obtain⟨bla,blb,F,O,h3⟩:=h.ex;have U:=F.set.pok.1;have M:Z8 w [Ga.p] [112]:=Z8.row U (by simp);have Z:Z8 w [Ga.p] (39::Yl):=Z8.row U (by decide);refine⟨⟨bla,blb,F.power J Z (M.row_ne F.room (by simp)) (λq C hm=> ?_) hp pok,O.power J Z (M.row_ne O.room (by simp)) (λq C hm=> ?_) (by rw[h.pp];exact hp) pok,h3⟩,h.rr,h.pp,rfl,h.rx.fr J (M.row_ne h.rx (by simp)),h.ry.fr J (M.row_ne h.ry (by simp)),h.bel.trans (J.below F.bw (λq C=> ?_))⟩
 .rw[Z58] at hm;subst hm;exact F.set.pn C
 .rw[Z58] at hm;subst hm;rw[<-h.pp] at C;exact O.set.pn C
 .rw[Z58] at C;subst C;exact F.set.ge _ (by simp)
end
structure Fl(B:Nat)(W:World)(Ra Rb:Rg)(p:Nat)(dsa:Nat->Nat)(P:Pw)(Da:Nat->Dk)(sva hva:Value)(Gb:Eg)(Vb:Ev)(svb hvb:Value)(gx gy:Nat)(lx ly:List Value)(w:World):Prop where
 ex:∃bla blb,RmD B w Ra p dsa P Da bla sva hva none 0 [] tt'/\ZX B w Rb Gb {Vb with P:=P} blb svb hvb none 0 [] tt'/\∀q∈bla,q∉blb
 rr:Ra.r≠Rb.r
 pp:Gb.p=p
 rx:Row w gx 68 lx
 ry:Row w gy 68 ly
 bel:Below B W w
section
variable{B:Nat}{W w w':World}{Ra Rb:Rg}{p:Nat}{dsa dsb:Nat->Nat}{P P' P2:Pw}{Da Db D2:Nat->Dk}{sva hva svb hvb:Value}{gx gy:Nat}{lx ly:List Value}{Ga Gb:Eg}{Va Vb:Ev}{bla blb bl2:List Nat}
theorem W6.mid(h:W6 B W Ra Rb Ga Gb Va Vb sva hva svb hvb gx gy lx ly w)(C:ZX B w Ra Ga Va bla sva hva none 0 [] tt')(F:ZX B w Rb Gb Vb blb svb hvb none 0 [] tt')(Z:∀q∈bla,q∉blb)(O:RmD B w' Ra Ga.p Ga.ds P2 D2 bl2 sva hva none 0 [] tt')(hg:∀q∈bl2,q∈bla∨w.heap.size<=q)(J:Fr (Ga.p::bla) w w'):Fl B W Ra Rb Ga.p Ga.ds P2 D2 sva hva Gb Vb svb hvb gx gy lx ly w':=by
 have U:=C.set.typed;refine⟨⟨bl2,blb,O,F.power J C.typ.1 (U.row_ne F.room (by decide)) (λq M hm=> ?_) (by rw[h.pp];exact O.pw) O.pok,Ay Z hg (λq M=>F.set.typed.lt q (Z5n _ M))⟩,h.rr,h.pp,h.rx.fr J (U.row_ne h.rx (by decide)),h.ry.fr J (U.row_ne h.ry (by decide)),h.bel.trans (J.below C.bw C.set.ge)⟩;rcases Z5q.1 hm with rfl|hm
 .rw[<-h.pp] at M;exact F.set.pn M
 .simp_all
theorem Fl.ty(h:Fl B W Ra Rb p dsa P Da sva hva Gb Vb svb hvb gx gy lx ly w)(F:Ty W)(C:0<B):Ty w:=by unfold Ty at F⊢;rw[h.bel.cell (p:=⟨0,0,none⟩) C];omega
theorem Fl.fin(h:Fl B W Ra Rb p dsa P Da sva hva Gb Vb svb hvb gx gy lx ly w)(F:RmD B w Ra p dsa P Da bla sva hva none 0 [] tt')(J:ZX B w Rb Gb {Vb with P:=P} blb svb hvb none 0 [] tt')(h3:∀q∈bla,q∉blb)(M:RmD B w' Rb Gb.p Gb.ds P2 D2 bl2 svb hvb none 0 [] tt')(hg:∀q∈bl2,q∈blb∨w.heap.size<=q)(O:Fr (Gb.p::blb) w w'):An B W Ra Rb p dsa Gb.ds P2 Da D2 sva hva svb hvb gx gy lx ly w':=by
 have U:=J.set.typed;have Z:=h.pp;rw[Z] at M;refine⟨⟨bla,bl2,F.power O J.typ.1 (U.row_ne F.room (by decide)) (λq C hm=> ?_) M.pw M.pok,M,λq C hm=>Ay (λq C hm=>h3 q hm C) hg (λq C=>F.at_.typed.lt q C) q hm C⟩,h.rr,h.rx.fr O (U.row_ne h.rx (by decide)),h.ry.fr O (U.row_ne h.ry (by decide)),h.bel.trans (O.below J.bw J.set.ge)⟩;rcases Z5q.1 hm with rfl|hm
 .rw[Z] at C;exact F.at_.typed.row_ne F.pw (by decide) C
 .simp_all
theorem An.openA(h:An B W Ra Rb p dsa dsb P Da Db sva hva svb hvb gx gy lx ly w)(F:RmD B w Ra p dsa P Da bla sva hva none 0 [] tt')(J:RmD B w Rb p dsb P Db blb svb hvb none 0 [] tt')(h3:∀q∈bla,q∉blb){Z U:Value}(he:ZX B w' Ra Ga Va bl2 Z U none 0 [] tt')(hp:Ga.p=p)(hg:∀q∈bl2,q∈bla∨w.heap.size<=q)(M:Fr (Ra.r::p::bla) w w'):Fl B W Rb Ra p dsb Va.P Db svb hvb Ga Va Z U gx gy lx ly w':=by
 have ht:=F.typ.2;obtain⟨q1,q2⟩:=he.set.pok;rw[hp] at q1;have O:∀{g:Nat} {e:TypeId} {l:List Value},Row w g e l->e∉39::Yl->g∉Ra.r::p::bla:=λhr he=>ht.row_ne hr he;refine⟨⟨blb,bl2,J.power M ht (λhm=> ?_) (λq C hm=> ?_) q1 q2,he,λq C hm=>Ay h3 hg (λq C=>J.at_.typed.lt q C) q hm C⟩,h.rr.symm,hp,h.rx.fr M (O h.rx (by decide)),h.ry.fr M (O h.ry (by decide)),h.bel.trans (M.below F.bw (λq C=> ?_))⟩
 .rcases Z5q.1 hm with e|hm
  .exact h.rr e.symm
  .exact F.tyd.row_ne J.room (by decide) hm
 .rcases Z5q.1 hm with rfl|hm
  .exact J.at_.typed.row_ne F.room (by decide) C
  .rcases Z5q.1 hm with rfl|hm
   .exact J.at_.typed.row_ne J.pw (by decide) C
   .simp_all
 .rcases Z5q.1 C with rfl|C
  .exact F.rB
  .exact F.ge q C
theorem Fl.openB(h:Fl B W Ra Rb p dsa P Da sva hva Gb Vb svb hvb gx gy lx ly w)(F:RmD B w Ra p dsa P Da bla sva hva none 0 [] tt')(J:ZX B w Rb Gb {Vb with P:=P} blb svb hvb none 0 [] tt')(h3:∀q∈bla,q∉blb){ae Z:Value}(he:ZX B w' Ra Ga Va bl2 ae Z none 0 [] tt')(hp:Ga.p=p)(hg:∀q∈bl2,q∈bla∨w.heap.size<=q)(M:Fr (Ra.r::p::bla) w w'):W6 B W Rb Ra Gb Ga {Vb with P:=Va.P} Va svb hvb ae Z gx gy lx ly w':=by
 have ht:=F.typ.2;obtain⟨q1,q2⟩:=he.set.pok;have U:=h.pp;have O:∀{g:Nat} {e:TypeId} {l:List Value},Row w g e l->e∉39::Yl->g∉Ra.r::p::bla:=λhr he=>ht.row_ne hr he;have af:Z8 w [Ra.r] [39]:=Z8.row F.room (by simp);refine⟨⟨blb,bl2,J.power M ht (λhm=> ?_) (λq C hm=> ?_) (by simp_all) q2,he,λq C hm=>Ay h3 hg (λq C=>J.set.typed.lt q (Z5n _ C)) q hm C⟩,h.rr.symm,by rw[hp,U],rfl,h.rx.fr M (O h.rx (by decide)),h.ry.fr M (O h.ry (by decide)),h.bel.trans (M.below F.bw (λq C=> ?_))⟩
 .rcases Z5q.1 hm with e|hm
  .exact h.rr e.symm
  .exact F.tyd.row_ne J.room (by decide) hm
 .rcases Z5q.1 hm with rfl|hm
  .exact af.disj J.set.typed (by decide) _ (by simp) (Z5n _ C)
  .rcases Z5q.1 hm with rfl|hm
   .rw[<-U] at C;exact J.set.pn C
   .simp_all
 .rcases Z5q.1 C with rfl|C
  .exact F.rB
  .exact F.ge q C
end
theorem Hn.opens{E k m n g:Nat}{H:Bs->Option Bs}{V0:Ev}{l:List Chg}{D:Nat->Dk}(h:Hn E k m n g H V0 l c D)(M:Za K11 E k m n g H tt' V0)(hg:g<=999999999)(kl:List (List Bool))(tl:List Int):∃U C O,IA (E+2) k m n U C tt' O/\O (Qx kl tl D n)/\U<=g+1/\(C=upH H l∨(c≠0/\C=H)):=by
 have J:Gk n V0 (Qx kl tl D n):=λi hi=>⟨(Hc kl tl D n i).2.trans (h.lives i hi).1,(Hc kl tl D n i).1.trans (h.lives i hi).2⟩;rcases h.st kl tl with ⟨Z,F⟩|F
 .exact⟨g,H,_,TG M h.ok (by omega),⟨J,F⟩,by omega,Or.inr ⟨Z,rfl⟩⟩
 .exact⟨g+1,_,_,PN M h.ok hg,⟨J,F⟩,Z5D,Or.inl rfl⟩
theorem Za.power{K:List Bs}{E k m n g:Nat}{H:Bs->Option Bs}{sd:Nat->Bool}{V:Ev}(h:Za K E k m n g H sd V){P:Pw}(C:P.gone=false)(F:P.fuse<0):Za K E k m n g H sd {V with P:=P}:={h with gone:=C,fuse:=F}
theorem Zk.typ{w w':World}{B:Nat}{v:Value}(h:Zk w B c v){L:List Nat}(F:Fr L w w')(M:Z8 w L Yl):Zk w' B c v:=by
 have key:∀ (n:Nat) (v:Value),W5 w B c n v->W5 w' B c n v:=by
  intro n
  induction n with
  |zero=>intro v h;exact h
  |succ n ih=>rintro v ⟨b,a,i,hv,hB,C,hi⟩;exact⟨b,a,i,hv,hB,C.fr F (M.row_ne C (by decide)),hi.imp id (ih i)⟩
 exact h.imp id λ⟨hc,n,J⟩=>⟨hc,n,key n v J⟩
theorem Z0U{w:World}{J B2:Nat}{c1 c2:Int}{e1 e2:Value}(F:Zk w J c1 e1)(C:Zk w B2 c2 e2)(M:c1=0∨c1=10)(z2:c2=0∨c2=10)(O:c1=10->c2=10):(c1=0/\c2=0/\e1=.nilIface/\e2=.nilIface)∨(c1=0/\c2=10/\e1=.nilIface/\(∃b,e2=.iface 139 (.pointer (some ⟨b,0,none⟩)))/\Hid (Zk w B2 10 e2))∨(c1=10/\c2=10/\(∃b,e1=.iface 139 (.pointer (some ⟨b,0,none⟩)))/\(∃b,e2=.iface 139 (.pointer (some ⟨b,0,none⟩)))/\Hid (Zk w J 10 e1)/\Hid (Zk w B2 10 e2)):=by
 rcases M with rfl|rfl<;>rcases z2 with rfl|rfl
 .exact Or.inl ⟨rfl,rfl,F.zero,C.zero⟩
 .exact Or.inr (Or.inl ⟨rfl,rfl,F.zero,(C.split.resolve_left (λh=>absurd h.1 (by omega))).2,Z5F C⟩)
 .omega
 .exact Or.inr (Or.inr ⟨rfl,rfl,(F.split.resolve_left (λh=>absurd h.1 (by omega))).2,(C.split.resolve_left (λh=>absurd h.1 (by omega))).2,Z5F F,Z5F C⟩)
theorem Fd{cs:List Chg}(C:∀c∈cs,c.key∈K11)(F:∀c∈cs,∀v,c.val=some v->v.length<=200):HOk K11 (YO [] cs)/\∀x v,Hof (YO [] cs) x=some v->v.length<=200/\x∈K11:=by have h:=(HOk.nil K11).beh C F;exact⟨h,λx v hx=>⟨h.val _ (MI hx),h.key _ (MI hx)⟩⟩
theorem Hn.opens2{E k m n g:Nat}{V0:Ev}{l cs:List Chg}{D:Nat->Dk}(h:Hn E k m n g (λ_=>none) V0 l c D)(U:Za K11 E k m n g (λ_=>none) tt' V0)(hg:g<=999999999)(hl:l.Perm (Q5 cs))(M:∀c∈cs,c.key∈K11)(O:∀c∈cs,∀v,c.val=some v->v.length<=200)(kl:List (List Bool))(tl:List Int):∃J C F,IA (E+2) k m n J C tt' F/\F (Qx kl tl D n)/\J<=g+1/\(∀x v,C x=some v->v.length<=200/\x∈K11)/\((∀x,C x=Hof (YO [] cs) x)∨(c≠0/\∀x,C x=Hof [] x)):=by
 obtain⟨J,C,F,Z,h2,h3,h4⟩:=h.opens U hg kl tl;refine⟨J,C,F,Z,h2,h3,?_⟩;rcases h4 with rfl|⟨h5,rfl⟩
 .have e:upH (λ_=>none) l=Hof (YO [] cs):=by rw[Z0k hl,Z2L];rfl
  rw[e];exact⟨(Fd M O).2,Or.inl λ_=>rfl⟩
 .exact⟨λx v hx=>(by grind),Or.inr ⟨h5,λ_=>rfl⟩⟩
section
variable{B:Nat}{W w:World}{Ra Rb:Rg}{sva hva svb hvb:Value}{gx gy:Nat}{lx ly:List Value}{Ga Gb:Eg}{Va Vb:Ev}
theorem W6.holds(h:W6 B W Ra Rb Ga Gb Va Vb sva hva svb hvb gx gy lx ly w){E g:Nat}{H:Bs->Option Bs}(M:Za K11 E Ra.k Ra.m Ra.n g H tt' Va)(Z:∀x v,H x=some v->v.length<=200/\x∈K11)(ht:Ty W)(F:0<B){hs:ZP}(hh:HOk K11 hs){a:Option Addr}{c:Nat}(hr:Qk w a hs):Calls prog 14 #[.pointer (some ⟨Ga.s,0,none⟩),.slice a hs.length c] w λe w'=>∃b,e=.returned (.bool b)/\((∀y,H y=Hof hs y)->b=true)/\W6 B W Ra Rb Ga Gb Va Vb sva hva svb hvb gx gy lx ly w':=by obtain⟨bla,blb,C,O,U⟩:=h.ex;refine(Vn B w Ga Va bla K11 E Ra.k Ra.m Ra.n g H tt' hs a c M (λx v hx=>(Z x v hx).1) hh C.set C.gn (h.ty ht F) F hr).mono ?_;rintro e w' ⟨b,rfl,hb,J⟩;exact⟨b,rfl,hb,h.ran C O U J⟩
theorem W6.behind(h:W6 B W Ra Rb Ga Gb Va Vb sva hva svb hvb gx gy lx ly w){cs:List Chg}{sp:List Value}{g n cap:Nat}(J:Row w g 68 (cs.flatMap apC++sp))(U:n=cs.length)(Z:cs.length<=4):Calls prog 12 #[.pointer (some ⟨Ra.r,0,none⟩),.slice (some ⟨g,0,none⟩) n cap] w λe w'=>∃C F,e=.returned (.slice C (YO [] cs).length F)/\Qk w' C (YO [] cs)/\W6 B W Ra Rb Ga Gb Va Vb sva hva svb hvb gx gy lx ly w':=by obtain⟨bla,blb,M,h2,h3⟩:=h.ex;refine(SF w Ra.r none 0 [] g n cap cs (M.room.cell (j:=6) rfl) (Qk.nil _ _) (by simp) (Jc.rd ⟨sp,J⟩) U (by omega)).mono ?_;rintro e w' ⟨C,F,rfl,hh,O⟩;exact⟨C,F,rfl,hh,h.after O⟩
theorem W6.abs{F J:List Chg}{ah ai:List Value}(h:W6 B W Ra Rb Ga Gb Va Vb (.pointer (some ⟨Ga.s,0,none⟩)) hva (.pointer (some ⟨Gb.s,0,none⟩)) hvb gx gy (F.flatMap apC++ah) (J.flatMap apC++ai) w){EA EB ga gb:Nat}{O U:Bs->Option Bs}(oA:Za K11 EA Ra.k Ra.m Ra.n ga O tt' Va)(oB:Za K11 EB Rb.k Rb.m Rb.n gb U tt' Vb)(hA:∀x v,O x=some v->v.length<=200/\x∈K11)(hB:∀x v,U x=some v->v.length<=200/\x∈K11)(ht:Ty W)(ag:0<B)(fx:F.length<=4)(fy:J.length<=4)(ae af:Nat):∃T:World->Prop,T w/\(∀x,T x->x.cell? ⟨Ra.r,4,none⟩=some (.pointer (some ⟨Ga.s,0,none⟩))/\x.cell? ⟨Rb.r,4,none⟩=some (.pointer (some ⟨Gb.s,0,none⟩))/\Below B W x)/\(∀x y,T x->Below x.heap.size x y->T y)/\ (∀x,T x->Calls prog 12 #[.pointer (some ⟨Ra.r,0,none⟩),.slice (some ⟨gx,0,none⟩) F.length ae] x λe w'=>∃C M,e=.returned (.slice C (YO [] F).length M)/\Qk w' C (YO [] F)/\T w')/\ (∀x,T x->Calls prog 12 #[.pointer (some ⟨Rb.r,0,none⟩),.slice (some ⟨gy,0,none⟩) J.length af] x λe w'=>∃C M,e=.returned (.slice C (YO [] J).length M)/\Qk w' C (YO [] J)/\T w')/\ (∀x hs a c,T x->HOk K11 hs->Qk x a hs->Calls prog 14 #[.pointer (some ⟨Ga.s,0,none⟩),.slice a hs.length c] x λe w'=>∃b,e=.returned (.bool b)/\((∀y,O y=Hof hs y)->b=true)/\T w')/\ (∀x hs a c,T x->HOk K11 hs->Qk x a hs->Calls prog 14 #[.pointer (some ⟨Gb.s,0,none⟩),.slice a hs.length c] x λe w'=>∃b,e=.returned (.bool b)/\((∀y,U y=Hof hs y)->b=true)/\T w'):=by
 refine⟨_,h,λx hx=> ?_,λx y hx hb=>hx.after hb,λx hx=>hx.behind hx.rx rfl fx,λx hx=> ?_,λx hs a c hx hh Z=>hx.holds oA hA ht ag hh Z,λx hs a c hx hh Z=> ?_⟩
 .obtain⟨_,_,h1,h2,_⟩:=hx.ex;exact⟨h1.room.cell (j:=4) rfl,h2.room.cell (j:=4) rfl,hx.bel⟩
 .refine(hx.flip.behind hx.ry rfl fy).mono ?_;rintro e w' ⟨C,M,rfl,g1,g2⟩;exact⟨C,M,rfl,g1,g2.flip⟩
 .refine(hx.flip.holds oB hB ht ag hh Z).mono ?_;rintro e w' ⟨b,rfl,g1,g2⟩;exact⟨b,rfl,g1,g2.flip⟩
end
