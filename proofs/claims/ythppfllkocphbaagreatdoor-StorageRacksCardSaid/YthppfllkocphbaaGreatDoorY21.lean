/- Part 22: lemmas about what the program computes. -/
import Derived.WalkMore
import Derived.Test.YthppfllkocphbaaGreatDoorY20
namespace Go.Proofs.YthppfllkocphbaaGreatDoor
set_option linter.unusedVariables false
set_option linter.unusedSimpArgs false
set_option maxHeartbeats 25600000
set_option maxRecDepth 100000
open Tryz Go.RowKit
section
open Go.Shelf
variable{B k0 n pg:Nat}{G:Eg}{V:Ev}{bl bl1:List Nat}{key v:Bs}{w w' wr:World}
structure Iz(K:List Bs)(E:Nat)(V:Ev)(n:Nat)(key v:Bs):Prop where
 b:∀i,i<n->∀S,V.Ms i=some S->ZO K E (V.Ds i) S
 t:∀i,i<n->∀S,V.Ms i=some S->stR (V.Ds i).reads S.dir (nmD key)=none∨stR (V.Ds i).reads S.dir (nmD key)=some none∨stR (V.Ds i).reads S.dir (nmD key)=some (some (shL V.k V.m i key v))
def Y9(V:Ev)(key v:Bs)(i:Nat):Bool:=match V.Ms i with
 |some S=>decide (stR (V.Ds i).reads S.dir (nmD key)=some (some (shL V.k V.m i key v)))
 |none=>false
def pcL(V:Ev)(n:Nat)(key v:Bs)(k0:Nat):List (Bool×ByteArray):=(List.range n).map λj=>if decide (j<k0)&&Y9 V key v j then(true,str (shT V.k V.m v j)) else(false,⟨#[]⟩)
def Wj(V:Ev)(key v:Bs)(k0:Nat):Nat:=((List.range k0).filter (Y9 V key v)).length
theorem Eb(V:Ev)(key v:Bs)(k0:Nat):Wj V key v (k0+1)=Wj V key v k0+(if Y9 V key v k0=true then 1 else 0):=by unfold Wj;rw[List.range_succ,List.filter_append,Z5d];grind
theorem DF(V:Ev)(n:Nat)(key v:Bs)(k0:Nat):(pcL V n key v k0).length=n:=by simp[pcL]
theorem FN(V:Ev)(n:Nat)(key v:Bs)(k0 j:Nat)(h:j<n):QU (pcL V n key v k0) j=if decide (j<k0)&&Y9 V key v j then(true,str (shT V.k V.m v j)) else(false,⟨#[]⟩):=by unfold QU pcL;simp_all
theorem Z1P(V:Ev)(n:Nat)(key v:Bs):pcL V n key v 0=List.replicate n (false,⟨#[]⟩):=by
 unfold pcL;apply List.ext_getElem
 .simp
 .simp
theorem Z4D(h:Y9 V key v k0=false):pcL V n key v (k0+1)=pcL V n key v k0:=by unfold pcL;grind
theorem Z3y(h:Y9 V key v k0=true)(J:k0<n):pcL V n key v (k0+1)=(pcL V n key v k0).set k0 (true,str (shT V.k V.m v k0)):=by
 apply List.ext_getElem
 .simp[DF]
 .intro i C F;rw[DF] at C;have e1:=FN V n key v (k0+1) i C;have e2:=FN V n key v k0 i C;unfold QU at e1 e2;grind
theorem Z4b(V:Ev)(n:Nat)(key v:Bs)(k0:Nat)(J:k0<=n):(whF (pcL V n key v k0) n).length=Wj V key v k0:=by
 have C:∀k0,whF (pcL V n key v k0) n=(List.range n).filter λj=>decide (j<k0)&&Y9 V key v j:=λk0=>by refine List.filter_congr λj h=> ?_;rw[FN V n key v k0 j (List.mem_range.1 h)];grind
 have F:∀ (a b:Nat),((List.range (a+b)).filter λj=>decide (j<a)&&Y9 V key v j)=(List.range a).filter (Y9 V key v):=λa b=>by
  rw[List.range_add,List.filter_append];have e1:((List.range a).filter λj=>decide (j<a)&&Y9 V key v j)=(List.range a).filter (Y9 V key v):=List.filter_congr λj h=>by simp_all
  have e2:(((List.range b).map λx=>a+x).filter λj=>decide (j<a)&&Y9 V key v j)=[]:=by rw[List.filter_eq_nil_iff];grind
  simp_all
 rw[C];have:=F k0 (n-k0);rw[show k0+(n-k0)=n from by omega] at this;rw[this];rfl
structure ShS(B:Nat)(G:Eg)(V:Ev)(bl:List Nat)(w:World)(pg:Nat)(key v:Bs)(k0:Nat)(wr:World):Prop where
 ran:Zi B G bl V w wr
 row:Row wr pg 204 (QN (pcL V G.n key v k0))
 old:w.heap.size<=pg
theorem ShS.next(h:ShS B G V bl w pg key v k0 wr)(he:EAt B wr G V bl1/\(∀k∈bl1,k∈bl∨w.heap.size<=k)/\Fr (G.p::bl) w wr)(C:Zi B G bl1 V wr w')(F:Y9 V key v k0=false):ShS B G V bl w pg key v (k0+1) w':=by refine⟨Zi.trans he C,?_,h.old⟩;rw[Z4D F];exact C.row he.1 h.row (by decide)
theorem ShS.put(h:ShS B G V bl w pg key v k0 wr)(he:EAt B wr G V bl1/\(∀k∈bl1,k∈bl∨w.heap.size<=k)/\Fr (G.p::bl) w wr)(F:Below wr.heap.size wr w')(U:Y9 V key v k0=true)(Z:k0<G.n):ShS B G V bl w pg key v (k0+1) ((w'.setCell ⟨pg,k0*2,none⟩ (.bool true)).setCell ⟨pg,k0*2+1,none⟩ (.string (str (shT V.k V.m v k0)))):=by
 have C:=h.row.after F;have J:Row (w'.setCell ⟨pg,k0*2,none⟩ (.bool true)) pg 204 _:=C.set (k0*2) (.bool true);have e1:=he.1.after F;have e2:=e1.setCell (a:=⟨pg,k0*2,none⟩) C (by decide) (by simp) (by simp) (by simp) (.bool true);have M:=e2.setCell (a:=⟨pg,k0*2+1,none⟩) J (by decide) (by simp) (by simp) (by simp) (.string (str (shT V.k V.m v k0)));refine⟨⟨bl1,M,he.2.1,?_⟩,?_,h.old⟩
 .have O:Fr (G.p::bl) w w':=he.2.2.trans (Fr.of_below (L:=[]) F) (by simp);exact(O.setCell (Or.inr h.old) _).setCell (Or.inr h.old) _
 .rw[Z3y U Z];exact C.setPc k0 true (str (shT V.k V.m v k0))
theorem Rh(C:1<=V.k)(U:V.k+V.m=n)(J:n<=255)(hv:v.length<=200)(O:k0<=n)(hg:Wj V key v k0=V.k)(hr:Row w pg 204 (QN (pcL V n key v k0))):Calls prog 112 #[.int .i64 (V.k:Int),.int .i64 (V.m:Int),.int .i64 (v.length:Int),.slice (some ⟨pg,0,none⟩) n n] w λe w'=>∃a cap,e=.returned (.tuple #[.slice a (Zs V.k V.m (str v)).length cap,.nilIface])/\Zx w' a (Zs V.k V.m (str v))/\(Zs V.k V.m (str v)).length<=cap/\cap<=9223372036854775807/\Below w.heap.size w w':=by
 subst U;have af:∀j,str (shT V.k V.m v j)=(Zs V.k V.m (str v)).getD j ⟨#[]⟩:=λj=>rfl;refine(Oe V.k V.m v.length (some ⟨pg,0,none⟩) (V.k+V.m) (pcL V (V.k+V.m) key v k0) w C J (by omega) (DF _ _ _ _ _) hr.pcs (λj F h=> ?_)).mono ?_
 .rw[FN V _ key v k0 j F] at h⊢;split
  .simp only;rw[Z5];have:=Mg (m:=V.m) C hv j;omega
  .simp_all
 .rintro e w' ⟨code,T,a',ae,ev,Z,rfl,M,⟨h,h2,h3⟩,hb⟩
  have hx:=PV (k:=V.k) (m:=V.m) (t:=str v) C J (λj F h=>by
   rw[FN V _ key v k0 j F] at h⊢;split at h
   .simp_all
   .cases h) (by rw[Z4b V _ key v k0 O,hg];exact Z5D) (by rw[Z5];exact Z)
  obtain⟨rfl,rfl⟩:=hx;rcases M with ⟨rfl,_⟩|⟨h9,_⟩
  .grind
  .omega
theorem Pq(B:Nat)(w:World)(G:Eg)(V:Ev)(bl:List Nat)(K:List Bs)(E:Nat)(key v:Bs)(h:EAt B w G V bl)(du:key.length<=200)(hv:v.length<=200)(ct:1<=V.k)(cu:V.k+V.m=G.n)(hg:V.P.gone=false)(dz:Iz K E V G.n key v)(aj:V.k<=Wj V key v G.n):Calls prog 68 #[.pointer (some ⟨G.s,0,none⟩),.string (str key)] w λe w'=>∃a cap,e=.returned (.tuple #[.slice a (Zs V.k V.m (str v)).length cap,.int .i64 (v.length:Int),.nilIface])/\Zx w' a (Zs V.k V.m (str v))/\(Zs V.k V.m (str v)).length<=cap/\cap<=9223372036854775807/\Zi B G bl V w w':=by
 have c0:=h.scell.cell (j:=0) rfl;have c2:=h.scell.cell (j:=2) rfl;have hn:=h.nle;obtain⟨j1,ee,er,eu,ew⟩:=info_parts TL;have cw:=Ow j1 ee er eu ew G.n (by omega);rw[<-Z1P V G.n key v] at cw;have I0:ShS B G V bl w w.heap.size key v 0 (w.alloc (.cells (QN (pcL V G.n key v 0)).toArray 204)):=⟨Zi.same h (Z5E.alloc Z5D _),Row.new w _ _,Z5D⟩;have HI:=Z5F I0;have H:=Z5K dz aj cu;have fa:(nmD key).length<=220:=by simp[nmD];omega
 have b9:(nmD key).length<=1000000:=by omega
 obtain⟨Z0,cj⟩:=Z5H (QN (pcL V G.n key v 0));rw[cj] at cw;have HZ:=Z5F cj;obtain⟨SH,bz⟩:=Z5H (Zs V.k V.m (str v));have bq:=Z5F bz;rw[bz];clear I0 h dz aj ee er eu ew cj bz;go_enter func68,ntmps68;go_wp2_with fail;go_step3;go_wp2_with fail;rw[<-HZ.out];clear HZ cw;obtain⟨pg,dc⟩:=Z5H w.heap.size;have de:=HI;rw[dc] at de;rw[dc];clear dc;have fe:(w.alloc (.cells (QN (pcL V G.n key v 0)).toArray 204)).cell? ⟨G.s,2,none⟩=some (.slice (some ⟨G.ms,0,none⟩) G.n G.cap):=by have F:=(Below.refl w.heap.size w).alloc Z5D (.cells (QN (pcL V G.n key v 0)).toArray 204);exact(F.cell (Z5b w _ c2)).trans c2
 generalize w.alloc (.cells (QN (pcL V G.n key v 0)).toArray 204)=w1 at*
 go_step3;go_wp2_with fail;go_loopw [8,9,27] (λlv mv kv wr=>∃k:Nat,k<=G.n/\kv=.int .i64 k/\mv=.int .i64 (Wj V key v k)/\Wj V key v k<V.k/\(0<Wj V key v k->lv=.int .i64 v.length)/\ShS B G V bl w pg key v k wr) (λ_ _ kv _=>G.n- (intOf kv).toNat)
 case atStart=>have g0:Wj V key v 0=0:=rfl;refine⟨0,by omega,rfl,by rw[g0];rfl,by rw[g0];omega,λh=> ?_,de.out⟩;rw[g0] at h;omega
 case round=>
  obtain⟨k,hk,rfl,rfl,ag,hlen,hS⟩:=hrel;obtain⟨bl1,U,bh,hf⟩:=hS.ran;have HS:=Z5F hS;by_cases M:k<G.n
  .have fg:(k:Int)<(G.n:Int):=(by omega);have HE:=Z5K U bh hf;have HL:=Z5F hlen;have HN:=Z5F ag;cases hM:V.Ms k with
   |none=>
    have aq:Y9 V key v k=false:=by unfold Y9;rw[hM]
    have O:Wj V key v (k+1)=Wj V key v k:=by rw[Eb,aq];rfl
    have hh:=AU B wr G V bl1 k U M hM;have C:=Z5K hh aq O;clear U bh hf hS hlen ag hh hM aq O;go_wp2_with (go_at_call 34;refine C.out.1.mono ?_;rintro e w2 ⟨rfl,eh⟩;have J:=Z5F eh;clear eh);go_roundw
    case measure=>simp[intOf];omega
    case rel=>exact⟨k+1,by omega,by go_num,by rw[C.out.2.2],by rw[C.out.2.2];exact HN.out,by rw[C.out.2.2];exact HL.out,HS.out.next HE.out J.out C.out.2.1⟩
   |some S=>
    obtain⟨s,ah,bm,hd,L,bj⟩:=U.mem M hM;have bf:=H.out.1.b k M S hM;have hh:=JW B wr G V bl1 k U M S hM;have al:=U.scell;have cm:=U.mcell M;by_cases af:stR (V.Ds k).reads S.dir (nmD key)=some (some (shL V.k V.m k key v))
    .have aw:Y9 V key v k=true:=by unfold Y9;rw[hM];simp only;exact decide_eq_true af
     have O:Wj V key v (k+1)=Wj V key v k+1:=by rw[Eb,aw];rfl
     have ae:∀w2,Below wr.heap.size wr w2->Calls prog 100 #[.pointer (some ⟨G.s,0,none⟩),.int .i64 (k:Int),.string (str key)] w2 λe w'=>e=.returned (.tuple #[.string (str (shT V.k V.m v k)),.int .i64 (v.length:Int),.nilIface])/\Below w2.heap.size w2 w':=λw2 F=>Me G.s G.ms (G.xs k) s V.k V.m k G.cap G.n key v w2 ct (by omega) M cu.symm hv du ((al.after F).cell (j:=0) rfl) ((al.after F).cell (j:=2) rfl) ((F.cell (Z5b wr _ cm)).trans cm) ((ah.after F).cell (j:=1) rfl) (BT (bj.after F) (bm.after F) bf hg hd b9 fa (EG (m:=V.m) (i:=k) (key:=key) ct hv).2 af);have au:=λw2 (F:Below wr.heap.size wr w2)=>hS.put HE.out F aw M;have ef:∀w2,Below wr.heap.size wr w2->w2.cell? ⟨pg,k*2,none⟩≠none/\w2.frozen? ⟨pg,k*2,none⟩=false/\w2.cell? ⟨pg,k*2+1,none⟩≠none/\w2.frozen? ⟨pg,k*2+1,none⟩=false/\w2.cell? ⟨G.s,0,none⟩=some (.int .i64 (V.k:Int))/\w2.cell? ⟨G.s,1,none⟩=some (.int .i64 (V.m:Int)):=λw2 F=>by have hr:=hS.row.after F;have dw:(QN (pcL V G.n key v k)).length=G.n*2:=(by rw[JP,DF]);have dx:=BU (pcL V G.n key v k) k (by rw[DF];exact M);refine⟨by rw[hr.cell dx.1];simp,hr.free (by rw[dw];omega),by rw[hr.cell dx.2];simp,hr.free (by rw[dw];omega),(al.after F).cell (j:=0) rfl,(al.after F).cell (j:=1) rfl⟩
     have dy:pg≠G.s:=Row.ne hS.row al (by decide);have cz:G.s≠pg:=λe=>dy e.symm;obtain⟨X,hX⟩:=Z5H (str (shT V.k V.m v k));rw[hX] at ae au;obtain⟨gn,b8⟩:=Z5H (Wj V key v k);rw[b8] at O hlen ag HL HN⊢;have C:=Z5M hh O ae au ef;have ff:gn<=100:=(by omega);clear U bh hf hS hh hM O ae au ef ah bm hd bj bf al cm af hX b8 ag aw;by_cases ez:0<gn
     case' pos=>obtain rfl:=hlen ez
     all_goals
      clear hlen;by_cases ey:gn+1=V.k
      .have cn:(gn:Int)+1=(V.k:Int):=(by omega);go_wp2_with (first|(go_at_call 34;refine C.out.1.mono ?_;rintro e w2 ⟨rfl,Z⟩;have J:=Z5F Z;clear Z)|(go_at_call 100;refine(C.out.2.2.1 _ J.out).mono ?_;rintro e w3 ⟨rfl,ai⟩;have R3:=Z5F (J.out.trans (ai.mono J.out.size));clear ai;obtain⟨f1,f2,f3,f4,f5,f6⟩:=C.out.2.2.2.2 _ R3.out;obtain⟨y1,ek⟩:=Option.ne_none_iff_exists'.1 f1;obtain⟨y2,eo⟩:=Option.ne_none_iff_exists'.1 f3;clear f1 f3)|(go_at_call 19;refine(QJ 0 0 10 _ _ (Zk.nil _ _) (by decide)).mono ?_;rintro e w4 ⟨rfl,rfl⟩));clear ek eo f2 f4 dy cz f5 f6;have hT:=C.out.2.2.2.1 w3 R3.out;obtain⟨fc,bg,b7,dt⟩:=hT.ran;have g0:=bg.scell.cell (j:=0) rfl;have g1:=bg.scell.cell (j:=1) rfl;have ak:=Rh (w:=((w3.setCell ⟨pg,k*2,none⟩ (.bool true)).setCell ⟨pg,k*2+1,none⟩ (.string X)).drew) ct cu (by omega) hv (by omega:k+1<=G.n) (by rw[C.out.2.1];exact ey) hT.row.drew;have HR:=Z5L ak bg b7 dt;clear ak bg b7 dt hT;generalize (w3.setCell ⟨pg,k*2,none⟩ (.bool true)).setCell ⟨pg,k*2+1,none⟩ (.string X)=w5 at*
       go_wp2_with fail;go_region_with (go_at_call 112;refine HR.out.1.mono ?_;rintro e w6 ⟨a6,bu,rfl,df,dh,dj,dm⟩;have R6:=Z5L df dh dj dm;clear df dh dj dm)
       all_goals go_wp2_with fail
       all_goals rw[Exit.noGoto_ret]
       all_goals go_ret3
       all_goals exact⟨a6,bu,by rw[<-bq.out];rfl,by rw[<-bq.out];exact R6.out.1,by rw[<-bq.out];exact R6.out.2.1,R6.out.2.2.1,Zi.trans HR.out.2 (Zi.same HR.out.2.1 ((Below.refl w5.heap.size w5).drew.trans R6.out.2.2.2))⟩
      .have cn:¬ (gn:Int)+1=(V.k:Int):=(by omega);go_wp2_with (first|(go_at_call 34;refine C.out.1.mono ?_;rintro e w2 ⟨rfl,Z⟩;have J:=Z5F Z;clear Z)|(go_at_call 100;refine(C.out.2.2.1 _ J.out).mono ?_;rintro e w3 ⟨rfl,ai⟩;have R3:=Z5F (J.out.trans (ai.mono J.out.size));clear ai;obtain⟨f1,f2,f3,f4,f5,f6⟩:=C.out.2.2.2.2 _ R3.out;obtain⟨y1,ek⟩:=Option.ne_none_iff_exists'.1 f1;obtain⟨y2,eo⟩:=Option.ne_none_iff_exists'.1 f3;clear f1 f3)|(go_at_call 19;refine(QJ 0 0 10 _ _ (Zk.nil _ _) (by decide)).mono ?_;rintro e w4 ⟨rfl,rfl⟩));go_roundw
       case measure=>simp[intOf];omega
       case rel=>exact⟨k+1,by omega,by go_num,by rw[C.out.2.1];go_num,by rw[C.out.2.1];have h9:=HN.out;omega,λ_=>rfl,C.out.2.2.2.1 w3 R3.out⟩
    .have aq:Y9 V key v k=false:=by unfold Y9;rw[hM];simp only;exact decide_eq_false af
     have az:stR (V.Ds k).reads S.dir (nmD key)=none∨stR (V.Ds k).reads S.dir (nmD key)=some none:=by
      rcases H.out.1.t k M S hM with h9|h9|h9
      .exact Or.inl h9
      .exact Or.inr h9
      .exact absurd h9 af
     have O:Wj V key v (k+1)=Wj V key v k:=by rw[Eb,aq];rfl
     have ae:∀w2,Below wr.heap.size wr w2->Calls prog 100 #[.pointer (some ⟨G.s,0,none⟩),.int .i64 (k:Int),.string (str key)] w2 λe w'=>∃b,e=.returned (.tuple #[.string ⟨#[]⟩,.int .i64 0,.iface 139 (.pointer (some ⟨b,0,none⟩))])/\Zk w' w2.heap.size (if S.dir.get (nmD key)=none then 13 else 14) (.iface 139 (.pointer (some ⟨b,0,none⟩)))/\Below w2.heap.size w2 w':=λw2 F=>VX G.s G.ms (G.xs k) s k G.cap G.n key _ w2 M du ((al.after F).cell (j:=2) rfl) ((F.cell (Z5b wr _ cm)).trans cm) ((ah.after F).cell (j:=1) rfl) (M6 (bj.after F) (bm.after F) bf hg hd b9 az);obtain⟨cc,dp,cr⟩:∃cc:Int,(if S.dir.get (nmD key)=none then(13:Int) else 14)=cc/\(cc==10)=false:=⟨_,rfl,by split<;>rfl⟩;rw[dp] at ae;have C:=Z5L hh aq O ae;clear U bh hf hS hlen ag hh hM aq O ae ah bm hd bj bf al cm af az dp;go_wp2_with (first|(go_at_call 34;refine C.out.1.mono ?_;rintro e w2 ⟨rfl,Z⟩;have J:=Z5F Z;clear Z)|(go_at_call 100;refine(C.out.2.2.2 _ J.out).mono ?_;rintro e w3 ⟨b,rfl,dq,ai⟩;have R3:=Z5J dq (J.out.trans (ai.mono J.out.size));clear ai dq)|(go_at_call 19;refine(QJ _ cc 10 _ _ R3.out.1 (by decide)).mono ?_;rw[cr];rintro e w4 ⟨rfl,rfl⟩));go_roundw
     case measure=>simp[intOf];omega
     case rel=>exact⟨k+1,by omega,by go_num,by rw[C.out.2.2.1],by rw[C.out.2.2.1];exact HN.out,by rw[C.out.2.2.1];exact HL.out,HS.out.next HE.out (Zi.same HE.out.1 R3.out.2) C.out.2.1⟩
  .exfalso;obtain rfl:k=G.n:=(by omega);have:=H.out.2.1;omega
end
section
open Go.Shelf
variable{V:Ev}{key v:Bs}{n:Nat}
theorem Zi.ty{B:Nat}{w w':World}{G:Eg}{C:Ev}{bl:List Nat}(h:Zi B G bl C w w')(F:EAt B w G V bl)(O:Ty w)(M:0<B:=by assumption):Ty w':=by have J:=h.below F;unfold Ty at O⊢;rw[J.cell (p:=⟨0,0,none⟩) M];omega
theorem Uj(F:1<=Wj V key v n):(List.range n).any (YE V key)=true:=by
 obtain⟨i,hi⟩:=List.exists_mem_of_length_pos F;obtain⟨C,h⟩:=List.mem_filter.1 hi;refine List.any_eq_true.2 ⟨i,C,?_⟩;unfold Y9 at h;unfold YE;cases hM:V.Ms i with
 |none=>rw[hM] at h;cases h
 |some S=>
  rw[hM] at h;simp at h;simp only;cases J:S.dir.get (nmD key) with
  |none=>rw[stR,J] at h;cases h
  |some e=>rfl
theorem Iz.runs{K:List Bs}{E:Nat}(h:Iz K E V n key v):Fk V n:=λi hi S hM m e hm=>by obtain⟨_,C,F⟩:=(h.b i hi S hM).runs hm;simp_all
theorem Z35(B:Nat)(w:World)(G:Eg)(V:Ev)(bl:List Nat)(K:List Bs)(E:Nat)(key v:Bs)(h:EAt B w G V bl)(ht:Ty w)(bh:0<B)(bj:1<=key.length)(al:key.length<=200)(hv:v.length<=200)(M:1<=V.k)(b9:V.k+V.m=G.n)(hg:V.P.gone=false)(aq:Iz K E V G.n key v)(ae:V.k<=Wj V key v G.n):Calls prog 28 #[.pointer (some ⟨G.s,0,none⟩),.string (str key)] w λe w'=>e=.returned (.tuple #[.string (str v),.nilIface])/\Zi B G bl V w w':=by
 have hn:=h.nle;have c4:=h.scell.cell (j:=4) rfl;have bm:(List.range G.n).any (YE V key)=true:=Uj (v:=v) (by omega);have hm:(decide (1<=(str key).size)&&decide ((str key).size<=200))=true:=by rw[Z5];simp;omega
 have af:=Gc B w G V bl key h al aq.runs;obtain⟨ai,ak⟩:=PF (k:=V.k) (m:=V.m) (t:=str v) M (by omega);have bf:=OC V.k V.m (str v) M (by rw[Z5];omega);rw[Z5] at ai ak;have aj:=λ(sa:Option Addr) (sc:Nat) (W:World) (h1:Zx W sa (Zs V.k V.m (str v))) (h2:(Zs V.k V.m (str v)).length<=sc) (h3:sc<=9223372036854775807)=>Z1j (V.k:Int) (v.length:Int) sa (Zs V.k V.m (str v)).length sc (Zs V.k V.m (str v)) W ⟨by omega,by omega⟩ (by omega) h1 rfl h2 h3 bf;rw[ai,ak] at aj;have H:=Z5N h af aq ae ht aj;go_enter func28,ntmps28;go_wp2_with (first|(go_at_call 66;refine(Ch _ _).mono ?_;rw[hm];rintro e w1 ⟨rfl,rfl⟩)|(go_at_call 67;refine H.out.2.1.mono ?_;rintro e w2 ⟨rfl,bl2,e2,g2,f2⟩;have C:=Z5K e2 g2 f2;clear e2 g2 f2)|(go_at_call 35;refine(LD B _ G V bl2 C.out.1 hg).mono ?_;rintro e w3 ⟨bg,rfl,ag,J⟩;obtain rfl:=ag.zero;have R3:=Z5K (C.out.1.after J) C.out.2.1 (C.out.2.2.trans (Fr.of_below (L:=[]) J) (by simp));clear ag J)|(go_at_call 68;refine(Pq B _ G V bl2 K E key v R3.out.1 al hv M b9 hg H.out.2.2.1 H.out.2.2.2.1).mono ?_;rintro e w4 ⟨a,cap,rfl,au,aw,az,b7,O,g4,f4⟩;have c0:=O.scell.cell (j:=0) rfl;have F:=Z5L (Zi.trans R3.out ⟨b7,O,g4,f4⟩) au aw az;clear O g4 f4 au aw az)|(go_at_call 69;refine(H.out.2.2.2.2.2 a cap _ F.out.2.1 F.out.2.2.1 F.out.2.2.2).mono ?_;rintro e w5 ⟨b8,rfl,ah,Z⟩;obtain rfl:=(by rcases ah with ⟨U,_⟩|⟨U,_⟩;exact U;exact absurd rfl U:b8=.nilIface);have R5:=Z5F (Zi.after F.out.1 Z);clear ah Z));go_ret2;exact⟨rfl,R5.out⟩
end
section
open Go.Shelf
theorem Z0Q(B:Nat)(w:World)(G:Eg)(V:Ev)(bl:List Nat)(K:List Bs)(E i:Nat)(S:Sto)(key v:Bs)(h:EAt B w G V bl)(ht:Ty w)(bz:0<B)(hi:i<G.n)(hM:V.Ms i=some S)(cj:1<=key.length)(aw:key.length<=200)(hv:v.length<=200)(au:1<=V.k)(bm:V.k+V.m=G.n)(hg:V.P.gone=false)(hb:ZO K E (V.Ds i) S)(ae:Fk V G.n)(O:stR (V.Ds i).reads S.dir (nmD key)=some (some (shL V.k V.m i key v))):Calls prog 45 #[.pointer (some ⟨G.s,0,none⟩),.int .i64 (i:Int),.string (str key)] w λe w'=>e=.returned .nilIface/\Zi B G bl V w w':=by
 have hn:=h.nle;have c4:=h.scell.cell (j:=4) rfl;have c2:=h.scell.cell (j:=2) rfl
 have cr:(List.range G.n).any (YE V key)=true:=List.any_eq_true.2 ⟨i,List.mem_range.2 hi,by
  unfold YE;rw[hM];simp only;cases h9:S.dir.get (nmD key) with
  |none=>rw[stR,h9] at O;cases O
  |some e=>rfl⟩
 obtain⟨e,aq⟩:∃e,S.dir.get (nmD key)=some e:=by
  cases h9:S.dir.get (nmD key) with
  |none=>rw[stR,h9] at O;cases O
  |some e=>exact⟨e,rfl⟩
 obtain⟨bq,cn⟩:=ae i hi S hM _ _ aq;have az:(nmD key).length<=1000000:=by simp[nmD];omega
 have hm:(decide (1<=(str key).size)&&decide ((str key).size<=200))=true:=by rw[Z5];simp;omega
 have ag:=Gc B w G V bl key h aw ae;have Z:=DY key (by omega);have H:=Z5P h ag hM ht hb O aq Z;go_enter func45,ntmps45;go_wp2_with (first|(go_at_call 66;refine(Ch _ _).mono ?_;rw[hm];rintro e w1 ⟨rfl,rfl⟩)|(go_at_call 67;refine H.out.2.1.mono ?_;rintro e w2 ⟨rfl,bl2,e2,g2,f2⟩;have J:=Z5K e2 g2 f2;have b9:=e2.scell.cell (j:=2) rfl;have bg:=e2.mcell hi;obtain⟨s,af,b8,hd,L,b7⟩:=e2.mem hi H.out.2.2.1;have x0:=af.cell (j:=0) rfl;have F:=Z5L af b8 hd b7;clear e2 g2 f2 af b8 hd b7 c2 c4)|(go_at_call 22;obtain⟨bj,v9, -,ak⟩:=F.out.2.2.2.dk;refine(I5 _ _ bj v9 _ _ ak).mono ?_;rw[F.out.2.2.1];rintro e w4 ⟨rfl,rfl⟩;clear ak x0)|(go_at_call 34;refine(JW B _ G V bl2 i J.out.1 hi S H.out.2.2.1).mono ?_;rintro e w5 ⟨rfl,ah⟩;have R5:=Z5F ah;clear ah b9 bg)|(go_at_call 35;have t2:=Zi.ty (w:=w) ⟨bl2,J.out⟩ H.out.1 H.out.2.2.2.1;refine(LD B _ G V bl2 (J.out.1.after R5.out) hg).mono ?_;rintro e w6 ⟨bu,rfl,al,ai⟩;obtain rfl:=al.zero;have C:=R5.out.trans (ai.mono R5.out.size);have bf:=(J.out.1.after C).scell.cell (j:=2) rfl;have bh:=(J.out.1.after C).mcell hi;have x1:=(F.out.1.after C).cell (j:=1) rfl;have Z:=H.out.2.2.2.2.2.2.2;have R6:=Z5F C;clear al ai C t2)|(go_at_call 97;refine(Bm s (G.ds i) S (nmD key) e _ (F.out.2.1.after R6.out) az H.out.2.2.2.2.2.2.1 bq (by omega)).mono ?_;rintro e7 w7 ⟨v7,rfl, -,C⟩;have M:=Z5F (R6.out.trans (C.mono R6.out.size));clear C bf bh x1 Z)|(go_at_call 100;have U:=J.out.1.after M.out;refine(Me G.s G.ms (G.xs i) s V.k V.m i G.cap G.n key v _ au (by omega) hi bm.symm hv aw (U.scell.cell (j:=0) rfl) (U.scell.cell (j:=2) rfl) (U.mcell hi) ((F.out.1.after M.out).cell (j:=1) rfl) (BT (F.out.2.2.2.after M.out) (F.out.2.1.after M.out) H.out.2.2.2.2.1 hg F.out.2.2.1 az (by simp[nmD];omega) (EG (m:=V.m) (i:=i) (key:=key) au hv).2 H.out.2.2.2.2.2.1)).mono ?_;rintro e8 w8 ⟨rfl,aj⟩;have R8:=Z5F (M.out.trans (aj.mono M.out.size));clear aj U));go_ret;exact⟨rfl,Zi.after ⟨bl2,J.out⟩ R8.out⟩
theorem Fv(b ms q i n cap p d gh t:Nat)(v sv lf inn:Value)(D:Dk)(w:World)(hi:i<n)(c2:w.cell? ⟨b,2,none⟩=some (.slice (some ⟨ms,0,none⟩) n cap))(F:w.cell? ⟨ms,i,none⟩=some (.pointer (some ⟨q,0,none⟩)))(h:Row w q 91 [.pointer (some ⟨d,0,none⟩),sv,lf,inn])(C:Zr w p d gh v D):Calls prog 65 #[.pointer (some ⟨b,0,none⟩),.int .i64 (i:Int),.pointer (some ⟨t,0,none⟩)] w λe w'=>e=.returned (.tuple #[])/\Row w' q 91 [.pointer (some ⟨d,0,none⟩),.pointer (some ⟨t,0,none⟩),.int .i64 D.life,.bool true]/\Fr [q] w w':=by have J:=h.cell (j:=0) rfl;have M:=h.cell (j:=1) rfl;have O:=h.cell (j:=2) rfl;have U:=h.cell (j:=3) rfl;have f1:=h.free (j:=1) (by simp);have f2:=h.free (j:=2) (by simp);have f3:=h.free (j:=3) (by simp);have H:=Z5J h C;go_enter func65,ntmps65;go_wp2_with (go_at_call 72;refine(If p d gh v D _ H.out.2).mono ?_;rintro e w' ⟨rfl,rfl⟩);go_end0;exact⟨rfl,((H.out.1.set 1 (.pointer (some ⟨t,0,none⟩))).set 2 (.int .i64 D.life)).set 3 (.bool true),(((Fr.refl _ _).setCell (Or.inl (by simp)) _).setCell (Or.inl (by simp)) _).setCell (Or.inl (by simp)) _⟩
end
section
variable{K:List Bs}{R:Nat->ByteArray}
def QZ(k m i g:Nat):Ac:=⟨1,nmC,[],Qq k m i g⟩
theorem FA(R:Nat->ByteArray):YN 800 100 (Zt (Jn.format 100) R) Sto.first [] where
 nn:=rfl
 hh:=rfl
 jhalf:=rfl
 open_:=rfl
 img:=by
  have h:=Yp.format R 100 (by omega)
  exact h
 dir:=rfl
 pre:=λk C=>by simpa using Ia
 used:=rfl
 small:=by simp
 few:=by simp
 recs:=by simp
theorem Z0z{S:Sto}{recs:List Rec}(hi:YN 800 100 R S recs)(Z:Dir.Sm (Yg K) S.dir)(hK:KOk K){acts:List Ac}(hw:∀a∈acts,a.wrong=false)(ha:∀a∈acts,Ac.Sm (Yg K) a)(hl:acts.length<=12)(J:acts≠[]){d0:Dir}{f:Z1}(hd:Qi acts 0 S.dir []=some (d0,f))(O:∃m,f.by m≠none∨(S.dir.get m≠none/\d0.get m=none))(M:d0≠[]):∃d,Qu K S acts d f:=by
 obtain⟨d,C,F,h3,h4⟩:=Fs hi (λm hm=>(Jz hK m hm).2) (Gv hK) Z hw ha hl hd O M;have U:=YD R hi.ok hi.used hw C;refine⟨d,C,F,hw,J,hl,λo h=> ?_,h3⟩;rcases Z5p.1 h with h|h
 .exact RH U o h
 .have:=KV F o h;rw[hi.jhalf] at this;cases o with
  |wr a s=>exact⟨Z5v this.1 (by omega),this.2⟩
  |fl=>trivial
theorem DW(hK:KOk K)(k m i g:Nat):∃d f,Qu K Sto.first [QZ k m i g] d f:=by
 have hi:=FA (λ_=>QF);obtain⟨d0,f,C⟩:=GS (l:=[QZ k m i g]) (by simp[QZ]) 0 Sto.first.dir []
 have h:f.by nmC≠none/\d0.get nmC≠none:=GR (a:=QZ k m i g) (l:=[]) rfl (by simpa using C)
 have F:Ac.wrong (QZ k m i g)=false/\Ac.Sm (Yg K) (QZ k m i g):=put_ok hK (YC.2 (by simp)) (by rw[Ar];omega) (by rw[Ar];omega);obtain⟨d,ha⟩:=Z0z hi (K:=K) (S:=Sto.first) (λx hx=>by cases hx) hK (acts:=[QZ k m i g]) (by simp_all) (by simp_all) (by simp) (by simp) C ⟨nmC,Or.inl h.1⟩ (λe=>h.2 (by rw[e];rfl));grind
def XN(k m i g:Nat):Tab:=λn=>if n=nmC then some (some (Qq k m i g)) else none
theorem UM{k m i g:Nat}{D:Dk}{d:Dir}{f:Z1}(hK:KOk K)(ok:D.ok 800)(C:D.reads=Zt (Jn.format 100) R)(ha:Qu K Sto.first [QZ k m i g] d f):ZO K 2 (ZU (Sto.first.ops [QZ k m i g] d f) D) (Sto.first.done d f)/\stR (ZU (Sto.first.ops [QZ k m i g] d f) D).reads (Sto.first.done d f).dir=XN k m i g:=by
 have hi:YN 800 100 D.reads Sto.first []:=by rw[C];exact FA R
 have h:=YD D.reads hi.ok hi.used ha.wrong ha.plan;have e1:(ZU (Sto.first.ops [QZ k m i g] d f) D).reads=Zt (Sto.first.ops [QZ k m i g] d f) D.reads:=Xo ok.fit ha.in_;refine⟨⟨⟨Sto.first.recs' [] d f,?_,?_⟩,ha.sm,?_,?_⟩,?_⟩
 .rw[e1];exact hi.commit (by omega) (by omega) (by omega) h ha.room
 .unfold Sto.recs';split<;>simp
 .obtain⟨l,hl⟩:=RP Sto.first [QZ k m i g] d f
  rw[hl];exact CD l D
 .exact M4 Sto.first d f
 .rw[e1];rw[show(Sto.first.done d f).dir=d from rfl,Kr hi h ha.room];rfl
theorem IC(k m i g:Nat)(H:Bs->Option Bs):Xn k m i g H (XN k m i g) where
 card:=by simp[XN]
 next:=by unfold XN;rw[if_neg (by decide)]
 under:=by unfold XN;rw[if_neg (by decide)]
 staged:=λx=>by unfold XN;rw[if_neg (by unfold nmS nmC;simp)]
 none_:=λx _=>by unfold XN;rw[if_neg (by unfold nmD nmC;simp)]
 some_:=λx v _=>Or.inl (by unfold XN;rw[if_neg (by unfold nmD nmC;simp)])
 other:=λn h=>by
  unfold XN at h
  simp_all
theorem Pb(k m i:Nat)(T:Tab):BL k m i (λ_=>none) T:=λx v h=>by cases h
end
section
open Go.Shelf
structure BlA(B:Nat)(w:World)(G:Eg)(i:Nat)(L:List Nat)(P1:Pw)(D1:Dk)(s j:Nat)(L1:List Nat)(w1:World):Prop where
 pd:PD B w1 G.p (G.ds i) 800 P1 D1 L1
 grew:∀k∈L1,k∈L∨w.heap.size<=k
 fr:Fr (G.p::L) w w1
 sge:w.heap.size<=s
 jge:w.heap.size<=j
 st:WG w1 s j (G.ds i) Sto.first
theorem BlA.after{B:Nat}{w:World}{G:Eg}{i:Nat}{L:List Nat}{P1:Pw}{D1:Dk}{s j:Nat}{L1:List Nat}{w1 w2:World}(h:BlA B w G i L P1 D1 s j L1 w1)(C:Below w1.heap.size w1 w2):BlA B w G i L P1 D1 s j L1 w2:=⟨h.pd.after C,h.grew,h.fr.trans (Fr.of_below (L:=[]) C) (by simp),h.sge,h.jge,h.st.fr (Fr.of_below (L:=[]) C) (ts:=[]) (λk F=>by cases F) (by simp) (by simp) (by simp) (by simp)⟩
theorem Lo{B:Nat}{w w1:World}{G:Eg}{V:Ev}{Ls Os:Nat->List Nat}{i:Nat}{sv ev:Value}(F:Sf B G.p (G.ds i) (Ls i) V.P (V.Ds i) w sv ev w1)(J:(Z2 (Jn.format 100) V.P (V.Ds i)).1=0):ev=.nilIface/\∃s j L1,sv=.pointer (some ⟨s,0,none⟩)/\BlA B w G i (Ls i) (Z2 (Jn.format 100) V.P (V.Ds i)).2.1 (Z2 (Jn.format 100) V.P (V.Ds i)).2.2 s j L1 w1:=by have he:=F.err;rw[J] at he;obtain⟨s,rfl,M,h⟩:=F.sto J;obtain⟨hs,j,O,h⟩:=h.j;obtain⟨L1,C⟩:=F.ran;exact⟨he.zero,s,j,L1,rfl,C.pd,C.grew,by simpa using C.fr,M,O,h⟩
section
variable{B:Nat}{w w1 w4 w5:World}{G:Eg}{V:Ev}{Ls Os:Nat->List Nat}{i s j:Nat}{P1:Pw}{D1:Dk}{L1:List Nat}{ops:List DOp}{S1:Sto}
theorem DX(h:BlA B w G i (Ls i) P1 D1 s j L1 w1){F:List Nat}{P2:Pw}{D2:Dk}(J:Did B G.p (G.ds i) 800 L1 [s,j] P2 D2 w1 w4 F):Fr (G.p::Ls i) w w4/\∀k∈F,k∈Ls i∨w.heap.size<=k:=by
 have O:=h.fr.size;refine⟨h.fr.trans J.fr (λk C M=> ?_),λk C=> ?_⟩
 .simp only[List.cons_append,List.nil_append,Z5q] at C;rcases C with rfl|rfl|rfl|C
  .have:=h.sge;omega
  .have:=h.jge;omega
  .simp
  .rcases h.grew k C with h9|h9
   .exact Z5n _ h9
   .omega
 .rcases J.grew k C with h9|h9
  .exact h.grew k h9
  .exact Or.inr (by omega)
theorem MW(hp:ZY B w G V Ls Os)(hi:i<G.n){sv:Value}{lf:Int}{inn:Bool}(Z:Os i=[G.xs i])(J:BlA B w G i (Ls i) P1 D1 s j L1 w1)(U:Iy B G.p (G.ds i) s j L1 ops S1 P1 D1 w1 w4)(h0:(Z2 ops P1 D1).1=0)(ae:D1.dead=false)(hE:Row w5 (G.xs i) 91 [.pointer (some ⟨G.ds i,0,none⟩),.pointer (some ⟨s,0,none⟩),.int .i64 (Z2 ops P1 D1).2.2.life,.bool true]){o:List Value}(hx:Row w4 (G.xs i) 91 o)(O:Fr [G.xs i] w4 w5):Zi B G (Wb G Ls Os) {V with P:=(Z2 ops P1 D1).2.1,Ds:=upd V.Ds i (Z2 ops P1 D1).2.2,Ms:=upd V.Ms i (some S1)} w w5:=by
 obtain⟨L2,M⟩:=U.ran;obtain⟨h1,h2⟩:=DX J M;have F:=U.ok h0;have hl:=Y5 ops P1 D1;have C:Z8 w4 [G.xs i] [91]:=Z8.row hx (by simp);have ag:s∉[G.xs i]:=by obtain⟨b,uv,r1,_⟩:=F;exact C.row_ne r1 (by decide)
 have af:j∉[G.xs i]:=by obtain⟨b,uv,_,r2,_⟩:=F;exact C.row_ne r2 (by decide)
 refine hp.step hi (X:=[G.xs i]) (L':=L2) (O':=[G.xs i,s,j]) ?_ (by rw[Z];simp) (M.pd.fr O (C.disj M.pd.typed (by decide))) ⟨s,j,rfl,hE,F.fr O C (by decide) (by decide) ag af,by rw[hl.2];exact ae⟩ h2 (λk h=> ?_)
 .refine(h1.mono (λk h _=>Z5n _ h)).trans O (λk h _=> ?_);rw[Z58] at h;subst h;simp
 .rw[Z];simp only[Z5q,Z5y,or_false] at h⊢;rcases h with rfl|rfl|rfl
  .exact Or.inl rfl
  .exact Or.inr J.sge
  .exact Or.inr J.jge
end
theorem Tj:∃l,Jn.format 100=l++[.fl]:=by unfold Jn.format Jn.lay;exact⟨_,by rw[<-Z5g,<-Z5g,<-Z5g]⟩
theorem Lp{P:Pw}{D:Dk}(ok:D.ok 800)(C:D.dead=false)(J:(Z2 (Jn.format 100) P D).1=0):YN 800 100 (Z2 (Jn.format 100) P D).2.2.reads Sto.first []/\(Z2 (Jn.format 100) P D).2.2.wait=[]/\(Z2 (Jn.format 100) P D).2.2.dead=false:=by
 have h:∀o∈Jn.format 100,o.In 800:=λo M=>by
  have:=LG 100 (by decide) o M;cases o with
  |wr a s=>exact⟨Z5v this.1 (by decide),this.2⟩
  |fl=>trivial
 have F:=Hg (Jn.format 100) (P:=P) h ok.fit C J;have hl:=Y5 (Jn.format 100) P D;refine⟨?_,?_,by rw[hl.2];exact C⟩
 .rw[F,Xo ok.fit h];exact FA _
 .obtain⟨l,e⟩:=Tj;rw[F,e];exact CD l D
theorem Hr{w:World}{g:Nat}{a:Ac}(h:Row w g 151 (AcC a)):WD w g 0 [a]:=by
 refine⟨⟨h.lt,λk F=> ?_⟩,_,h⟩;have C:k=0:=by simp at F;omega
 subst C;exact⟨h.cell (j:=0) rfl,h.cell (j:=1) rfl,h.cell (j:=2) rfl,h.cell (j:=3) rfl⟩
theorem BlA.keep{B:Nat}{w w1:World}{G:Eg}{V:Ev}{Ls Os:Nat->List Nat}{i:Nat}{P1:Pw}{D1:Dk}{s j:Nat}{L1:List Nat}(h:BlA B w G i (Ls i) P1 D1 s j L1 w1)(F:ZY B w G V Ls Os)(hi:i<G.n){g:Nat}{e:TypeId}{l:List Value}(C:Row w g e l)(he:e∉Di):Row w1 g e l:=C.fr h.fr ((F.pd i hi).typed.row_ne C he)
theorem BlA.ty{B:Nat}{w w1:World}{G:Eg}{V:Ev}{Ls Os:Nat->List Nat}{i:Nat}{P1:Pw}{D1:Dk}{s j:Nat}{L1:List Nat}(h:BlA B w G i (Ls i) P1 D1 s j L1 w1)(F:ZY B w G V Ls Os)(hi:i<G.n)(M:B<=w.heap.size)(J:Ty w)(O:0<B):Ty w1:=by
 have U:Below B w w1:=h.fr.below M (λk C=>by
  rcases Z5q.1 C with rfl|C
  .exact(F.pd i hi).bp
  .exact(F.pd i hi).bL k C)
 unfold Ty at J⊢;rw[U.cell (p:=⟨0,0,none⟩) O];exact J
theorem Cb{B:Nat}{w w3:World}{G:Eg}{K:List Bs}{i:Nat}{L:List Nat}{P1:Pw}{D1:Dk}{s j:Nat}{L1:List Nat}{acts:List Ac}{d:Dir}{f:Z1}{ga:Nat}(h:BlA B w G i L P1 D1 s j L1 w3)(Z:B<=w.heap.size)(ty:Ty w3)(O:0<B)(F:YN 800 100 D1.reads Sto.first [])(C:D1.wait=[])(ha:Qu K Sto.first acts d f)(J:WD w3 ga 0 acts){na ca:Nat}(U:na=acts.length)(M:na<=ca):Calls prog 38 #[.pointer (some ⟨s,0,none⟩),.slice (some ⟨ga,0,none⟩) na ca] w3 (Ans w3.heap.size (Z2 (Sto.first.go acts) P1 D1).1 (Iy B G.p (G.ds i) s j L1 (Sto.first.go acts) (Sto.first.nx acts) P1 D1 w3)):=by rw[ha.go,ha.nx];have h1:=h.sge;have h2:=h.jge;have h3:=h.fr.size;exact DZ B G.p (G.ds i) P1 D1 L1 s j ga 0 na ca Sto.first [] D1.reads acts d f w3 h.pd (by omega) h.st (by omega) (by omega) J U M F ha.plan ha.room ha.wrong ha.ne ha.few (by rw[C];simp) ty O (by show(1:Nat)<=2000000000;omega) (by show(0:Nat)<=10000;omega)
def Ql(k m i g:Nat)(P:Pw)(D:Dk):Int×Pw×Dk:=if(Z2 (Jn.format 100) P D).1=0 then Z2 (Sto.first.go [QZ k m i g]) (Z2 (Jn.format 100) P D).2.1 (Z2 (Jn.format 100) P D).2.2 else Z2 (Jn.format 100) P D
end
section
open Go.Shelf
variable{B k m s t:Nat}{ds xs:Nat->Nat}{v:Value}{w w' wr:World}
structure AQ(B:Nat)(s k m:Nat)(ds:Nat->Nat)(t:Nat)(v:Value)(xs:Nat->Nat)(w wr:World):Prop where
 set:Row wr s 78 [.int .i64 (k:Int),.int .i64 (m:Int),v,.int .i64 0,.bool false]
 own:wr.ownsRow B 92 1 v t (Y7 t xs)
 mem:∀i,i<t->Row wr (xs i) 91 [.pointer (some ⟨ds i,0,none⟩),.pointer none,.int .i64 0,.bool false]
 ge:∀i,i<t->B<=xs i
 inj:∀i j,i<t->j<t->xs i=xs j->i=j
 sge:B<=s
 bel:Below B w wr
theorem AQ.after(h:AQ B s k m ds t v xs w wr)(F:B<=w.heap.size)(C:Below wr.heap.size wr w'):AQ B s k m ds t v xs w w':=⟨h.set.after C,Qz h.own C,λi hi=>(h.mem i hi).after C,h.ge,h.inj,h.sge,h.bel.trans (C.mono (by have:=h.bel.size;omega))⟩
theorem AQ.put(h:AQ B s k m ds t v xs w wr)(F:Fr (ZG v) wr w'):Row w' s 78 [.int .i64 (k:Int),.int .i64 (m:Int),v,.int .i64 0,.bool false]:=h.set.fr F (λhm=>by obtain⟨J,C⟩:=QA h.own s hm;exact Row.ne h.set C (by decide) rfl)
theorem AQ.next{g n c x:Nat}(h:AQ B s k m ds t v xs w wr)(aj:B<=w.heap.size)(hx:Row wr x 91 [.pointer (some ⟨ds t,0,none⟩),.pointer none,.int .i64 0,.bool false])(ai:B<=x)(ag:∀i,i<t->xs i≠x)(ho:w'.ownsRow B 92 1 (.slice (some ⟨g,0,none⟩) n c) (t+1) (Y7 t xs++[.pointer (some ⟨x,0,none⟩)]))(M:Fr (ZG v) wr w'):AQ B s k m ds (t+1) (.slice (some ⟨g,0,none⟩) n c) (upd xs t x) w (w'.setCell ⟨s,2,none⟩ (.slice (some ⟨g,0,none⟩) n c)):=by
 have hs:=h.set;have Z:∀{y:Nat} {e:TypeId} {l:List Value},Row wr y e l->e≠92->y∉ZG v:=fun{y e l} hy he hm=>by obtain⟨l2,J⟩:=QA h.own y hm;exact Row.ne hy J he rfl
 have ae:=hs.fr M (Z hs (by simp));have U:Fr [s] w' (w'.setCell ⟨s,2,none⟩ (.slice (some ⟨g,0,none⟩) n c)):=(Fr.refl _ _).setCell (Or.inl (by simp)) _;have O:∀{y:Nat} {l:List Value},Row wr y 91 l->Row (w'.setCell ⟨s,2,none⟩ (.slice (some ⟨g,0,none⟩) n c)) y 91 l:=fun{y l} hy=>(hy.fr M (Z hy (by simp))).fr U (by simp;exact Row.ne hy hs (by simp));have ah:Y7 (t+1) (upd xs t x)=Y7 t xs++[.pointer (some ⟨x,0,none⟩)]:=by unfold Y7;rw[List.range_succ,Z5u];simp only[Z5t,Zo];congr 1;refine List.map_congr_left λi hi=> ?_;rw[List.mem_range] at hi;rw[Z6 _ _ (by omega)]
 refine⟨ae.set 2 _,?_,λi hi=> ?_,λi hi=> ?_,λi j hi hj e=> ?_,h.sge,?_⟩
 .rw[ah];refine Wl ho U (λq hq hm=> ?_);rw[Z58] at hm;subst hm;obtain⟨l2,J⟩:=QA ho q hq;exact Row.ne ae J (by simp) rfl
 .by_cases e:i=t
  .subst e;rw[Zo];exact O hx
  .rw[Z6 _ _ e];exact O (h.mem i (by omega))
 .by_cases e:i=t
  .subst e;rw[Zo];exact ai
  .rw[Z6 _ _ e];exact h.ge i (by omega)
 .by_cases F:i=t
  .by_cases C:j=t
   .omega
   .rw[F,Zo,Z6 _ _ C] at e;grind
  .by_cases C:j=t
   .rw[C,Zo,Z6 _ _ F] at e;grind
   .rw[Z6 _ _ F,Z6 _ _ C] at e;exact h.inj i j (by omega) (by omega) e
 .have af:Below B wr w':=M.below (by have:=h.bel.size;omega) (WE h.own);exact(h.bel.trans af).trans ((Below.refl B w').setCell (p:=⟨s,2,none⟩) h.sge _)
theorem Lx(w:World)(gd n cap k m:Nat)(ds:Nat->Nat)(hc:∀i,i<n->w.cell? ⟨gd,i,none⟩=some (.pointer (some ⟨ds i,0,none⟩)))(ak:gd<w.heap.size)(au:1<=k)(hn:n=k+m)(al:n<=16):Calls prog 47 #[.slice (some ⟨gd,0,none⟩) n cap,.int .i64 (k:Int),.int .i64 (m:Int)] w λe w'=>∃s v xs,e=.returned (.tuple #[.pointer (some ⟨s,0,none⟩),.nilIface])/\AQ w.heap.size s k m ds n v xs w w':=by
 have d1:decide ((k:Int)<1)=false:=by grind
 have d2:decide ((m:Int)<0)=false:=by simp
 have d3:decide ((n:Int)>16)=false:=by simp;omega
 have d4:decide (n<k)=false:=by simp;omega
 have d5:((m:Int) !=(n:Int)- (k:Int))=false:=by simp;omega
 have d6:IntKind.i64.wrap ((n:Int)- (k:Int))=(n:Int)- (k:Int):=Z5x _ (by omega);have HC:=Z5J hc hn;clear hc hn;go_enter func47,ntmps47;go_wp2_with fail;have Z:AQ w.heap.size w.heap.size k m ds 0 (.slice none 0 0) (λ_=>0) w (w.alloc (.cells #[.int .i64 (k:Int),.int .i64 (m:Int),.slice none 0 0,.int .i64 0,.bool false] 78)):=
  ⟨Row.new w _ _,World.ownsRow_nil _ _ _ _,λi hi=>by omega,λi hi=>by omega,λi j hi=>by omega,Z5D,(Below.refl w.heap.size w).alloc Z5D _⟩
 have ah:=Z5F Z;clear Z;go_loopw [43] (λO wr=>∃ (t:Nat) (v:Value) (xs:Nat->Nat),t<=n/\O=.int .i64 t/\AQ w.heap.size w.heap.size k m ds t v xs w wr) (λO _=>n- (intOf O).toNat)
 case atStart=>exact⟨0,_,_,by omega,rfl,ah.out⟩
 case round=>
  obtain⟨t,v,xs,ht,rfl,h⟩:=hrel;have HS:=Z5F h;by_cases ae:t<n
  .have c2:=h.set.cell (j:=2) rfl;have f2:=h.set.free (j:=2) (by simp);have aj:=(h.bel.cell (p:=⟨gd,t,none⟩) ak).trans (HC.out.1 t ae);have aw:(t:Int)<(n:Int):=(by omega);have hz:=h.bel.size;have F:=((Below.refl wr.heap.size wr).alloc Z5D (.cells #[.pointer (some ⟨ds t,0,none⟩),.pointer none,.int .i64 0,.bool false] 91)).alloc (by simp) (.cells #[.pointer (some ⟨wr.heap.size,0,none⟩)] 92);have hA:=h.after Z5D F;have af:Row ((wr.alloc (.cells #[.pointer (some ⟨ds t,0,none⟩),.pointer none,.int .i64 0,.bool false] 91)).alloc (.cells #[.pointer (some ⟨wr.heap.size,0,none⟩)] 92)) wr.heap.size 91 [.pointer (some ⟨ds t,0,none⟩),.pointer none,.int .i64 0,.bool false]:=(Row.new wr _ _).alloc _;have ag:Row ((wr.alloc (.cells #[.pointer (some ⟨ds t,0,none⟩),.pointer none,.int .i64 0,.bool false] 91)).alloc (.cells #[.pointer (some ⟨wr.heap.size,0,none⟩)] 92)) (wr.heap.size+1) 92 [.pointer (some ⟨wr.heap.size,0,none⟩)]:=by have h9:=Row.new (wr.alloc (.cells #[.pointer (some ⟨ds t,0,none⟩),.pointer none,.int .i64 0,.bool false] 91)) 92 [.pointer (some ⟨wr.heap.size,0,none⟩)];simp_all
   have U:∀i,i<t->xs i≠wr.heap.size:=λi hi e=>by have:=(h.mem i hi).lt;omega
   have C:=Z5M hA af ag U (Z5w hz F.size);clear h F hA af ag U;go_wp2_with (at_builtin;refine QS _ rfl (.tmp 51) (.tmp 55) 76 92 rfl underlying76 Z1y rfl (by omega) (by omega) w.heap.size v t (Y7 t xs) rfl C.out.1.own (wr.heap.size+1) 1 [.pointer (some ⟨wr.heap.size,0,none⟩)] rfl (by omega) (by omega) rfl C.out.2.2.1 (by simp[Value.oneCell']) C.out.2.2.2.2 (by omega) ?_;intro g2 ai w8 ho M _ _ _;have J:=C.out.1.put M;have aq:=J.cell (j:=2) rfl;have f28:=J.free (j:=2) (by simp);have R8:=Z5F (C.out.1.next Z5D C.out.2.1 hz C.out.2.2.2.1 ho M);clear J ho M c2 f2 aj);go_roundw
   case measure=>simp[intOf];omega
   case rel=>exact⟨t+1,_,_,by omega,by go_num,R8.out⟩
  .obtain rfl:t=n:=(by omega);clear h;go_wp2_with fail;go_ret2;exact⟨_,v,xs,rfl,HS.out⟩
end
section
variable{S:Sto}
abbrev YG:=Nat×(Sto->List Ac)
def ZH(V:Ev)(x:YG):Int:=match V.Ms x.1 with
 |some S=>(Z2 (S.go (x.2 S)) V.P (V.Ds x.1)).1
 |none=>0
def ZB(V:Ev)(x:YG):Ev:=match V.Ms x.1 with
 |some S=>{V with P:=(Z2 (S.go (x.2 S)) V.P (V.Ds x.1)).2.1,Ds:=upd V.Ds x.1 (Z2 (S.go (x.2 S)) V.P (V.Ds x.1)).2.2,Ms:=upd V.Ms x.1 (some (S.nx (x.2 S)))}
 |none=>V
def Zg:List YG->Ev->Int×Ev
 |[],V=>(0,V)
 |x::r,V=>if ZH V x=0 then Zg r (ZB V x) else(ZH V x,ZB V x)
theorem Jg(a b:List YG):∀V:Ev,Zg (a++b) V=if(Zg a V).1=0 then Zg b (Zg a V).2 else Zg a V:=by
 induction a with
 |nil=>intro V;simp[Zg]
 |cons x r ih=>intro V;have e:Zg (x::r) V=if ZH V x=0 then Zg r (ZB V x) else(ZH V x,ZB V x):=rfl;rw[List.cons_append,Zg,e];grind
theorem Tf{a:List YG}{V C:Ev}(h:Zg a V=(0,C))(x:YG):Zg (a++[x]) V=(ZH C x,ZB C x):=by rw[Jg,h];simp[Zg];simp_all
theorem Yr{V:Ev}{x:YG}(h:V.Ms x.1=some S):ZH V x=(Z2 (S.go (x.2 S)) V.P (V.Ds x.1)).1/\ZB V x={V with P:=(Z2 (S.go (x.2 S)) V.P (V.Ds x.1)).2.1,Ds:=upd V.Ds x.1 (Z2 (S.go (x.2 S)) V.P (V.Ds x.1)).2.2,Ms:=upd V.Ms x.1 (some (S.nx (x.2 S)))}:=by unfold ZH ZB;simp_all
theorem XU(V:Ev)(x:YG):(ZB V x).k=V.k/\(ZB V x).m=V.m/\(ZB V x).gen=V.gen/\∀i,((ZB V x).Ms i).isSome=(V.Ms i).isSome:=by
 unfold ZB;cases h:V.Ms x.1 with
 |none=>exact⟨rfl,rfl,rfl,λi=>rfl⟩
 |some S=>
  refine⟨rfl,rfl,rfl,λi=> ?_⟩;simp only;by_cases e:i=x.1
  .rw[e,Zo,h];rfl
  .rw[Z6 _ _ e]
theorem Bj(l:List DOp):∀{P:Pw} {D:Dk},(∀o∈l,o.In 800)->D.Fit 800->D.dead=false->P.gone=false->((Z2 l P D).1=0/\(Z2 l P D).2.1.gone=false)∨((Z2 l P D).1=10/\(Z2 l P D).2.1.gone=true):=by
 induction l with
 |nil=>intro P D _ _ _ h;exact Or.inl ⟨rfl,h⟩
 |cons o r ih=>
  intro P D C J F h;rw[Wz];by_cases hz:P.fuse=0
  .obtain⟨M,O,U⟩:=OH J h F (C o (by simp)) hz;simp_all
  .by_cases Z:P.fuse<0∨1<=P.fuse
   .obtain⟨M,O,U⟩:=Lf J h F (C o (by simp)) Z;rw[if_pos M,O,U];exact ih (λq hq=>C q (by grind)) (J.app o (C o (by simp))) (by rw[C8];exact F) (DS h Z).2.1
   .omega
structure Z9 where
 K:List Bs
 E:Nat
 k:Nat
 m:Nat
 g:Nat
 H:Bs->Option Bs
 l:List Chg
 T:Nat->Tab
def Z9.p0(X:Z9)(i:Nat)(D:Dk)(S:Sto):Prop:=ZO X.K X.E D S/\stR D.reads S.dir=X.T i
def Z9.p1(X:Z9)(i:Nat)(D:Dk)(S:Sto):Prop:=ZO X.K (X.E+1) D S/\Mid X.k X.m i X.g X.H X.l (X.T i) (stR D.reads S.dir)
def Z9.p2(X:Z9)(i:Nat)(D:Dk)(S:Sto):Prop:=ZO X.K (X.E+2) D S/\Xn X.k X.m i (X.g+1) (upH X.H X.l) (stR D.reads S.dir)/\(BL X.k X.m i X.H (X.T i)->BL X.k X.m i (upH X.H X.l) (stR D.reads S.dir))
structure Z9.Ok(X:Z9)(n:Nat):Prop where
 hK:KOk X.K
 hl:LOk X.K X.l
 k1:1<=X.k
 rest:∀i,i<n->Xn X.k X.m i X.g X.H (X.T i)
structure Z9.At(X:Z9)(ph:Nat->Dk->Sto->Prop)(n:Nat)(V:Ev):Prop where
 gone:V.P.gone=false
 at_:∀i,i<n->∀S,V.Ms i=some S->ph i (V.Ds i) S/\(V.Ds i).ok 800/\(V.Ds i).dead=false
theorem FY(l:List DOp):∀{P:Pw} {D:Dk},(∀o∈l,o.In 800)->D.ok 800->D.wait.length+l.length<=1000000->(Z2 l P D).2.2.ok 800:=by
 induction l with
 |nil=>intro P D _ h _;exact h
 |cons o r ih=>
  intro P D C h hw;rw[Z5h] at hw;have F:(o.dk P D).ok 800:=by
   cases o with
   |wr a s=>exact Z0q h _ s (by omega)
   |fl=>exact Vc h
  rw[Wz];split
  .exact ih (λq J=>C q (by grind)) F (by have:=DOp.few P D o;omega)
  .omega
theorem DP(a:Nat)(l:Bs):(wrs a l).length=l.length / 64:=by unfold wrs;simp
theorem CF(J:Jn)(s:Bool)(k:Nat):(J.clean s k).length<=1:=by unfold Jn.clean;split<;>simp
theorem Qu.len{K:List Bs}{E:Nat}{D:Dk}{acts:List Ac}{d:Dir}{f:Z1}(h:ZO K E D S)(hK:KOk K)(ha:Qu K S acts d f):(S.ops acts d f).length<=100000:=by
 obtain⟨recs,hi,_⟩:=h.img;have C:=YD D.reads hi.ok hi.used ha.wrong ha.plan;have hf:f.length<=40:=by
  have M:=C.fr.length_le_of_subset (l₂:=d.names) (λn hn=>by
   obtain⟨x,hx,rfl⟩:=List.mem_map.1 hn;obtain⟨e,he,_⟩:=C.fresh x hx
   exact Qy.2 (by simp_all))
  rw[Z5i,show d.names.length=d.length from Z5i ..] at M;have h2:=Bz ha.sm C.ok.sorted;have h3:=Gv hK;omega
 have hw:=Iv (d:=d) (acts:=acts) (f:=f) (λx hx=>by
  obtain⟨e,he,_⟩:=C.fresh x hx
  exact⟨e,he,C.ok.get he⟩)
 have hd:(Q3 d acts f).length<=8001:=by unfold Q3;grind
 have F:=ha.room;have ae:=F.some_;have U:=F.whole;have pk:∀e n (r:Bs),r.length<=60000->(Zh e n r).length<=61000/\Zh e n r≠[]:=λe n r F=>by refine⟨?_,XE _ _ _⟩;rw[Wd];unfold Zf;omega
 have lay:∀ (J:Jn) s k (l:Bs),l.length<=61000->l≠[]->(J.lay s k l).length<=5000:=λJ s k l hl O=>by unfold Jn.lay;rw[Z5d,Z5d,Z5d,Z5d,DP,DP,Qf l O];have M:=CF J s (k+l.length / 64);grind
 unfold Sto.ops;rw[Z5d];have hj:(S.jOps d f).length<=50000:=by
  unfold Sto.jOps;split
  .unfold Jn.appendOps;grind
  .unfold Jn.resetOps;have h9:=pk (S.j.epoch+1) 1 _ U;have h8:=QP (S.j.epoch+1);have Z:Zh (S.j.epoch+1) 0 ZM≠[]:=(by grind);have h6:=CF S.j (!S.j.second) (1+Zf (Ya d).length / 64);simp[DP,Qf _ Z];omega
 omega
section
variable{X:Z9}{n:Nat}{V:Ev}
theorem Z9.At.step{ph ph':Nat->Dk->Sto->Prop}(h:X.At ph n V){i:Nat}{S:Sto}{a:Sto->List Ac}{d:Dir}{f:Z1}{E:Nat}(hi:i<n)(hM:V.Ms i=some S)(hB:ZO X.K E (V.Ds i) S)(hK:KOk X.K)(ha:Qu X.K S (a S) d f)(J:ZH V (i,a)=0)(af:∀j,j≠i->∀D S,ph j D S->ph' j D S)(Z:ph' i (ZU (S.ops (a S) d f) (V.Ds i)) (S.done d f)):X.At ph' n (ZB V (i,a)):=by
 obtain⟨e1,e2⟩:=Yr (V:=V) (x:=(i,a)) hM;rw[e1] at J;obtain⟨-,F,M⟩:=h.at_ i hi S hM;rw[ha.go] at J e2;rw[ha.nx] at e2;have hz:=Hg (S.ops (a S) d f) ha.in_ F.fit M J;have hg:=Bj (S.ops (a S) d f) (P:=V.P) ha.in_ F.fit M h.gone;have ae:=FY (S.ops (a S) d f) (P:=V.P) ha.in_ F (by have h9:=Qu.len hB hK ha;rw[hB.wait];simp;omega);have hl:=Y5 (S.ops (a S) d f) V.P (V.Ds i);rw[e2];refine⟨?_,λj U O C=> ?_⟩
 .simp_all
 .simp only at C⊢;by_cases e:j=i
  .subst e;rw[Zo] at C⊢;simp_all
  .rw[Z6 _ _ e] at C⊢;obtain⟨g1,g2,g3⟩:=h.at_ j U O C;simp_all
def ph1(X:Z9)(done:List Nat)(i:Nat)(D:Dk)(S:Sto):Prop:=if i∈done then X.p1 i D S else X.p0 i D S
def ph2(X:Z9)(done:List Nat)(i:Nat)(D:Dk)(S:Sto):Prop:=if i∈done then X.p2 i D S else X.p1 i D S
def op1(X:Z9)(i:Nat):YG:=(i,λ_=>QL X.k X.m i X.g X.l)
def op2(X:Z9)(i:Nat):YG:=(i,λS=>Q0 S.dir (Zu X.l))
theorem Z9.ready1(C:X.Ok n){done:List Nat}(h:X.At (ph1 X done) n V){i:Nat}{S:Sto}(hi:i<n)(hM:V.Ms i=some S)(F:i∉done):ZO X.K X.E (V.Ds i) S/\∃d f,Qu X.K S (QL X.k X.m i X.g X.l) d f:=by obtain⟨g1,g2,g3⟩:=h.at_ i hi S hM;unfold ph1 at g1;rw[if_neg F] at g1;exact⟨g1.1,g1.1.first (H:=X.H) C.hK C.k1 C.hl⟩
theorem Z9.step1(C:X.Ok n){done:List Nat}(h:X.At (ph1 X done) n V){i:Nat}{S:Sto}(hi:i<n)(hM:V.Ms i=some S)(F:i∉done)(J:ZH V (op1 X i)=0):X.At (ph1 X (done++[i])) n (ZB V (op1 X i)):=by
 obtain⟨hB,d,f,ha⟩:=Z9.ready1 C h hi hM F;obtain⟨g1,g2,g3⟩:=h.at_ i hi S hM;unfold ph1 at g1;rw[if_neg F] at g1;refine h.step (a:=λ_=>QL X.k X.m i X.g X.l) hi hM hB C.hK ha J (λj O D S M=> ?_) ?_
 .unfold ph1 at M⊢;simp_all
 .unfold ph1;rw[if_pos (by simp)];obtain⟨b1,b2⟩:=hB.did C.hK g2 ha;refine⟨b1,?_⟩;rw[b2,g1.2];exact VL C.hl.nd (C.rest i hi)
theorem Z9.ready2(C:X.Ok n){done:List Nat}(h:X.At (ph2 X done) n V){i:Nat}{S:Sto}(hi:i<n)(hM:V.Ms i=some S)(F:i∉done):ZO X.K (X.E+1) (V.Ds i) S/\∃d,Qu X.K S (Q0 S.dir (Zu X.l)) d []:=by obtain⟨g1,g2,g3⟩:=h.at_ i hi S hM;unfold ph2 at g1;rw[if_neg F] at g1;exact⟨g1.1,g1.1.second C.hK C.hl (C.rest i hi) g1.2⟩
theorem Z9.step2(C:X.Ok n){done:List Nat}(h:X.At (ph2 X done) n V){i:Nat}{S:Sto}(hi:i<n)(hM:V.Ms i=some S)(F:i∉done)(J:ZH V (op2 X i)=0):X.At (ph2 X (done++[i])) n (ZB V (op2 X i)):=by
 obtain⟨hB,d,ha⟩:=Z9.ready2 C h hi hM F;obtain⟨g1,g2,g3⟩:=h.at_ i hi S hM;unfold ph2 at g1;rw[if_neg F] at g1;refine h.step (a:=λS=>Q0 S.dir (Zu X.l)) hi hM hB C.hK ha J (λj O D S M=> ?_) ?_
 .unfold ph2 at M⊢;simp_all
 .unfold ph2;rw[if_pos (by simp)];obtain⟨b1,b2⟩:=hB.did C.hK g2 ha;obtain⟨U,Z,r3⟩:=Gy C.hl.nd (C.rest i hi) g1.2 hB.sorted (λn=>QV);refine⟨b1,?_⟩;simp_all
def ZI(V:Ev)(n:Nat):List Nat:=(List.range n).filter λi=>(V.Ms i).isSome
theorem mem_ins{i:Nat}:i∈ZI V n↔i<n/\(V.Ms i).isSome=true:=by unfold ZI;simp
theorem Bx:(ZI V n).Nodup:=List.nodup_range.sublist List.filter_sublist
def QQ(X:Z9)(ins:List Nat):List YG:=ins.map (op1 X)++ins.map (op2 X)
theorem Z9.all1{ins:List Nat}(h:∀i,i<n->(V.Ms i).isSome=true->i∈ins)(C:X.At (ph1 X ins) n V):X.At (ph2 X []) n V:=by refine⟨C.gone,λi hi S hM=> ?_⟩;obtain⟨g1,g2⟩:=C.at_ i hi S hM;unfold ph1 at g1;unfold ph2;simp_all
end
end
section
variable{X:Z9}{n:Nat}{V:Ev}
theorem Z9.At.lasts{ph:Nat->Dk->Sto->Prop}(h:X.At ph n V)(C:V.P.fuse<0){i:Nat}{S:Sto}{a:Sto->List Ac}{d:Dir}{f:Z1}(hi:i<n)(hM:V.Ms i=some S)(ha:Qu X.K S (a S) d f):ZH V (i,a)=0/\(ZB V (i,a)).P.fuse<0:=by obtain⟨e1,e2⟩:=Yr (V:=V) (x:=(i,a)) hM;obtain⟨-,F,M⟩:=h.at_ i hi S hM;rw[ha.go] at e1 e2;obtain⟨Q,J,hl⟩:=By (l:=S.ops (a S) d f) (P:=V.P) F.fit M ha.in_ ⟨h.gone,Or.inl C⟩;rw[J] at e1 e2;refine⟨e1,?_⟩;rw[e2];rw[hl.2,if_pos C];exact C
theorem Z9.seq1(U:X.Ok n):∀ (rest done:List Nat) (V:Ev),X.At (ph1 X done) n V->(∀i∈rest,i<n/\(V.Ms i).isSome=true)->(∀i∈rest,i∉done)->rest.Nodup->((Zg (rest.map (op1 X)) V).1=0->X.At (ph1 X (done++rest)) n (Zg (rest.map (op1 X)) V).2)/\(V.P.fuse<0->(Zg (rest.map (op1 X)) V).1=0/\(Zg (rest.map (op1 X)) V).2.P.fuse<0):=by
 intro rest
 induction rest with
 |nil=>intro done V h _ _ _;rw[Z5C];exact⟨λ_=>h,λJ=>⟨rfl,J⟩⟩
 |cons i r ih=>
  intro done V h M O af;obtain⟨hi,hs⟩:=M i (by simp);obtain⟨S,hM⟩:=Option.isSome_iff_exists.1 hs;have Z:=O i (by simp);obtain⟨hB,d,f,ha⟩:=Z9.ready1 U h hi hM Z;obtain⟨n1,n2⟩:=List.nodup_cons.1 af;rw[Z5t];unfold Zg
  have ae:ZH V (op1 X i)=0->_:=λC=>ih (done++[i]) (ZB V (op1 X i)) (Z9.step1 U h hi hM Z C) (λj hj=>⟨(M j (by grind)).1,by rw[(XU V (op1 X i)).2.2.2];exact(M j (by grind)).2⟩) (λj hj hm=>by
   rcases Z5p.1 hm with F|F
   .exact O j (by grind) F
   .rw[Z58] at F;subst F;exact n1 hj) n2
  by_cases C:ZH V (op1 X i)=0
  .rw[if_pos C];obtain⟨g1,g2⟩:=ae C;rw[Z5g,List.singleton_append] at g1;exact⟨g1,λJ=>g2 (Z9.At.lasts (a:=λ_=>QL X.k X.m i X.g X.l) h J hi hM ha).2⟩
  .rw[if_neg C];exact⟨λF=>absurd F C,λJ=>absurd (Z9.At.lasts (a:=λ_=>QL X.k X.m i X.g X.l) h J hi hM ha).1 C⟩
theorem Z9.seq2(U:X.Ok n):∀ (rest done:List Nat) (V:Ev),X.At (ph2 X done) n V->(∀i∈rest,i<n/\(V.Ms i).isSome=true)->(∀i∈rest,i∉done)->rest.Nodup->((Zg (rest.map (op2 X)) V).1=0->X.At (ph2 X (done++rest)) n (Zg (rest.map (op2 X)) V).2)/\(V.P.fuse<0->(Zg (rest.map (op2 X)) V).1=0/\(Zg (rest.map (op2 X)) V).2.P.fuse<0):=by
 intro rest
 induction rest with
 |nil=>intro done V h _ _ _;rw[Z5C];exact⟨λ_=>h,λJ=>⟨rfl,J⟩⟩
 |cons i r ih=>
  intro done V h M O af;obtain⟨hi,hs⟩:=M i (by simp);obtain⟨S,hM⟩:=Option.isSome_iff_exists.1 hs;have Z:=O i (by simp);obtain⟨hB,d,ha⟩:=Z9.ready2 U h hi hM Z;obtain⟨n1,n2⟩:=List.nodup_cons.1 af;rw[Z5t];unfold Zg
  have ae:ZH V (op2 X i)=0->_:=λC=>ih (done++[i]) (ZB V (op2 X i)) (Z9.step2 U h hi hM Z C) (λj hj=>⟨(M j (by grind)).1,by rw[(XU V (op2 X i)).2.2.2];exact(M j (by grind)).2⟩) (λj hj hm=>by
   rcases Z5p.1 hm with F|F
   .exact O j (by grind) F
   .rw[Z58] at F;subst F;exact n1 hj) n2
  by_cases C:ZH V (op2 X i)=0
  .rw[if_pos C];obtain⟨g1,g2⟩:=ae C;rw[Z5g,List.singleton_append] at g1;exact⟨g1,λJ=>g2 (Z9.At.lasts (a:=λS=>Q0 S.dir (Zu X.l)) h J hi hM ha).2⟩
  .rw[if_neg C];exact⟨λF=>absurd F C,λJ=>absurd (Z9.At.lasts (a:=λS=>Q0 S.dir (Zu X.l)) h J hi hM ha).1 C⟩
theorem Bt(l:List YG):∀V:Ev,∀i,((Zg l V).2.Ms i).isSome=(V.Ms i).isSome:=by
 induction l with
 |nil=>intro V i;rfl
 |cons x r ih=>
  intro V i;unfold Zg;split
  .rw[ih];exact(XU V x).2.2.2 i
  .exact(XU V x).2.2.2 i
theorem Z9.commit(F:X.Ok n)(h:X.At (ph1 X []) n V):((Zg (QQ X (ZI V n)) V).1=0->X.At X.p2 n (Zg (QQ X (ZI V n)) V).2)/\(V.P.fuse<0->(Zg (QQ X (ZI V n)) V).1=0/\(Zg (QQ X (ZI V n)) V).2.P.fuse<0):=by
 obtain⟨M,a2⟩:=Z9.seq1 F (ZI V n) [] V h (λi hi=>mem_ins.1 hi) (λi _=>by simp) Bx;unfold QQ;rw[Jg];by_cases C:(Zg ((ZI V n).map (op1 X)) V).1=0
 .rw[if_pos C];have hs:=Bt ((ZI V n).map (op1 X)) V;obtain⟨b1,b2⟩:=Z9.seq2 F (ZI V n) [] _ (Z9.all1 (ins:=ZI V n) (λi hi hM=>mem_ins.2 ⟨hi,by rw[<-hs];exact hM⟩) (M C)) (λi hi=>⟨(mem_ins.1 hi).1,by rw[hs];exact(mem_ins.1 hi).2⟩) (λi _=>by simp) Bx;rw[List.nil_append] at b1;refine⟨λO=> ?_,λU=>b2 (a2 U).2⟩;have J:=b1 O;refine⟨J.gone,λi hi S hM=> ?_⟩;obtain⟨g1,g2⟩:=J.at_ i hi S hM;unfold ph2 at g1;rw[if_pos (mem_ins.2 ⟨hi,by rw[<-hs,<-Bt ((ZI V n).map (op2 X)),hM];rfl⟩)] at g1;simp_all
 .simp_all
end
section
open Go.Shelf
variable{K:List Bs}{P:Pw}{k m:Nat}
theorem AQ.eat{B:Nat}{s:Nat}{ds:Nat->Nat}{n:Nat}{v:Value}{xs:Nat->Nat}{w wr:World}{p:Nat}{Ds:Nat->Dk}{Ls:Nat->List Nat}(h:AQ w.heap.size s k m ds n v xs w wr)(ae:B<=w.heap.size)(F:1<=n)(M:n<=16)(U:∀i,i<n->PD B w p (ds i) 800 P (Ds i) (Ls i))(J:∀i j,i<n->j<n->i≠j->∀q∈Ls i,q∉Ls j):∃ms cap,ZY B wr ⟨n,p,s,ms,cap,xs,ds⟩ ⟨k,m,0,P,Ds,λ_=>none⟩ Ls (λi=>[xs i]):=by
 obtain⟨ms,cap,sp,hv,h1,h2,h3,hr⟩:=YR h.own F;refine⟨ms,cap,?_,⟨sp,hr⟩,F,M,λi hi=>(U i hi).after h.bel,J,λi hi=>⟨.pointer none,0,false,rfl,h.mem i hi,by simp⟩,λi j hi Z O q C hm=> ?_,λi hi q C=> ?_,by have:=h.sge;show B<=s;omega⟩
 .have:=h.set;simp_all
 .simp at C hm;exact O (h.inj i j hi Z (C.symm.trans hm))
 .simp at C;have:=h.ge i hi;omega
theorem Tk:(Jn.format 100).length<=900000:=by
 have C:(Zh 1 0 ZM).length<=61000:=by
  rw[Wd];unfold Zf;have:ZM.length<=100:=by decide
  omega
 have h:Zh 1 0 ZM≠[]:=XE _ _ _;unfold Jn.format;rw[Z5d];have F:=CF ⟨100,false,1,0,1,false⟩ true 0;unfold Jn.lay;rw[Z5d,Z5d,Z5d,Z5d,DP,DP,Qf _ h];have J:=CF ⟨100,false,1,0,1,false⟩ false (0+(Zh 1 0 ZM).length / 64);grind
theorem Pa{i g:Nat}{D:Dk}(hK:KOk K)(ok:D.ok 800)(F:D.dead=false)(hw:D.wait.length<=1000)(hg:P.gone=false)(hf:P.fuse<0):(Ql k m i g P D).1=0/\(Ql k m i g P D).2.1.gone=false/\(Ql k m i g P D).2.1.fuse<0/\ZO K 2 (Ql k m i g P D).2.2 (Sto.first.nx [QZ k m i g])/\stR (Ql k m i g P D).2.2.reads (Sto.first.nx [QZ k m i g]).dir=XN k m i g:=by
 have h:∀o∈Jn.format 100,o.In 800:=λo ho=>by
  have:=LG 100 (by omega) o ho;cases o with
  |wr a s=>exact⟨Z5v this.1 (by omega),this.2⟩
  |fl=>trivial
 obtain⟨Q,Z,J,ae⟩:=By ok.fit F h (l:=Jn.format 100) (P:=P) ⟨hg,Or.inl hf⟩;have M:Q.fuse<0:=by omega
 have C:(ZU (Jn.format 100) D).ok 800:=by have h9:=FY (Jn.format 100) (P:=P) h ok (by have:=Tk;omega);simp_all
 have O:(ZU (Jn.format 100) D).dead=false:=by rw[OX];exact F
 obtain⟨d,f,ha⟩:=DW hK k m i g;obtain⟨U,hR,af,ag⟩:=By C.fit O ha.in_ (l:=Sto.first.ops [QZ k m i g] d f) (P:=Q) ⟨J,Or.inl M⟩;obtain⟨b1,b2⟩:=UM (k:=k) (m:=m) (i:=i) (g:=g) (R:=D.reads) hK C (Xo ok.fit h) ha;have e:Ql k m i g P D=(0,U,ZU (Sto.first.ops [QZ k m i g] d f) (ZU (Jn.format 100) D)):=by unfold Ql;rw[Z];simp;rw[ha.go,hR]
 rw[e,ha.nx];simp_all
structure FmS(K:List Bs)(V0:Ev)(t:Nat)(V:Ev):Prop where
 k:V.k=V0.k
 m:V.m=V0.m
 gen:V.gen=V0.gen
 gone:V.P.gone=false
 fuse:V.P.fuse<0
 done:∀i,i<t->∃S,V.Ms i=some S/\ZO K 2 (V.Ds i) S/\stR (V.Ds i).reads S.dir=XN V0.k V0.m i 0
 rest:∀i,t<=i->V.Ms i=none/\V.Ds i=V0.Ds i
 life:∀i,(V.Ds i).life=(V0.Ds i).life
theorem Mp(k m i g:Nat)(P:Pw)(D:Dk):(Ql k m i g P D).2.2.life=D.life:=by
 unfold Ql;split
 .rw[(Y5 _ _ _).1,(Y5 _ _ _).1]
 .rw[(Y5 _ _ _).1]
theorem FmS.next{V0 V:Ev}{t:Nat}(h:FmS K V0 t V)(hK:KOk K)(ok:(V.Ds t).ok 800)(M:(V.Ds t).dead=false)(hw:(V.Ds t).wait.length<=1000):(Ql V.k V.m t 0 V.P (V.Ds t)).1=0/\FmS K V0 (t+1) {V with P:=(Ql V.k V.m t 0 V.P (V.Ds t)).2.1,Ds:=upd V.Ds t (Ql V.k V.m t 0 V.P (V.Ds t)).2.2,Ms:=upd V.Ms t (some (Sto.first.nx [QZ V.k V.m t 0]))}:=by
 obtain⟨e1,e2,C,F,J⟩:=Pa (k:=V.k) (m:=V.m) (i:=t) (g:=0) hK ok M hw h.gone h.fuse;refine⟨e1,h.k,h.m,h.gen,e2,C,λi hi=> ?_,λi hi=> ?_,λi=> ?_⟩
 .by_cases e:i=t
  .subst e;simp only[Zo];exact⟨_,rfl,F,by rw[J,h.k,h.m]⟩
  .simp[Z6 _ _ e];exact h.done i (by omega)
 .have e:i≠t:=by omega
  simp[Z6 _ _ e];exact h.rest i (by omega)
 .by_cases e:i=t
  .subst e;simp[Zo];rw[Mp];exact h.life i
  .simp[Z6 _ _ e];exact h.life i
end
section
open Go.Shelf
theorem UY(B:Nat)(w:World)(G:Eg)(V:Ev)(bl:List Nat)(K:List Bs)(i g:Nat)(h:EAt B w G V bl)(ht:Ty w)(az:0<B)(hi:i<G.n)(hM:V.Ms i=none)(hK:KOk K)(hk:V.k<=16)(hm:V.m<=16)(hg:g<=1000000000)(ct:(V.Ds i).wait.length<=1000)(ak:(V.Ds i).dead=false)(C:(Ql V.k V.m i g V.P (V.Ds i)).1=0):Calls prog 48 #[.pointer (some ⟨G.s,0,none⟩),.int .i64 (i:Int),.int .i64 (g:Int)] w λe w'=>e=.returned .nilIface/\Zi B G bl {V with P:=(Ql V.k V.m i g V.P (V.Ds i)).2.1,Ds:=upd V.Ds i (Ql V.k V.m i g V.P (V.Ds i)).2.2,Ms:=upd V.Ms i (some (Sto.first.nx [QZ V.k V.m i g]))} w w':=by
 have HZ:=Z5F C;clear C;have hn:=h.nle;have c2:=h.scell.cell (j:=2) rfl;have cm:=h.mcell hi;have al:=h.bw;have cw:(i:Int)<(G.n:Int):=by omega
 obtain⟨Ls,Os,rfl,hp⟩:=h;have bf:=hp.at_ i hi;rw[hM] at bf;obtain⟨cz,lf,inn,hO,aj, -⟩:=bf;have x0:=aj.cell (j:=0) rfl;have bm:=Hl B G.p (G.ds i) V.P (V.Ds i) (Ls i) w (hp.pd i hi) al ht az (by omega);have M:(Ql V.k V.m i g V.P (V.Ds i))=if(Z2 (Jn.format 100) V.P (V.Ds i)).1=0 then Z2 (Sto.first.go [QZ V.k V.m i g]) (Z2 (Jn.format 100) V.P (V.Ds i)).2.1 (Z2 (Jn.format 100) V.P (V.Ds i)).2.2 else Z2 (Jn.format 100) V.P (V.Ds i):=rfl;have H:=Z5M hp aj bm hO ht;clear hp aj bm hO ht;by_cases J:(Z2 (Jn.format 100) V.P (V.Ds i)).1=0
 .rw[if_pos J] at M;have H1:=Z5J J M;obtain⟨ai,ae,aq⟩:=Lp (H.out.1.pd i hi).ok ak J;have ah:=λsv ev w1 (hf:Sf B G.p (G.ds i) (Ls i) V.P (V.Ds i) w sv ev w1)=>Lo (Os:=Os) hf J;clear J M;obtain⟨P1,cr⟩:=Z5H (Z2 (Jn.format 100) V.P (V.Ds i)).2.1;obtain⟨D1,b9⟩:=Z5H (Z2 (Jn.format 100) V.P (V.Ds i)).2.2;rw[b9] at ai ae aq;rw[cr,b9] at ah H1;obtain⟨d,f,ha⟩:=DW hK V.k V.m i g;have bq:=ha.go;have bz:=ha.nx;have U:=Z5O ai ae aq ah ha bq bz;clear ai ae aq ah ha bq bz;by_cases h2:(Z2 (Sto.first.go [QZ V.k V.m i g]) P1 D1).1=0
  .have H2:=Z5F h2;clear h2;go_enter func48,ntmps48;go_wp2_with (first|(go_at_call 101;refine H.out.2.2.1.mono ?_;rintro e w1 ⟨sv,ev,rfl,hf⟩;obtain⟨rfl,s,j,L1,rfl,hA⟩:=U.out.2.2.2.1 _ _ _ hf;have hA:=Z5F hA;clear hf)|(go_at_call 79;have b8:=hA.out.keep H.out.1 hi H.out.1.set (by decide);refine(BM G.s V.k V.m i g _ (by omega) (by omega) (by omega) (by omega) (b8.cell (j:=0) rfl) (b8.cell (j:=1) rfl)).mono ?_;rintro e w2 ⟨rfl,bg⟩;have R2:=Z5F (hA.out.after bg);clear b8 bg)|(go_at_call 38;have O:=R2.out.after ((Below.refl w2.heap.size w2).alloc Z5D (.cells #[.int .i64 1,.string ⟨#[33]⟩,.string ⟨#[]⟩,.string (str (Qq V.k V.m i g))] 151));have af:Row (w2.alloc (.cells #[.int .i64 1,.string ⟨#[33]⟩,.string ⟨#[]⟩,.string (str (Qq V.k V.m i g))] 151)) w2.heap.size 151 (AcC (QZ V.k V.m i g)):=Row.new w2 _ _;refine(Cb O al (O.ty H.out.1 hi al H.out.2.2.2.2 az) az U.out.1 U.out.2.1 U.out.2.2.2.2.1 (Hr af) rfl Z5D).mono ?_;rintro e w4 ⟨cu,rfl,au,hC⟩;rw[H2.out] at au;obtain rfl:=au.zero;obtain⟨L2,hd⟩:=hC.ran;have Z:=(DX O hd).1;have cj:=H.out.1.set.fr Z ((H.out.1.pd i hi).typed.row_ne H.out.1.set (by decide));have cn:=H.out.2.1.fr Z ((H.out.1.pd i hi).typed.row_ne H.out.2.1 (by decide));obtain⟨sp,b7⟩:=H.out.1.mem;have bu:=b7.fr Z ((H.out.1.pd i hi).typed.row_ne b7 (by decide));obtain⟨gh,vv, -,bh⟩:=hd.pd.dk;have F:=Z5N O hC cj cn bu bh;clear O af au hC hd Z cj cn b7 bu bh)|(go_at_call 65;refine(Fv G.s G.ms (G.xs i) i G.n G.cap G.p (G.ds i) gh s vv _ _ _ _ _ hi (F.out.2.2.1.cell (j:=2) rfl) (F.out.2.2.2.2.1.cell (by rw[Z5c (by rw[YY];exact hi)];exact XF _ _ _ hi)) F.out.2.2.2.1 F.out.2.2.2.2.2).mono ?_;rintro e w5 ⟨rfl,ag,bj⟩;have R5:=Z5J ag bj;clear ag bj));go_ret;have aw:=MW H.out.1 hi (sv:=.nilIface) (lf:=0) (inn:=true) H.out.2.2.2.1 F.out.1 F.out.2.1 H2.out U.out.2.2.1 R5.out.1 F.out.2.2.2.1 R5.out.2;rw[H1.out.2];exact⟨rfl,aw⟩
  .have C:=HZ.out;rw[H1.out.2] at C;exact absurd C h2
 .rw[if_neg J] at M;have C:=HZ.out;rw[M] at C;exact absurd C J
theorem IP(B:Nat)(w:World)(K:List Bs)(gd n cap k m p:Nat)(ds:Nat->Nat)(P:Pw)(Ds:Nat->Dk)(Ls:Nat->List Nat)(hc:∀i,i<n->w.cell? ⟨gd,i,none⟩=some (.pointer (some ⟨ds i,0,none⟩)))(bq:gd<w.heap.size)(bm:1<=k)(hn:n=k+m)(ah:n<=16)(bj:B<=w.heap.size)(bf:∀i,i<n->PD B w p (ds i) 800 P (Ds i) (Ls i))(ag:∀i j,i<n->j<n->i≠j->∀q∈Ls i,q∉Ls j)(ht:Ty w)(b7:0<B)(hK:KOk K)(ae:P.gone=false)(hf:P.fuse<0)(az:∀i,i<n->(Ds i).dead=false/\(Ds i).wait.length<=1000):Calls prog 17 #[.slice (some ⟨gd,0,none⟩) n cap,.int .i64 (k:Int),.int .i64 (m:Int)] w λe w'=>∃s ms c xs V w1,e=.returned (.tuple #[.pointer (some ⟨s,0,none⟩),.nilIface])/\Below w.heap.size w w1/\Zi B ⟨n,p,s,ms,c,xs,ds⟩ (Wb ⟨n,p,s,ms,c,xs,ds⟩ Ls (λi=>[xs i])) V w1 w'/\FmS K ⟨k,m,0,P,Ds,λ_=>none⟩ n V/\w.heap.size<=s/\∀i,i<n->w.heap.size<=xs i:=by
 have af:=Lx w gd n cap k m ds hc bq bm hn ah;have bu:1<=n:=by omega
 have aj:k<=16:=by omega
 have ak:m<=16:=by omega
 have H:=Z5O af bf ag ht az ae hf;clear af bf ag ht az ae hf hn hc;go_enter func17,ntmps17;go_wp2_with (go_at_call 47;refine H.out.1.mono ?_;rintro e w1 ⟨s,v,xs,rfl,C⟩;obtain⟨ms,c,hp⟩:=C.eat bj bu ah H.out.2.1 H.out.2.2.1;have c2:w1.cell? ⟨s,2,none⟩=some (.slice (some ⟨ms,0,none⟩) n c):=hp.set.cell (j:=2) rfl;have H1:=Z5L hp C.bel C.sge C.ge;clear C hp);have aq:EAt B w1 ⟨n,p,s,ms,c,xs,ds⟩ ⟨k,m,0,P,Ds,λ_=>none⟩ (Wb ⟨n,p,s,ms,c,xs,ds⟩ Ls (λi=>[xs i])):=⟨_,_,rfl,H1.out.1⟩;have au:FmS K ⟨k,m,0,P,Ds,λ_=>none⟩ 0 ⟨k,m,0,P,Ds,λ_=>none⟩:=⟨rfl,rfl,rfl,H.out.2.2.2.2.2.1,H.out.2.2.2.2.2.2,λi hi=>by omega,λi hi=>⟨rfl,rfl⟩,λi=>rfl⟩;have U:=Z5J aq au;clear aq au;go_loopw [27] (λkv wr=>∃ (t:Nat) (V:Ev),t<=n/\kv=.int .i64 t/\Zi B ⟨n,p,s,ms,c,xs,ds⟩ (Wb ⟨n,p,s,ms,c,xs,ds⟩ Ls (λi=>[xs i])) V w1 wr/\FmS K ⟨k,m,0,P,Ds,λ_=>none⟩ t V) (λkv _=>n- (intOf kv).toNat)
 case atStart=>exact⟨0,_,by omega,rfl,Zi.refl U.out.1,U.out.2⟩
 case round=>
  obtain⟨t,V,cr,rfl,F,hF⟩:=hrel;have HR:=Z5J F hF;by_cases J:t<n
  .have ai:Ty w1:=H.out.2.2.2.1.below H1.out.2.1;have bg:=Zi.ty F U.out.1 ai b7;obtain⟨bh,e1,g1,f1⟩:=F;have he:=e1;obtain⟨cj,cn, -,b9⟩:=e1;obtain⟨hM,al⟩:=hF.rest t Z5D;obtain⟨M,O⟩:=H.out.2.2.2.2.1 t J;have b8:=(b9.pd t J).ok;have h:V.Ds t=Ds t:=al;obtain⟨n1,n2⟩:=hF.next hK b8 (by rw[h];exact M) (by rw[h];exact O)
   have hb:=
    UY B wr ⟨n,p,s,ms,c,xs,ds⟩ V bh K t 0 he bg b7 J hM hK (by rw[hF.k];exact aj) (by rw[hF.m];exact ak) (by omega) (by rw[h];exact O) (by rw[h];exact M) n1
   have bz:(t:Int)<(n:Int):=(by omega);have Z:=Z5N hb n1 n2 he g1 f1;clear hb n1 n2 he g1 f1 b9 hF hM al h b8 M O bg ai;go_wp2_with (go_at_call 48;refine Z.out.1.mono ?_;rintro e w2 ⟨rfl,aw⟩;have R2:=Z5F (Zi.trans Z.out.2.2.2 aw);clear aw);go_roundw
   case measure=>simp[intOf];omega
   case rel=>exact⟨t+1,_,by omega,by go_num,R2.out,Z.out.2.2.1⟩
  .obtain rfl:t=n:=(by omega);clear F hF;go_wp2_with fail;go_ret2;exact⟨s,rfl,ms,c,xs,V,w1,H1.out.2.1,HR.out.1,HR.out.2,H1.out.2.2.1,H1.out.2.2.2⟩
