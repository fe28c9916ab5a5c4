/- Part 6: lemmas about what the program computes. -/
import Derived.Sort.LotA
import Derived.Laws.StructEq
import Derived.Shelf.SlMaps.Clone
import Derived.Test.YthppfllkocphbaaGreatDoorV04
namespace Go.Proofs.YthppfllkocphbaaGreatDoor
set_option linter.all false
set_option maxHeartbeats 25600000
set_option maxRecDepth 100000
open Tryz
open Go renaming World->Qs,Value->Qt,TypeId->Qu,Ending->Qv
open Go.RowKit Go.Maps Go.WideMaps
def Jt(D:Dk)(l:Qj):Bs:=l.flatMap λa=>(D.reads a).data.toList
def Z6J(D:Dk)(a b:Qj):Jt D (a++b)=Jt D a++Jt D b:=by simp[Jt]
def Tk{D:Dk}{n:Nat}(ok:D.ok n){l:Qj}(h:∀a∈l,a<n):(Jt D l).length=64*l.length:=by
 unfold Jt
 induction l with
 |nil=>rfl
 |cons a l ih=>have:=Eu ok (h a Qx);rw[Zm,Zb,ih (λb hb=>h b QA),Ze];simp;omega
def Z6S(s d:Nat)(S:Sto)(name:Bs)(w:Qs)(h:Wo w s d S)(hn:name.length<=1000000)(M:S.dir.get name=none):Calls prog 157 #[s,name] w λr w'=>∃b,r=.returned (.tuple #[.string ⟨#[]⟩,.iface 139 (b:Nat)])/\QK w' w 13 (.iface 139 (b:Nat))/\Below w w w':=by obtain⟨j,b,us,F,h2,⟨Z,m1,m2,m3⟩,h4⟩:=h;have:=m1.ZbB (t:=155) (e:=164) underlying155 (CD w) (show name.length<=maxLen by unfold maxLen;omega) (m2 name M);have c3:=F.c3;have:=F.c5;go_enter func157,ntmps157;have J:Below w w (w.alloc (.cells #[(0:Int),.int .u32 0,()] 164)):=(Zu _ w).alloc (Zt _) _;have C:=ZI J;go_wp2_with (go_at_call 83;go_fit (Mm 13 0 Qw _);rintro r w' ⟨bb,rfl,hv,hb⟩);go_ret2;exact⟨_,rfl,hv.base Qx,C.o.trans (hb.mono C.o.size)⟩
def Z6T(T:Qq)(cd:Int)(B p d n:Nat)(P:Pw)(D:Dk)(L:Qj)(s:Nat)(S:Sto)(name:Bs)(e:Ent)(half:Nat)(w:Qs)(h:PD B w p d n P D L)(ew:Wo w s d S)(hn:name.length<=1000000)(hg:S.dir.get name=some e)(he:Ent.Ok n half e)(U:WV P D=0)(hT:if WD (D.value e)=e.sum then T=str (D.value e)/\cd=0 else T=⟨#[]⟩/\cd=14):Calls prog 157 #[s,name] w λr w'=>∃ev,r=.returned (.tuple #[.string T,ev])/\QK w' w cd ev/\Below w w w':=by
 have ek:=ZI hT;clear hT;obtain⟨j,b,us,h1,h2,⟨fv,m1,m2,m3⟩,h4⟩:=ew;obtain⟨v,hv,a,len,cap,rfl,⟨hlen,ah⟩, -⟩:=m3 name e hg;subst hlen;have az:=m1.ZbA (t:=155) (e:=164) underlying155 (CD w) (show name.length<=maxLen by unfold maxLen;omega) hv;have c3:=h1.c3;have c5:=h1.c5;have fc:=h1.lt;have ae:=he.many;have fh:=he.size;have af:=he.Zat;have cu:∀i∈Yc e.runs,i<n:=λi hi=>by have⟨r,U,hi⟩:=Zeg.1 hi;have:=ae r U;rw[Zfd] at hi;omega
 have ag:=Tk h.ok cu;have fg:e.runs.length<=100000:=by have h4:e.runs.length<=e.Zat.length:=G4 e.runs (λr U=>(ae r U).1);unfold Yu at af;omega
 have ct:(Yc e.runs).length=Yu e.size:=af;have er:(Yc e.runs).length<=200:=by rw[ct];unfold Yu;omega
 have H:=ZM h U;have ef:=ZI h1;have HR:=ZI ah;have HM:=ZY ae cu ag ct;clear h h1 h2 m1 m2 m3 h4 ah hv hg he U ae cu ag af ct;go_enter func157,ntmps157;go_wp2;have⟨w1,bz⟩:=ZL (w.alloc (.cells #[(e.size:Int),.int .u32 e.sum,.slice a e.runs.length cap] 164));have ez:w1.heap.size=w.heap.size+1:=by rw[bz];simp
 have T0:TlS w (w.heap.size+1) (w.heap.size+1) w [] e.size e.sum (.slice a e.runs.length cap) (w1.alloc (.cells #[.pointer none,()] 258)):=by have U:=Z2 w 164 [.int .i64 e.size,.int .u32 e.sum,.slice a e.runs.length cap];have cz:=U.after ((Zu _ (w.alloc _)).alloc (Zt _) (.cells #[.pointer none,()] 258));subst bz;exact⟨by rw[<-ez];exact Z9D _,cz.c0,cz.c1,cz.c2,by simp;omega,((Zu _ w).alloc (Zt _) _).alloc Qx _,Qw,Qx,Qw⟩
 rw[<-bz];clear bz;have eh:=ZI T0;clear T0 az c3 c5;generalize w1.alloc (.cells #[.pointer none,()] 258)=w2 at*
 go_loopw [35] (λC wr=>∃q:Nat,q<=e.runs.length/\C=(q:Int)/\TlS w (w.heap.size+1) (w.heap.size+1) w (Jt D (Yc (e.runs.take q))) e.size e.sum (.slice a e.runs.length cap) wr) (λC _=>e.runs.length- (intOf C).toNat)
 .exact⟨0,Qw,rfl,by simpa[Jt,Yc] using eh.o⟩
 obtain⟨q,hq,rfl,hS⟩:=hrel;have M:=ZI hS;by_cases Z:q<e.runs.length
 .obtain⟨g,sp,rfl,bg⟩:∃g sp,a=some ⟨g,0,none⟩/\Row w g 197 (Ww e.runs++sp):=by
   rcases HR.o with h0|h0
   .rw[h0] at Z;cases Z
   .exact h0
  have de:=bg.after hS.below;have⟨g1,g2⟩:=FS e.runs q Z;have hl:=DG e.runs;have d1:=de.cell (j:=q*2) (by rw[Za Qw,Ze0];exact g1);have d2:=de.cell (j:=q*2+1) (by rw[Za Qw,Ze0];exact g2);have dy:=HM.1 (e.runs.getD q (0,0)) (by rw[Z7,Z8 Z];exact Zl Z);have bu:=GV e.runs q Z;have bf:=GU e.runs (q+1);have⟨f,hf⟩:=ZK (e.runs.getD q (0,0)).1;have⟨m,hm⟩:=ZK (e.runs.getD q (0,0)).2;rw[hf,hm] at bu dy;rw[hf] at d1;rw[hm] at d2;have⟨m1,m2,m3⟩:=dy;have fe:n<=8192:=H.1.ok.n2;have ay:(Yc (e.runs.take q)).length+m<=200:=by have⟨zz,hz⟩:=bf;rw[bu] at hz;have:=ZF List.length hz;simp[Zb,Zf5] at this;omega
  have HK:=ZM bu ay;clear hS bg de g1 g2 hl hf hm bu bf ay;go_wp2;have⟨x,hx⟩:=ZK wr.heap.size;have df:=Z2 wr 197 [.int .i64 (f:Int),.int .i64 (m:Int)];have T5:=M.o.after ((Zu wr wr).alloc (Zt _) (.cells #[(f:Int),(m:Int)] 197));rw[hx] at df⊢;have ey:w.heap.size+1<=x:=by rw[<-hx];exact M.o.lo2
  generalize wr.alloc (.cells #[(f:Int),(m:Int)] 197)=w6 at*
  have dj:=ZM T5 df;clear T5 df hx d1 d2;go_loopw [11] (λC wj=>∃t:Nat,t<=m/\C=((f+t:Nat):Int)/\TlS w (w.heap.size+1) (w.heap.size+1) w (Jt D (Yc (e.runs.take q)++List.range' f t)) e.size e.sum (.slice (g:Nat) e.runs.length cap) wj/\Row wj x 197 [(f:Int),(m:Int)]) (λC _=>f+m- (intOf C).toNat)
  .exact⟨0,Qw,Qx,by simpa using dj.1,dj.2⟩
  obtain⟨t,ht,rfl,aq,bh⟩:=hrel;have x0:=bh.c0;have x1:=bh.c1;have ak:=ZM aq bh;by_cases fi:t<m
  .have⟨C,cw⟩:=ZK (f+t);have dx:C<n:=Qw;have k3:(C:Int)<(f:Int)+(m:Int):=Qw;have s0:wr.cell? s=d:=(ef.o.after aq.below).c0;have ai:rdy P D C=0:=by rw[M4 H.1.ok dx];exact H.2
   have aj:AH P D C=D.reads C:=by unfold AH;rw[Zx ai,ZeA]
   have dh:=Eu H.1.ok dx;have⟨R,hR⟩:=ZK (D.reads C);rw[hR] at aj dh;have eu:(Jt D (Yc (e.runs.take q)++List.range' f t)).length<=64*400:=by
    rw[Tk H.1.ok]
    .rw[Zb,Zf5];have:=HK.2;omega
    .intro a ha;have⟨zz,hz⟩:=GU e.runs (q+1);rcases Zj.1 ha with ha|ha
     .refine HM.2 a ?_;rw[hz,HK.1];simp[ha]
     .rw[Zfd] at ha;omega
   have⟨Q,O⟩:=ZK (Jt D (Yc (e.runs.take q)++List.range' f t));rw[O] at aq ak eu;have F:=ZP O hR cw ai aj;rw[cw];clear aq bh O hR cw ai aj;go_wp2_with (first|(go_at_call 73;refine((H.1.after ak.1.below).read (C:Int)).mono ?_;rw[F.2.2.2.1,F.2.2.2.2];rintro r w8 ⟨ev,rfl,du,cn⟩;obtain rfl:=du.zero;have T8:=ZM (ak.1.after cn) (ak.2.after cn);clear cn du)|(go_at_call 164;go_fit (NU (w.heap.size+1) (w.heap.size+1) Q R _ T8.1.bld Qw T8.1.lo2);rintro r w9 ⟨rfl,dm,dq,dw⟩;have T9:=ZM (T8.1.wrote dm dq) (dw _ _ _ Qz Qz T8.2);clear dm dq dw));go_roundw
   .refine⟨t+1,Qw,by have:=F.2.2.1;rw[<-this];go_num,?_,T9.2⟩;have h9:=T9.1;rw[<-F.1,<-F.2.1,<-F.2.2.1] at h9;have e9:Jt D (Yc (e.runs.take q)++List.range' f (t+1))=Jt D (Yc (e.runs.take q)++List.range' f t)++(D.reads (f+t)).data.toList:=by rw[Zfx,<-Zd,Z6J];simp[Jt]
    rw[e9];exact h9
   have:=F.2.2.1;simp[intOf];omega
  .obtain rfl:t=m:=(by omega);have k3:¬ ((f+t:Nat):Int)<(f:Int)+(t:Int):=Qw;clear aq bh;go_wp2;go_roundw
   .exact⟨q+1,Qw,QC,by rw[HK.1];exact ak.1⟩
   simp[intOf];omega
 .obtain rfl:q=e.runs.length:=by omega
  rw[Zs] at M;have aw:=M.o.bld;clear hS;have cj:(Jt D (Yc e.runs)).length=64*Yu e.size:=by rw[HM.3,HM.4]
  have⟨Q,O⟩:=ZK (Jt D (Yc e.runs));have hV:D.value e=Q.take e.size:=by rw[<-O];rfl
  rw[O] at M aw cj;have cy:e.size<=Q.length/\Q.length<=100000:=by rw[cj];unfold Yu;omega
  have dz:∀W,(Instr.slice 9 (.string ⟨Q.toArray⟩) none (some (.int .i64 (e.size:Int))) none).run prog W=.ok (.string (str (Q.take e.size))) W:=λW=>by rw[Mg (P:=prog) 9 underlying9 ⟨Q.toArray⟩ e.size (by show e.size<=Q.toArray.size;simp;exact cy.1) W];congr 2;apply JJ;rw[Yp];simp
  have⟨V,bm⟩:=ZK (Q.take e.size);rw[bm] at dz;have fa:V.length<=100000:=by rw[<-bm,Zg];omega
  have F:=ZO O bm hV cj;have HZ:=ZI cy;clear O bm hV cj cy;have e0:=M.o.e0;have e1:=M.o.e1;go_wp2;go_cut [14] from 66 to 69 (λv wx=>v=.string (str V)/\wx.cell? ⟨w.heap.size,1,none⟩=some (.int .u32 (e.sum:Int))/\Below w w wx)
  case first=>
   have J:=M.o.after ((Zu _ wr).drew);have f0:=J.e0;clear e0 e1;go_region_with (go_at_call 165;go_fit (Ka (w.heap.size+1) (w.heap.size+1) _ _ J.bld J.lo2);rintro r w7 ⟨rfl,bq⟩;have g0:w7.cell? ⟨w,0,none⟩=(e.size:Int):=(bq.cell (p:=⟨w,0,none⟩) J.ebB).trans J.e0)
   all_goals have g1:w7.cell? ⟨w.heap.size,1,none⟩=some (.int .u32 (e.sum:Int)):=(bq.cell (p:=⟨w.heap.size,1,none⟩) J.ebB).trans J.e1
   all_goals have g2:Below w w w7:=J.below.trans (bq.mono J.lo)
   all_goals clear bq
   all_goals go_wp2
   all_goals go_meet
   all_goals exact⟨rfl,g1,g2⟩
  case rest=>
   obtain⟨rfl,c1,dp⟩:=hcut;have bj:=ZI dp;have⟨c,hc⟩:=ZK (WD V);have dt:uv (crc (str V).data.toList)=(c:Int):=by rw[<-hc,YX];rfl
   have ee:(str V).size<=maxLen:=by rw[QW];unfold maxLen;omega
   have HC:=ZM hc dt;clear dz e0 e1 dp hc dt aw;have au:=ek.o;rw[F.2.2.1,F.2.1,HC.1] at au;by_cases cr:c=e.sum
   .rw[Zx cr] at au;obtain⟨rfl,rfl⟩:=au;subst cr;have eo:((e.sum:Int) !=(e.sum:Int))=false:=Qx;go_wp2;go_region_with (go_at_call 130;refine(Ge (str V) _ ee).mono ?_;rw[HC.2];rintro r w8 ⟨rfl,rfl⟩)
    all_goals go_wp2
    all_goals go_ret2
    all_goals exact⟨_,rfl,QK.nil _ _,bj.o.drew⟩
   .rw[Zw cr] at au;obtain⟨rfl,rfl⟩:=au;have eo:((c:Int) !=(e.sum:Int))=true:=by simp;omega
    go_wp2;go_region_with (go_at_call 130;refine(Ge (str V) _ ee).mono ?_;rw[HC.2];rintro r w8 ⟨rfl,rfl⟩)
    all_goals go_wp2_with (go_at_call 83;go_fit (Mm 14 0 Qz _);rintro r w' ⟨bb,rfl,hv,hb⟩)
    all_goals go_ret2
    all_goals exact⟨_,rfl,hv.base (by have:=bj.o.size;exact this),bj.o.drew.trans (hb.mono (by have:=bj.o.size;exact this))⟩
def Tx(B p d n:Nat)(P:Pw)(D:Dk)(L:Qj)(s:Nat)(S:Sto)(name:Bs)(e:Ent)(half:Nat)(w:Qs)(h:PD B w p d n P D L)(C:Wo w s d S)(J:name.length<=1000000)(F:S.dir.get name=some e)(he:Ent.Ok n half e)(M:WV P D=0):Calls prog 157 #[s,name] w λr w'=>∃ev,r=.returned (.tuple #[.string (if WD (D.value e)=e.sum then str (D.value e) else⟨#[]⟩),ev])/\QK w' w (if WD (D.value e)=e.sum then 0 else 14) ev/\Below w w w':=Z6T _ _ B p d n P D L s S name e half w h C J F he M QB
variable{base:Nat}{l:List Bs}{v:Value}{w:World}
def TC(h:Nat)(pre x:Bs)(W:Qs)(hc:W.cell? h=pre):Calls prog 140 #[x,h] W λe w'=>e=.returned (.bool (!Lib.hasPrefix x pre))/\w'=W:=by go_enter func140,ntmps140;go_wp2_with (go_at_call 141;go_fit (Tryz.strings_HasPrefix _ _ _);rintro e w' ⟨rfl,rfl⟩);go_ret;exact⟨rfl,rfl⟩
theorem Strs.pre{g n cap:Nat}(h:Strs w base (.slice g n cap) l)(m:Nat)(hm:m<=l.length):Strs w base (.slice g m cap) (l.take m):=by
 rcases h.2 with ⟨hv,_⟩|⟨U,O,cur,hv,C,hh,Z,F,J,M⟩
 .grind
 .simp at hv;obtain⟨rfl,rfl,rfl⟩:=hv;have hl:(l.take m).length=m:=QB;refine⟨by simp[QS],Zy ⟨g,cap,cur,by rw[hl],C,hh,Qw,F,J,?_⟩⟩;rw[hl,Zg7];have:=ZF (List.take m) M;rw[ZfQ,Zg7,ZeN hm] at this;rw[this];simp[QS]
def Strs.mono{C:Nat}(h:Strs w base v l)(hb:C<=base):Strs w C v l:=by refine⟨h.1,h.2.imp id ?_⟩;rintro⟨g,cap,cur,hv,F,r⟩;exact⟨g,cap,cur,hv,Zq hb F,r⟩
def Z6B(h:Qt)(w:Qs):Calls prog 139 #[(),h] w λe w'=>e=.returned ()/\w'=w:=by go_enter func139,ntmps139;go_wp2_with (go_at_call 198;go_fit (Tryz.slices_IndexFunc_empty (α:=Bs) none 0 h _);rintro e w' ⟨rfl,rfl⟩);go_ret;simp
def Z5g{h C off q:Nat}{d:Array Bs}{os:Array Obj}(hc:w.cell? h=some v)(F:h≠C):(Sort.grow (Sort.putRow encStr (Sort.ahead w q) C off d) os).cell? h=some v:=by have:=Z9 w ⟨h,0,none⟩ hc;rw[Sort.cell?_grow _ _ _ QB,Sort.cell?_putRow_other _ _ _ _ _ _ (Zv F)];exact hc
def Io(s d:Nat)(S:Sto)(pre:Bs)(w:Qs)(h:Wo w s d S)(hs:S.dir.Zax)(hn:S.dir.length<=100000):Calls prog 96 #[s,pre] w λr w'=>∃v,r=.returned (.tuple #[v,.nilIface])/\Strs w' w.heap.size v (S.dir.names.filter λn=>Lib.hasPrefix n pre)/\Below w.heap.size w w':=by
 have⟨j,b,us,O,h2,J,h4⟩:=h;have c3:=O.c3;have c5:=O.c5;have:=O.lt;have HD:=ZI J;have af:=ZI hs;have ae:S.dir.names.length=S.dir.length:=Zf ..;have HN:=ZI ae;clear O h2 h4 J hs ae;go_enter func96,ntmps96;have ai:=Z2 w 9 [.string (str pre)];have ag:Below w.heap.size w (w.alloc (.cells #[pre] 9)):=(Zu _ w).alloc (Zt _) _;have M:=ZM ai ag;go_wp2_with (go_at_call 132;go_fit (Mr b S.dir.length S.dir _ (HD.o.after M.2) af.o hn);rintro r w2 ⟨v,rfl,hv,U⟩;have C:=ZX (show Strs w2 (w.heap.size+1) v S.dir.names by simpa using hv) (M.1.after U) (M.2.trans (U.mono M.2.size));clear U hv);have eg:∀args w,(callFunc 140 args).run prog w=.ok (.enter 140 args) w:=enters_of func140 Qy rfl;have z9:∀w,(zeroValue 9).run prog w=.ok (encStr []) w:=λw=>Qy;rcases C.1.2 with ⟨hv,h0⟩|⟨g,cap,cur,hv,_⟩
 .subst hv;have ak:S.dir.names=[]:=QB;go_fit (Z6B _ _);rintro e w' ⟨rfl,rfl⟩;go_wp2;go_ret2;exact⟨_,rfl,by rw[ak];exact Strs.nil _ _,C.3⟩
 .have ho:=C.1;subst hv;have⟨hH,ay,az,aj⟩:=ho.holds;have Z:w2.cell? ⟨w.heap.size,0,none⟩=pre:=C.2.c0;have aq:w.heap.size≠g:=Qw;have au:=Z9 w2 _ Z;have J:=Tryz.slices_DeleteFunc (α:=Bs) encStr (λx=>rfl) (λx=> !Lib.hasPrefix x pre) 140 #[.pointer w.heap.size] eg [] z9 g 0 cap S.dir.names.toArray w2
   (λW x hb=>(TC w.heap.size pre x W ((hb.cell (p:=⟨w.heap.size,0,none⟩) au).trans Z)).mono λe w' h=>⟨h.1,0,h.2⟩)
   (λq os dk x J=>(TC w.heap.size pre x _ (Z5g Z aq)).mono λe w' h=>⟨h.1,0,h.2⟩)
   hH (by have:=HN.o;simp;omega) Qw
  go_fit J;rintro e w' ⟨rfl,q,rfl⟩;have⟨F,hF⟩:=ZK (S.dir.names.filter λx=>Lib.hasPrefix x pre);have:F.length<=S.dir.names.length:=QA;have HF:=ZI hF;have⟨s1,s2⟩:=ho.sorted (q:=q) (os:= #[]) (l':=F++List.replicate (S.dir.names.length-F.length) []) QB;have s3:=(s1.pre F.length Qx).mono (ZeE w.heap.size);rw[Zgr] at s3;have ah:Below w.heap.size w _:=C.3.trans (s2.below C.3.size (λi hi=>by rw[Z6] at hi;subst hi;omega));go_wp2;go_ret2;exact⟨_,rfl,by rw[HF.o];exact s3,ah⟩
variable{eb:Nat}{rs:List (Nat×Nat)}{sm sz:Int}{w' wr:World}
def Z7C(e:Ent):e.tail.length=8+8*e.runs.length:=by unfold Ent.tail;rw[Zb,Zb,Wl,Wl,If]
structure RB(w:Qs)(g:Nat)(et:Qu)(l:Qk)(wr:Qs):Prop where
 row:Row wr g et l
 bel:Below w w wr
def RB.after{g:Nat}{C:Qu}{l:Qk}(h:RB w g C l wr)(hb:Below wr wr w'):RB w g C l w':=⟨h.row.after hb,h.bel.trans (hb.mono h.bel.size)⟩
structure UtS(w:Qs)(eb:Nat)(sz sm:Int)(v:Qt)(rs:List (Nat×Nat))(wr:Qs):Prop where
 row:Row wr eb 164 [sz,.int .u32 sm,v]
 own:wr.ownsRow w 197 2 v rs.length (Ww rs)
 bel:Below w w wr
def UtS.after(h:UtS w eb sz sm v rs wr)(hb:Below wr wr w'):UtS w eb sz sm v rs w':=⟨h.row.after hb,B1 h.own hb,h.bel.trans (hb.mono h.bel.size)⟩
structure XtS(w:Qs)(v:Qt)(x:Nat)(c0 c1:Qt)(wr:Qs):Prop where
 row:Row wr x 197 [c0,c1]
 no:∀g,v.ownBlock=some g->g≠x
 lo:w<=x
def Zam(h:UtS w eb sz sm v rs wr)(c0 c1:Qt):XtS w v wr c0 c1 (wr.alloc (.cells #[c0,c1] 197)):=⟨Z2 wr _ [c0,c1],λg C e=>by have:=(h.own.lt g C).2;omega,h.bel.size⟩
def Za5(h:UtS w eb sz sm v rs wr){x:Nat}{c0 c1:Qt}(hx:XtS w v x c0 c1 wr)(a b:Qt):Row ((wr.setCell x a).setCell ⟨x,1,none⟩ b) x 197 [a,b]/\UtS w eb sz sm v rs ((wr.setCell x a).setCell ⟨x,1,none⟩ b):=by
 have C:Fr [x] wr ((wr.setCell x a).setCell ⟨x,1,none⟩ b):=((Fr.refl _ _).setCell (Zv Qx) _).setCell (Zv Qx) _;have:eb≠x:=λe=>by have:=Xr h.row (by rw[e];exact hx.row);simp_all
 refine⟨(hx.row.set 0 a).set 1 b,h.row.fr C QB,Xy h.own C (λg F hm=>hx.no g F QB),(h.bel.setCell (p:=⟨x,0,none⟩) hx.lo _).setCell (p:=⟨x,1,none⟩) hx.lo _⟩
def Zae{B:Nat}{p d n:Nat}{P:Pw}{D:Dk}{L:Qj}(h:PD B w p d n P D L):Calls prog 138 #[d] w λe w'=>e=.returned (n:Int)/\w=w':=by have⟨gh,v,_,C⟩:=h.dk;exact BK p d gh v D n w C h.ok.len h.ok.n2
def Z7p:Qt->Nat
 |.string s=>s.size
 |_=>0
def XL(l:List (Nat×Nat)):Nat:=(l.map (·.2)).sum
def Z1M(l:List (Nat×Nat)):(Yc l).length=XL l:=by unfold Yc XL;simp
def Z6s(a b:List (Nat×Nat)):XL (a++b)=XL a+XL b:=by simp[XL]
def Z6p(x:Nat×Nat)(l:List (Nat×Nat)):YT (x::l)=QI x.1++(QI x.2++YT l):=by rfl
def Z6t(x:Nat×Nat)(l:List (Nat×Nat)):XL (x::l)=x.2+XL l:=by rfl
def Z6v(f m:Nat)(l:List (Nat×Nat))(U:f<4294967296)(hm:m<4294967296)(hl:l.length<=1000):∃T C:Qq,str (YT ((f,m)::l))=T/\T.size=8+8*l.length/\Wz T.data.toList=f/\Wz C.data.toList=m/\4<=C.size/\ (∀W,(Instr.slice 9 (.string T) (some (.int .i64 4)) none none).run prog W=.ok (.string C) W)/\(∀W,(Instr.slice 9 (.string T) (some (.int .i64 8)) none none).run prog W=.ok (.string (str (YT l))) W):=by
 have⟨T,F⟩:=ZK (str (YT ((f,m)::l)));have O:T.size=8+8*l.length:=by rw[<-F,QW,If,Ze];omega
 have h:T.data.toList=QI f++(QI m++YT l):=by rw[<-F,Yp,Z6p]
 have J:(T.extract 4 T.size).data.toList=QI m++YT l:=by rw[Lib.extract_to_end,h,<-Wl f,Zfm]
 have M:T.extract 8 T.size=str (YT l):=by apply JJ;rw[Yp,Lib.extract_to_end,h,<-Zd,show 8=(QI f++QI m).length from rfl,Zfm]
 refine⟨T,T.extract 4 T.size,F,O,by rw[h,B5 _ U],by rw[J,B5 _ hm],by have:=CV J;simp at this;rw[ZdU];omega,λW=>Ch 9 underlying9 T 4 Qw W,λW=>by rw[<-M];exact Ch 9 underlying9 T 8 Qw W⟩
def Z6u(l:List (Nat×Nat))(k:Nat)(h:k<l.length):l.drop k=l.getD k (0,0)::l.drop (k+1):=by simp_all
def Z7Z(B p d n:Nat)(P:Pw)(D:Dk)(L:Qj)(s half:Nat)(e:Ent)(w:Qs)(h:PD B w p d n P D L)(hs0:w.cell? s=d)(fy:w.cell? ⟨s,2,none⟩=(half:Int))(he:Ent.Ok n half e)(h2:2*half<=n):Calls prog 156 #[s,.string (str e.tail)] w λr w'=>∃v,r=.returned (.tuple #[v,true])/\Xj w' v e/\Below w w w':=by
 have ae:=he.many;have j8:=he.size;have gj:=he.sum;have ah:=he.Zat;have bu:=Z9 w _ hs0;have iz:=h.ok.n2;have eh:XL e.runs=Yu e.size:=by rw[<-Z1M];exact ah
 have j7:e.runs.length<=200:=by have h4:e.runs.length<=e.Zat.length:=G4 e.runs (λr hr=>(ae r hr).1);unfold Yu at ah;omega
 have⟨T,J⟩:=ZK (str e.tail);have bg:T.size=8+8*e.runs.length:=by rw[<-J,QW,Z7C]
 have bz:T.data.toList=QI e.size++(QI e.sum++YT e.runs):=by rw[<-J,Yp];unfold Ent.tail;rw[Zd]
 have bj:Wz T.data.toList=e.size:=by rw[bz,B5 _ Qw]
 have⟨Z,cz⟩:=ZK (T.extract 4 T.size);have⟨T8,de⟩:=ZK (T.extract 8 T.size);have au:Z.data.toList=QI e.sum++YT e.runs:=by rw[<-cz,Lib.extract_to_end,bz,<-Wl e.size,Zfm]
 have fj:4<=Z.size:=by have:=CV au;simp[Wl] at this;omega
 have bf:T8=str (YT e.runs):=by apply JJ;rw[Yp,<-de,Lib.extract_to_end,bz,<-Zd,show 8=(QI e.size++QI e.sum).length from rfl,Zfm]
 have bq:Wz Z.data.toList=e.sum:=by rw[au,B5 _ gj]
 have du:∀W,(Instr.slice 9 (.string T) (some (.int .i64 4)) none none).run prog W=.ok (.string Z) W:=λW=>by rw[<-cz];exact Ch 9 underlying9 T 4 Qw W
 have ew:∀W,(Instr.slice 9 (.string T) (some (.int .i64 8)) none none).run prog W=.ok (.string (str (YT e.runs))) W:=λW=>by rw[<-bf,<-de];exact Ch 9 underlying9 T 8 Qw W
 rw[J];have H:=ZI h;have HM:=ZM ae eh;have HR:=ZM bj bq;have z1:4<=T.size:=Qw;have zm:(T.size:Int)%8=0:=Qw;have zl:¬ (T.size:Int)<8:=Qw;have HZ:=ZI bg;clear h ae eh J bz bj bq cz de au bf ah bg;go_enter func156,ntmps156;go_wp2;have ay:=Z2 w 164 [.int .i64 0,.int .u32 0,.slice none 0 0];have dz:Below w w (w.alloc (.cells #[(0:Int),.int .u32 0,()] 164)):=(Zu _ w).alloc (Zt _) _;generalize (w.alloc (.cells #[(0:Int),.int .u32 0,()] 164))=w1 at*
 have⟨eb,cr⟩:=ZK w.heap.size;have HE:=ZI cr;rw[show(Value.pointer w)=Value.pointer eb from by rw[cr]];rw[cr] at ay;clear cr;have im:IntKind.u32.wrap (e.sum:Int)=(e.sum:Int):=IntWalk.u32_in _ Qw;have HB:=ZM ay dz;clear ay dz;go_cut [] from 18 to 25 (λwx=>Row wx eb 164 [(e.size:Int),.int .u32 e.sum,()]/\Below w w wx)
 case first=>
  have r1:=(RB.mk HB.1 HB.2).after ((Zu _ w1).drew);have f0:=r1.row.free (j:=0) Qx;have f1:=r1.row.free (j:=1) Qx;have q0:=r1.row.c0;have q1:=r1.row.c1;go_region_with (go_at_call 218;refine(TG _ (by assumption) _).mono ?_;(first|rw[HR.1]|rw[HR.2]);rintro r w3 ⟨rfl,O⟩;have M:=RB.after (w:=w) (g:=eb) (by assumption) O;have f0:=M.row.free (j:=0) Qx;have f1:=M.row.free (j:=1) Qx;have q0:=M.row.c0;have q1:=M.row.c1;clear O)
  all_goals go_wp2
  all_goals go_meet
  all_goals first
   |exact⟨(M.row.set 0 (.int .i64 e.size)).set 1 (.int .u32 e.sum),(M.bel.setCell (p:=⟨eb,0,none⟩) (ZeX HE.o) _).setCell (p:=⟨eb,1,none⟩) (ZeX HE.o) _⟩
   |exact⟨(M.row.set 1 (.int .u32 e.sum)).set 0 (.int .i64 e.size),(M.bel.setCell (p:=⟨eb,1,none⟩) (ZeX HE.o) _).setCell (p:=⟨eb,0,none⟩) (ZeX HE.o) _⟩
 case rest=>
  have⟨ag,aj⟩:=hcut;have U0:UtS w eb e.size e.sum (.slice none 0 0) [] wc:=⟨ag,ZA _ _ _ _,aj⟩;have d0:=ag.c0;have fc:=ZI U0;clear U0 ag aj im du;go_wp2_with (go_at_call 90;go_fit (Ml e.size Qw _);rintro r w' ⟨rfl,rfl⟩);have iq:=ZI d0;have⟨i0,hi,ia,ib,ic⟩:=ZE KL;rw[show((Yu e.size:Nat):Int)=((XL e.runs:Nat):Int) from by rw[HM.2]];clear d0 ew z1 zm zl;go_loopw [1,6] (λtv lv wr=>∃ (k:Nat) (v:Qt),k<=e.runs.length/\tv=.string (str (YT (e.runs.drop k)))/\lv=.int .i64 (XL (e.runs.drop k):Nat)/\UtS w eb e.size e.sum v (e.runs.take k) wr/\(k=0->v=.slice none 0 0)) (λtv _ _=>Z7p tv)
  .exact⟨0,_,Qw,rfl,rfl,fc.o,λ_=>rfl⟩
  obtain⟨k,v,hk,rfl,rfl,C,dp⟩:=hrel;by_cases bh:k<e.runs.length
  .have az:=Z6u e.runs k bh;have er:=HM.1 (e.runs.getD k (0,0)) (by rw[Z7,Z8 bh];exact Zl bh);have⟨f,hf⟩:=ZK (e.runs.getD k (0,0)).1;have⟨m,hm⟩:=ZK (e.runs.getD k (0,0)).2;have ct:e.runs.getD k (0,0)=(f,m):=(by rw[<-hf,<-hm]);rw[hf,hm] at er;have⟨m1,m2,m3⟩:=er;rw[ct] at az;have⟨R,hR⟩:=ZK (e.runs.drop (k+1));rw[hR] at az;have fi:R.length<=200:=by rw[<-hR,Zek];omega
   have⟨T,Z,J,bg,bj,bq,iu,du,ew⟩:=Z6v f m R Qw Qw Qw;have hN:XL ((f,m)::R)=m+XL R:=Z6t _ _;rw[az,J,hN];have ey:e.runs.take (k+1)=e.runs.take k++[(f,m)]:=by
    rw[Zc bh];have:e.runs[k]=(f,m):=by rw[<-ct,Z7,Z8 bh];rfl
    rw[this]
   have eo:m+XL R<=200:=by have h1:XL e.runs=XL (e.runs.take k)+XL (e.runs.drop k):=(by rw[<-Z6s,ZdH]);rw[az,hN,HM.2] at h1;unfold Yu at h1;omega
   have⟨rn,dt⟩:=ZK (XL R);rw[dt] at eo⊢;have⟨lf,dj⟩:=ZK (m+rn);have iy:m<=lf:=Qw;rw[dj] at eo⊢;have dm:=ZI dj;clear dj;have bm:=ZM bj bq;have HK:=Q0 ey hR dt ct J az;have z1:4<=T.size:=Qw;have zp:0<T.size:=Qw;have zT:T.size<=2000:=Qw;have fe:=ZI C;have df:=ZI bg;clear C dp az hf hm ct hR J hN ey bj bq dt bg fi;go_wp2;go_cut [7] from 36 to 41 (λv7 wx=>∃x,v7=.pointer (x:Nat)/\Row wx x 197 [(f:Int),(m:Int)]/\UtS w eb e.size e.sum v (e.runs.take k) wx)
   case first=>
    have U1:=fe.o.after ((Zu _ wr).drew);go_region_with (go_at_call 218;refine(TG _ (by assumption) _).mono ?_;(first|rw[bm.1]|rw[bm.2]);rintro r w3 ⟨rfl,O⟩;have U3:=UtS.after (w:=w) (eb:=eb) (by first|assumption|exact UtS.after (by assumption) ((Zu _ _).alloc (Zt _) _)) O;(try have X3:=Row.after (e:=197) (l:=[.int .i64 0,.int .i64 0]) (by first|assumption|exact Z2 _ _ _) O);(try have jc:=X3.free (j:=0) Qx);(try have jd:=X3.free (j:=1) Qx);(try have ja:=X3.c0);(try have jb:=X3.c1);have iw:=O.size;clear O)
    all_goals go_wp2
    all_goals go_meet
    all_goals first
     |exact⟨_,rfl,Za5 (w:=w) U3 (XtS.mk X3 (λg hg e2=>by have:=(U1.own.lt g hg).2;have hd:wr.drew.heap.size=wr.heap.size:=rfl;omega) (by have:=U1.bel.size;have hd:wr.drew.heap.size=wr.heap.size:=rfl;omega)) _ _⟩
     |exact⟨_,rfl,Za5 (w:=w) (UtS.after U3 ((Zu _ _).alloc (Zt _) _)) (Zam U3 _ _) _ _⟩
     |exact⟨_,rfl,Z2 _ _ [.int .i64 (f:Int),.int .i64 (m:Int)],UtS.after (by assumption) ((Zu _ _).alloc (Zt _) _)⟩
   case rest=>
    obtain⟨x,rfl,cy,cj⟩:=hcut;have x0:=cy.c0;have x1:=cy.c1;have y0:wc.cell? s=d:=(cj.bel.cell (p:=⟨s,0,none⟩) bu).trans hs0;have y2:wc.cell? ⟨s,2,none⟩=(half:Int):=(cj.bel.cell (p:=⟨s,2,none⟩) bu).trans fy;have g1:decide ((m:Int)<1)=false:=by simp;omega
    have g2:decide ((lf:Int)<(m:Int))=false:=by simp;omega
    have g3:decide ((f:Int)<2*(half:Int))=false:=by simp;omega
    have g4:decide ((n:Int)<(f:Int))=false:=by simp;omega
    have fh:decide (n<f)=false:=by simp;omega
    have g5:decide ((n:Int)- (f:Int)<(m:Int))=false:=by simp;omega
    have ij:IntKind.i64.wrap (2*(half:Int))=2*(half:Int):=Zr _ Qw;have ik:IntKind.i64.wrap ((n:Int)- (f:Int))=(n:Int)- (f:Int):=Zr _ Qw;have HX:=ZM cy cj;clear cy cj du;go_wp2;have hq:∀k,Calls prog 138 #[d] (wc.drewN k) λe w'=>e=.returned (n:Int)/\w'=wc.drewN k:=λk=>(Zae (H.o.after (HX.2.bel.trans (YE (Zu _ _) k)))).mono λe w' h=>⟨h.1,h.2.symm⟩;have HQ:=ZI hq;clear hq;go_quiet ((go_at_call 138;exact Calls.quiet_of_same (HQ.o _)));have⟨w5,dw⟩:=ZL (wc.drewN nq);rw[<-dw];have dh:Below wc wc w5:=by rw[dw];exact YE (Zu _ _) nq
    have cn:=HX.2.after dh;have ai:=HX.1.after dh;have z0:=ai.c0;have je:=ai.c1;have e2:=cn.row.c2;have f2:=cn.row.free (j:=2) Qx;have U:=ZM ai cn;have fu:(lf:Int)- (m:Int)=(rn:Int):=by have:=dm.o;omega
    have ek:k<=200:=Qw;have cu:(e.runs.take k).length=k:=by rw[Zg];omega
    clear dw dh cn ai x0 x1 y0 y2 g1 g2 g3 g4 fh g5 ij ik;go_wp2_with (at_builtin;refine Zel _ rfl (.tmp 90) (.tmp 92) 162 rfl w.heap.size 197 i0 _ 2 16 underlying162 hi ia ib ic rfl Qw v (e.runs.take k).length (Ww (e.runs.take k)) rfl (U.2.own.alloc _) ⟨w5,0,none⟩ 1 1 [.int .i64 (f:Int),.int .i64 (m:Int)] rfl rfl (Ze4 (cs:= #[.int .i64 (f:Int),.int .i64 (m:Int)]) (t:=197) (fr:=(0,0)) (ZB w5 _)) (by simp[Value.oneCell']) (by rw[cu];unfold maxLen;omega) (by rw[cu];omega) (by have:=U.2.bel.size;simp;omega) ?_;intro v' w6 af aw ak;obtain⟨g6,aq,j9,rfl,_,_,_,_⟩:=DD af (λe6=>by have:=ak.1 e6;omega);clear ak;have cw:=Ez (U.2.row.alloc (.cells #[(f:Int),(m:Int)] 197)) aw (DC U.2.row U.2.own Qz);have f26:=cw.free (j:=2) Qx;have ir:=cw.c2;have ee:Below w w w6:=Fr.Zbj (((Z1 (L:=[]) U.2.bel).alloc _).grown aw (λg hg=>Zy (AF U.2.own hg)));have S6:=ZN cw af ee;clear cw af aw ee);go_roundw
    .have⟨ez,dy,ie⟩:=S6.o;rw[cu] at dy;refine⟨k+1,.slice g6 (k+1) aq,Qw,by rw[HK.2],by rw[HK.2,HK.3],?_⟩;rw[HK.1];have fp:Fr [eb] w6 (w6.setCell ⟨eb,2,none⟩ (.slice g6 (k+1) aq)):=(Fr.refl _ _).setCell (Zv Qx) _;refine⟨⟨ez.set 2 (.slice g6 (k+1) aq),?_,ie.setCell (p:=⟨eb,2,none⟩) (ZeX HE.o) _⟩,λh0=>Qw⟩
     have h9:=Xy dy fp (λg hg hm=>by
      rw[Z6] at hm;subst hm
      exact DC ez dy Qz hg)
     rw[Zb,I7,cu];exact h9
    have h1:(str (YT R)).size=8*R.length:=(by rw[QW,If]);have h3:=df.o;show(str (YT R)).size<T.size;omega
  .obtain rfl:k=e.runs.length:=(by omega);rw[Zg4];have HU:=ZI C;rw[show str (YT [])=⟨#[]⟩ from rfl,show XL []=0 from rfl];obtain⟨a,F,cap,rfl,eu⟩:∃a F cap,v=.slice a F cap/\ER wr a F cap e.runs:=by
    have h1:=C.own;rw[Zs] at h1;rcases h1.2 with ⟨hv,h0⟩|⟨g,cap,cur,hv,_⟩
    .exact⟨none,0,0,hv,⟨by rw[h0],Zv (ZdW.1 h0)⟩,λ_=>⟨rfl,rfl⟩⟩
    .have⟨g',fg,ig,gy,_,_,_,fw⟩:=DD h1 (by rw[hv];simp)
     exact⟨_,_,_,gy,⟨rfl,Zy ⟨g',ig,rfl,fw⟩⟩,λh0=>by
      have h9:=dp (by rw[h0];rfl)
      rw[hv] at h9;cases h9⟩
   have c0:=C.row.c0;have c1:=C.row.c1;have c2:=C.row.c2;have ix:=C.row.free (j:=0) Qx;have fq:=C.row.free (j:=1) Qx;have ft:=C.row.free (j:=2) Qx;have fx:decide ((e.size:Int)<=12000)=true:=by simp;omega
   have fa:=ZI eu;clear C eu dp;go_wp2;have⟨w9,dx⟩:=ZL (((wr.setCell eb (.int .i64 (e.size:Int))).setCell ⟨eb,1,none⟩ (.int .u32 (e.sum:Int))).setCell ⟨eb,2,none⟩ (.slice a F cap));rw[<-dx];have dq:Row w9 eb 164 [(e.size:Int),.int .u32 (e.sum:Int),.slice a F cap]:=by rw[dx];exact((HU.o.row.set 0 (.int .i64 (e.size:Int))).set 1 (.int .u32 (e.sum:Int))).set 2 (.slice a F cap)
   have ef:Fr [eb] wr w9:=by rw[dx];exact(((Fr.refl _ _).setCell (Zv Qx) _).setCell (Zv Qx) _).setCell (Zv Qx) _
   have y0:=dq.c0;have y1:=dq.c1;have y2:=dq.c2;have fm:Below w w w9:=HU.o.bel.trans (ef.below HU.o.bel.size (λi hi=>by rw[Z6] at hi;subst hi;exact ZeX HE.o))
   have fo:Xj w9 (.agg #[(e.size:Int),.int .u32 (e.sum:Int),.slice a F cap]) e:=⟨a,F,cap,rfl,fa.o.fr ef (λk hk l hl=>by
    rw[Z6] at hk;subst hk;have:=Xr HU.o.row hl
    revert this;decide)⟩
   exact ZD (v:=.tuple #[.agg #[(e.size:Int),.int .u32 (e.sum:Int),.slice a F cap],true]) (by simp[results,Tryz.results156,go_sem,y0,y1,y2]) rfl ⟨_,rfl,fo,fm⟩
variable{b n:Nat}{e t:TypeId}{f fv:Bs->Option Value}{k:Bs}
def Z0t(M:prog.underlying t=some (.map 9 e))(h:Yb w b n f)(ty:Qu):∃w',(Builtin.clear_ #[t] ty #[.map (some b)]).run prog w=.ok (.tuple #[]) w'/\Yb w' b 0 (λ_=>none)/\Fr [b] w w':=by obtain⟨D,⟨es,C,hb,F,hs,U⟩,ht2⟩:=h;have J:=MapKept.heap_set (o':=Obj.map #[] C) hb;refine⟨{w with heap:=w.heap.setIfInBounds b (.map #[] C)},?_,⟨.map [],⟨#[],C,J.1,⟨Qx,MapKept.stamped_empty C,Qx⟩,Zt _,rfl⟩,λk=>⟨rfl,λv h=>by cases h⟩⟩,⟨rfl,rfl,rfl,Qx,λk Z O=>J.2 k QB⟩⟩;simp[Builtin.clear_,run_underlying M,MapKept.run_getObj_map hb,MapKept.run_setObj_map _ hb]
def GP(M:prog.underlying t=some (.map 9 e))(h:Yb w b n f)(k:Bs)(C:k.length<=maxLen)(ty:Qu):∃w',(Builtin.delete_ #[t,9] ty #[.map (some b),.string (str k)]).run prog w=.ok (.tuple #[]) w'/\Yb w' b n (λm=>if m=k then none else f m)/\Fr [b] w w':=by have⟨D,F,J⟩:=h;have⟨w',O,U,Z⟩:=F.drop Bx M (CH k C) ty;exact⟨w',O,⟨_,U,J.del k⟩,(Fr.refl [b] w).grown Z.grown (λk C=>by cases C;exact Zv Qx)⟩
def LV(O:prog.underlying t=some (.map 9 e))(h:Yb w b n f)(M:n<maxLen)(k:Bs)(C:k.length<=maxLen)(v:Qt):∃w',(Instr.mapUpdate t (.map (some b)) (.string (str k)) v).run prog w=.ok () w'/\Yb w' b (n+1) (λm=>if m=k then some v else f m)/\Fr [b] w w':=by have⟨D,F,J⟩:=h;have⟨w',U,Z,r3⟩:=F.store Bx O M (CH k C) (val:=v) (d:=.held v) (ps:=[]) rfl;exact⟨w',U,⟨_,Z,J.put F.isMap k v⟩,(Fr.refl [b] w).grown r3.grown (λk C=>by cases C;exact Zv Qx)⟩
def ID{t u:Qq}(h:t≠u):(t.toList==u.toList)=false:=by rw[Zeb,Zeb,ZeL];intro e;exact h (JJ e)
def Z9F{d:Dir}(hm:Yb w' b n (λm=>if m=k then none else fv m))(F:∀k,d.get k=none->fv k=none)(J:∀k e,d.get k=some e->∃v,fv k=some v/\Xj w' v e):Yh w' b n (d.del k):=by
 refine⟨_,hm,λm C=> ?_,λm e h=> ?_⟩
 .rw[Z99] at C;simp_all
 .rw[Z99] at h;simp_all
theorem Z9Q{d:Dir}{x:Ent}(hm:Yb w' b n (λm=>if m=k then some v else fv m))(F:∀k,d.get k=none->fv k=none)(J:∀k e,d.get k=some e->∃v,fv k=some v/\Xj w' v e)(he:Xj w' v x):Yh w' b n (d.put k x):=by
 refine⟨_,hm,λm C=> ?_,λm e h=> ?_⟩
 .rw[Z9b] at C;grind
 .rw[Z9b] at h;grind
def Dy(h:Yb w b n f):∀k,k∈[b]->∀l,¬Row w k 197 l:=λk C l hl=>by rw[Z6] at C;subst C;have⟨es,F,hb⟩:=h.block;exact Aj hl hb
def Fk{d:Dir}(hm:Yb w b n f)(h:∀k e,d.get k=some e->∃v,f k=some v/\Xj w v e)(J:Fr [b] w w'):∀k e,d.get k=some e->∃v,f k=some v/\Xj w' v e:=λk e M=>by have⟨v,C,F⟩:=h k e M;exact⟨v,C,F.fr J (Dy hm)⟩
def Z8x(d:Dir):Xi d=Y8 (XM::(d.map λx=>(x.1,some x.2)).map YM):=by rw[ZeW];rfl
variable{d g half nm s:Nat}{ts:List Value}{uv:Value}
def GN(l:List Bs):Ys (l.map str)=l:=by
 unfold Ys;rw[ZeW];have:((λs:Qq=>s.data.toList)∘str)=id:=by rfl
 simp_all
structure RpS(w:Qs)(s b g d j:Nat)(uv:Qt)(half:Nat)(ts:Qk)(dir:Dir)(nm:Nat)(wr:Qs):Prop where
 row:Row wr s 157 [d,j,(half:Int),.map (some b),uv,false]
 dir:Yh wr b nm dir
 txt:Row wr g 9 ts
 fr:Fr [b] w wr
def RpS.after{j:Nat}{dir:Dir}(h:RpS w s b g d j uv half ts dir nm wr)(hb:Below wr wr w'):RpS w s b g d j uv half ts dir nm w':=⟨h.row.after hb,h.dir.after hb,h.txt.after hb,h.fr.trans (Z1 (L:=[]) hb) Qx⟩
def RpS.step{j:Nat}{dir F:Dir}{J:Nat}(h:RpS w s b g d j uv half ts dir nm wr)(C:Fr [b] wr w')(M:Yh w' b J F)(hs:s∉[b])(O:g∉[b]):RpS w s b g d j uv half ts F J w':=⟨h.row.fr C hs,M,h.txt.fr C O,h.fr.trans C (λi hi _=>hi)⟩
def AO(dir:Dir)(its:List (Bs×Option Ent)):Dir:=its.foldl BO dir
def Z86(dir:Dir)(C:List (Bs×Option Ent))(k:Nat)(h:k<C.length):AO dir (C.take (k+1))=BO (AO dir (C.take k)) (C.getD k ([],none)):=by unfold AO;rw[Zc h,Zeh,Z7,Z8 h];rfl
def Em(its:List (Bs×Option Ent))(k:Nat):Bs:=if k=0 then[] else(its.getD (k-1) ([],none)).1
def TH(B p d n:Nat)(P:Pw)(D:Dk)(L:Qj)(s half j b nm:Nat)(uv:Qt)(dir:Dir)(q:Bs)(O:Dir)(C:List (Bs×Option Ent))(w:Qs)(h:PD B w p d n P D L)(aj:Row w s 157 [d,j,(half:Int),.map (some b),uv,false])(hd:Yh w b nm dir)(j7:nm<=1000000)(iz:1<=C.length)(h2:2*half<=n)(ai:(C.map (·.1)).Pairwise (· < ·))(cn:∀x∈C,1<=x.1.length/\x.1.length<=220/\∀e:Ent,x.2=some e->Ent.Ok n half e)(hq:(q=XM/\O=[]/\∀x∈C,x.2≠none)∨(q=XT/\O=dir))(fg:(AO O C).Ok n half)(ek:(Y8 (q::C.map YM)).length<=60000):Calls prog 109 #[s,.string (str (Y8 (q::C.map YM)))] w λr w'=>r=.returned true/\(∃fo aw,Row w' s 157 [d,j,(half:Int),.map (some b),fo,false]/\Yh w' b aw (AO O C)/\BV w' fo (YA n half (AO O C)))/\Fr [s,b] w w':=by
 have hlen:C.length<=20000:=by have:=Ep (q::C.map YM);rw[Xo] at ek;rw[Ze,Zf] at this;omega
 have cj:∀x∈C,(YM x).length<=60000:=λx hx=>by have:=Rv (l:=q::C.map YM) (s:=YM x) (Zh _ (Zeq hx));rw[Xo] at ek;omega
 have⟨ss,dh⟩:=ZK ((q::C.map YM).map str);have ib:ss.length=C.length+1:=by rw[<-dh];simp
 have au:=λW=>Ip (str (Y8 (q::C.map YM))) ss W (by rw[Yp,<-dh,GN]) (by rw[QW];omega);rw[ib] at au;have⟨T,hT⟩:=ZK (str (Y8 (q::C.map YM)));rw[hT] at au⊢;have⟨fv,m1,m2,m3⟩:=hd;have az:∀W,Below w w W->∀k e,dir.get k=some e->∃v,fv k=some v/\Xj W v e:=λW hW k e M=>by have⟨v,h1,h2⟩:=m3 k e M;exact⟨v,h1,h2.fr (Z1 (L:=[]) hW) Qx⟩
 have ey:s∉[b]/\∀{g:Nat},w.heap.size<=g->g∉[b]:=⟨λhm=>by
  rw[Z6] at hm;subst hm;have⟨es,cl,hb⟩:=m1.block;exact Aj aj hb,λhg hm=>by
  rw[Z6] at hm;subst hm
  have:=m1.lt;omega⟩
 have ak:=ZI ey;have eu:=ZI m1.block;have H:=ZI h;have HD:=ZY aj m1 m2 az;have HI:=ZY ai cn hq fg;have fp:=ZI cj;have HS:=ZM dh au;have c2:=aj.c3;have ic:=aj.lt;have j8:((C.length:Int)+1==0)=false:=by simp;omega
 clear h aj m1 m2 m3 az ai cn hq fg dh au hT ek cj ey;rcases HI.3 with ⟨q1,q2, -⟩|⟨q1,q2⟩
 case' inl=>have QE:=ZM q1 q2;clear q1 q2;go_enter func109,ntmps109;go_wp2_with (go_at_call 155;go_fit (HS.2 _);rintro r w1 ⟨a,cap,rfl,U,J⟩;have⟨g,dq,sp,hv,bm,fw,fx,Z⟩:=Xf U Qw;simp[ZeJ,ZgK] at hv;obtain⟨rfl,rfl⟩:=hv;rw[<-HS.1] at Z;have c0:=Z.cell (j:=0) (v:=.string ⟨#[97,108,108]⟩) (by rw[QE.1];rfl);have S1:=ZX Z J bm;have z1:1<=cap:=Qw;have z3:¬cap=1:=Qw;have z2:C.length+1<=cap:=Qw;have e3:w1.cell? ⟨s,3,none⟩=some (.map (some b)):=(HD.1.after J).c3;have⟨w2,bj,fc,cz⟩:=Z0t underlying155 (HD.2.after J) 0;have R2:RpS w s b g d j uv half (QS ((q::C.map YM).map str)++sp) O 0 w2:=(by rw[QE.2];exact⟨(HD.1.after J).fr cz ak.1,⟨_,fc,λ_ _=>rfl,λk e h=>by cases h⟩,Z.fr cz (ak.2 bm),(Z1 (L:=[b]) J).trans cz (λi hi _=>hi)⟩);have dm:=ZI R2;clear fc cz R2;clear U Z J bm)
 case' inr=>have QE:=ZM q1 q2;clear q1 q2;go_enter func109,ntmps109;go_wp2_with (go_at_call 155;go_fit (HS.2 _);rintro r w1 ⟨a,cap,rfl,U,J⟩;have⟨g,dq,sp,hv,bm,fw,fx,Z⟩:=Xf U Qw;simp[ZeJ,ZgK] at hv;obtain⟨rfl,rfl⟩:=hv;rw[<-HS.1] at Z;have c0:=Z.cell (j:=0) (v:=.string ⟨#[115,111,109,101]⟩) (by rw[QE.1];rfl);have S1:=ZX Z J bm;have z1:1<=cap:=Qw;have z3:¬cap=1:=Qw;have z2:C.length+1<=cap:=Qw;have e3:w1.cell? ⟨s,3,none⟩=some (.map (some b)):=(HD.1.after J).c3;have bj:=True.intro;have R2:RpS w s b g d j uv half (QS ((q::C.map YM).map str)++sp) O nm w1:=(by rw[QE.2];exact⟨HD.1.after J,⟨fv,HD.2.after J,HD.3,HD.4 _ J⟩,Z,Z1 J⟩);have dm:=ZI R2;clear R2;clear U Z J bm)
 all_goals
  have⟨ts,dj⟩:=ZK (QS ((q::C.map YM).map str)++sp);have fm:∀k,k<C.length->ts[k+1]? =some (.string (str (YM (C.getD k ([],none))))):=λk M=>by rw[<-dj,Za (by simp[QS];omega),Zn,QS,Zn,List.getElem?_cons_succ,Ze8,Ze8,Ze8,Z8 M,Z7,Z8 M];rfl
  have fj:ts[0]? =some (.string (str q)):=by rw[<-dj];rfl
  rw[dj] at dm;have fq:=ZI fm;have cw:=ZI fj;clear dj fm fj;go_loopw [7,51] (λlv kv wr=>∃ (k aw:Nat),k<=C.length/\kv=(k:Int)/\lv=.string (str (Em C k))/\aw<=1000000+k/\RpS w s b g d j uv half ts (AO O (C.take k)) aw wr) (λ_ kv _=>C.length- (intOf kv).toNat)
  .exact⟨0,_,Qw,rfl,rfl,Qw,dm.o⟩
  obtain⟨k,aw,M,rfl,rfl,gj,hR⟩:=hrel;by_cases bq:k<C.length
  .have⟨x,hx⟩:=ZK (C.getD k ([],none));have er:x∈C:=by rw[<-hx,Z7,Z8 bq];exact Zl bq
   have ay:=hR.txt.cell (fq.o k bq);have eo:=Z86 O C k bq;rw[hx] at ay eo;have⟨b1,b2,b3⟩:=HI.2 x er;have ez:=fp.o x er;have ae:Em C k<x.1:=by
    unfold Em;by_cases h0:k=0
    .rw[Zx h0];cases ie:x.1 with
     |nil=>rw[ie] at b1;simp at b1
     |cons a r=>exact List.Lex.nil
    .rw[Zw h0];have:=HI.1;rw[Zej] at this;have F:=this (k-1) k (by simp;omega) (by simpa using bq) Qw;simp[Zf1] at F;have g1:C.getD (k-1) ([],none)=C[k-1]:=by rw[Z7,Z8 Qw];rfl
     have g2:C.getD k ([],none)=C[k]:=by rw[Z7,Z8 bq];rfl
     rw[<-hx,g1,g2];exact F
   have⟨nx,o⟩:=x;have dw:wr.cell? ⟨g,1+k,none⟩=some (.string (str (YM (nx,o)))):=by rw[ZfD];exact ay
   simp only at b1 b2 b3 ae;have⟨la,dz⟩:=ZK (Em C k);rw[dz] at ae⊢;have ir:wr.cell? ⟨s,3,none⟩=some (.map (some b)):=hR.row.c3;have iy:((k+1:Nat):Int)=(k:Int)+1:=Qw;have HK:=ZY hR eo hx dz;have ig:=hR.fr.size;clear hR eo hx dz bj;cases o with
   |none=>
    rcases HI.3 with ⟨-, -,F⟩|⟨q1,q2⟩
    .exact absurd rfl (F _ er)
    have cw:=ZI (show ts[0]? =some (.string ⟨#[115,111,109,101]⟩) from by have F:=cw.o;rw[q1] at F;exact F);clear q1 q2;have cu:=λW=>Ip (str (YM (nx,none))) [str nx] W (by rw[Yp];rfl) (by rw[QW];omega);have dp:=ZI cu;have gy:(str nx).size<=220:=by rw[QW];exact b2
    have l1:Op.bytesLess (str nx).toList (str la).toList=false:=by rw[Zeb,Zeb,bytesLess_eq];exact ZC (λF=>Av _ (DZ (show nx<la from F) ae))
    have l2:((str nx).toList==(str la).toList)=false:=ID (λF=>by have:=Iu F;rw[this] at ae;exact Av _ ae);have df:nx.length<=maxLen:=by unfold maxLen;omega
    clear cu b3 ez;have ew:wr.cell? g=some (.string ⟨#[115,111,109,101]⟩):=HK.1.txt.cell cw.o;have ik:=ZI ew;clear ew;go_wp2_with (go_at_call 155;go_fit (dp.o _);rintro r w3 ⟨a,bh,rfl,U,bz⟩;have⟨g3,bu,ij,hv,ah,dx,fy,bg⟩:=Xf U (Nat.succ_pos _);simp[ZeJ,ZgK] at hv;obtain⟨rfl,rfl⟩:=hv;have y0:=bg.cell (j:=0) (v:=.string (str nx)) rfl;have R3:=HK.1.after bz;have iq:w3.cell? g=some (.string ⟨#[115,111,109,101]⟩):=R3.txt.cell cw.o;have ft:w3.cell? ⟨s,3,none⟩=some (.map (some b)):=R3.row.c3;have q1:1<=bh:=dx;have⟨fu,n1,n2,n3⟩:=R3.dir;have⟨w4,dy,cr,bf⟩:=GP underlying155 n1 nx df 0;have R4:=R3.step bf (Z9F cr n2 (Fk n1 n3 bf)) ak.1 (ak.2 S1.3);have S4:=ZI R4;clear cr bf R4 n1 n2 n3 U bg bz ah R3);go_roundw
    all_goals first
     |exact⟨k+1,aw,Qw,QC,by unfold Em;rw[Zw Qw,Nat.add_sub_cancel,HK.3],Qw,by rw[HK.2];exact S4.o⟩
     |(simp[intOf];omega)
   |some e=>
    have he:=b3 e rfl;have cu:=λW=>Ip (str (YM (nx,some e))) [str nx,str e.tail] W (by rw[Yp];rfl) (by rw[QW];omega);have dp:=ZI cu;have gy:(str nx).size<=220:=by rw[QW];exact b2
    have l1:Op.bytesLess (str nx).toList (str la).toList=false:=by rw[Zeb,Zeb,bytesLess_eq];exact ZC (λF=>Av _ (DZ (show nx<la from F) ae))
    have l2:((str nx).toList==(str la).toList)=false:=ID (λF=>by have:=Iu F;rw[this] at ae;exact Av _ ae);have df:nx.length<=maxLen:=by unfold maxLen;omega
    clear cu b3 ez;go_wp2_with (first|(go_at_call 155;go_fit (dp.o _);rintro r w3 ⟨a,bh,rfl,U,bz⟩;have⟨g3,bu,ij,hv,ah,dx,fy,bg⟩:=Xf U (Nat.succ_pos _);simp[ZeJ,ZgK] at hv;obtain⟨rfl,rfl⟩:=hv;have y0:=bg.cell (j:=0) (v:=.string (str nx)) rfl;have y1:=bg.cell (j:=1) (v:=.string (str e.tail)) rfl;have R3:=HK.1.after bz;have ft:w3.cell? ⟨s,3,none⟩=some (.map (some b)):=R3.row.c3;have S3:=ZN R3 bg ah;have q1:2<=bh:=dx;have⟨fu,n1,n2,n3⟩:=R3.dir;have⟨w4,dy,cr,bf⟩:=GP underlying155 n1 nx df 0;have R4:=R3.step bf (Z9F cr n2 (Fk n1 n3 bf)) ak.1 (ak.2 S1.3);have ef:=bg.fr bf (ak.2 (Zq ig ah));have ja:=ef.cell (j:=0) (v:=.string (str nx)) rfl;have jb:=ef.cell (j:=1) (v:=.string (str e.tail)) rfl;have iu:w4.cell? ⟨s,3,none⟩=some (.map (some b)):=R4.row.c3;have S4:=ZI R4;clear cr bf R4 ef n1 n2 n3 U bg bz ah R3)|(go_at_call 156;refine(Z7Z B p d n P D L s half e _ (H.o.fr S4.o.fr (λk M=>by rw[Z6] at M;subst M;have⟨es,cl,du⟩:=eu.o;exact H.o.Zb9 du)) S4.o.row.c0 S4.o.row.c2 he h2).mono ?_;rintro r w5 ⟨v5,rfl,⟨a5,ag,af,rfl,ct⟩,hb5⟩;have R5:=S4.o.after hb5;have S5:=ZM R5 ct;clear hb5 R5 ct));have⟨x,hx⟩:=ZK w5.heap.size;have eh:=Z2 w5 164 [.int .i64 (e.size:Int),.int .u32 (e.sum:Int),.slice a5 ag af];have dt:=(Zu w5 w5).alloc (Zt _) (.cells #[(e.size:Int),.int .u32 (e.sum:Int),.slice a5 ag af] 164);have R6:=S5.1.after dt;have E6:=S5.2.fr (Z1 (L:=[]) dt) Qx;rw[hx] at eh⊢;generalize w5.alloc (.cells #[(e.size:Int),.int .u32 (e.sum:Int),.slice a5 ag af] 164)=w6 at*
    have cy:Below w6 w6 w6.drew:=(Zu _ _).drew;have R7:=R6.after cy;have aq:=eh.after cy;have x0:=aq.c0;have x1:=aq.c1;have x2:=aq.c2;have iw:w6.drew.cell? ⟨s,3,none⟩=some (.map (some b)):=R7.row.c3;have E7:=E6.fr (Z1 (L:=[]) cy) Qx;have⟨ix,n1,n2,n3⟩:=R7.dir;have⟨w8,ia,fe,de⟩:=LV underlying155 n1 (by unfold maxLen;omega) nx df (.agg #[(e.size:Int),.int .u32 (e.sum:Int),.slice a5 ag af]);have E8:Xj w8 (.agg #[(e.size:Int),.int .u32 (e.sum:Int),.slice a5 ag af]) e:=⟨a5,ag,af,rfl,E7.fr de (Dy n1)⟩;have R8:=R7.step de (Z9Q fe n2 (Fk n1 n3 de) E8) ak.1 (ak.2 S1.3);have S8:=ZI R8;clear R6 E6 R7 eh aq E7 n1 n2 n3 fe de E8 R8 dt cy hx;go_region
    all_goals go_wp2
    all_goals go_roundw
    all_goals first
     |exact⟨k+1,aw+1,Qw,QC,by unfold Em;rw[Zw Qw,Nat.add_sub_cancel,HK.3],Qw,by rw[HK.2];exact S8.o⟩
     |(simp[intOf];omega)
  .obtain rfl:k=C.length:=(by omega);rw[Zs] at hR;have im:=hR.row.c3;have HR:=ZI hR;have fh:PD B wr p d n P D L:=H.o.fr hR.fr (λk M=>by rw[Z6] at M;subst M;have⟨es,cl,du⟩:=eu.o;exact H.o.Zb9 du);have HP:=ZI fh;clear hR fh bj;go_wp2_with (go_at_call 94;go_fit (Gh B p d n P D L s half b aw (AO O C) _ HP.o HR.o.row.c0 HR.o.row.c2 HR.o.dir HI.4 h2);rintro r w9 ⟨j9,rfl,⟨g9,rfl,fi⟩,hb9⟩;have R9:=HR.o.after hb9;have f49:=R9.row.free (j:=4) Qx;have d49:=R9.row.c4;have S9:=ZM R9 fi;clear hb9 R9 fi);go_ret;have ee:s≠g9:=λe9=>by have:=Xr S9.1.row (by rw[e9];exact S9.2);revert this;decide
   have fa:Fr [s] w9 (w9.setCell ⟨s,4,none⟩ (.slice g9 (YA n half (AO O C)).length (YA n half (AO O C)).length)):=(Fr.refl _ _).setCell (Zv Qx) _
   refine⟨rfl,⟨_,aw,S9.1.row.set 4 _,S9.1.dir.fr fa (λhm=>ak.1 (by rw[Z6] at hm⊢;exact hm.symm)) (λk M l hl=>by
    rw[Z6] at M;subst M;have:=Xr S9.1.row hl
    revert this;decide),g9,rfl,S9.2.other (λe9=>ee e9.symm) _⟩,(S9.1.fr.mono (λi hi _=>by simp at hi;simp[hi])).trans fa (λi hi _=>by simp at hi;simp[hi])⟩
def Ab(B:Nat)(w:Qs)(s d:Nat)(S:Sto):Prop:=B<=s/\∃j b uv,B<=j/\Row w s 157 [d,(j:Nat),(S.half:Int),.map (some b),uv,false]/\JAt w j d S.j/\Yh w b S.dir.length S.dir/\BV w uv S.used
def PD.Zcf{B:Nat}{p:Nat}{P:Pw}{D:Dk}{L:Qj}(h:PD B w p d n P D L):∀k,k∈p::L->∀l,¬Row w k 197 l:=λk C l hl=>h.Zap hl Qx Qx Qx Qx C
def Sto.first:Sto:=⟨800,100,Jn.first 100,[],YA 800 100 []⟩
def Fp:Dir.Ok 800 100 []:=⟨List.Pairwise.nil,Qx,Qx,List.nodup_nil⟩
structure Gu(B p d:Nat)(L:Qj)(P:Pw)(D:Dk)(w:Qs)(sv ev:Qt)(w':Qs):Prop where
 err:QK w' w (QH (Z3 100) P D).1 ev
 ran:Ran B p d 800 L [] (Z3 100) P D w w'
 sto:(QH (Z3 100) P D).1=0->∃s,sv=.pointer (s:Nat)/\w.heap.size<=s/\Ab w w' s d Sto.first
 none_:(QH (Z3 100) P D).1≠0->sv=.pointer none
def Tw(B p d:Nat)(P:Pw)(D:Dk)(L:Qj)(w:Qs)(h:PD B w p d 800 P D L)(hB:B<=w)(ht:Ty w)(hg:0<B)(az:D.wait.length<=100000):Calls prog 101 #[d] w λe w'=>∃sv ev,e=.returned (.tuple #[sv,ev])/\Gu B p d L P D w sv ev w':=by
 have H:=ZY h hB ht hg;clear h hB ht hg;go_enter func101,ntmps101;go_wp2_with fail;refine(G6 B p d P D L w H.1).mono ?_;rintro e w1 ⟨s,b,rfl,au,bq,cu,cz,af⟩;have cn:=H.1.after af;have ah:Ty w1:=H.3.below af;have dh:=af.size;have c2:=au.c2;have f1:=au.free (j:=1) Qx;have S1:=Q0 au bq cn ah cu af;clear au bq cn ah cu af;have bg:=Z3a B p d 800 P D L 100 w1 S1.3 (Zq H.2 dh) S1.4 H.4 Qw Qw az;rw[show((2*100:Nat):Int)=200 from rfl] at bg;have cw:=ZI bg;clear bg;go_wp2_with fail;refine cw.o.mono ?_;rintro e w2 ⟨jv,ev,rfl,hF⟩;have de:∃U,Did B p d 800 L [] (QH (Z3 100) P D).2.1 (QH (Z3 100) P D).2.2 w1 w2 U:=hF.ran;obtain⟨U,M⟩:=de;have O:Row w2 s 157 [d,.pointer none,(100:Int),.map (some b),(),false]:=M.row S1.3 S1.1 Qx Qx Qx Qx Qx;have f12:=O.free (j:=1) Qx;have dm:=O.c1;have cy:=O.c3;have Z:s∉p::U:=M.pd.Zap O Qx Qx Qx Qx
 have aj:Yh w2 b 0 []:=S1.2.fr M.fr (by
  obtain⟨fv,m1,_⟩:=S1.2;obtain⟨es,cl,hb⟩:=m1.block
  simpa using S1.3.Zb9 hb) (by simpa using S1.3.Zcf)
 rcases hF.err.split with ⟨hc,rfl⟩|⟨hc,be,rfl⟩
 case inr=>obtain rfl:=hF.none_ hc;have ai:Ty (w2.setCell ⟨s,1,none⟩ (.pointer none)):=(Ty.did S1.4 M H.4 S1.3.bp S1.3.bL Qx).set (by have:=Ty.lt H.3;have:=S1.5;simp;omega) _;have hE:QK (w2.setCell ⟨s,1,none⟩ (.pointer none)) w1 (QH (Z3 100) P D).1 (.iface 139 be):=hF.err.fr ((Fr.refl [s] w2).setCell (Zv Qx) _) (λk F=>by rw[Z6] at F;subst F;exact S1.1.lt);have HZ:=ZZ hF M hc hE Z;clear hF M hc hE O Z aj cy;go_wp2_with fail;refine(IN _ _ _ _ HZ.4 ai).mono ?_;rintro e w3 ⟨v3,rfl,bu,bm⟩;have H3:=ZM bu bm;have dj:=HZ.2.fr.size;clear bu bm ai;go_wp2;go_ret2;refine⟨_,_,rfl,H3.1.base (by have:(w2.setCell ⟨s,1,none⟩ (.pointer none)).heap.size=w2.heap.size:=(by simp[World.setCell]);omega),?_,λh0=>absurd h0 HZ.3,λ_=>rfl⟩;have ak:Did B p d 800 L [] (QH (Z3 100) P D).2.1 (QH (Z3 100) P D).2.2 w w2 U:=HZ.2.from S1.6;exact⟨U,(ak.frame (Y:=[s]) ((Fr.refl _ _).setCell (Zv Qx) _) (by simpa using HZ.5) (by simp;exact S1.5)).after H3.2⟩
 obtain⟨j,rfl,bz,bf⟩:=hF.jn hc;obtain⟨w3,aw⟩:=ZL (w2.setCell ⟨s,1,none⟩ (.pointer j));have ag:Fr [s] w2 w3:=by rw[aw];exact(Fr.refl _ _).setCell (Zv Qx) _
 have cr:PD B w3 p d 800 _ _ U:=M.pd.fr ag (λk F=>by rw[Z6] at F;subst F;exact Z);have bh:Row w3 s 157 [d,j,(100:Int),.map (some b),(),false]:=by rw[aw];exact O.set 1 _
 have cj:JAt w3 j d (Jn.first 100):=Row.fr bf ag (λhm=>by
  rw[Z6] at hm;have:=Xr bf (by rw[hm];exact O)
  revert this;decide)
 have ak:Yh w3 b 0 []:=aj.fr ag (λhm=>by
  rw[Z6] at hm;obtain⟨fv,m1,_⟩:=aj;obtain⟨es,cl,hb⟩:=m1.block;subst hm
  exact Aj O hb) (λk F l hl=>by
  rw[Z6] at F;subst F;have:=Xr O hl
  revert this;decide)
 have dp:=bh.c3;have dq:w3.heap.size=w2.heap.size:=by rw[aw];simp[World.setCell]
 have ae:Did B p d 800 L [] (QH (Z3 100) P D).2.1 (QH (Z3 100) P D).2.2 w w3 U:=(M.from S1.6).frame (Y:=[s]) ag (by simpa using Z) (by simp;exact S1.5);have C:=Q1 cr bh cj ak ae hc bz;have dj:=M.fr.size;have HW:=ZI aw;clear cr bh cj ak ae hc bz bf hF M O aj ag Z;go_wp2_with (go_at_call 94;rw[<-HW.o];refine(Gh B p d 800 _ _ U s 100 b 0 [] _ C.1 C.2.c0 C.2.c2 C.4 Fp Qw).mono ?_;rintro r w9 ⟨dt,rfl,⟨g9,rfl,ct⟩,ay⟩;have R9:=C.2.after ay;have f49:=R9.free (j:=4) Qx;have d49:=R9.c4;have J:=ZX R9 ct ay;clear ay R9 ct);go_ret2;have aq:Fr [s] w9 (w9.setCell ⟨s,4,none⟩ (.slice g9 (YA 800 100 []).length (YA 800 100 []).length)):=(Fr.refl _ _).setCell (Zv Qx) _;have bj:∀{g:Nat} {et:Qu} {l:Qk},et≠157->Row w9 g et l->g∉[s]:=λhet hl hm=>by rw[Z6] at hm;subst hm;exact het (Xr hl J.1)
 have df:PD B w9 p d 800 _ _ U:=C.1.after J.3;refine⟨_,_,rfl,by rw[C.6];exact QK.nil _ _,⟨U,(C.5.after J.3).frame (Y:=[s]) aq (λk F=>by rw[Z6] at F;subst F;exact df.Zap J.1 Qz Qz Qz Qz) (by simp;exact S1.5)⟩,λ_=>⟨s,rfl,S1.5,S1.5,j,b,_,?_,J.1.set 4 _,?_,?_,g9,rfl,?_⟩,λh0=>absurd C.6 h0⟩
 .have:=C.7;omega
 .exact Row.fr (C.3.after J.3) aq (bj Qz (C.3.after J.3))
 .refine(C.4.after J.3).fr aq (λhm=> ?_) (λk F l hl=>bj Qz hl F);rw[Z6] at hm;obtain⟨fv,m1,_⟩:=C.4.after J.3;obtain⟨es,cl,hb⟩:=m1.block;subst hm;exact Aj J.1 hb
 .exact J.2.fr aq (bj Qz J.2)
variable{bx:List Value}{ca db fb ga n1 n1' n2 n2' na oa q x:Nat}{f f':QF}{us:Value}
def BP(w:Qs)(ga oa:Nat)(Zan:List Ac):Prop:=ga<w/\∀k,k<Zan.length->w.cell? ⟨ga,oa+k*4,none⟩=((Zan.getD k ⟨0,[],[],[]⟩).kind:Int)/\w.cell? ⟨ga,oa+k*4+1,none⟩=some (.string (str (Zan.getD k ⟨0,[],[],[]⟩).name))/\
 w.cell? ⟨ga,oa+k*4+2,none⟩=some (.string (str (Zan.getD k ⟨0,[],[],[]⟩).to))/\w.cell? ⟨ga,oa+k*4+3,none⟩=some (.string (str (Zan.getD k ⟨0,[],[],[]⟩).value))
def BP.fr{Zan:List Ac}{L:Qj}(h:BP w ga oa Zan)(C:Fr L w w')(F:ga∉L):BP w' ga oa Zan:=by have hb:=C.block ga h.1 F;have hc:∀i,w'.cell? ⟨ga,i,none⟩=w.cell? ⟨ga,i,none⟩:=λi=>Zfz (a:=⟨ga,i,none⟩) hb;refine⟨Zp h.1 C.size,λk J=> ?_⟩;rw[hc,hc,hc,hc];exact h.2 k J
def BP.after{Zan:List Ac}(h:BP w ga oa Zan)(hb:Below w w w'):BP w' ga oa Zan:=h.fr (Z1 (L:=[]) hb) Qx
def Wy(f:QF):Bs->Option Qt:=λm=>(f.by m).map λk=>.int .i64 (k:Int)
structure PlA(w:Qs)(q db fb ga oa na ca:Nat)(us:Qt)(Zan:List Ac)(d:Dir)(f:QF)(n1 n2:Nat):Prop where
 row:Row w q 167 [.map (some db),.map (some fb),.slice (some ⟨ga,oa,none⟩) na ca,us]
 dir:Yh w db n1 d
 fsh:Yb w fb n2 (Wy f)
 ard:BP w ga oa Zan
 many:na=Zan.length
 ne:db≠fb
 nag:ga≠db/\ga≠fb
def PlA.after{Zan:List Ac}{d:Dir}(h:PlA w q db fb ga oa na ca us Zan d f n1 n2)(hb:Below w w w'):PlA w' q db fb ga oa na ca us Zan d f n1 n2:=⟨h.row.after hb,h.dir.after hb,h.fsh.after hb,h.ard.after hb,h.many,h.ne,h.nag⟩
theorem Z24(f:QF)(n:Bs):(λm=>if m=n then none else Wy f m)=Wy (f.del n):=by
 funext m
 unfold Wy;rw[Z9c];grind
def Z25(f:QF)(n:Bs)(k:Nat):(λm=>if m=n then some (.int .i64 (k:Int)) else Wy (f.del n) m)=Wy (f.del n++[(n,k)]):=by
 funext m
 unfold Wy;rw[Z9p,Z9c];by_cases h:m=n
 .rw[Zx h,Zx h];simp[QF.by,h]
 .rw[Zw h,Zw h];cases hb:f.by m with
  |some x=>rfl
  |none=>simp[QF.by,Ne.symm h]
def CL{C:Qu}{l:Qk}{f:Bs->Option Qt}(F:Row w g C l)(h:Yb w b n f):g∉[b]:=λhm=>by rw[Z6] at hm;subst hm;have⟨es,J,hb⟩:=h.block;exact Aj F hb
def PlA.Zbg{Zan:List Ac}{d F:Dir}(h:PlA w q db fb ga oa na ca us Zan d f n1 n2)(C:Fr [db] w w')(J:Yh w' db n1' F):PlA w' q db fb ga oa na ca us Zan F f n1' n2:=by have⟨fv,m1,_⟩:=h.dir;exact⟨h.row.fr C (CL h.row m1),J,h.fsh.fr C (by simp;exact λe=>h.ne e.symm),h.ard.fr C (by simp;exact h.nag.1),h.many,h.ne,h.nag⟩
def PlA.Zbb{Zan:List Ac}{d:Dir}(h:PlA w q db fb ga oa na ca us Zan d f n1 n2)(C:Fr [fb] w w')(F:Yb w' fb n2' (Wy f')):PlA w' q db fb ga oa na ca us Zan d f' n1 n2':=⟨h.row.fr C (CL h.row h.fsh),h.dir.fr C (by simp;exact h.ne) (Dy h.fsh),F,h.ard.fr C (by simp;exact h.nag.2),h.many,h.ne,h.nag⟩
def Kt{d:Dir}(h:Yh w b n d)(k:Bs)(F:k.length<=maxLen)(ty:Qu):∃w',(Builtin.delete_ #[155,9] ty #[.map (some b),.string (str k)]).run prog w=.ok (.tuple #[]) w'/\Yh w' b n (d.del k)/\Fr [b] w w':=by have⟨fv,m1,m2,m3⟩:=h;have⟨w',J,M,C⟩:=GP underlying155 m1 k F ty;exact⟨w',J,Z9F M m2 (Fk m1 m3 C),C⟩
def Ku{d:Dir}(h:Yh w b n d)(J:n<maxLen)(k:Bs)(F:k.length<=maxLen)(v:Qt)(e:Ent)(he:Xj w v e):∃w',(Instr.mapUpdate 155 (.map (some b)) (.string (str k)) v).run prog w=.ok () w'/\Yh w' b (n+1) (d.put k e)/\Fr [b] w w':=by have⟨fv,m1,m2,m3⟩:=h;have⟨w',M,O,C⟩:=LV underlying155 m1 J k F v;exact⟨w',M,Z9Q O m2 (Fk m1 m3 C) (he.fr C (Dy m1)),C⟩
def GZ(h:Yb w b n (Wy f))(k:Bs)(F:k.length<=maxLen)(ty:Qu):∃w',(Builtin.delete_ #[165,9] ty #[.map (some b),.string (str k)]).run prog w=.ok (.tuple #[]) w'/\Yb w' b n (Wy (f.del k))/\Fr [b] w w':=by have⟨w',J,C,M⟩:=GP underlying165 h k F ty;exact⟨w',J,by rw[Z24] at C;exact C,M⟩
def Z27(h:Yb w b n (Wy (f.del k)))(J:n<maxLen)(F:k.length<=maxLen)(i:Nat):∃w',(Instr.mapUpdate 165 (.map (some b)) (.string (str k)) (.int .i64 (i:Int))).run prog w=.ok () w'/\Yb w' b (n+1) (Wy (f.del k++[(k,i)]))/\Fr [b] w w':=by have⟨w',M,C,O⟩:=LV underlying165 h J k F (.int .i64 (i:Int));exact⟨w',M,by rw[Z25] at C;exact C,O⟩
def Ff{d:Dir}(h:Yh w b n d)(k:Bs)(F:k.length<=maxLen):∃ (sz sm:Int) (a:Qm) (l c:Nat),(∀W,Below w w W->(Instr.lookup 155 (.map (some b)) (.string (str k)) true).run prog W=.ok (.tuple #[.agg #[sz,.int .u32 sm,.slice a l c],.bool (d.get k).isSome]) W)/\ (∀W,Below w w W->(Instr.lookup 155 (.map (some b)) (.string (str k)) false).run prog W=.ok (.agg #[sz,.int .u32 sm,.slice a l c]) W∨d.get k=none)/\∀e,d.get k=some e->Xj w (.agg #[sz,.int .u32 sm,.slice a l c]) e:=by
 have⟨fv,m1,m2,m3⟩:=h;cases J:d.get k with
 |none=>exact⟨0,0,none,0,0,λW C=>(m1.after C).ZbB underlying155 (CD W) F (m2 k J),λW C=>Zy rfl,λe he=>by cases he⟩
 |some e=>obtain⟨v,hv,a,l,c,rfl,M⟩:=m3 k e J;exact⟨_,_,a,l,c,λW C=>(m1.after C).ZbA underlying155 (CD W) F hv,λW C=>Zv ((m1.after C).ZbO underlying155 (CD W) F hv),λO he=>by cases he;exact⟨a,l,c,rfl,M⟩⟩
def FB(w:Qs):(zeroValue 3).run prog w=.ok (.int .i64 0) w:=Qy
def Ha(h:Yb w b n (Wy f))(k:Bs)(C:k.length<=maxLen):(Instr.lookup 165 (.map (some b)) (.string (str k)) true).run prog w=.ok (.tuple #[(((f.by k).getD 0:Nat):Int),.bool (f.by k).isSome]) w:=by
 cases hb:f.by k with
 |none=>exact h.ZbB underlying165 (FB w) C (by unfold Wy;rw[hb];rfl)
 |some i=>exact h.ZbA underlying165 (FB w) C (by unfold Wy;rw[hb];rfl)
def Z7u(s:Qq)(w:Qs)(hs:s.size<=maxLen):Calls prog 130 #[.string s] w λe w'=>e=.returned (.int .u32 (WD s.data.toList:Int))/\w=w':=(Ge s w hs).mono λe w' h=>⟨by rw[h.1,YX];rfl,h.2⟩
structure PdS(w:Qs)(q db fb ga oa na ca:Nat)(us:Qt)(Zan:List Ac)(d:Dir)(f:QF)(n1 n2 x:Nat)(bx:Qk)(wr:Qs):Prop where
 pl:PlA wr q db fb ga oa na ca us Zan d f n1 n2
 box:Row wr x 151 bx
 fr:Fr [db,fb] w wr
def PdS.after{Zan:List Ac}{d:Dir}(h:PdS w q db fb ga oa na ca us Zan d f n1 n2 x bx wr)(hb:Below wr wr w'):PdS w q db fb ga oa na ca us Zan d f n1 n2 x bx w':=⟨h.pl.after hb,h.box.after hb,h.fr.trans (Z1 (L:=[]) hb) Qx⟩
def PdS.Zbg{Zan:List Ac}{d F:Dir}(h:PdS w q db fb ga oa na ca us Zan d f n1 n2 x bx wr)(C:Fr [db] wr w')(J:Yh w' db n1' F):PdS w q db fb ga oa na ca us Zan F f n1' n2 x bx w':=by have⟨fv,m1,_⟩:=h.pl.dir;exact⟨h.pl.Zbg C J,h.box.fr C (CL h.box m1),h.fr.trans C (λi hi _=>by simp at hi;simp[hi])⟩
def PdS.Zbb{Zan:List Ac}{d:Dir}(h:PdS w q db fb ga oa na ca us Zan d f n1 n2 x bx wr)(C:Fr [fb] wr w')(F:Yb w' fb n2' (Wy f')):PdS w q db fb ga oa na ca us Zan d f' n1 n2' x bx w':=⟨h.pl.Zbb C F,h.box.fr C (CL h.box h.pl.fsh),h.fr.trans C (λi hi _=>by simp at hi;simp[hi])⟩
def Z51(q db fb ga oa na ca:Nat)(us:Qt)(Zan:List Ac)(d:Dir)(f:QF)(n1 n2 k:Nat)(N V:Bs)(w:Qs)(h:PlA w q db fb ga oa na ca us Zan d f n1 n2)(hk:k<Zan.length)(hm:Zan.length<=100000)(ha:Zan.getD k ⟨0,[],[],[]⟩=⟨1,N,[],V⟩)(hN:N.length<=220)(hV:V.length<=12000)(dj:n1<=100000000)(dm:n2<=100000000)(df:na<=ca):Calls prog 86 #[q,(k:Int)] w λe w'=>e=.returned .nilIface/\(∃n1' n2',n1'<=n1+1/\n2'<=n2+1/\PlA w' q db fb ga oa na ca us Zan ((d.del N).put N ⟨V.length,WD V,[]⟩) (f.del N++[(N,k)]) n1' n2')/\Fr [db,fb] w w':=by
 have F:N.length<=maxLen:=by unfold maxLen;omega
 have c2:=h.row.c2;have⟨a0,a1,a2,a3⟩:=h.ard.2 k hk;rw[ha] at a0 a1 a2 a3;have:k<na:=by rw[h.many];exact hk
 have HP:=ZI h;clear h ha;go_enter func86,ntmps86;go_wp2;have⟨x,hx⟩:=ZK w.heap.size;have aj:=Z2 w 151 [.int .i64 1,.string (str N),.string (str []),.string (str V)];have ah:=(Zu w w).alloc (Zt _) (.cells #[(1:Int),N,.string (str []),V] 151);have P1:=HP.o.after ah;have F1:Fr [db,fb] w _:=Z1 ah;rw[hx] at aj⊢;generalize w.alloc (.cells #[(1:Int),N,.string (str []),V] 151)=w1 at*
 have D1:PdS w q db fb ga oa na ca us Zan d f n1 n2 x _ w1:=⟨P1,aj,F1⟩;have C:=ZI D1;clear D1 P1 aj F1 ah hx c2 a0 a1 a2 a3;have⟨sz,sm,a,l,c,ai,_,_⟩:=Ff C.o.pl.dir N F;have k2:=λo=>ai ((w1.alloc o).drew) (((Zu w1 w1).alloc (Zt _) o).drew);have k1:=ai w1.drew (Zu _ _).drew;have cz:=C.o.pl.row.c0;have ct:=C.o.box.c1;have cy:=C.o.box.lt;have cr:=C.o.pl.row.lt;clear ai;go_region;have D2:=C.o.after (((Zu w1 w1).alloc (Zt _) (.cells #[(sz:Int),.int .u32 sm,.slice a l c] 164)).drew);generalize (w1.alloc (.cells #[(sz:Int),.int .u32 sm,.slice a l c] 164)).drew=w2 at*
 clear k1 k2 cz ct cy cr;have bm:=ZI D2;have x0:=D2.box.c0;clear D2;go_wp2;have U:=bm.o.after ((Zu _ w2).drew);have y1:=U.pl.row.c1;have x1:=U.box.c1;have cn:=Ha U.pl.fsh N F;clear x0;have aq:=ZI U;clear U;go_region;generalize w2.drew=w3 at*
 clear y1 x1 cn;have x0:=aq.o.box.c0;go_wp2;clear x0;have Z:=aq.o.after ((Zu _ w3).drew);have y0:=Z.pl.row.c0;have x1:=Z.box.c1;have⟨w4,ae,au,az⟩:=Kt Z.pl.dir N F 0;have D5:=Z.Zbg az au;have bq:=ZI D5;clear Z D5 au az;go_region;clear y0 x1 ae;go_wp2;have D6:=bq.o.after ((Zu _ w4).drew);have y1:=D6.pl.row.c1;have x1:=D6.box.c1;have⟨w5,ae,aw,bf⟩:=GZ D6.pl.fsh N F 0;have D7:=D6.Zbb bf aw;have O:=ZI D7;clear D6 D7 aw bf;go_region;clear y1 x1 ae;have x0:=O.o.box.c0;go_wp2;clear x0;have J:=O.o.after ((Zu _ w5).drew);have y0:=J.pl.row.c0;have x1:=J.box.c1;have x3:=J.box.c3;have cj:(str V).size=V.length:=QW V;have⟨w6,ag,ay,bg⟩:=Ku J.pl.dir (by unfold maxLen;omega) N F (.agg #[(V.length:Int),.int .u32 (WD (str V).data.toList:Int),()]) ⟨V.length,WD V,[]⟩ ⟨none,0,0,rfl,⟨rfl,Zv rfl⟩,λ_=>⟨rfl,rfl⟩⟩;have D9:=J.Zbg bg ay;have bu:=ZI D9;have bz:(str V).size<=maxLen:=by rw[cj];unfold maxLen;omega
 have de:=O.o.pl.row.c0;have cu:=O.o.box.c1;have cw:=O.o.box.c3;clear J D9 ay bg;go_still_tail 13,Qy
 still_call (BN (Z7u (str V) _ bz))
 repeat still_step
 refine Zfw ?_;change wpList _ _ _ _ _ w5.drew;go_wp2;clear y0 x1 x3 ag de cu cw;have M:=bu.o.after ((Zu _ w6).drew);have y1:=M.pl.row.c1;have x1:=M.box.c1;have⟨w7,ag,bj,bh⟩:=Z27 M.pl.fsh (by unfold maxLen;omega) F k;have ak:=M.Zbb bh bj;have af:=ZI ak;clear M ak bj bh;go_region;go_wp2;go_ret;exact⟨rfl,⟨_,_,Zt _,Zt _,af.o.pl⟩,af.o.fr⟩
variable{a:Option Addr}{c l y:Nat}
structure EbS(y:Nat)(sz sm:Int)(a:Qm)(l c:Nat)(e:Ent)(w:Qs):Prop where
 row:Row w y 164 [sz,.int .u32 sm,.slice a l c]
 ent:Xj w (.agg #[sz,.int .u32 sm,.slice a l c]) e
def EbS.after{e:Ent}(h:EbS y sz sm a l c e w)(hb:Below w w w'):EbS y sz sm a l c e w':=⟨h.row.after hb,h.ent.fr (Z1 (L:=[]) hb) Qx⟩
def EbS.Zbg{e:Ent}(h:EbS y sz sm a l c e w){b n:Nat}{d:Dir}(F:Yh w b n d)(C:Fr [b] w w'):EbS y sz sm a l c e w':=by have⟨fv,m1,_⟩:=F;exact⟨h.row.fr C (CL h.row m1),h.ent.fr C (Dy m1)⟩
def EbS.Zbb{e:Ent}(h:EbS y sz sm a l c e w){b n:Nat}{f:Bs->Option Qt}(m1:Yb w b n f)(C:Fr [b] w w'):EbS y sz sm a l c e w':=⟨h.row.fr C (CL h.row m1),h.ent.fr C (Dy m1)⟩
def Z4Z(q db fb ga oa na ca:Nat)(us:Qt)(Zan:List Ac)(d:Dir)(f:QF)(n1 n2 k:Nat)(N:Bs)(e0:Ent)(w:Qs)(h:PlA w q db fb ga oa na ca us Zan d f n1 n2)(hk:k<Zan.length)(hm:Zan.length<=100000)(ha:Zan.getD k ⟨0,[],[],[]⟩=⟨2,N,[],[]⟩)(hN:N.length<=220)(hg:d.get N=some e0)(bu:n1<=100000000)(bz:n2<=100000000)(bm:na<=ca):Calls prog 86 #[q,(k:Int)] w λe w'=>e=.returned .nilIface/\(∃n1' n2',n1'<=n1+1/\n2'<=n2+1/\PlA w' q db fb ga oa na ca us Zan (d.del N) (f.del N) n1' n2')/\Fr [db,fb] w w':=by
 have M:N.length<=maxLen:=by unfold maxLen;omega
 have c2:=h.row.c2;have⟨a0,a1,a2,a3⟩:=h.ard.2 k hk;rw[ha] at a0 a1 a2 a3;have:k<na:=by rw[h.many];exact hk
 have:(d.get N).isSome=true:=QB;have HP:=ZI h;clear h ha;go_enter func86,ntmps86;go_wp2;have⟨x,hx⟩:=ZK w.heap.size;have ah:=Z2 w 151 [.int .i64 2,.string (str N),.string (str []),.string (str [])];have ae:=(Zu w w).alloc (Zt _) (.cells #[(2:Int),N,.string (str []),.string (str [])] 151);have P1:=HP.o.after ae;have F1:Fr [db,fb] w _:=Z1 ae;rw[hx] at ah⊢;generalize w.alloc (.cells #[(2:Int),N,.string (str []),.string (str [])] 151)=w1 at*
 have D1:PdS w q db fb ga oa na ca us Zan d f n1 n2 x _ w1:=⟨P1,ah,F1⟩;have C:=ZI D1;clear D1 P1 ah F1 ae hx c2 a0 a1 a2 a3;have⟨sz,sm,a,l,c,ag,_,_⟩:=Ff C.o.pl.dir N M;have k2:=λo=>ag ((w1.alloc o).drew) (((Zu w1 w1).alloc (Zt _) o).drew);have k1:=ag w1.drew (Zu _ _).drew;have bj:=C.o.pl.row.c0;have bg:=C.o.box.c1;have bh:=C.o.box.lt;have bf:=C.o.pl.row.lt;clear ag;go_region;have D2:=C.o.after (((Zu w1 w1).alloc (Zt _) (.cells #[(sz:Int),.int .u32 sm,.slice a l c] 164)).drew);generalize (w1.alloc (.cells #[(sz:Int),.int .u32 sm,.slice a l c] 164)).drew=w2 at*
 clear k1 k2 bj bg bh bf;have aq:=ZI D2;have U:=D2.box.c0;clear D2;go_wp2;have F:=aq.o.after ((Zu _ w2).drew);have y1:=F.pl.row.c1;have x1:=F.box.c1;have az:=Ha F.pl.fsh N M;clear U;have ai:=ZI F;clear F;go_region;generalize w2.drew=w3 at*
 clear y1 x1 az;have U:=ai.o.box.c0;go_wp2;clear U;have J:=ai.o.after ((Zu _ w3).drew);have:=J.pl.row.c0;have x1:=J.box.c1;have⟨w4,af,aj,ak⟩:=Kt J.pl.dir N M 0;have D5:=J.Zbg ak aj;have au:=ZI D5;clear J D5 aj ak;go_region;go_wp2;have O:=au.o.after ((Zu _ w4).drew);have y1:=O.pl.row.c1;have x1:=O.box.c1;have⟨w5,af,aw,ay⟩:=GZ O.pl.fsh N M 0;have D7:=O.Zbb ay aw;have Z:=ZI D7;go_region;have U:=Z.o.box.c0;go_wp2;go_ret;exact⟨rfl,⟨_,_,ZeE _,ZeE _,Z.o.pl⟩,Z.o.fr⟩
def Z50(q db fb ga oa na ca:Nat)(us:Qt)(Zan:List Ac)(d:Dir)(f:QF)(n1 n2 k:Nat)(N T:Bs)(e0:Ent)(w:Qs)(h:PlA w q db fb ga oa na ca us Zan d f n1 n2)(hk:k<Zan.length)(hm:Zan.length<=100000)(ha:Zan.getD k ⟨0,[],[],[]⟩=⟨3,N,T,[]⟩)(hN:N.length<=220)(hT:T.length<=220)(dj:T≠N)(hg:d.get N=some e0)(hfn:f.by N=none)(dy:n1<=100000000)(dz:n2<=100000000)(dw:na<=ca):Calls prog 86 #[q,(k:Int)] w λe w'=>e=.returned .nilIface/\(∃n1' n2',n1'<=n1+1/\n2'<=n2+1/\PlA w' q db fb ga oa na ca us Zan ((d.del N).put T e0) ((f.del N).del T) n1' n2')/\Fr [db,fb] w w':=by
 have aj:N.length<=maxLen:=by unfold maxLen;omega
 have c2:=h.row.c2;have⟨a0,a1,a2,a3⟩:=h.ard.2 k hk;rw[ha] at a0 a1 a2 a3;have:k<na:=by rw[h.many];exact hk
 have:(d.get N).isSome=true:=by rw[hg];rfl
 have:((str T).toList==(str N).toList)=false:=ID (λe=>dj (Iu e));have ah:T.length<=maxLen:=by unfold maxLen;omega
 have HP:=ZI h;clear h ha;go_enter func86,ntmps86;go_wp2;have⟨x,hx⟩:=ZK w.heap.size;have az:=Z2 w 151 [.int .i64 3,.string (str N),.string (str T),.string (str [])];have ak:=(Zu w w).alloc (Zt _) (.cells #[(3:Int),N,T,.string (str [])] 151);have P1:=HP.o.after ak;have F1:Fr [db,fb] w _:=Z1 ak;rw[hx] at az⊢;generalize w.alloc (.cells #[(3:Int),N,T,.string (str [])] 151)=w1 at*
 have D1:PdS w q db fb ga oa na ca us Zan d f n1 n2 x _ w1:=⟨P1,az,F1⟩;have C:=ZI D1;clear D1 P1 az F1 ak hx c2 a0 a1 a2 a3;have⟨sz,sm,a,l,c,aw,_,af⟩:=Ff C.o.pl.dir N aj;have af:=af e0 hg;have k2:=λo=>aw ((w1.alloc o).drew) (((Zu w1 w1).alloc (Zt _) o).drew);have k1:=aw w1.drew (Zu _ _).drew;have du:=C.o.pl.row.c0;have dq:=C.o.box.c1;have dt:=C.o.box.lt;have dp:=C.o.pl.row.lt;clear aw;go_region;have⟨y,hy⟩:=ZK w1.heap.size;have M2:EbS y sz sm a l c e0 ((w1.alloc (.cells #[(sz:Int),.int .u32 sm,.slice a l c] 164)).drew):=⟨by rw[<-hy];exact(Z2 w1 164 [.int .i64 sz,.int .u32 sm,.slice a l c]).after ((Zu _ _).drew),af.fr (Z1 (L:=[]) ((((Zu w1 w1).alloc (Zt _) _)).drew)) Qx⟩;rw[hy];have D2:=C.o.after (((Zu w1 w1).alloc (Zt _) (.cells #[(sz:Int),.int .u32 sm,.slice a l c] 164)).drew);generalize (w1.alloc (.cells #[(sz:Int),.int .u32 sm,.slice a l c] 164)).drew=w2 at*
 clear k1 k2 du dq dt dp;have cu:=ZI M2;clear M2 af hy;have cn:=ZI D2;have x0:=D2.box.c0;clear D2;go_wp2;have O:=cn.o.after ((Zu _ w2).drew);have y1:=O.pl.row.c1;have x1:=O.box.c1;have bz:=Ha O.pl.fsh N aj;rw[hfn] at bz;have cw:=ZI (cu.o.after ((Zu _ w2).drew));clear x0;have ai:=ZI O;clear O;go_region;generalize w2.drew=w3 at*
 clear y1 x1 bz;have x0:=ai.o.box.c0;have x1:=ai.o.box.c1;have x2:=ai.o.box.c2;go_wp2;clear x0 x1 x2;have F:=ai.o.after ((Zu _ w3).drew);have y0:=F.pl.row.c0;have x1:=F.box.c1;have⟨w4,ae,bh,aq⟩:=Kt F.pl.dir N aj 0;have D5:=F.Zbg aq bh;have cy:=ZI ((cw.o.after ((Zu _ w3).drew)).Zbg F.pl.dir aq);have cr:=ZI D5;clear F D5 bh aq;go_region;clear y0 x1 ae;go_wp2;have J:=cr.o.after ((Zu _ w4).drew);have y1:=J.pl.row.c1;have x1:=J.box.c1;have⟨w5,ae,bj,au⟩:=GZ J.pl.fsh N aj 0;have D7:=J.Zbb au bj;have cz:=ZI ((cy.o.after ((Zu _ w4).drew)).Zbb J.pl.fsh au);have bg:=ZI D7;clear J D7 bj au;go_region;clear y1 x1 ae;have x0:=bg.o.box.c0;go_wp2;clear x0;have U:=bg.o.after ((Zu _ w5).drew);have Z:=cz.o.after ((Zu _ w5).drew);have y0:=U.pl.row.c0;have x2:=U.box.c2;have de:=Z.row.c0;have df:=Z.row.c1;have dh:=Z.row.c2;have⟨w6,ay,bm,bq⟩:=Ku U.pl.dir (by unfold maxLen;omega) T ah (.agg #[(sz:Int),.int .u32 sm,.slice a l c]) e0 Z.ent;have D9:=U.Zbg bq bm;have ct:=ZI D9;clear U D9 Z bm bq;go_region;clear y0 x2 de df dh ay;go_wp2;have M:=ct.o.after ((Zu _ w6).drew);have y1:=M.pl.row.c1;have x2:=M.box.c2;have⟨w7,ae,cj,bu⟩:=GZ M.pl.fsh T ah 0;have bf:=M.Zbb bu cj;have ag:=ZI bf;clear M bf cj bu;go_region;go_wp2;go_ret;exact⟨rfl,⟨_,_,Zt _,ZeE _,ag.o.pl⟩,ag.o.fr⟩
def Z30(fv:Qt)(w:Qs):Calls prog 263 #[(),(0:Int),(0:Int),fv] w λe w'=>e=.returned (.tuple #[])/\w'=w:=by
 go_enter func263,ntmps263;go_wp2;go_loopw [8] (λiv wr=>iv=(1:Int)/\wr=w) (λ_ _=>0)
 .exact⟨rfl,rfl⟩
 go_wp2;go_end0;simp
def Z52(fv:Qt)(l:Int)(w:Qs):Calls prog 242 #[(),(0:Int),(0:Int),l,fv] w λe w'=>e=.returned (.tuple #[])/\w'=w:=by
 go_enter func242,ntmps242;go_wp2;go_loopw [1,2] (λav bv wr=>av=(0:Int)/\bv=(0:Int)/\wr=w) (λ_ _ _=>0)
 .exact⟨rfl,rfl,rfl⟩
 obtain⟨rfl,rfl,rfl⟩:=hrel;go_wp2_with (go_at_call 263;go_fit (Z30 fv _);rintro e w' ⟨rfl,rfl⟩);exact ZD (results_none (by rfl) _ _ _) rfl ⟨rfl,rfl⟩
def Z7b(fv:Qt)(w:Qs):Calls prog 187 #[(),fv] w λe w'=>e=.returned (.tuple #[])/\w'=w:=by have hl:(0:Int)<=18446744073709551615:=Qw;go_enter func187,ntmps187;go_wp2_with (first|(go_at_call 123;go_fit (Tryz.bits_Len 0 _ Qw hl);rintro e w' ⟨rfl,rfl⟩)|(go_at_call 242;go_fit (Z52 fv _ _);rintro e w' ⟨rfl,rfl⟩));go_end0;simp
def Yb.ZcP{f:Bs->Option Qt}(h:Yb w b n f)(U:prog.underlying t=some (.map 9 e)){z:Qt}(Z:(zeroValue e).run prog w=.ok z w){k:Bs}(O:k.length<=maxLen)(M:f k=none):(Instr.lookup t (.map (some b)) (.string (str k)) false).run prog w=.ok z w:=by
 have⟨D,F,J⟩:=h;have⟨v',ps,C,hv⟩:=F.lookup Bx U Z (zd:=.held z) (zp:=[]) rfl (CH k O);have hh:Maps.has D (.string k)=false:=by rw[(J k).1,M];rfl
 rw[atKey_of_not_has hh] at hv;simp[Jq] at hv;rw[C,hv.1]
abbrev Nm:={l:Bs // l.length<=maxLen}
instance:Inhabited Nm:=⟨⟨[],Qx⟩⟩
def E9(x:Nm):Qt:=.string (str x.1)
def ixN(f:QF)(x:Bs):Int:=((f.by x).getD 0:Nat)
def cfN(f:QF)(x y:Nm):Int:=ixN f x.1-ixN f y.1
def Z3t(F q fb n2:Nat)(f:QF)(x y:Bs)(W:Qs)(h0:W.cell? F=(q:Nat))(h1:W.cell? ⟨q,1,none⟩=some (.map (some fb)))(hm:Yb W fb n2 (Wy f))(hx:x.length<=maxLen)(O:y.length<=maxLen)(hi:∀p∈f,p.2<=100000):Calls prog 188 #[x,y,F] W λe w'=>e=.returned (ixN f x-ixN f y:Int)/\∃q,w'=W.drewN q:=by
 have hb:∀z,0<=ixN f z/\ixN f z<=100000:=λz=>by
  unfold ixN;cases h:f.by z with
  |none=>simp
  |some i=>have:=hi _ (Z9f h);simp at this⊢;omega
 have hl:∀z:Bs,z.length<=maxLen->(Instr.lookup 165 (.map (some fb)) (.string (str z)) false).run prog W.drew=.ok (.int .i64 (ixN f z)) W.drew:=λz h=>by
  have C:=hm.after ((Zu _ W).drew);unfold ixN;cases hb:f.by z with
  |some i=>exact C.ZbO underlying165 (FB _) h (by unfold Wy;rw[hb];rfl)
  |none=>exact C.ZcP underlying165 (FB _) h (by unfold Wy;rw[hb];rfl)
 have U:=hl x hx;have Z:=hl y O;have⟨b1,b2⟩:=hb x;have⟨M,b4⟩:=hb y;have⟨a,ha⟩:=ZK (ixN f x);have⟨b,J⟩:=ZK (ixN f y);rw[ha] at U b1 b2⊢;rw[J] at Z M b4⊢;go_enter func188,ntmps188;go_wp2;go_region;go_wp2;go_ret;exact⟨rfl,1,rfl⟩
theorem Z3u(hn:(f.map (·.1)).Nodup)(ha:(f.map (·.2)).Pairwise (· < ·)){d C:Array Nm}(hm:∀k,k∈d.toList.map (·.1)↔k∈f.map (·.1))(hd:(d.toList.map (·.1)).Nodup)(hp:Go.Sort.PermIn 0 d.size d C)(hs:Go.Sort.SortedIn (ltOf (cfN f)) 0 d.size C):C.toList.map (·.1)=f.map (·.1):=by
 have⟨p1,p2,p3⟩:=hp;have ae:C.toList.Perm d.toList:=by rw[Array.toList_extract,Array.toList_extract] at p3;have t1:C.toList.take d.size=C.toList:=Zi QA;have t2:d.toList.take d.size=d.toList:=Zi Qx;simp_all
 have J:∀i (h:i<f.length),ixN f (f[i]).1=((f[i]).2:Int):=λi h=>by unfold ixN;rw[Z9s hn (Zl h)];rfl
 have af:∀a b,a∈f.map (·.1)->b∈f.map (·.1)->ixN f a<=ixN f b->ixN f b<=ixN f a->a=b:=λa b O U Z h4=>by obtain⟨x,hx,rfl⟩:=Zz.1 O;obtain⟨y,hy,rfl⟩:=Zz.1 U;obtain⟨i,hi,rfl⟩:=Zez hx;obtain⟨j,F,rfl⟩:=Zez hy;rw[J i hi,J j F] at Z h4;rw[Zej] at ha;grind
 have ag:(C.toList.map (·.1)).Perm (f.map (·.1)):=(ae.map _).trans ((Zf4 hd hn).2 hm);refine List.Perm.eq_of_pairwise (le:=λa b=>ixN f a<=ixN f b) (λa b O U Z h4=>af a b (ag.mem_iff.1 O) U Z h4) ?_ ?_ ag
 .rw[Zev,Zej];intro i j hi F M;have:=hs i j Qw M (by simp at F;omega);unfold ltOf cfN at this;simp[ZfN] at this;have e1:C[i]! =C.toList[i]:=by simp at hi;simp[hi]
  have e2:C[j]! =C.toList[j]:=by simp at F;simp[F]
  rw[e1,e2] at this;omega
 .rw[Zev];rw[Zej];intro i j hi F M;rw[J i hi,J j F];rw[Zej] at ha;have:=ha i j (by simpa using hi) (by simpa using F) M;simp at this;omega
theorem Z5h{h m:Nat}{enc:Nm->Qt}{d:Array Nm}{os:Array Obj}:Fr [h] w (Go.Sort.grow (Go.Sort.putRow enc (Go.Sort.ahead w m) h 0 d) os):=by
 refine⟨rfl,rfl,rfl,?_,λk F C=> ?_⟩
 .simp
 .rw[Go.Sort.heap_grow_old _ _ QB];show(w.heap.modify h (Go.Sort.onCells (Go.Sort.putCells enc 0 d)))[k]? =_;grind
theorem Z5f(w:Qs)(C:Nat)(d:Array Nm):Go.Sort.putRow E9 w C 0 d=Go.Sort.putRow encStr w C 0 (d.toList.map (·.1)).toArray:=by
 unfold Go.Sort.putRow;congr 1
 funext c
 unfold Go.Sort.putCells;congr 1
 funext k x
 by_cases h:0<=k/\k<0+d.size
 .rw[Zx h,Zx QB];have e1:d[k-0]! =d[k]:=QA;have e2:(d.toList.map (·.1)).toArray[k-0]! =(d[k]).1:=QA;rw[e1,e2];rfl
 .grind
def Hn(q db fb ga oa na ca:Nat)(us:Qt)(Zan:List Ac)(d:Dir)(f:QF)(n1 n2:Nat)(w:Qs)(h:PlA w q db fb ga oa na ca us Zan d f n1 n2)(hn:(f.map (·.1)).Nodup)(ha:(f.map (·.2)).Pairwise (· < ·))(fg:f.length<=12)(hi:∀p∈f,p.2<=100000)(dp:∀p∈f,p.1.length<=220):Calls prog 131 #[q] w λe w'=>∃v,e=.returned v/\Strs w' w.heap.size v (f.map (·.1))/\Below w.heap.size w w':=by
 have aq:∀k,(Wy f k).isSome=true↔k∈f.map (·.1):=λk=>by
  have e0:(Wy f k).isSome=(f.by k).isSome:=by unfold Wy;cases f.by k<;>rfl
  rw[e0];constructor
  .intro M;have⟨i,hi⟩:=ZdQ.1 M;exact Zz.2 ⟨(k,i),Z9f hi,rfl⟩
  .intro M;obtain⟨x,hx,rfl⟩:=Zz.1 M;rw[Z9s hn hx];rfl
 have hm:=h.fsh;have c1:=h.row.c1;have fx:=h.row.lt;have HP:=ZI h;have J:=ZZ hn ha hi dp aq;clear h hn ha hi dp aq;have eg:∀args w,(callFunc 188 args).run prog w=.ok (.enter 188 args) w:=enters_of func188 Qy rfl;have dy:=ZI eg;clear eg;go_enter func131,ntmps131;have dt:=Z2 w 159 [.pointer q];have bq:=(Zu w.heap.size w).alloc (Zt _) (.cells #[q] 159);have dm:=hm.after bq;have Z:=ZM dt bq;clear dt bq hm;go_wp2_with (at_range;refine IL _ rfl _ 165 rfl 3 underlying165 fb n2 (Wy f) rfl dm ?_;intro w1 ef U bm cn);have⟨w0,bh⟩:=ZL (w.alloc (.cells #[q] 159));have bj:w0.heap.size=w.heap.size+1:=by rw[bh];simp
 have M0:Met w0 fb (w.heap.size+1) n2 (Wy f) (λk=>(Wy f k).isSome) ef (.slice none 0 0) [] w1:=by rw[<-bh] at bm U;exact⟨by rw[<-bj];exact U,Strs.nil _ _,bm,Qw,Qx,λk=>by cases Wy f k<;>simp⟩
 have ct:=ZI M0;rw[<-bh] at Z;have⟨r,hr⟩:=ZK (w.heap.size+1);rw[hr] at ct;rw[show(Value.pointer (some ⟨w.heap.size+1,0,none⟩))=Value.pointer r from by rw[hr]];have⟨F,bf⟩:=ZK w.heap.size;have O:=ZI bf;rw[bf] at Z bj;rw[show(Value.pointer w.heap.size)=Value.pointer F from by rw[bf]];have ay:=ZI bj;clear M0 U bm cn dm bh hr bf bj;go_loopw [3] (λv wq=>∃ (todo:Bs->Bool) (l:List Bs) (ae:Nat),Met w0 fb r n2 (Wy f) todo ae v l wq) (λ_ wq=>wq.rangeLeft fb r)
 .exact⟨_,_,_,ct.o⟩
 have⟨todo,l,ae,hS⟩:=hrel;have af:=hS.rg;have hlen:l.length<=12:=Zq (hS.few (f.map (·.1)) (λk M=>(J.5 k).1 M)) QB;have C:=ZI hS;have dz:Qi (World.rangeLeft _ fb r=ae):=ZI af.left_eq;clear hS;go_wp2_with (at_next;refine IK _ rfl _ rfl fb r n2 (Wy f) todo ae rfl af ?_ ?_)
 .intro ag;have ak:∀k,k∈l↔k∈f.map (·.1):=λk=>by rw[C.o.mem k,ag k,J.5 k];simp
  have aw:=ZI ak;clear ag af ak;rcases C.o.own.2 with ⟨hv,h0⟩|⟨g,cap,cur,hv,_⟩
  .rw[hv];have ez:l=[]:=ZdW.1 h0;have eu:f.map (·.1)=[]:=by refine List.eq_nil_iff_forall_not_mem.2 (λk M=> ?_);have:=(aw.o k).2 M;rw[ez] at this;cases this
   go_wp2_with (go_at_call 187;go_fit (Z7b _ _);rintro e w' ⟨rfl,rfl⟩);go_ret;refine⟨_,rfl,by rw[eu];exact Strs.nil _ _,?_⟩;rw[O.o];exact Z.2.trans (C.o.below.mono (by have:=ay.o;omega))
  .have ho:=C.o.own;rw[hv] at ho⊢;have⟨hH,ew,fq,er⟩:=ho.holds;have fp:F+1<=g:=by have:=AF ho rfl;have:=ay.o;omega
   have fc:∀x∈l,x.length<=maxLen:=λx hx=>by obtain⟨p,hp,rfl⟩:=Zz.1 ((aw.o x).1 hx);have:=J.4 p hp;unfold maxLen;omega
   obtain⟨dl,az⟩:∃dl:List Nm,dl.map (·.1)=l:=⟨l.pmap (λx h=>⟨x,h⟩) fc,by simp[List.map_pmap]⟩;have bg:dl.toArray.size=l.length:=by rw[<-az];simp
   have cu:Go.Sort.Holds E9 wr g 0 dl.toArray:=λj hj=>by
    have dh:j<dl.length:=(by simpa using hj);have:=hH j QB;have e1:dl.toArray[j]! =dl[j]:=(by simp[dh]);have e2:l.toArray[j]! =(dl[j]).1:=by subst az;simp[dh]
    rw[e2] at this;rw[e1];exact this
   have fo:fb<wr:=C.o.rg.owns.lt;have ah:Below w0 w0 wr:=C.o.below;have fh:wr.cell? F=q:=(Z.1.after ah).c0;have fi:wr.cell? ⟨q,1,none⟩=some (.map (some fb)):=by have h1:=HP.o.row.after (Z.2.mono (by have:=O.o;omega));exact(h1.after ah).c1
   have fu:q<g:=by have:=O.o;omega
   have bu:fb≠g:=λe=>by have⟨es,cl,hb⟩:=C.o.rg.owns.block;subst e;have⟨ek,fe,hc⟩:=ho.cells rfl;rw[hc] at hb;cases hb
   have ai:CmpReads prog 188 #[F] E9 (cfN f) g 0 dl.toArray.size wr:=λm os dk hd x y=>by have de:Fr [g] wr (sortWorld E9 wr g 0 m dk os):=Z5h;have fj:∀b i,b<wr.heap.size->b≠g->(sortWorld E9 wr g 0 m dk os).cell? ⟨b,i,none⟩=wr.cell? ⟨b,i,none⟩:=λb i hb ft=>Zfz (a:=⟨b,i,none⟩) (de.block b hb QB);exact Z3t F q fb n2 f x.1 y.1 _ QA QA (C.o.rg.owns.fr de (by simpa using bu)) x.2 y.2 J.3
   have cj:=Tryz.slices_SortFunc_small (α:=Nm) E9 (λx=>rfl) (cfN f) 188 #[.pointer F] g 0 cap dl.toArray wr dy.o ai cu (by rw[bg];exact hlen) (λn W hn=>(Tryz.bits_Len n W Qw Qw).mono λe w' h=>⟨⟨_,h.1⟩,h.2⟩);have au:Go.Sort.SWO (ltOf (cfN f)):=⟨λx=>by unfold ltOf cfN;simp,λx y z h1 h2=>by unfold ltOf cfN at*;simp at*;omega,λx y z h1 h2=>by unfold ltOf cfN at*;simp at*;omega⟩;have⟨dq,dw⟩:=Go.Sort.insertionSort_holds (lt:=ltOf (cfN f)) au dl.toArray 0 dl.toArray.size (ZeT _) (Zt _);have aj:=Z3u J.1 J.2 (d:=dl.toArray) (by intro k;rw[show dl.toArray.toList=dl from rfl,az];exact aw.o k) (by rw[show dl.toArray.toList=dl from rfl,az];exact C.o.nodup) dq dw;rw[Z5f,aj,bg] at cj;have ee:=ZI cj;have HO:=ZM ho ew;clear cj ai aj dq dw au cu hH ho;go_wp2_with (go_at_call 187;go_fit ee.o;rintro e w' ⟨rfl,m,rfl⟩);have fa:(f.map (·.1)).length=l.length:=((Zf4 J.1 C.o.nodup).2 (λk=>(aw.o k).symm)).length_eq;have⟨s1,s2⟩:=HO.1.sorted (q:=m) (os:= #[]) fa;have eo:∀W:Qs,Go.Sort.grow W #[]=W:=λW=>(by simp[Go.Sort.grow]);rw[eo] at s1 s2;go_ret;refine⟨_,rfl,by exact s1.mono (by have:=ay.o;have:=O.o;omega),?_⟩;rw[O.o];have cy:Below F w wr:=Z.2.trans (ah.mono (by have:=ay.o;omega));exact cy.trans (s2.below (Zq (ZeX O.o.symm) (by have:=cy.size;exact this)) (λi hi=>by rw[Z6] at hi;subst hi;omega))
 .intro k x w2 eh ey dx df U dj bz bg fm;have cw:∀o,Below w2 w2 (w2.alloc o):=λo=>(Zu _ w2).alloc (Zt _) o;have HN:=ZZ dx df U bz dj;have fw:w0<=w2.heap.size:=Zq C.o.below.size bz.size;clear af dx df U bz dj ey bg;go_wp2_with (at_builtin;refine Um _ rfl (.tmp 14) (.tmp 16) rfl w0.heap.size _ l rfl (C.o.ZbZ HN.4 (cw _)).1 w2.heap.size k rfl (ZB w2 _) (by simp;omega) Qw ?_;intro v' w3 du cz;have M3:=C.o.next HN.1 HN.2 HN.3 HN.4 (cw _) du cz;have cr:=ZI M3;clear M3 du cz);go_roundw
  .exact⟨_,_,_,cr.o⟩
  rw[cr.o.rg.left_eq,dz.o];exact HN.5
variable{l:List Bs}
def Fq(g c:Nat)(l:List Bs)(sp:Qk)(w:Qs)(h:Row w g 9 (QS (l.map str)++sp))(C:(Y8 l).length<=60000):Calls prog 126 #[.slice g l.length c] w λe w'=>e=.returned (.tuple #[.string (str (Y8 l)),.nilIface])/\Below w w w':=by
 have J:Y9 w (some ⟨g,0,none⟩) (l.map str):=λj M=>⟨g,0,rfl,by
  refine h.cell ?_;have F:j<l.length:=QB;rw[Za (by simp[QS];omega)]
  simp[QS,F]⟩
 have:=Z3B g 0 c (l.map str) w J (by rw[GN];rw[Xo] at C;exact C);rw[Zf,GN] at this;exact this
def KP(base:Nat)(v:Qt)(l:List Bs)(w:Qs)(h:Strs w base v l)(C:l≠[])(F:(Y8 l).length<=60000):Calls prog 126 #[v] w λe w'=>e=.returned (.tuple #[.string (str (Y8 l)),.nilIface])/\Below w w w':=by obtain⟨g,cap,sp,rfl,_,_,_,J⟩:=Xf h (Zew.2 C);exact Fq g cap l sp w J F
def CY{ops:Array Oper}{rest:List Oper}{o:Oper}{a:Act}{Q:Exit->Act->Qs->Prop}(w:Qs)(Z:o.guard=none)(s x:Operand)(ho:o.op=.call {callee:=.builtin .append,args:= #[s,x],argTypes:= #[96,96]})(base:Nat)(v:Qt)(l:List Bs)(hs:a.eval s=v)(h:Strs w base v l)(p:Nat)(t:Bs)(hx:a.eval x=.slice p 1 1)(hc:w.heap[p]? =some (.cells #[t] 9 (0,0)))(hb:base<=w)(hl:l.length<=1000000)(hK:∀g cap w',Strs w' base (.slice (g:Nat) (l.length+1) cap) (l++[t])->Fr (QV v) w w'->(v.ownBlock=some g∨g=w.heap.size)->wpList prog ops Q rest (a.put o.dst (.slice (g:Nat) (l.length+1) cap)) w'):wpList prog ops Q (o::rest) a w:=by
 have⟨j0,C,F,J,M⟩:=ZE Cj;refine Zgq w Z s x 96 ho base 9 j0 _ 1 16 underlying96 C F J M rfl Qw v l.length _ hs h ⟨p,0,none⟩ 1 1 [.string (str t)] hx rfl (Ze4 hc) (by simp[Value.oneCell']) Qw (by unfold maxLen;omega) Qw hb w.heap.size rfl ?_;intro g cap w' h1 O U _;refine hK g cap w' ?_ ((Fr.refl (QV v) w).grown O (λk hk=>Zv (YV.2 hk))) U;unfold Strs;have:QS (l.map str++[str t])=QS (l.map str)++[.string (str t)]:=by simp[QS]
 simp_all
structure WhS(w:Qs)(g:Nat)(ts:Qk)(v:Qt)(l:List Bs)(wr:Qs):Prop where
 own:Strs wr w v l
 txt:Row wr g 9 ts
 bel:Below w w wr
 no:v.ownBlock≠some g
def WhS.after(h:WhS w g ts v l wr)(hb:Below wr wr w'):WhS w g ts v l w':=⟨h.own.after hb,h.txt.after hb,h.bel.trans (hb.mono h.bel.size),h.no⟩
def WhS.next{v':Qt}{l':List Bs}(h:WhS w g ts v l wr)(hs:Strs w' w v' l')(C:Fr (QV v) wr w')(F:v'.ownBlock≠some g):WhS w g ts v' l' w':=⟨hs,h.txt.fr C (λhm=>h.no (YV.1 hm)),h.bel.trans (C.below h.bel.size (λi hi=>h.own.ge i hi)),F⟩
def Ks{d:Dir}(h:Yh w b n d){k:Bs}{e:Ent}(F:d.get k=some e)(J:k.length<=maxLen):∃ (a:Qm) (l c:Nat),(∀W,Below w w W->(Instr.lookup 155 (.map (some b)) (.string (str k)) false).run prog W=.ok (.agg #[(e.size:Int),.int .u32 (e.sum:Int),.slice a l c]) W)/\Xj w (.agg #[(e.size:Int),.int .u32 (e.sum:Int),.slice a l c]) e:=by have⟨fv,m1,m2,m3⟩:=h;obtain⟨v,hv,a,l,c,rfl,M⟩:=m3 k e F;exact⟨a,l,c,λW C=>(m1.after C).ZbO underlying155 (CD W) J hv,a,l,c,rfl,M⟩
def JW(x:Bs×Ent):Bs:=Y8 [x.1,x.2.tail]
def Py{h:Bs}{x:Bs}(hx:x∈l):x.length<=(Y8 (h::l)).length:=by have:=Rv (l:=h::l) (s:=x) (Zh _ hx);rw[Xo];omega
def Ent.Ok.Zc9{e:Ent}(h:Ent.Ok n half e)(O:n<=8192):e.size<=4294967295/\e.sum<=4294967295/\(∀r∈e.runs,r.1<=4294967295/\r.2<=4294967295)/\e.runs.length<=100000:=by refine⟨by have:=h.size;omega,by have:=h.sum;omega,λr C=>by have:=h.many r C;omega,?_⟩;have:e.runs.length<=e.Zat.length:=G4 e.runs (λr C=>(h.many r C).1);have F:=h.Zat;have:=h.size;unfold Yu at F;omega
def Z8y(n half q db fb ga oa na ca:Nat)(us:Qt)(Zan:List Ac)(d:Dir)(f:QF)(n1 n2:Nat)(w:Qs)(h:PlA w q db fb ga oa na ca us Zan d f n1 n2)(cr:d.Ok n half)(dj:n<=8192)(bz:d≠[])(aj:(Xi d).length<=60000):Calls prog 89 #[q] w λe w'=>e=.returned (.tuple #[.string (str (Xi d)),.nilIface])/\Below w w w':=by
 have ak:Xi d=Y8 (XM::d.map JW):=rfl;have du:d.length<=20000:=by have:=Ep (XM::d.map JW);rw[ak,Xo] at aj;rw[Ze,Zf] at this;omega
 have cn:d.names.length=d.length:=Zf ..;have df:0<d.length:=Zew.2 bz;have c0:=h.row.c0;have HP:=ZI h;have C:=ZX cr ak cn;have dw:=h.row.lt;rw[ak] at aj;have HZ:=ZI aj;clear h cr ak cn bz aj;go_enter func89,ntmps89;have dm:=Z2 w 9 [.string (str XM)];have bj:=(Zu w w).alloc (Zt _) (.cells #[XM] 9);have S0:Strs (w.alloc (.cells #[XM] 9)) w (.slice (some ⟨w,0,none⟩) 1 1) [XM]:=⟨rfl,Zy ⟨w.heap.size,1,#[.string (str XM)],rfl,Zt _,ZB w _,Zt _,by simp[maxLen],rfl,rfl⟩⟩;have Z:=ZM S0 bj;clear dm bj S0;go_wp2_with (go_at_call 132;go_fit (Mr db n1 d _ (HP.o.dir.after Z.2) C.1.sorted Qw);rintro e w1 ⟨v,rfl,hv,aq⟩;obtain⟨g,cap,sp,rfl,bq,dq,dt,ct⟩:=Xf hv (by rw[C.3];exact df);have S1:=ZX (Z.1.after aq) ct (Z.2.trans (aq.mono Z.2.size));have cw:=ZI (show w.heap.size+1<=g by simpa using bq);clear hv ct aq bq);have⟨ts,az⟩:=ZK (QS (d.names.map str)++sp);have cu:∀k (hk:k<d.length),ts[k]? =some (.string (str (d[k]).1)):=λk hk=>by rw[<-az,Za (by simp[QS,Dir.names];omega)];simp[QS,Dir.names,hk]
 have W0:WhS w g ts (.slice (some ⟨w,0,none⟩) 1 1) [XM] w1:=⟨S1.1,by rw[<-az];exact S1.2,S1.3,λe=>by
  simp[Value.ownBlock,ZdC] at e;have:=cw.o
  omega⟩
 have cz:=ZI W0;have cy:=ZI cu;rw[C.3];clear az cu W0;go_loopw [4,16] (λlv iv wr=>∃k:Nat,k<=d.length/\iv=(k:Int)/\WhS w g ts lv (XM::(d.take k).map JW) wr) (λ_ iv _=>d.length- (intOf iv).toNat)
 .exact⟨0,Qw,rfl,cz.o⟩
 obtain⟨k,hk,rfl,F⟩:=hrel;have O:=ZI F;by_cases aw:k<d.length
 .have af:=F.txt.cell (cy.o k aw);have J:d[k]∈d:=Zl aw;have ag:d.get (d[k]).1=some (d[k]).2:=Z9k C.1.sorted J;have cj:(d[k]).1.length<=maxLen:=by have:=C.1.name _ J;unfold maxLen;omega
  have bm:=C.1.ent _ J;have⟨t1,t2,t3,t4⟩:=bm.Zc9 dj;have⟨a,ln,c,hl,au⟩:=Ks (HP.o.dir.after F.bel) ag cj;have dh:=hl _ (Zu _ _);have hit:(JW d[k]).length<=60000:=Zq (Py (h:=XM) (Zeq J)) HZ.o;have ae:(d.take (k+1)).map JW=(d.take k).map JW++[JW d[k]]:=by rw[Zc aw,Zo];rfl
  have bu:((d.take k).map JW).length=k:=by rw[Zf,Zg];omega
  have⟨x,hx⟩:=ZK d[k];rw[hx] at af dh cj au hit ae t1 t2 t3 t4;have dp:=(HP.o.row.after F.bel).c0;have U:=ZZ au hit ae t3 bu;clear F hl J ag bm hx au hit ae t3 bu;go_wp2_with (first|(go_at_call 133;go_fit (Iy _ x.2 _ U.1 t1 t2 U.4 t4);rintro r w3 ⟨rfl,bf⟩;have S3:=ZI (O.o.after bf);clear bf)|(go_at_call 126;go_fit (Fq w3 2 [x.1,x.2.tail] [] _ (Z2 w3 _ [.string (str x.1),.string (str x.2.tail)]) U.2);rintro r w4 ⟨rfl,bg⟩;have S4:=ZI ((S3.o.after ((Zu w3 w3).alloc (Zt _) _)).after bg);clear bg)|(at_builtin;refine CY _ rfl (.tmp 36) (.tmp 38) rfl w.heap.size u4 (XM::(d.take k).map JW) rfl (S4.o.own.after ((Zu _ _).alloc (Zt _) _)) w4.heap.size (JW x) rfl (ZB w4 _) (by have:=S4.o.bel.size;simp;omega) QA ?_;intro g5 de w5 M ah ai;have S5:=ZN M ah ai;clear M ah ai));go_roundw
  .refine⟨k+1,Qw,QC,?_⟩;have⟨M,ah,ai⟩:=S5.o;have hlen:(XM::(d.take k).map JW).length=k+1:=(by rw[Ze,U.5]);rw[hlen] at M;have W4:=S4.o.after ((Zu w4 w4).alloc (Zt _) (.cells #[.string (str (JW x))] 9));refine W4.next (by rw[U.3];exact M) ah (λe=> ?_)
   simp[Value.ownBlock,ZdC] at e;subst e;rcases ai with h1|h1
   .exact W4.no h1
   .have h9:g5=(w4.alloc (.cells #[.string (str (JW x))] 9)).heap.size:=h1;have:=W4.txt.lt;omega
  simp[intOf];omega
 .obtain rfl:k=d.length:=by omega
  rw[Zs] at O;have hz:=HZ.o;have ay:=O.o.own;clear F;go_wp2_with (go_at_call 126;go_fit (KP w u4 (XM::d.map JW) _ ay Qx hz);rintro r w6 ⟨rfl,bh⟩;have S6:=ZI bh;clear bh);go_ret2;exact⟨by rw[C.2];rfl,O.o.bel.trans (S6.o.mono O.o.bel.size)⟩
variable{D:Dk}{e:Nat}{rs:List Bs}
theorem EE(D:Dk)(a m k:Nat):D.text a (m+k)=D.text a m++D.text (a+m) k:=by unfold Dk.text;rw[List.range_add,ZdY,ZgP];grind
def IB(D:Dk)(a:Nat):D.text a 1=(D.reads a).data.toList:=by unfold Dk.text;simp
def Z7F{l:Bs}{k:Nat}(hl:l.length=64*k):∀{a:Nat},(∀q,q<k->D.reads (a+q)=Ya l q)->D.text a k=l:=by
 induction k generalizing l with
 |zero=>intro a _;have:l=[]:=ZdW.1 Qw;rw[this];rfl
 |succ k ih=>
  intro a h;rw[ZfD,EE,IB];have C:=h 0 Qw;rw[Zfc] at C;rw[C]
  have:=ih (l:=l.drop 64) QA (a:=a+1) (λq F=>by
   have:=h (1+q) Qw;rw[<-ZeS] at this;rw[this];unfold Ya;congr 1;unfold sec;rw[Zf3];congr 2
   omega)
  rw[this];show sec l 0++l.drop 64=l;unfold sec;simp
def Z7G:∀{a m:Nat},Bm D.reads e a m rs->D.text a (Yf rs)=Xg e m rs:=by
 induction rs with
 |nil=>intro a m _;rfl
 |cons r rs ih=>intro a m h;have⟨C,F⟩:=h;have⟨p1,p2⟩:=DE e (m+1) r;rw[show Yf (r::rs)=QQ r.length / 64+Yf rs from rfl,EE,Xg,ih F];congr 1;exact Z7F Qw C
theorem OY(ok:D.ok n){a k:Nat}(ha:a<n)(h:1<=k):(D.text a k).getD 0 0=WJ (D.reads a):=by obtain⟨q,rfl⟩:∃q,k=1+q:=⟨k-1,Qw⟩;rw[EE,IB];have:=Eu ok ha;unfold WJ;have:(D.reads a).data.toList.length=64:=QB;grind
def Z2q(ok:D.ok n)(hb:base+half<=n)(h:N8 D.reads base half e rs):N7 (D.text base half) e rs:=by
 have:=h.fits;refine⟨D.text (base+(1+Yf rs)) (half- (1+Yf rs)),?_,?_⟩
 .obtain⟨q,F⟩:∃q,half=1+(Yf rs+q):=⟨half-1-Yf rs,Qw⟩;rw[show half- (1+Yf rs)=q from Qw,F,EE,EE,IB,h.head,Z7G h.Zau];rw[show base+1+Yf rs=base+(1+Yf rs) from Qw];rfl
 .by_cases C:1+Yf rs<half
  .right;rw[OY ok Qw Qw];exact h.stop C
  .left;rw[show half- (1+Yf rs)=0 from Qw];rfl
def Z4t(ok:D.ok n)(hb:base+half<=n)(F:1<=half)(h:Dd D.reads base e):ET (D.text base half) e:=by
 rcases h with h|⟨C,J,M⟩
 .left;rw[OY ok Qw F];exact h
 .right;obtain⟨q,rfl⟩:∃q,half=1+q:=⟨half-1,Qw⟩;exact⟨C,D.text (base+1) q,J,by rw[EE,IB,M];rfl⟩
def PC{J:Jn}(ok:D.ok n)(h:Wm D.reads J rs)(C:1<=J.half)(F:2*J.half<=n)(he:J.Zar<=3000000000)(hs:∀r∈rs,r.length<=60000)(hc:J.closed=false):JRd D J rs:=by
 have hl:∀s,J.at_ s 0+J.half<=n:=λs=>by unfold Jn.at_;split<;>omega
 exact⟨Z2q ok (hl _) h.on,Z4t ok (hl _) C h.off,h.many,h.next,h.Zar,he,h.on.fits,hs,hc⟩
theorem Z7d(B p d n:Nat)(P:Pw)(D:Dk)(L:Qj)(s half j b nm:Nat)(uv:Qt)(dir:Dir)(rc:Rec)(w:Qs)(h:PD B w p d n P D L)(O:Row w s 157 [d,j,(half:Int),.map (some b),uv,false])(hd:Yh w b nm dir)(Z:nm<=1000000)(h2:2*half<=n)(hr:rc.Ok n half)(F:(Rec.app dir rc).Ok n half)(J:rc.enc.length<=60000):Calls prog 109 #[s,.string (str rc.enc)] w λr w'=>r=.returned true/\(∃ae af,Row w' s 157 [d,j,(half:Int),.map (some b),ae,false]/\Yh w' b af (Rec.app dir rc)/\BV w' ae (YA n half (Rec.app dir rc)))/\Fr [s,b] w w':=by
 cases rc with
 |all d'=>
  have⟨C,U⟩:=hr;have e1:Rec.enc (.all d')=Y8 (XM::(d'.map λx=>(x.1,some x.2)).map YM):=Z8x d';have e2:Rec.app dir (.all d')=AO [] (d'.map λx=>(x.1,some x.2)):=by unfold AO;rw[List.foldl_map];rfl
  rw[e1] at J⊢;rw[e2] at F⊢;refine TH B p d n P D L s half j b nm uv dir XM [] _ w h O hd Z QA h2 ?_ ?_ (Zv ⟨rfl,rfl,?_⟩) F J
  .rw[ZeW,Zev];exact C.sorted
  .intro x hx;obtain⟨y,M,rfl⟩:=Zz.1 hx;exact⟨(C.name y M).1,(C.name y M).2,λe he=>by simp at he;rw[<-he];exact C.ent y M⟩
  .grind
 |some l=>have⟨U,C,h3⟩:=hr;exact TH B p d n P D L s half j b nm uv dir XT dir l w h O hd Z (Zew.2 U) h2 C h3 (Zy ⟨rfl,rfl⟩) F J
def Z72(B p d:Nat)(P:Pw)(D:Dk)(L:Qj)(w:Qs)(h:PD B w p d 800 P D L)(ht:Ty w)(hr:WV P D≠0):Calls prog 62 #[d] w λe w'=>∃ev,e=.returned (.tuple #[.pointer none,ev])/\QK w' w (WV P D) ev/\Below w w w':=by have H:=ZX h ht hr;go_enter func62,ntmps62;go_wp2_with fail;refine(G6 B p d P D L w H.1).mono ?_;rintro e w1 ⟨s,b,rfl,ah,ak,aq,ae,C⟩;have c2:=ah.c2;have aj:=C.size;have M:=ZI C;have ag:=Z3d B p d 800 P D L 100 w1 (H.1.after C) (H.2.below C) Qw Qw H.3;have U:=ZI ag;go_wp2_with fail;refine U.o.mono ?_;rintro e w2 ⟨bb,rfl,he,F⟩;have ai:Ty w2:=(H.2.below M.o).below F;have O:=ZM he F;have au:=F.size;go_wp2_with fail;refine(IN _ _ _ _ O.1 ai).mono ?_;rintro e w3 ⟨v3,rfl,af,Z⟩;have J:=ZM af Z;go_wp2;go_ret2;exact⟨_,rfl,J.1.base Qw,(M.o.trans (O.2.mono aj)).trans (J.2.mono Qw)⟩
def Z73(B p d:Nat)(P:Pw)(D:Dk)(L:Qj)(w:Qs)(h:PD B w p d 800 P D L)(ht:Ty w)(hr:WV P D=0)(ha:(D.text 0 100).getD 0 0≠1)(af:(D.text 100 100).getD 0 0≠1):Calls prog 62 #[d] w λe w'=>∃ev,e=.returned (.tuple #[.pointer none,ev])/\QK w' w 15 ev/\Below w w w':=by have H:=ZZ h ht hr ha af;go_enter func62,ntmps62;go_wp2_with fail;refine(G6 B p d P D L w H.1).mono ?_;rintro e w1 ⟨s,b,rfl,ai,aq,au,ae,C⟩;have c2:=ai.c2;have ak:=C.size;have M:=ZI C;have ah:=Z3e B p d 800 P D L 100 w1 (H.1.after C) Qw Qw H.3 H.4 H.5;have U:=ZI ah;go_wp2_with fail;refine U.o.mono ?_;rintro e w2 ⟨bb,rfl,he,F⟩;have aj:Ty w2:=(H.2.below M.o).below F;have O:=ZM he F;have aw:=F.size;go_wp2_with fail;refine(IN _ _ _ _ O.1 aj).mono ?_;rintro e w3 ⟨v3,rfl,ag,Z⟩;have J:=ZM ag Z;go_wp2;go_ret2;exact⟨_,rfl,J.1.base Qw,(M.o.trans (O.2.mono ak)).trans (J.2.mono Qw)⟩
structure OpS(w:Qs)(s b g d j:Nat)(J:Jn)(ts:Qk)(dir:Dir)(wr:Qs):Prop where
 row:∃uv,Row wr s 157 [d,j,(100:Int),.map (some b),uv,false]/\BV wr uv (YA 800 100 dir)
 dir:Yh wr b dir.length dir
 jn:JAt wr j d J
 txt:Row wr g 9 ts
 bel:Below w w wr
def Z76(B p d:Nat)(P:Pw)(D:Dk)(L:Qj)(S:Sto)(Zau:List Rec)(w:Qs)(h:PD B w p d 800 P D L)(hr:WV P D=0)(hi:Wf 800 100 D.reads S Zau)(he:S.j.Zar<=3000000000)(fc:Zau≠[]):Calls prog 62 #[d] w λe w'=>∃s,e=.returned (.tuple #[(s:Nat),.nilIface])/\Ab w w' s d S/\Below w w w':=by
 have ct:JRd D S.j (Zau.map Rec.enc):=PC h.ok hi.img (by rw[hi.ZaP];omega) (by rw[hi.ZaP];omega) he (λr hr=>by
  obtain⟨x,hx,rfl⟩:=Zz.1 hr
  exact hi.small x hx) hi.open_
 have H:=ZX h hr ct;have Z:=ZI hi;have ez:=hi.ZaP;have fa:0<Zau.length:=Zew.2 fc;have fj:Zau.length<=1000:=by have h1:=ct.fits;have h2:=Lk (Zau.map Rec.enc);rw[Zf] at h2;omega
 clear h hr hi ct;go_enter func62,ntmps62;go_wp2_with fail;refine(G6 B p d P D L w H.1).mono ?_;rintro e w1 ⟨s,b,rfl,cu,dj,ef,az,bq⟩;have c2:=cu.c2;have fe:=bq.size;have S1:=ZZ cu dj ef az bq;have cr:=PI B p d 800 P D L S.j (Zau.map Rec.enc) w1 (H.1.after bq) Qw Qw H.2 H.3;rw[ez,show((2*100:Nat):Int)=200 from rfl] at cr;have eo:=ZI cr;clear cr cu dj ef az bq c2;have c2:=S1.1.c2;go_wp2_with fail;refine eo.o.mono ?_;rintro e w2 ⟨jv,lv,rfl,⟨j,rfl,dw,cn⟩,hown,hb2⟩;obtain⟨g,cap,sp,rfl,du,_,_,cy⟩:=Xf hown QB;rw[Zf];have U:=S1.1.after hb2;have cj:=S1.2.after hb2;have f12:=U.free (j:=1) Qx;have fh:=U.c1;have fi:=U.c3;have af:Below w w w2:=S1.5.trans (hb2.mono fe);obtain⟨w3,dh⟩:=ZL (w2.setCell ⟨s,1,none⟩ (.pointer j));have bg:Fr [s] w2 w3:=by rw[dh];exact(Fr.refl _ _).setCell (Zv Qx) _
 have ne2:∀{g:Nat} {M:Qu} {l:Qk},M≠157->Row w2 g M l->g∉[s]:=λhet hl hm=>by rw[Z6] at hm;subst hm;exact het (Xr hl U)
 have cw:Row w3 s 157 [d,j,(100:Int),.map (some b),(),false]:=by rw[dh];exact U.set 1 _
 have dx:JAt w3 j d S.j:=Row.fr cn bg (ne2 Qx cn);have dt:=cy.fr bg (ne2 Qx cy);have bz:b∉[s]:=λhm=>by rw[Z6] at hm;obtain⟨fv,m1,_⟩:=cj;obtain⟨es,cl,hb⟩:=m1.block;subst hm;exact Aj U hb
 have dm:Yh w3 b 0 []:=cj.fr bg bz (λk hk l hl=>ne2 Qx hl hk);have au:Below w w w3:=af.trans (bg.below af.size (λi hi=>by rw[Z6] at hi;subst hi;exact S1.3));have ew:=cw.c3;have F:=Q1 cw dx dt dm au dw du;have fm:=hb2.size;have HW:=ZI dh;have ek:=ZI bz;clear U cj cw dx dt dm au af dw cn hown cy du bg ne2 bz hb2;go_wp2_with (go_at_call 94;rw[<-HW.o];refine(Gh B p d 800 P D L s 100 b 0 [] _ (H.1.after F.5) F.1.c0 F.1.c2 F.4 Fp Qw).mono ?_;rintro r w9 ⟨fp,rfl,⟨g9,rfl,ee⟩,ay⟩;have R9:=F.1.after ay;have f49:=R9.free (j:=4) Qx;have d49:=R9.c4;have J:=ZX R9 ee ay;clear ay R9 ee);have ag:Fr [s] w9 (w9.setCell ⟨s,4,none⟩ (.slice g9 (YA 800 100 []).length (YA 800 100 []).length)):=(Fr.refl _ _).setCell (Zv Qx) _;have bj:∀{g:Nat} {M:Qu} {l:Qk},M≠157->Row w9 g M l->g∉[s]:=λhet hl hm=>by rw[Z6] at hm;subst hm;exact het (Xr hl J.1)
 obtain⟨ts,de⟩:=ZK (QS ((Zau.map Rec.enc).map str)++sp);have eh:∀k,k<Zau.length->ts[k]? =some (.string (str (Zau.getD k (.all [])).enc)):=λk hk=>by rw[<-de,Za (by simp[QS];omega)];simp only[QS,Ze8,Z8 hk,ZeO,Z7,Ze7]
 have ay:=F.5.trans (J.3.mono F.5.size);have O0:OpS w s b g d j S.j ts [] (w9.setCell ⟨s,4,none⟩ (.slice g9 (YA 800 100 []).length (YA 800 100 []).length)):=
  ⟨⟨_,J.1.set 4 _,g9,rfl,J.2.fr ag (bj Qx J.2)⟩,
   (F.4.after J.3).fr ag ek.o (λk hk l hl=>bj Qx hl hk),
   Row.fr (F.2.after J.3) ag (bj Qz (F.2.after J.3)),
   by rw[<-de];exact(F.3.after J.3).fr ag (bj Qz (F.3.after J.3)),
   ay.setCell (p:=⟨s,4,none⟩) S1.3 _⟩
 generalize (w9.setCell ⟨s,4,none⟩ (.slice g9 (YA 800 100 []).length (YA 800 100 []).length))=fq at*
 have HO:=ZI O0;have er:=ZI eh;clear O0 ag bj de eh ay f49 d49 ew;go_loopw [51] (λkv wr=>∃k:Nat,k<=Zau.length/\kv=(k:Int)/\OpS w s b g d j S.j ts ((Zau.take k).foldl Rec.app []) wr) (λkv _=>Zau.length- (intOf kv).toNat)
 .exact⟨0,Qw,rfl,HO.o⟩
 obtain⟨k,hk,rfl,C⟩:=hrel;by_cases bh:k<Zau.length
 .have bf:=C.txt.cell (er.o k bh);obtain⟨rc,aj⟩:=ZK (Zau.getD k (.all []));rw[aj] at bf;have cz:rc∈Zau:=by rw[<-aj,Z7,Z8 bh];exact Zl bh
  have ak:(Zau.take (k+1)).foldl Rec.app []=Rec.app ((Zau.take k).foldl Rec.app []) rc:=by rw[Zc bh,Zeh,<-aj,Z7,Z8 bh];rfl
  have bu:=Z.o.pre (k+1) Qw;rw[ak] at bu;have dq:=Z.o.few k Qw;obtain⟨dk,dp⟩:=ZK ((Zau.take k).foldl Rec.app []);rw[dp] at bu dq C ak;obtain⟨uv,O,df⟩:=C.row;have dz:=H.1.after C.bel;have aw:=Z7d B p d 800 P D L s 100 j b dk.length uv dk rc wr dz O C.dir Qw Qw (Z.o.Zau rc cz) bu (Z.o.small rc cz);have HC:=ZI aw;have HK:=ZN ak C O;clear aw dz O df C dp aj ak bu dq cz;go_wp2_with (go_at_call 109;refine HC.o.mono ?_;rintro r ft ⟨rfl,⟨fg,fo,ai,ah,aq⟩,ae⟩;have eu:=ZO ai ah aq ae;clear ai ah aq ae);go_roundw
  .refine⟨k+1,Qw,QC,?_⟩;rw[HK.1];obtain⟨ai,ah,aq,ae⟩:=eu.o;obtain⟨_,C,O⟩:=HK.o;have dy:∀{g:Nat} {M:Qu} {l:Qk},M≠157->Row wr g M l->g∉[s,b]:=λhet hl hm=>by
    simp only[Zk,ZdG,ZgN] at hm;rcases hm with rfl|rfl
    .exact het (Xr hl O)
    .obtain⟨fv,m1,_⟩:=C.dir;obtain⟨es,cl,ey⟩:=m1.block;exact Aj hl ey
   exact⟨⟨fg,ai,aq⟩,ah.tight,Row.fr C.jn ae (dy Qz C.jn),C.txt.fr ae (dy Qz C.txt),C.bel.trans (ae.below C.bel.size (λi hi=>by
    simp only[Zk,ZdG,ZgN] at hi;rcases hi with rfl|rfl
    .exact S1.3
    .exact S1.4))⟩
  simp[intOf];omega
 .obtain rfl:k=Zau.length:=by omega
  rw[Zs,Z.o.dir] at C;have bm:=ZI C;clear C;go_wp2_with fail;go_ret2;obtain⟨uv,O,df⟩:=bm.o.row;refine⟨s,rfl,⟨S1.3,j,b,uv,?_,by rw[Z.o.hh];exact O,bm.o.jn,bm.o.dir,by rw[Z.o.used];exact df⟩,bm.o.bel⟩;have:=F.6;omega
def Z74(B p d:Nat)(P:Pw)(D:Dk)(L:Qj)(S:Sto)(w:Qs)(h:PD B w p d 800 P D L)(hr:WV P D=0)(hi:Wf 800 100 D.reads S [])(he:S.j.Zar<=3000000000):Calls prog 62 #[d] w λe w'=>∃s,e=.returned (.tuple #[(s:Nat),.nilIface])/\Ab w w' s d S/\Below w w w':=by
 have cj:JRd D S.j ([].map Rec.enc):=PC h.ok hi.img (by rw[hi.ZaP];omega) (by rw[hi.ZaP];omega) he (λr hr=>by cases hr) hi.open_;have H:=ZX h hr cj;have HI:=ZI hi;have cz:=hi.ZaP;clear h hr hi cj;go_enter func62,ntmps62;go_wp2_with fail;refine(G6 B p d P D L w H.1).mono ?_;rintro e w1 ⟨s,b,rfl,aw,bh,cr,ag,ak⟩;have c2:=aw.c2;have S1:=ZZ aw bh cr ag ak;have au:=PI B p d 800 P D L S.j ([].map Rec.enc) w1 (H.1.after ak) Qw Qw H.2 H.3;rw[cz,show((2*100:Nat):Int)=200 from rfl] at au;have cu:=ZI au;clear au aw bh cr ag ak;go_wp2_with fail;refine cu.o.mono ?_;rintro e w2 ⟨jv,lv,rfl,⟨j,rfl,bq,bu⟩,ai,hb2⟩;obtain⟨la,lc,rfl⟩:∃la lc,lv=.slice la 0 lc:=by
  rcases ai.2 with ⟨h9,_⟩|⟨g,cap,cur,h9,_⟩
  .exact⟨_,_,h9⟩
  .exact⟨_,_,h9⟩
 have O:=S1.1.after hb2;have bj:=S1.2.after hb2;have f12:=O.free (j:=1) Qx;have de:=O.c1;have df:=O.c3;have ct:=S1.5.trans (hb2.mono S1.5.size);have F:=ZZ O bj bu ct bq;clear O bj bq bu ai hb2 ct c2;obtain⟨w3,aj⟩:=ZL (w2.setCell ⟨s,1,none⟩ (.pointer j));have ne2:∀{g:Nat} {U:Qu} {l:Qk},U≠157->Row w2 g U l->g∉[s]:=λhet hl hm=>by rw[Z6] at hm;subst hm;exact het (Xr hl F.1)
 have Z:Fr [s] w2 w3:=by rw[aj];exact(Fr.refl _ _).setCell (Zv Qx) _
 have ay:Row w3 s 157 [d,j,(100:Int),.map (some b),(),false]:=by rw[aj];exact F.1.set 1 _
 have aq:b∉[s]:=λhm=>by rw[Z6] at hm;obtain⟨fv,m1,_⟩:=F.2;obtain⟨es,cl,hb⟩:=m1.block;subst hm;exact Aj F.1 hb
 have bm:Yh w3 b 0 []:=F.2.fr Z aq (λk hk l hl=>ne2 Qx hl hk);have bz:JAt w3 j d S.j:=Row.fr F.3 Z (ne2 Qx F.3);have bg:Below w w w3:=F.4.trans (Z.below F.4.size (λi hi=>by rw[Z6] at hi;subst hi;exact S1.3));have cy:=ay.c3;have C:=ZZ ay bm bz bg aq;have cw:=ZI aj;clear ay bm bz bg aq Z ne2 aj;go_wp2_with (go_at_call 94;rw[<-cw.o];refine(Gh B p d 800 P D L s 100 b 0 [] _ (H.1.after C.4) C.1.c0 C.1.c2 C.2 Fp Qw).mono ?_;rintro r w9 ⟨dh,rfl,⟨g9,rfl,cn⟩,M⟩;have R9:=C.1.after M;have f49:=R9.free (j:=4) Qx;have d49:=R9.c4;have J:=ZX R9 cn M;clear M R9 cn);obtain⟨bf,af⟩:=ZL (w9.setCell ⟨s,4,none⟩ (.slice g9 (YA 800 100 []).length (YA 800 100 []).length));rw[<-af];have HW:=ZI af;clear af f49 d49 cy;go_loopw [51] (λkv wr=>kv=(0:Int)/\wr=bf) (λ_ _=>0)
 .exact⟨rfl,rfl⟩
 obtain⟨rfl,rfl⟩:=hrel;go_wp2_with fail;go_ret2;have ae:Fr [s] w9 wr:=by rw[HW.o];exact(Fr.refl _ _).setCell (Zv Qx) _
 have az:∀{g:Nat} {U:Qu} {l:Qk},U≠157->Row w9 g U l->g∉[s]:=λhet hl hm=>by rw[Z6] at hm;subst hm;exact het (Xr hl J.1)
 have ah:S.dir=[]:=HI.o.dir.symm;have M:=C.4.trans (J.3.mono C.4.size);refine⟨s,rfl,⟨S1.3,j,b,_,?_,by rw[HI.o.hh,HW.o];exact J.1.set 4 _,Row.fr (C.3.after J.3) ae (az Qz (C.3.after J.3)),by rw[ah];exact(C.2.after J.3).fr ae C.5 (λk hk l hl=>az Qx hl hk),by rw[HI.o.used,ah];exact⟨g9,rfl,J.2.fr ae (az Qx J.2)⟩⟩,?_⟩
 .have:=F.5;have:=S1.5.size;omega
 .rw[HW.o];exact M.setCell (p:=⟨s,4,none⟩) S1.3 _
def TF(B p d:Nat)(P:Pw)(D:Dk)(L:Qj)(S:Sto)(Zau:List Rec)(w:Qs)(h:PD B w p d 800 P D L)(F:WV P D=0)(hi:Wf 800 100 D.reads S Zau)(he:S.j.Zar<=3000000000):Calls prog 62 #[d] w λe w'=>∃s,e=.returned (.tuple #[(s:Nat),.nilIface])/\Ab w w' s d S/\Below w w w':=by
 by_cases C:Zau=[]
 .subst C;exact Z74 B p d P D L S w h F hi he
 .exact Z76 B p d P D L S Zau w h F hi he C
variable{B i p:Nat}{L O X Y bl:List Nat}{Ls Os:Nat->List Nat}{M:Option Sto}{P:Pw}{S:Sto}{e:TypeId}{l:List Value}{ts us:List TypeId}{w1:World}
def QL(w:Qs)(X:Qj)(ts:List Qu):Prop:=∀k∈X,∃cs e fr,w.heap[k]? =some (.cells cs e fr)/\e∈ts
def QL.Zap(h:QL w X ts){g:Nat}{e:Qu}{l:Qk}(C:Row w g e l)(he:e∉ts):g∉X:=λhm=>by have⟨cs,F,fr,hh,hi⟩:=h g hm;have⟨f,J,_⟩:=C;simp_all
def QL.Zb9(h:QL w X ts){g:Nat}{es:Array MapEntry}{C:Nat}(J:w.heap[g]? =some (.map es C)):g∉X:=λhm=>by have⟨cs,F,fr,hh,hi⟩:=h g hm;simp_all
def QL.Zb5(h:QL w X ts)(k:QL w Y us)(hd:∀e∈ts,e∉us):∀i∈X,i∉Y:=λi hi C=>by have⟨cs,e,fr,hh,he⟩:=h i hi;have⟨F,e',J,Z,U⟩:=k i C;simp_all
def QL.mono(h:QL w X ts)(C:∀i∈Y,i∈X)(J:∀e∈ts,e∈us):QL w Y us:=λk F=>by have⟨cs,e,fr,hh,he⟩:=h k (C k F);exact⟨cs,e,fr,hh,J e he⟩
def QL.append(h:QL w X ts)(k:QL w Y ts):QL w (X++Y) ts:=λi hi=>by
 rcases Zj.1 hi with hi|hi
 .exact h i hi
 .exact k i hi
theorem QL.row(h:Row w g e l)(he:e∈ts):QL w [g] ts:=λk F=>by have⟨f,C,_⟩:=h;grind
def QL.cons(C:Row w g e l)(he:e∈ts)(h:QL w X ts):QL w (g::X) ts:=(QL.row C he).append h
theorem QL.lt(h:QL w X ts):∀k∈X,k<w.heap.size:=λk C=>by have⟨cs,e,fr,hh,he⟩:=h k C;grind
def FE:List Qu:=[109,5,194]
def Az:List Qu:=112::FE
def AX:List Qu:=[157,225,91]
def J9:List Qu:=78::(Az++AX)
def PD.Zb3(h:PD B w p d n P D L):QL w L FE:=by
 obtain⟨gh,v,rfl,F⟩:=h.dk;intro k C;simp[YV] at C;rcases C with rfl|rfl|C
 .have⟨f,J,_⟩:=F.top;exact⟨_,_,_,J,Qz⟩
 .have:=F.bytes;unfold Y2 at this;exact⟨_,_,_,this,Qz⟩
 .rcases F.late.2 with ⟨hv,_⟩|⟨U,cap,cur,hv,_,hh,_⟩
  .rw[hv] at C;cases C
  .rw[hv] at C;simp[Value.ownBlock] at C;subst C;exact⟨_,_,_,hh,Qz⟩
def PD.typed(h:PD B w p d n P D L):QL w (p::L) Az:=QL.cons h.pw Qz (h.Zb3.mono (λ_ hi=>hi) (λe he=>by unfold Az;exact Zh _ he))
def PD.Zay{P':Pw}(h:PD B w p d n P D L){X:Qj}(J:Fr X w w')(C:∀k∈L,k∉X)(Z:Y6 w' p P')(pok:P'.ok):PD B w' p d n P' D L:=by obtain⟨gh,v,rfl,F⟩:=h.dk;exact⟨Z,pok,⟨gh,v,rfl,F.fr J (C _ Qx) (C _ Qx) (λg U=>C _ (by simp[YV,U]))⟩,h.ok,h.bp,h.bL⟩
def WI(w:Qs)(s j d:Nat)(S:Sto):Prop:=∃b uv,Row w s 157 [d,j,(S.half:Int),.map (some b),uv,false]/\JAt w j d S.j/\Yh w b S.dir.length S.dir/\BV w uv S.used
def WI.at_{j:Nat}(h:WI w s j d S):Wo w s d S:=by have⟨b,uv,h⟩:=h;exact⟨j,b,uv,h⟩
def Ab.j(h:Ab B w s d S):B<=s/\∃j,B<=j/\WI w s j d S:=by have⟨C,j,b,uv,F,h⟩:=h;exact⟨C,j,F,b,uv,h⟩
def WI.fr{j:Nat}(h:WI w s j d S){X:Qj}{ts:List Qu}(C:Fr X w w')(F:QL w X ts)(Z:197∉ts)(h2:4∉ts)(hs:s∉X)(hj:j∉X):WI w' s j d S:=by
 have⟨b,uv,r1,r2,J,g,hv,r4⟩:=h;have U:b∉X:=by have⟨fv,m1,_⟩:=J;have⟨es,cl,hb⟩:=m1.block;exact F.Zb9 hb
 exact⟨b,uv,r1.fr C hs,Row.fr r2 C hj,J.fr C U (λk hk l hl=>F.Zap hl Z hk),g,hv,r4.fr C (F.Zap r4 h2)⟩
def Ct(w:Qs)(x d:Nat)(D:Dk):Option Sto->List Nat->Prop
 |some S,O=>∃s j,O=[x,s,j]/\Row w x 91 [.pointer (some ⟨d,0,none⟩),.pointer (some ⟨s,0,none⟩),.int .i64 D.Zaq,.bool true]/\WI w s j d S/\D.dead=false
 |none,O=>∃sv lf inn,O=[x]/\Row w x 91 [.pointer (some ⟨d,0,none⟩),sv,.int .i64 lf,.bool inn]/\(inn=true->lf<D.Zaq)
def Ct.typed(h:Ct w x d D M O):QL w O AX:=by
 cases M with
 |none=>obtain⟨sv,lf,inn,rfl,C,_⟩:=h;exact QL.row C Qz
 |some S=>obtain⟨s,j,rfl,C,⟨b,uv,F,J,_⟩,_⟩:=h;exact QL.cons C Qz (QL.cons F Qz (QL.row J Qz))
def Ct.fr(h:Ct w x d D M O){X:Qj}{ts:List Qu}(F:Fr X w w')(ht:QL w X ts)(U:197∉ts)(Z:4∉ts)(C:∀k∈O,k∉X):Ct w' x d D M O:=by
 cases M with
 |none=>obtain⟨sv,lf,inn,rfl,J,hi⟩:=h;exact⟨sv,lf,inn,rfl,J.fr F (C _ Qx),hi⟩
 |some S=>obtain⟨s,j,rfl,J,hs,hd⟩:=h;exact⟨s,j,rfl,J.fr F (C _ Qx),hs.fr F ht U Z (C _ Qx) (C _ Qx),hd⟩
def upd{α:Type}(f:Nat->α)(i:Nat)(a:α):Nat->α:=λj=>if j=i then a else f j
def QX{α:Type}(f:Nat->α)(i:Nat)(a:α):upd f i a i=a:=by simp[upd]
def QP{α:Type}(f:Nat->α){i j:Nat}(a:α)(h:j≠i):upd f i a j=f j:=by simp[upd,h]
structure Eg where
 n:Nat
 p:Nat
 s:Nat
 ms:Nat
 cap:Nat
 xs:Nat->Nat
 ds:Nat->Nat
structure Ev where
 k:Nat
 m:Nat
 gen:Int
 P:Pw
 Ds:Nat->Dk
 Ms:Nat->Option Sto
def Wv(n:Nat)(xs:Nat->Nat):Qk:=(List.range n).map λi=>.pointer (some ⟨xs i,0,none⟩)
def BF(n:Nat)(xs:Nat->Nat)(i:Nat)(h:i<n):(Wv n xs)[i]? =some (.pointer (some ⟨xs i,0,none⟩)):=by simp[Wv,h]
def BG(n:Nat)(xs:Nat->Nat):(Wv n xs).length=n:=by simp[Wv]
structure YJ(B:Nat)(w:Qs)(G:Eg)(V:Ev)(Ls Os:Nat->List Nat):Prop where
 set:Row w G.s 78 [(V.k:Int),(V.m:Int),.slice (some ⟨G.ms,0,none⟩) G.n G.cap,(V.gen:Int),false]
 mem:∃sp,Row w G.ms 92 (Wv G.n G.xs++sp)
 n1:1<=G.n
 n16:G.n<=16
 pd:∀i,i<G.n->PD B w G.p (G.ds i) 800 V.P (V.Ds i) (Ls i)
 dap:∀i j,i<G.n->j<G.n->i≠j->∀k∈Ls i,k∉Ls j
 at_:∀i,i<G.n->Ct w (G.xs i) (G.ds i) (V.Ds i) (V.Ms i) (Os i)
 oap:∀i j,i<G.n->j<G.n->i≠j->∀k∈Os i,k∉Os j
 bO:∀i,i<G.n->∀k∈Os i,B<=k
 bs:B<=G.s
def Wx(G:Eg)(Ls Os:Nat->List Nat):Qj:=G.s::((List.range G.n).flatMap Ls++(List.range G.n).flatMap Os)
def WL{G:Eg}{k:Nat}:k∈Wx G Ls Os↔k=G.s∨(∃i,i<G.n/\k∈Ls i)∨∃i,i<G.n/\k∈Os i:=by unfold Wx;simp
def EAt(B:Nat)(w:Qs)(G:Eg)(V:Ev)(bl:Qj):Prop:=∃Ls Os,bl=Wx G Ls Os/\YJ B w G V Ls Os
def QG(B:Nat)(G:Eg)(bl:Qj)(V:Ev)(w w':Qs):Prop:=∃bl',EAt B w' G V bl'/\(∀k∈bl',k∈bl∨w.heap.size<=k)/\Fr (G.p::bl) w w'
section
variable{G:Eg}{V:Ev}
def YJ.pw(h:YJ B w G V Ls Os):Y6 w G.p V.P:=(h.pd 0 h.n1).pw
def YJ.typed(h:YJ B w G V Ls Os):QL w (G.p::Wx G Ls Os) J9:=by
 intro k C;rcases Zk.1 C with rfl|C
 .have⟨f,F,_⟩:=h.pw;exact⟨_,_,_,F,Qz⟩
 .rcases WL.1 C with rfl|⟨i,hi,C⟩|⟨i,hi,C⟩
  .have⟨f,F,_⟩:=h.set;exact⟨_,_,_,F,Qz⟩
  .exact(h.pd i hi).Zb3.mono (us:=J9) (λ_ hi=>hi) Qz k C
  .exact(h.at_ i hi).typed.mono (us:=J9) (λ_ hi=>hi) Qz k C
def EAt.typed(h:EAt B w G V bl):QL w (G.p::bl) J9:=by obtain⟨Ls,Os,rfl,h⟩:=h;exact h.typed
def EAt.Zap(h:EAt B w G V bl){g:Nat}{e:Qu}{l:Qk}(C:Row w g e l)(he:e∉J9):g∉G.p::bl:=h.typed.Zap C he
def EAt.ge(h:EAt B w G V bl):∀k∈G.p::bl,B<=k:=by
 obtain⟨Ls,Os,rfl,h⟩:=h;intro k C;rcases Zk.1 C with rfl|C
 .exact(h.pd 0 h.n1).bp
 .rcases WL.1 C with rfl|⟨i,hi,C⟩|⟨i,hi,C⟩
  .exact h.bs
  .exact(h.pd i hi).bL k C
  .exact h.bO i hi k C
def EAt.bw(h:EAt B w G V bl):B<=w:=Zq (h.ge G.p Qx) (ZeK (h.typed.lt G.p Qx))
def YJ.fr(h:YJ B w G V Ls Os){X:Qj}{ts:List Qu}(C:Fr X w w')(J:QL w X ts)(U:197∉ts)(Z:4∉ts)(h3:92∉ts)(hX:∀k∈G.p::Wx G Ls Os,k∉X):YJ B w' G V Ls Os:=by
 have hb:∀k∈Wx G Ls Os,k∉X:=QB;have⟨sp,hm⟩:=h.mem;refine⟨h.set.fr C (hb _ (by simp[Wx])),⟨sp,hm.fr C (J.Zap hm h3)⟩,h.n1,h.n16,λi hi=>(h.pd i hi).fr C (λk F hm=> ?_),h.dap,λi hi=>(h.at_ i hi).fr C J U Z (λk F=>hb k (WL.2 (Zy (Zy ⟨i,hi,F⟩)))),h.oap,h.bO,h.bs⟩;rcases Zk.1 hm with rfl|hm
 .simp_all
 .exact hb k (WL.2 (Zy (Zv ⟨i,hi,hm⟩))) F
def EAt.fr(h:EAt B w G V bl){X:Qj}{ts:List Qu}(Z:Fr X w w')(ht:QL w X ts)(C:197∉ts)(F:4∉ts)(J:92∉ts)(U:∀k∈G.p::bl,k∉X):EAt B w' G V bl:=by obtain⟨Ls,Os,rfl,h⟩:=h;exact⟨Ls,Os,rfl,h.fr Z ht C F J U⟩
def EAt.after(h:EAt B w G V bl)(hb:Below w w w'):EAt B w' G V bl:=h.fr (Z1 (L:=[]) hb) (ts:=[]) (λk C=>by cases C) Qx Qx Qx Qx
def EAt.setCell(h:EAt B w G V bl){a:Addr}{e:Qu}{l:Qk}(C:Row w a.block e l)(he:e∉J9)(J:e≠197)(U:e≠4)(Z:e≠92)(v:Qt):EAt B (w.setCell a v) G V bl:=h.fr (X:=[a.block]) (ts:=[e]) ((Fr.refl _ _).setCell (Zv Qx) v) (QL.row C Qx) QA QA QA (λk F hm=>by rw[Z6] at hm;subst hm;exact h.Zap C he F)
def QG.same(h:EAt B w G V bl)(hb:Below w w w'):QG B G bl V w w':=⟨bl,h.after hb,λk C=>Zv C,Z1 hb⟩
theorem QG.trans{Z F:Ev}{w2:Qs}{C:Qj}(J:EAt B w1 G Z C/\(∀k∈C,k∈bl∨w.heap.size<=k)/\Fr (G.p::bl) w w1)(h2:QG B G C F w1 w2):QG B G bl F w w2:=by
 have⟨U,e2,g2,f2⟩:=h2;refine⟨U,e2,λk hk=> ?_,J.2.2.trans f2 (λi hi ae=> ?_)⟩
 .rcases g2 k hk with h|h
  .simp_all
  .exact Zy (Zq J.2.2.size h)
 .grind
def QG.after{C:Ev}(h:QG B G bl C w w1)(hb:Below w1 w1 w'):QG B G bl C w w':=by have⟨F,e1,g1,f1⟩:=h;exact⟨F,e1.after hb,g1,f1.trans (Z1 (L:=[]) hb) Qx⟩
def QG.from{C:Ev}{w0:Qs}(h:QG B G bl C w w')(hb:Below w0 w0 w):QG B G bl C w0 w':=by have⟨F,e1,g1,f1⟩:=h;exact⟨F,e1,λk J=>(g1 k J).imp id (λh=>Zq hb.size h),(Z1 (L:=G.p::bl) hb).trans f1 (λi hi _=>hi)⟩
def QG.row{F:Ev}(h:QG B G bl F w w')(J:EAt B w G V bl){g:Nat}{e:Qu}{l:Qk}(C:Row w g e l)(he:e∉J9):Row w' g e l:=by have⟨U,e1,g1,f1⟩:=h;exact C.fr f1 (J.Zap C he)
def QG.below{F:Ev}(h:QG B G bl F w w')(C:EAt B w G V bl):Below B w w':=by have⟨J,e1,g1,f1⟩:=h;exact f1.below C.bw C.ge
theorem Gy{H:Nat}{F:Nat->List Nat}{N:Qj}(h:∀a b,a<n->b<n->a≠b->∀k∈F a,k∉F b)(U:∀a,a<n->∀k∈F a,k<H)(hi:i<n)(Z:∀k∈N,k∈F i∨H<=k):∀a b,a<n->b<n->a≠b->∀k∈upd F i N a,k∉upd F i N b:=by
 intro a b ha hb J k C;by_cases ea:a=i
 .subst ea;rw[QX] at C;rw[QP _ _ J.symm];grind
 .rw[QP _ _ ea] at C;by_cases eb:b=i
  .subst eb;rw[QX];grind
  .rw[QP _ _ eb];exact h a b ha hb J k C
theorem YJ.ZbW(h:YJ B w G V Ls Os){i:Nat}(hi:i<G.n){X:Qj}{P':Pw}{D':Dk}{M':Option Sto}{L' O':Qj}(J:Fr (X++G.p::Ls i) w w')(af:QL w X AX)(aj:∀j,j<G.n->j≠i->∀k∈Os j,k∉X)(Z:PD B w' G.p (G.ds i) 800 P' D' L')(hM:Ct w' (G.xs i) (G.ds i) D' M' O')(hL:∀k∈L',k∈Ls i∨w.heap.size<=k)(hO:∀k∈O',k∈Os i∨w.heap.size<=k):YJ B w' G {V with P:=P',Ds:=upd V.Ds i D',Ms:=upd V.Ms i M'} (upd Ls i L') (upd Os i O'):=by
 have:B<=w:=EAt.bw ⟨Ls,Os,rfl,h⟩;have U:QL w (X++G.p::Ls i) (Az++AX):=(af.mono (λ_ h=>h) (λe he=>Zf8 _ he)).append ((h.pd i hi).typed.mono (λ_ h=>h) (λe he=>Zen _ he));have ah:∀j,j<G.n->j≠i->∀k∈Ls j,k∉X++G.p::Ls i:=λj C ag k F hm=>by
  rcases Zj.1 hm with hm|hm
  .exact af.Zb5 ((h.pd j C).Zb3) Qz k hm F
  .rcases Zk.1 hm with rfl|hm
   .exact(h.pd j C).Zb3.Zap (h.pd i hi).pw Qz F
   .exact h.dap j i C hi ag k F hm
 have ai:∀j,j<G.n->j≠i->∀k∈Os j,k∉X++G.p::Ls i:=λj C ag k F hm=>by
  rcases Zj.1 hm with hm|hm
  .grind
  .exact(h.at_ j C).typed.Zb5 (h.pd i hi).typed Qz k F hm
 have⟨sp,ae⟩:=h.mem;refine⟨h.set.fr J (U.Zap h.set Qz),⟨sp,ae.fr J (U.Zap ae Qz)⟩,h.n1,h.n16,λj C=> ?_,Gy h.dap (λa ha=>(h.pd a ha).Zb3.lt) hi hL,λj C=> ?_,Gy h.oap (λa ha=>(h.at_ a ha).typed.lt) hi hO,λj C k F=> ?_,h.bs⟩
 .by_cases e:j=i
  .subst e;simp[QX];exact Z
  .simp[QP _ _ e];exact(h.pd j C).Zay J (ah j C e) Z.pw Z.pok
 .by_cases e:j=i
  .subst e;simp[QX];exact hM
  .simp[QP _ _ e];exact(h.at_ j C).fr J U Qz Qz (ai j C e)
 .by_cases e:j=i
  .subst e;rw[QX] at F;rcases hO k F with h1|h1
   .exact h.bO j C k h1
   .omega
  .rw[QP _ _ e] at F;exact h.bO j C k F
def VR{L' O':Qj}(J:∀k∈L',k∈Ls i∨w.heap.size<=k)(U:∀k∈O',k∈Os i∨w.heap.size<=k):∀k∈Wx G (upd Ls i L') (upd Os i O'),k∈Wx G Ls Os∨w.heap.size<=k:=by
 intro k h;rcases WL.1 h with rfl|⟨j,C,h⟩|⟨j,C,h⟩
 .exact Zv (by simp[Wx])
 .by_cases e:j=i
  .subst e;rw[QX] at h;exact(J k h).imp (λF=>WL.2 (Zy (Zv ⟨j,C,F⟩))) id
  .rw[QP _ _ e] at h;exact Zv (WL.2 (Zy (Zv ⟨j,C,h⟩)))
 .by_cases e:j=i
  .subst e;rw[QX] at h;exact(U k h).imp (λF=>WL.2 (Zy (Zy ⟨j,C,F⟩))) id
  .rw[QP _ _ e] at h;exact Zv (WL.2 (Zy (Zy ⟨j,C,h⟩)))
def YJ.step(h:YJ B w G V Ls Os){i:Nat}(hi:i<G.n){X:Qj}{P':Pw}{D':Dk}{M':Option Sto}{L' O':Qj}(Z:Fr (X++G.p::Ls i) w w')(F:∀k∈X,k∈Os i)(hp:PD B w' G.p (G.ds i) 800 P' D' L')(hM:Ct w' (G.xs i) (G.ds i) D' M' O')(J:∀k∈L',k∈Ls i∨w.heap.size<=k)(U:∀k∈O',k∈Os i∨w.heap.size<=k):QG B G (Wx G Ls Os) {V with P:=P',Ds:=upd V.Ds i D',Ms:=upd V.Ms i M'} w w':=by
 refine⟨_,⟨_,_,rfl,h.ZbW hi Z ((h.at_ i hi).typed.mono F (λ_ he=>he)) (λj hj ae k C hm=>h.oap j i hj hi ae k C (F k hm)) hp hM J U⟩,VR J U,Z.mono (λk C _=> ?_)⟩;rcases Zj.1 C with C|C
 .exact Zh _ (WL.2 (Zy (Zy ⟨i,hi,F k C⟩)))
 .rcases Zk.1 C with rfl|C
  .simp
  .exact Zh _ (WL.2 (Zy (Zv ⟨i,hi,C⟩)))
end
variable{N:List Bs}{e:Ent}
def Z9i(N:List Bs)(d:Dir):Prop:=∀x∈d,x.1∈N/\x.2.size<=500/\1<=x.2.size
structure Ac.Sm(N:List Bs)(a:Ac):Prop where
 name:a.name∈N
 «to»:a.kind=3->a.to∈N
 value:a.value.length<=500
 pos:a.kind=1->1<=a.value.length
theorem Z0T{d J:Dir}{k:Nat}{a:Ac}(h:Z9i N d)(ha:Ac.Sm N a)(C:Xv k a d f=some (J,f')):Z9i N J/\f'.length<=f.length+1:=by
 have F:∀ (g:QF) (n:Bs),(g.del n).length<=g.length:=λg n=>ZdM _ _;unfold Xv at C;split at C
 .rename_i U;obtain⟨rfl,rfl⟩:=C;refine⟨λx hx=> ?_,by rw[Zb];have:=F f a.name;simp;omega⟩;rcases Z9o.1 hx with rfl|⟨hx,_⟩
  .exact⟨ha.name,ha.value,ha.pos U⟩
  .exact h x (Z9j.1 hx).1
 .split at C
  .simp at C;obtain⟨rfl,rfl⟩:=C;exact⟨λx hx=>h x (Z9j.1 hx).1,by have:=F f a.name;omega⟩
  .grind
 .rename_i h3;split at C
  .rename_i e0 Z;split at C
   .grind
   .simp at C;obtain⟨rfl,rfl⟩:=C;refine⟨λx hx=> ?_,by have U:=F f a.name;have:=F (f.del a.name) a.to;omega⟩;rcases Z9o.1 hx with rfl|⟨hx,_⟩
    .exact⟨ha.to h3,(h _ (Z4 Z)).2⟩
    .exact h x (Z9j.1 hx).1
  .grind
 .grind
theorem Z0X{l:List Ac}(ha:∀a∈l,Ac.Sm N a):∀{k:Nat} {d F:Dir} {f f':QF},Z9i N d->Wi l k d f=some (F,f')->Z9i N F/\f'.length<=f.length+l.length:=by
 induction l with
 |nil=>intro k d F f f' h C;simp[Wi] at C;obtain⟨rfl,rfl⟩:=C;exact⟨h,Qx⟩
 |cons a r ih=>
  intro k d F f f' h C;rw[Wi] at C;split at C
  .rename_i d1 f1 J;have⟨U,Z⟩:=Z0T h (ha a Qx) J;grind
  .grind
theorem Z5b(todo:QF):∀{free:Qj} {d F:Dir},Z9i N d->WF free todo d=some F->Z9i N F:=by
 induction todo with
 |nil=>intro free d F h C;simp[WF] at C;subst C;exact h
 |cons x r ih=>
  intro free d F h C;rw[WF] at C;split at C
  .rename_i e he;split at C
   .refine ih (λy J=> ?_) C;rcases Z9o.1 J with rfl|⟨J,_⟩
    .have:=h _ (Z4 he);omega
    .exact h y J
   .grind
  .grind
theorem Z5c(todo:QF):∀{free:Qj} {d:Dir},(∀x∈todo,∃e,d.get x.1=some e/\e.size<=500)->8*todo.length<=free.length->∃C,WF free todo d=some C:=by
 induction todo with
 |nil=>intro free d _ _;exact⟨d,rfl⟩
 |cons x r ih=>
  intro free d h hl;have⟨e,he,hs⟩:=h x Qx;have:Yu e.size<=8:=by unfold Yu;omega
  have⟨C,Z⟩:=ih (free:=free.drop (Yu e.size)) (d:=d.put x.1 {e with runs:=Wh (free.take (Yu e.size))}) (λy hy=>by
   have⟨e2,F,J⟩:=h y QA;rw[Z9b];by_cases U:y.1=x.1
   .simp_all
   .rw[Zw U];exact⟨e2,F,J⟩) QA
  refine⟨C,?_⟩;rw[WF,he];grind
def G9{d:Dir}(h:Z9i N d)(hs:d.Zax):d.length<=N.length:=by
 have C:=(Z9g hs).length_le_of_subset (l₂:=N) (λn F=>by
  obtain⟨x,hx,rfl⟩:=Zz.1 F
  exact(h x hx).1)
 rwa[show d.names.length=d.length from Zf ..] at C
theorem Tc(rs:List (Nat×Nat))(h:∀r∈rs,1<=r.2):rs.length<=(Yc rs).length:=by
 unfold Yc
 induction rs with
 |nil=>simp
 |cons x l ih=>grind
def Ov(h:Ent.Ok n half e)(hs:e.size<=500):e.Zat.length<=8:=by rw[h.Zat];unfold Yu;omega
def Ow(h:Ent.Ok n half e)(hs:e.size<=500):e.tail.length<=72:=by
 have:=Ov h hs;have:e.runs.length<=e.Zat.length:=Tc e.runs (λr F=>(h.many r F).1);have C:∀l:List (Nat×Nat),(YT l).length=8*l.length:=λl=>by
  induction l with
  |nil=>rfl
  |cons x l ih=>unfold YT at ih⊢;rw[Zm,Zb,ih,Zb,Wl,Wl,Ze];omega
 unfold Ent.tail;rw[Zb,Zb,Wl,Wl,C];omega
theorem Z0R{d:Dir}(h:∀x∈d,Ent.Ok n half x.2/\x.2.size<=500):d.Zat.length<=8*d.length:=by
 unfold Dir.Zat
 induction d with
 |nil=>simp
 |cons x r ih=>have:=Ov (h x Qx).1 (h x Qx).2;have:=ih (λy J=>h y QA);grind
def Mo(l:List Bs)(b:Nat)(h:∀x∈l,x.length<=b):Yy l<=(4+b)*l.length:=by
 induction l with
 |nil=>simp[Yy]
 |cons x r ih=>have:=h x Qx;have:=ih (λy J=>h y QA);rw[YR,Ze,Nat.mul_succ];omega
def Pz{a b:Bs}(ha:a.length<=12)(hb:b.length<=72):(Y8 [a,b]).length<=96:=by rw[Xo,YR,YR];simp[Yy];omega
def Z8z{d:Dir}(F:∀m∈N,m.length<=12)(U:N.length<=40)(h:Z9i N d)(ok:d.Ok n half):(Xi d).length<=4100:=by
 have:=G9 h ok.sorted;unfold Xi;rw[Xo,YR]
 have C:=Mo (d.map λx=>Y8 [x.1,x.2.tail]) 96 (λt J=>by
  obtain⟨x,hx,rfl⟩:=Zz.1 J
  exact Pz (F _ (h x hx).1) (Ow (ok.ent x hx) (h x hx).2.1))
 rw[Zf] at C;have:XM.length=3:=rfl;omega
def TE{was d:Dir}(hN:∀m∈N,m.length<=12)(ah:N.length<=40)(hw:Z9i N was)(h:Z9i N d)(ag:was.Ok n half)(ok:d.Ok n half):(JI (YD was d f)).length<=4100:=by
 have hb:=Z9n ag.sorted d;have F:∀m∈(was.both d).names,m∈N:=λm hm=>by
  have C:=XI.1 hm;rw[Z9d _ ok.sorted] at C;cases U:d.get m with
  |some e=>exact(h _ (Z4 U)).1
  |none=>
   rw[U] at C;cases J:was.get m with
   |some e=>exact(hw _ (Z4 J)).1
   |none=>exact absurd J C
 have:=(Z9g hb).length_le_of_subset (l₂:=N) F;have:(YD was d f).length<=(was.both d).names.length:=by unfold YD;exact Zee _ _
 unfold JI;rw[Xo,YR]
 have h2:=Mo ((YD was d f).map YM) 96 (λt ht=>by
  obtain⟨x,hx,rfl⟩:=Zz.1 ht;have⟨m,hm,af⟩:=ZeD.1 hx;have⟨e1,e2⟩:=E3 af;have Z:=hN _ (F m hm);rw[<-e1] at Z;unfold YM;cases ae:x.2 with
  |none=>simp only;rw[Xo,YR];simp[Yy];omega
  |some e=>
   rw[ae] at e2;have hm:=Z4 e2.symm
   exact Pz Z (Ow (ok.ent _ hm) (h _ hm).2.1))
 rw[Zf] at h2;have:XT.length=4:=rfl;omega
theorem Z0o{was d:Dir}(Z:d.Zax){m:Bs}(h:(d.get m≠none/\f.by m≠none)∨(was.get m≠none/\d.get m=none)):YD was d f≠[]:=by
 intro C;unfold YD at C;have hm:m∈(was.both d).names:=by rw[XI,Z9d _ Z];grind
 rw[List.filterMap_eq_nil_iff] at C;have U:=C m hm;unfold chg at U;rcases h with ⟨F,J⟩|⟨F,J⟩
 .cases hg:d.get m with
  |none=>exact F hg
  |some e=>
   have:f.has m=true:=by rw[Z9t];cases hf:f.by m with
    |none=>exact absurd hf J
    |some k=>rfl
   grind
 .simp_all
theorem Ob{R:Nat->ByteArray}{Zau:List Rec}{Zan:List Ac}{d0:Dir}(h:Wf 800 100 R S Zau)(hN:∀m∈N,m.length<=12)(ag:N.length<=40)(J:Z9i N S.dir)(hw:∀a∈Zan,a.ZaA=false)(ha:∀a∈Zan,Ac.Sm N a)(hl:Zan.length<=12)(Z:Wi Zan 0 S.dir []=some (d0,f))(ak:∃m,f.by m≠none∨(S.dir.get m≠none/\d0.get m=none))(af:d0≠[]):∃d,S.ZaQ Zan=some (d,f)/\Cy S d f/\Z9i N d/\f.length<=12:=by
 have ok:=h.ok;have aq:Cv 800 100 S.dir Zan S.dir []:=⟨ok.sorted,ok.name,ok.apart,λi hi=>hi,Qx,Qx,λm e hm _=>ok.get hm⟩;obtain⟨p1, -⟩:=IT (R:=R) Zan 0 rfl aq hw Z;have⟨s1,s2⟩:=Z0X ha J Z;simp at s2;have au:=Z23 ok Qw;have U:=Z0R (n:=800) (half:=100) (d:=S.dir) (λx hx=>⟨ok.ent x hx,(J x hx).2.1⟩);have aw:=G9 J ok.sorted
 have⟨d,F⟩:=Z5c f (free:=XE S.used) (d:=d0) (λx hx=>by
  have⟨e,he,_⟩:=p1.fresh x hx
  exact⟨e,he,(s1 _ (Z4 he)).2.1⟩) (by rw[h.used];omega)
 have ae:S.ZaQ Zan=some (d,f):=by unfold Sto.ZaQ;rw[Z];simp only;rw[F]
 have C:=XR R ok h.used hw ae;have hs:=Z5b f s1 F;have az:=Z8z hN ag hs C.ok;have ay:=TE (f:=f) hN ag J hs ok C.ok;have ah:∀{m:Bs},d0.get m=none->d.get m=none:=fun{m} hm=>by
  have ai:∀x∈f,x.1≠m:=λx hx e9=>by have⟨e,he,_⟩:=p1.fresh x hx;simp_all
  have h9:=LT (n:=800) (half:=100) f (XE S.used) d0 d F p1.sorted p1.name p1.apart (GY _)
   (λi hi hm=>by rw[h.used] at hi;exact(Ca.1 hi).2.2 (p1.sub i hm)) (λi hi=>by rw[h.used] at hi;have:=Ca.1 hi;exact⟨this.2.1,this.1⟩) p1.fr (λx hx=>by
     have⟨e,k1,k2,k3,k4,k5,k6⟩:=p1.fresh x hx
     exact⟨e,k1,k2,k5,by rw[k4];exact GL _⟩)
  grind
 refine⟨d,ae,⟨Qw,Qw,?_,?_,?_,?_⟩,hs,Qw⟩
 .rw[h.ZaP];unfold QQ;omega
 .have⟨m,hm⟩:=ak;refine Z0o C.ok.sorted (m:=m) ?_;rcases hm with hm|⟨h1,h2⟩
  .left;cases hb:f.by m with
   |none=>exact absurd hb hm
   |some k=>have⟨e,he,_⟩:=C.fresh _ (Z9f hb);simp_all
  .simp_all
 .intro e0;subst e0;cases aj:d0 with
  |nil=>exact af aj
  |cons x r=>
   have hx:x∈d0:=QB;have hg:=Z9k p1.sorted (n:=x.1) (e:=x.2) hx;cases hb:f.by x.1 with
   |some k=>have⟨e,he,_⟩:=C.fresh _ (Z9f hb);cases he
   |none=>
    have ai:∀y∈f,y.1≠x.1:=λy hy e9=>by rw[<-e9,Z9s p1.fr hy] at hb;cases hb
    have h9:=LT (n:=800) (half:=100) f (XE S.used) d0 [] F p1.sorted p1.name p1.apart (GY _)
     (λi hi hm=>by rw[h.used] at hi;exact(Ca.1 hi).2.2 (p1.sub i hm)) (λi hi=>by rw[h.used] at hi;have:=Ca.1 hi;exact⟨this.2.1,this.1⟩) p1.fr (λx hx=>by
      have⟨e,k1,k2,k3,k4,k5,k6⟩:=p1.fresh x hx
      exact⟨e,k1,k2,k5,by rw[k4];exact GL _⟩)
    have U:=h9.2.2.2.2.1 x.1 ai;rw[hg] at U;cases U
 .have:=G9 hs C.ok.sorted;omega
def KT{a b:List Qq}(hl:a.length=b.length)(h:∀i,i<a.length->a.getD i ⟨#[]⟩=b.getD i ⟨#[]⟩):a=b:=by apply Zeu hl;simp_all
open Go.RowKit
def J7(ss:List Qq):Qq:=⟨(ss.map (·.data.toList)).flatten.toArray⟩
theorem Z0a(ss:List Qq)(n:Nat)(h:∀i,i<ss.length->(ss.getD i ⟨#[]⟩).size=n):(J7 ss).size=ss.length*n:=by
 induction ss with
 |nil=>simp;rfl
 |cons x xs ih=>
  have F:=h 0 Qx;have C:=ih (λi hi=>by have:=h (i+1) QB;simpa using this);show(((x::xs).map (·.data.toList)).flatten.toArray).size=_;have J:(xs.map (·.data.toList)).flatten.length=xs.length*n:=by have:=C;unfold J7 at this;have e:(ByteArray.mk (xs.map (·.data.toList)).flatten.toArray).size=(xs.map (·.data.toList)).flatten.length:=(by rfl);omega
  have U:x.data.toList.length=n:=QB;grind
def PH(L:List Ql):Lib.join L []=L.flatten:=by
 cases L with
 |nil=>rfl
 |cons x xs=>rw[Lib.join_cons];unfold Lib.joinTail;simp
def Ah(k l:Int)(ss:List Qq):Int:=
 if WR k 0 l=false then 1 else if(ss.length:Int)<k then 19 else if∀i,i<k.toNat->(ss.getD i ⟨#[]⟩).size=Yg k.toNat l.toNat then 0 else 19
def Dp(k l:Int)(ss:List Qq):Qq:=
 if Ah k l ss=0 then(J7 (ss.take k.toNat)).extract 0 l.toNat else⟨#[]⟩
def YB.iface{c:Int}(h:YB B w v c)(hc:c≠0):∃b,v=.iface 139 (b:Nat)/\YB B w (.iface 139 (b:Nat)) c:=by
 rcases h with ⟨_,F⟩|⟨_,b,hv,C⟩
 .omega
 .exact⟨b,hv,Zy ⟨hc,b,rfl,C⟩⟩
def PF{k l:Nat}{ss:List Qq}(h:1<=k)(C:k<=255)(F:k<=ss.length):Ah k l ss=if∀i,i<k->(ss.getD i ⟨#[]⟩).size=Yg k l then 0 else 19:=by unfold Ah;rw[Zw (by rw[show WR (k:Int) 0 (l:Int)=true from Dv (b:=0) h Qw];simp),Zw Qw];rfl
def Z3b(k l:Int)(sa:Qm)(sn sc:Nat)(ss:List Qq)(w:Qs)(hk: -9223372036854775808<=k/\k<=9223372036854775807)(hl:l<=9223372036854775807)(cj:Y9 w sa ss)(hn:sn=ss.length)(dw:sn<=sc)(dx:sc<=9223372036854775807)(cn:∀i,i<ss.length->(ss.getD i ⟨#[]⟩).size<=100000):Calls prog 69 #[k,l,.slice sa sn sc] w λe w'=>∃ev,e=.returned (.tuple #[.string (Dp k l ss),ev])/\YB w w' ev (Ah k l ss)/\Below w w w':=by
 have bad:∀c:Int,Ah k l ss=c->c≠0->Dp k l ss=⟨#[]⟩:=λc h Z=>by unfold Dp;rw[Zw Qw]
 cases h:WR k 0 l
 .have hc:Ah k l ss=1:=by unfold Ah;rw[Zx h]
  rw[hc,bad 1 hc Qw];have H:=ZI h;clear h hc bad;go_enter func69,ntmps69;go_wp2_with (go_at_call 113;go_fit (Z6Z k l _ H.o);rintro e w1 ⟨ev,rfl,he,hb⟩;obtain⟨fb,rfl,bq⟩:=he.iface Qw;have C:=ZM bq hb;clear he bq hb);go_ret2;exact⟨_,rfl,C.1,C.2⟩
 .obtain⟨a,b,c,rfl,cw,rfl,a1,a2⟩:=Z3W h;clear cw;by_cases aq:(ss.length:Int)<(a:Int)
  .have hc:Ah (a:Int) (c:Int) ss=19:=by unfold Ah;rw[Zw QB,Zx aq]
   rw[hc,bad 19 hc Qw];have cy:(sn:Int)<(a:Int):=by rw[hn];exact aq
   have⟨n,F⟩:=ZL (Yg a c);have HN:=ZI F;clear h hc bad aq F hn;go_enter func69,ntmps69;go_wp2_with (first|(go_at_call 113;go_fit (DO a c _ a1 Qw Qw);rintro e w1 ⟨rfl,rfl⟩;rw[<-HN.o])|(go_at_call 114;go_fit (CC 19 Qw _);rintro e w2 ⟨ev,rfl,he,hb⟩;have C:=ZM he hb;clear he hb));go_ret2;exact⟨_,rfl,C.1,C.2⟩
  .have ha:a<=ss.length:=(by omega);have hc:=PF (l:=c) a1 Qw ha;have⟨cd,U⟩:=ZL (Ah (a:Int) (c:Int) ss);have⟨tx,au⟩:=ZL (Dp (a:Int) (c:Int) ss);have aj:cd≠0->tx=⟨#[]⟩:=λZ=>by rw[au];exact bad cd U.symm Z
   have ak:cd=0->tx=(J7 (ss.take a)).extract 0 c:=λZ=>by rw[au];unfold Dp;rw[<-U,Zx Z];simp[ZeA]
   rw[hc] at U;rw[<-au,show Ah (a:Int) (c:Int) ss=cd from by rw[hc,U]];obtain⟨g,o,rfl,gl,ag⟩:=cj.open Qw;have⟨n,F⟩:=ZL (Yg a c);have bz:c<=a*n:=by rw[F];exact CW a c a1
   rw[<-F] at U;have bh:=ZI U;have ay:=ZI aj;have az:=ZI ak;have df:¬ (sn:Int)<(a:Int):=Qw;have dz:(a:Int)<=(sc:Int):=Qw;have dh:0<=(a:Int):=Qw;have dj:a<=sc:=Qw;have dy:n<=9223372036854775807:=by rw[F];unfold Yg;have h4:=ZeM c a;have h5:c / a<=a*(c / a):=ZfR _ Qw;split<;>omega
   have HN:=ZI F;have af:=ZI ag;have HA:=ZI ha;have bj:=ZI cn;have ct:=ZI bz;clear h hc bad aq F hn ag ha cj cn bz U au aj ak;go_enter func69,ntmps69;go_wp2_with (go_at_call 113;go_fit (DO a c _ a1 Qw Qw);rintro e w1 ⟨rfl,rfl⟩;rw[<-HN.o]);go_loop [30] (λi=>∃j:Nat,j<=a/\i=(j:Int)/\∀i,i<j->(ss.getD i ⟨#[]⟩).size=n) (λi=>a- (intOf i).toNat)
   .exact⟨0,Qw,rfl,λi h=>Qw⟩
   obtain⟨j,hj,rfl,ai⟩:=hrel;have ae:=ZI ai;clear ai;by_cases bu:j<a
   .have⟨t,ht⟩:=ZL (ss.getD j ⟨#[]⟩);have cl:=af.o j (by have:=HA.o;omega);have dp:=bj.o j (by have:=HA.o;omega);rw[<-ht] at cl dp;have HT:=ZI ht;clear ht;by_cases hs:t.size=n
    .have de:((t.size:Int) !=(n:Int))=false:=(by simp[hs]);have HS:=ZI hs;clear hs;go_wp2;go_round
     .refine⟨j+1,Qw,QC,λi hi=> ?_⟩;by_cases e:i=j
      .rw[e,<-HT.o];exact HS.o
      .exact ae.o i Qw
     simp[intOf];omega
    .have de:((t.size:Int) !=(n:Int))=true:=by simp;omega
     have HS:=ZI hs;clear hs;go_wp2_with (go_at_call 114;go_fit (CC 19 Qw _);rintro e w2 ⟨ev,rfl,he,hb⟩;have C:=ZM he hb;clear he hb);go_ret2;have ec:cd=19:=(by rw[bh.o,Zw (λh=>HS.o (by rw[HT.o];exact h j bu))]);exact⟨_,by rw[ay.o Qw];rfl,by rw[ec];exact C.1,C.2⟩
   .obtain rfl:a=j:=(by omega);clear bu hj;have⟨xs,aw⟩:=ZL (ss.take a);have bg:xs.length=a:=by rw[aw,Zg];have:=HA.o;omega
    have bf:∀i,i<a->xs.getD i ⟨#[]⟩=ss.getD i ⟨#[]⟩:=λi hi=>(by rw[aw,Z7,Z7,ZeR,Zx hi]);have ah:(J7 xs).size=a*n:=by have:=Z0a xs n (λi hi=>by rw[bf i Qw];exact ae.o i Qw);rw[bg] at this;exact this
    have cz:n<=100000:=by have Z:=bj.o 0 QA;rw[ae.o 0 Qw] at Z;exact Z
    have dm:a*n<=255*100000:=Ze2 Qw cz
    have hj:=Tryz.strings_Join g o sc xs ⟨#[]⟩ w (λj x hx=>by
     have du:j<xs.length:=(ZeP.1 hx).1;have bm:=af.o j QA;rw[<-bf j Qw,Z7,hx,Ze7] at bm
     exact bm) gl Qw Qw (by
      show(Lib.join (xs.map (·.data.toList)) []).length<=_;rw[PH];have e:(J7 xs).size=((xs.map (·.data.toList)).flatten).length:=by show(((xs.map (·.data.toList)).flatten).toArray).size=_;rw[Zex]
      omega)
    rw[bg] at hj;rw[show(⟨(Lib.join (xs.map (·.data.toList)) (⟨#[]⟩:Qq).data.toList).toArray⟩:Qq)=J7 xs from by show(⟨(Lib.join (xs.map (·.data.toList)) []).toArray⟩:Qq)=_;rw[PH];rfl] at hj;have⟨J,hJ⟩:=ZL (J7 xs);rw[<-hJ] at hj ah;have dq:(c:Int)<=(J.size:Int):=by have:=ct.o;omega
    have dt:0<=(c:Int):=Qw;have HJ:=ZI hJ;have cu:=ZI aw;have cr:=ZI hj;clear hJ aw bg bf ah hj;have e3:((c:Int)).toNat=c:=Qw;go_wp2_with (go_at_call 115;go_fit (cr.o);rintro e w2 ⟨rfl,hb⟩;have C:=ZI hb;clear hb);go_ret2;have ec:cd=0:=(by rw[bh.o,Zx ae.o]);exact⟨_,by rw[az.o ec,<-cu.o,<-HJ.o];rfl,by rw[ec];exact Z9J _ _,C.o⟩
open Go.RowKit
variable{Zao:List ByteArray}{k len m:Nat}{t:ByteArray}{x y:Nat->BitVec 8}
def SJ:∀k,(∀j,j<k->x j=y j)->JH x Zao len k=JH y Zao len k
 |0,_=>rfl
 |k+1,h=>by rw[JH,JH,SJ k (λj C=>h j Qw),h k Qw]
def SE(h:∀j,j<k->x j=y j):XJ x Zao len k=XJ y Zao len k:=by unfold XJ;rw[SJ k h]
def SI{A B:Nat->Nat->BitVec 8}{r:Nat}(h:∀i j,i<r->j<k->A i j=B i j):WP A Zao len k r=WP B Zao len k r:=by exact Zea λi hi=>SE λj C=>h i j QB C
def SG(h:∀i,i<Zao.length->(Zao.getD i ⟨#[]⟩).size=len)(F:k<=Zao.length){i:Nat}(hi:i<k):XJ (idm i) Zao len k=Zao.getD i ⟨#[]⟩:=by refine(SF h F (h i Qw) λp J=> ?_).symm;rw[Ak (k:=i) hi (λj _ C=>by unfold idm;rw[Zw (λe=>C e.symm),Jp])];unfold idm;rw[Zx rfl,Jc]
def Z5W(h:∀i,i<Zao.length->(Zao.getD i ⟨#[]⟩).size=len)(C:Zao.length=k):WP idm Zao len k k=Zao:=by refine KT (by rw[BI,C]) λi hi=> ?_;rw[BI] at hi;rw[Ey _ _ _ _ _ _ hi,SG h Qw hi]
def Z5V(A B:Nat->Nat->BitVec 8)(Zao:List Qq)(len n m r:Nat)(h:∀i,i<Zao.length->(Zao.getD i ⟨#[]⟩).size=len)(hm:m<=Zao.length):WP A (WP B Zao len m n) len n r=WP (Wu n A B) Zao len m r:=by exact Zea λi _=>(Z5U A B Zao len n m i h hm).symm
def BL(k m:Nat)(t:Qq):(Y5 k m t).length=k+m:=BI _ _ _ _ _
def Fd(k:Nat)(t:Qq)(h:1<=k):∀i,i<(WQ (Je t (k*Yg k t.size)) (Yg k t.size) k).length->((WQ (Je t (k*Yg k t.size)) (Yg k t.size) k).getD i ⟨#[]⟩).size=Yg k t.size:=Ko _ _ _ (LS t _ (CW k t.size h))
def CT(k m:Nat)(t:Qq)(h:1<=k)(i:Nat)(hi:i<k+m):((Y5 k m t).getD i ⟨#[]⟩).size=Yg k t.size:=Mc _ _ _ _ _ (Fd k t h) (by rw[BX];exact Zt _) i (by rw[BI];exact hi)
def Im(k m:Nat)(t:Qq)(i:Nat)(hi:i<k+m):(Y5 k m t).getD i ⟨#[]⟩=XJ (gen k i) (WQ (Je t (k*Yg k t.size)) (Yg k t.size) k) (Yg k t.size) k:=Ey _ _ _ _ _ _ hi
def Mn(k m:Nat)(t:Qq)(C:1<=k):(Y5 k m t).take k=WQ (Je t (k*Yg k t.size)) (Yg k t.size) k:=by refine KT (by rw[Zg,BL,BX];omega) λi hi=> ?_;rw[Zg,BL] at hi;have h:i<k:=Qw;have e1:((Y5 k m t).take k).getD i ⟨#[]⟩=(Y5 k m t).getD i ⟨#[]⟩:=QB;rw[e1,Im k m t i Qw,SE (y:=idm i) (λj _=>by unfold gen;rw[Zx h]),SG (Fd k t C) (by rw[BX];exact Zt _) h]
def Z5H{L:List (Bool×Qq)}{c:Int}{T:List Qq}(h1:1<=k)(hK:k+m<=255)(hL:∀j,j<k+m->(YN L j).1=true->(YN L j).2=(Y5 k m t).getD j ⟨#[]⟩)(hk:k<=(whF L (k+m)).length)(h:EU k m (Yg k t.size) L c T):c=0/\T=Y5 k m t:=by
 have⟨n,hn⟩:=ZL (Yg k t.size);rcases h with ⟨⟨j,C,h2,h3⟩,_⟩|⟨_,hb,_⟩|⟨ha,hb,rfl,B,hB,rfl⟩
 .exact absurd (by rw[hL j C h2,CT k m t h1 j C]) h3
 .omega
 .refine⟨rfl,?_⟩;have J:=Fd k t h1;have af:=BX (Je t (k*Yg k t.size)) (Yg k t.size) k;have⟨Zao,F⟩:=ZL (WQ (Je t (k*Yg k t.size)) (Yg k t.size) k);rw[<-F,<-hn] at J;rw[<-F] at af;have ai:(hvF L (k+m)).take k=WP (Ew k L (k+m)) Zao n k k:=by
   refine KT (by rw[BI,Zg,Hh];omega) λi hi=> ?_;rw[Zg,Hh] at hi;have ag:i<k:=Qw;have U:i<(whF L (k+m)).length:=Qw;rw[Ey _ _ _ _ _ _ ag];have e1:((hvF L (k+m)).take k).getD i ⟨#[]⟩=(YN L ((whF L (k+m)).getD i 0)).2:=by rw[Z7,ZeR,Zx ag];unfold hvF;rw[Ze8,Z8 U,Z7,Z8 U];rfl
   have ae:(whF L (k+m)).getD i 0∈whF L (k+m):=by rw[Z7,Z8 U,Ze7];exact Zl _
   have Z:=Gl ae;rw[e1,hL _ Z.1 Z.2,Im k m t _ Z.1,<-F,<-hn];rfl
  have hI:Inj k (Ew k L (k+m)):=by have h9:=M9 (L:=L) (k:=k) (m:=m) rfl hK hb;intro x hx c hc;refine h9 x (λi hi=> ?_) c hc;rw[<-hx i hi];refine WH λj C=> ?_;show gm (gen k (((whF L (k+m)).take k).getD i 0) j) (x j)=gm (gen k ((whF L (k+m)).getD i 0) j) (x j);rw[Iz _ _ _ hi]
  have ah:=Z3A hI hB;rw[<-hn,ai,Z5V B (Ew k L (k+m)) Zao n k k k J Qw,SI (B:=idm) (λi j hi C=>ah i j hi C),Z5W J af];unfold Y5;simp_all
def OP(l:Ql)(n:Nat):∀k,((List.range k).map λi=>(l.take ((i+1)*n)).drop (i*n)).flatten=l.take (k*n)
 |0=>Qx
 |k+1=>by rw[ZdX,Zo,List.flatten_append,OP l n k];have:(k+1)*n=k*n+n:=QA;have:l.take (k*n)=(l.take (k*n+n)).take (k*n):=QA;simp_all
def Z0c(T:Qq)(n k:Nat)(h:T.size=k*n):J7 (WQ T n k)=T:=by
 have e:((WQ T n k).map (·.data.toList)).flatten=T.data.toList:=by
  unfold WQ;rw[ZeW];have C:((λs:Qq=>s.data.toList)∘λi=>T.extract (i*n) ((i+1)*n))=λi=>(T.data.toList.take ((i+1)*n)).drop (i*n):=by
   funext i
   simp[List.drop_take]
  rw[C,OP];exact Zi QB
 unfold J7;rw[e]
def Z4T(t:Qq)(N:Nat)(h:t.size<=N):(Je t N).extract 0 t.size=t:=by exact ByteArray.extract_append_eq_left rfl
def Z3c(h:1<=k)(hK:k+m<=255):Ah k t.size (Y5 k m t)=0/\Dp k t.size (Y5 k m t)=t:=by
 have hc:Ah k t.size (Y5 k m t)=0:=by rw[PF h Qw (by rw[BL];omega),Zx (λi hi=>CT k m t h i Qw)]
 refine⟨hc,?_⟩;unfold Dp;rw[Zx hc];simp;rw[Mn k m t h,Z0c _ _ _ (LS t _ (CW k t.size h)),Z4T t _ (CW k t.size h)]
def Z6X(k m:Nat)(t:Qq)(h:1<=k)(C:t.size<=50000)(i:Nat)(hi:i<(Y5 k m t).length):((Y5 k m t).getD i ⟨#[]⟩).size<=100000:=by rw[BL] at hi;rw[CT k m t h i hi];have:=Gg k t.size h;omega
open Go.RowKit
def Rr(b n:Nat)(d:Dir)(w:Qs)(h:Yh w b n d):Calls prog 85 #[.map (some b)] w λe w'=>e=.returned (.map (some w.heap.size))/\Yh w' w n d/\Below w w w':=by obtain⟨fv,⟨D,⟨es,C,hb,F,hs,Z⟩,ht⟩,m2,m3⟩:=h;have:=run_eql_map_nil_sl (P:=prog) w 155 _ _ (some b) underlying155;go_enter func85,ntmps85;go_wp2;rw[run_callFunc_extern func129 Qy Qy Qy (e:=Extern.MapsClone.clone) Qy,run_maps_clone_sl w 155 hb];go_wp2;rw[run_typeAssert_map_sl _ 155 20 _ _ _ underlying155];go_wp2;go_ret;have hB:Below w w (w.alloc (.map es C)):=(Zu _ w).alloc (Zt _) _;refine⟨rfl,⟨fv,⟨D,⟨es,C,(MapKept.heap_alloc w _).1,F,hs,Z⟩,ht⟩,m2,λk e hk=> ?_⟩,hB⟩;have⟨v,J,U⟩:=m3 k e hk;exact⟨v,J,U.fr (Z1 (L:=[]) hB) Qx⟩
structure CpS(w:Qs)(bd bs r n1 n2:Nat)(fd fs:Bs->Option Qt)(todo:Bs->Bool)(cnt:Nat)(l:List Bs)(wr:Qs):Prop where
 rg:Xc wr bs r n2 fs todo cnt
 o:Yb wr bd (n1+l.length) (λm=>if(fs m).isSome&& !todo m then fs m else fd m)
 fr:Fr [bd] w wr
 rge:w<=r
 nodup:l.Nodup
 mem:∀k,k∈l↔(fs k).isSome=true/\todo k=false
def Z3X(C bs n1 n2:Nat)(da db:Dir)(w:Qs)(hd:Yh w C n1 da)(hs:Yh w bs n2 db)(dt:C≠bs)(cu:db.Zax)(dq:n1<=100000000)(dj:db.length<=100000):Calls prog 192 #[.map (some C),.map (some bs)] w λe w'=>e=.returned (.tuple #[])/\(∃n',Yh w' C n' (da.both db))/\Fr [C] w w':=by
 obtain⟨fd,d1,d2,d3⟩:=hd;obtain⟨J,s1,s2,s3⟩:=hs;have aw:∀k,(J k).isSome=true->k∈db.names:=λk h=>XI.2 (λe=>by rw[s2 k e] at h;cases h);have cn:db.names.length=db.length:=Zf ..;have bz:=d1;have ct:=s1;have HD:=ZX d1 d2 d3;have HS:=ZX s1 s2 s3;have HB:=ZX aw cn cu;clear d1 d2 d3 s1 s2 s3 aw cn cu;go_enter func192,ntmps192;go_wp2_with (at_range;refine IL _ rfl _ 155 rfl 164 underlying155 bs n2 J rfl ct ?_;intro w1 bg ah bj bq);have C0:CpS w C bs w n1 n2 fd J (λk=>(J k).isSome) bg [] w1:=⟨ah,(bz.after bj).congr (λk=>by cases J k<;>simp),Z1 bj,Zt _,Qx,λk=>by cases J k<;>simp⟩;have bu:=ZI C0;obtain⟨r,hr⟩:=ZK w.heap.size;rw[show CpS w C bs w.heap.size n1 n2 fd J (λk=>(J k).isSome) bg [] w1=CpS w C bs r n1 n2 fd J (λk=>(J k).isSome) bg [] w1 from by rw[hr]] at bu;rw[show(Value.pointer w)=Value.pointer r from by rw[hr]];clear C0 ah bj bq hr bz ct;go_frame;go_loopw [8] (λ_ wq=>∃ (todo:Bs->Bool) (l:List Bs) (af:Nat),CpS w C bs r n1 n2 fd J todo af l wq) (λ_ wq=>wq.rangeLeft bs r)
 .exact⟨_,_,_,bu.o⟩
 obtain⟨todo,l,af,hC⟩:=hrel;have ag:=hC.rg;have hlen:l.length<=100000:=by have:=hC.nodup.length_le_of_subset (λk h=>HB.1 k ((hC.mem k).1 h).1);rw[HB.2] at this;omega
 have F:=ZI hC;have cw:Qi (World.rangeLeft _ bs r=af):=ZI ag.left_eq;clear hC;go_wp2_with (at_next;refine IK _ rfl _ rfl bs r n2 J todo af rfl ag ?_ ?_)
 .intro cj;go_wp2;go_end0;refine⟨rfl,⟨_,_,F.o.o,λk h=> ?_,λk e h=> ?_⟩,F.o.fr⟩
  .rw[Z9d k HB.3] at h;cases U:db.get k with
   |some e=>rw[U] at h;cases h
   |none=>rw[U] at h;simp only[HS.2 k U,Option.isSome_none,Bool.false_and,ZfL,Zh3];exact HD.2 k h
  .rw[Z9d k HB.3] at h;have cr:=Dy HD.1;cases U:db.get k with
   |some e2=>rw[U] at h;simp only[ZdC] at h;subst h;obtain⟨v,h1,h2⟩:=HS.3 k e2 U;refine⟨v,?_,h2.fr F.o.fr cr⟩;simp_all
   |none=>rw[U] at h;obtain⟨v,h1,h2⟩:=HD.3 k e h;refine⟨v,?_,h2.fr F.o.fr cr⟩;simp only[HS.2 k U,Option.isSome_none,Bool.false_and,ZfL,Zh3];omega
 .intro k x w2 bh cy ay Z ah aq aj dh dm;obtain⟨e,he⟩:∃e,db.get k=some e:=by
   cases U:db.get k with
   |none=>rw[HS.2 k U] at Z;cases Z
   |some e=>exact⟨e,rfl⟩
  obtain⟨v,hv,a,ln,c,rfl,df⟩:=HS.3 k e he;rw[Z] at hv;obtain rfl:=ZdZ hv;have bf:C≠r:=λe2=>by obtain⟨es,cl,hb⟩:=F.o.o.block;obtain⟨x1,x2,x3,x4,hi⟩:=ag.iter;rw[<-e2,hb] at hi;cases hi
  have ae:=(F.o.o.fr aj QB);have az:=λo=>(Zu w2 w2).alloc (Zt _) o;have HN:=ZR ay Z ah aj aq ae bf;clear ag ay Z ah aj aq dh he hv df ae bf;go_wp2_with (at_mapUpdate;refine Z8H _ rfl (.tmp 13) (.tmp 14) (.tmp 15) 155 rfl 164 underlying155 C _ _ rfl (HN.2.2.2.2.2.1.after (az _)) (by unfold maxLen;omega) k cy _ rfl rfl ?_;intro w3 au ak;go_frame;have ai:=(Fr.refl [C] _).grown ak (λk h=>by cases h;exact Zv Qx);have S3:=ZM au ai;clear au ak ai);go_roundw
  .obtain⟨ay,Z,ah,aj,aq,ae,bf⟩:=HN.o;obtain⟨au,ai⟩:=S3.o;have de:k∉l:=λh=>by have:=((F.o.mem k).1 h).2;rw[ay] at this;cases this
   have dp:((w2.alloc (.cells #[(e.size:Int),.int .u32 (e.sum:Int),.slice a ln c] 164))).heap.size=w2.heap.size+1:=Qx;refine⟨_,l++[k],bh,⟨(ah.after (az _)).fr ai QA QA,?_,?_,F.o.rge,?_,?_⟩⟩
   .rw[Zb];refine(show Yb w3 C (n1+(l.length+1)) _ from au).congr (λm=> ?_);by_cases hm:m=k
    .subst hm;simp[Z];rfl
    .simp[hm]
   .have h1:Fr [C] w w2:=F.o.fr.trans aj (λi hi cz=>by rw[Z6] at hi;subst hi;have:=F.o.rge;omega);exact(h1.trans (Z1 (L:=[]) (az _)) Qx).trans ai (λi hi _=>hi)
   .exact ZdP.2 ⟨F.o.nodup,Qx,λa ha c hc e2=>by rw[Z6] at hc;subst hc;subst e2;exact de ha⟩
   .intro m;rw[Zj,Z6,F.o.mem m];by_cases hm:m=k
    .subst hm;simp[Z]
    .simp[hm]
  obtain⟨ay,Z,ah,aj,aq,ae,bf⟩:=HN.o;obtain⟨au,ai⟩:=S3.o;have bm:=(ah.after (az _)).fr ai QA QA;rw[bm.left_eq,cw.o];exact aq
variable{a1 a2:Option Addr}{c1 c2 l1 l2 y1 y2:Nat}{d was:Dir}{l lx:List Bs}{o1 o2:Option Ent}{sm1 sm2 sz1 sz2:Int}{ts:List Value}{vx:Value}{x:Bs}
def B9(was now:Dir)(f:QF)(n:Bs):Bool:=match now.get n,was.get n with
 |some e,some o=> !(f.by n).isSome&&decide (e.tail=o.tail)
 |_,_=>false
def Kc(was now:Dir)(f:QF)(n:Bs):chg was now f n=if B9 was now f n=true then none else some (n,now.get n):=by
 unfold chg B9;cases h:now.get n with
 |none=>simp
 |some e=>
  cases C:was.get n with
  |none=>simp
  |some o=>simp only[Z9t];simp
structure ChS(w:Qs)(g:Nat)(ts:Qk)(v:Qt)(l:List Bs)(y1 y2:Nat)(sz1 sm1 sz2 sm2:Int)(a1 a2:Qm)(l1 c1 l2 c2:Nat)(o1 o2:Option Ent)(wr:Qs):Prop where
 wh:WhS w g ts v l wr
 b1:Row wr y1 164 [sz1,.int .u32 sm1,.slice a1 l1 c1]
 b2:Row wr y2 164 [sz2,.int .u32 sm2,.slice a2 l2 c2]
 e1:∀e,o1=some e->Xj wr (.agg #[sz1,.int .u32 sm1,.slice a1 l1 c1]) e
 e2:∀e,o2=some e->Xj wr (.agg #[sz2,.int .u32 sm2,.slice a2 l2 c2]) e
def ChS.after(h:ChS w g ts v l y1 y2 sz1 sm1 sz2 sm2 a1 a2 l1 c1 l2 c2 o1 o2 wr)(hb:Below wr wr w'):ChS w g ts v l y1 y2 sz1 sm1 sz2 sm2 a1 a2 l1 c1 l2 c2 o1 o2 w':=⟨h.wh.after hb,h.b1.after hb,h.b2.after hb,λe he=>(h.e1 e he).fr (Z1 (L:=[]) hb) Qx,λe he=>(h.e2 e he).fr (Z1 (L:=[]) hb) Qx⟩
def ChS.cs(h:ChS w g ts v l y1 y2 sz1 sm1 sz2 sm2 a1 a2 l1 c1 l2 c2 o1 o2 wr):(wr.cell? y1=(sz1:Int)/\wr.cell? ⟨y1,1,none⟩=some (.int .u32 sm1)/\wr.cell? ⟨y1,2,none⟩=some (.slice a1 l1 c1))/\ (wr.cell? y2=(sz2:Int)/\wr.cell? ⟨y2,1,none⟩=some (.int .u32 sm2)/\wr.cell? ⟨y2,2,none⟩=some (.slice a2 l2 c2)):=⟨⟨h.b1.c0,h.b1.c1,h.b1.c2⟩,h.b2.c0,h.b2.c1,h.b2.c2⟩
def XQ(was d:Dir)(f:QF)(k:Nat):List Bs:=XT::(((was.both d).names.take k).filterMap (chg was d f)).map YM
def Z7q(a b:Bs):((str a).toList==(str b).toList)=decide (a=b):=by
 by_cases h:a=b
 .simp_all
 .rw[ID (λe=>h (Iu e))];simp[h]
def Z4x(w:Qs)(t:Bs):Strs (w.alloc (.cells #[t] 9)) w (.slice (some ⟨w,0,none⟩) 1 1) [t]:=⟨rfl,Zy ⟨w.heap.size,1,#[.string (str t)],rfl,Zt _,ZB w _,Zt _,by simp[maxLen],rfl,rfl⟩⟩
structure ChX(w:Qs)(g:Nat)(ts:Qk)(v:Qt)(l:List Bs)(y1 y2:Nat)(sz1 sm1 sz2 sm2:Int)(a1 a2:Qm)(l1 c1 l2 c2:Nat)(o1 o2:Option Ent)(b:Nat)(vx:Qt)(lx:List Bs)(wr:Qs):Prop where
 ch:ChS w g ts v l y1 y2 sz1 sm1 sz2 sm2 a1 a2 l1 c1 l2 c2 o1 o2 wr
 ox:Strs wr b vx lx
 be:b<=wr
def ChX.after(h:ChX w g ts v l y1 y2 sz1 sm1 sz2 sm2 a1 a2 l1 c1 l2 c2 o1 o2 b vx lx wr)(hb:Below wr wr w'):ChX w g ts v l y1 y2 sz1 sm1 sz2 sm2 a1 a2 l1 c1 l2 c2 o1 o2 b vx lx w':=⟨h.ch.after hb,h.ox.after hb,Zq h.be hb.size⟩
def ChS.xfr(h:ChS w g ts v l y1 y2 sz1 sm1 sz2 sm2 a1 a2 l1 c1 l2 c2 o1 o2 wr){C:Qs}(F:Below wr wr C)(U:Strs C wr vx lx)(J:Fr (QV vx) C w'):ChS w g ts v l y1 y2 sz1 sm1 sz2 sm2 a1 a2 l1 c1 l2 c2 o1 o2 w':=h.after (F.trans (J.below F.size (λi hi=>U.ge i hi)))
def Z0k(hx:(was.both d).names[k]? =some x)(hs:B9 was d f x=true):XQ was d f (k+1)=XQ was d f k:=by unfold XQ;rw[Zfe,hx,ZfX];simp[Kc,hs]
def NY(hx:(was.both d).names[k]? =some x)(hs:B9 was d f x=false):XQ was d f (k+1)=XQ was d f k++[YM (x,d.get x)]:=by unfold XQ;rw[Zfe,hx,ZfX];simp[Kc,hs]
def Z0i(h:(was.both d).names.length<=k):XQ was d f k=XT::(YD was d f).map YM:=by unfold XQ YD;rw[Zi h]
theorem Z0j(k:Nat):(XQ was d f k).length<=k+1:=by unfold XQ;grind
def Z0n(hx:(was.both d).names[k]? =some x)(hs:B9 was d f x=false):YM (x,d.get x)∈(YD was d f).map YM:=by refine Zeq ?_;refine ZeD.2 ⟨x,Zfa hx,?_⟩;rw[Kc,hs];rfl
def Z0h(n half q db fb ga oa na ca:Nat)(us:Qt)(Zan:List Ac)(d was:Dir)(f:QF)(n1 n2 wb nw:Nat)(w:Qs)(h:PlA w q db fb ga oa na ca us Zan d f n1 n2)(hw:Yh w wb nw was)(ez:d.Ok n half)(az:was.Ok n half)(df:n<=8192)(dh:(was.both d)≠[])(gy:nw<=100000000)(iu:d.length<=10000)(bz:(was.both d).length<=20000)(fh:(JI (YD was d f)).length<=60000):Calls prog 135 #[q,.map (some wb)] w λe w'=>e=.returned (.tuple #[.string (str (JI (YD was d f))),((YD was d f).length:Int),.nilIface])/\Below w w w':=by
 have c0:=h.row.c0;have ix:=h.row.lt;have⟨C,cj⟩:=ZK (was.both d);have ee:C.Zax:=by rw[<-cj];exact Z9n az.sorted d
 have HP:=ZI h;have HW:=ZI hw;have U:=ZY ez az cj ee;have HZ:=ZI fh;rw[cj] at dh bz;have fx:0<C.length:=Zew.2 dh;have ey:C.names.length=C.length:=Zf ..;have ig:wb<w:=by have⟨fv,m1,_⟩:=hw;exact m1.lt
 have fy:db<w:=by have⟨fv,m1,_⟩:=h.dir;exact m1.lt
 clear h hw ez az cj ee fh dh;go_enter func135,ntmps135;go_wp2_with (first|(go_at_call 85;go_fit (Rr wb nw was _ HW.o);rintro e w1 ⟨rfl,bj,Z⟩;have P1:=HP.o.after Z;have im:=P1.row.c0;have S1:=ZX bj P1 Z;clear bj P1 Z)|(go_at_call 192;go_fit (Z3X w db nw n1 was d _ S1.1 S1.2.dir Qw U.1.sorted gy Qw);rintro e w2 ⟨rfl,⟨n',cy⟩,hf2⟩;rw[U.3] at cy;have aq:=S1.3.trans (hf2.below S1.3.size (λi hi=>by rw[Z6] at hi;subst hi;exact Zt _));have S2:=ZM cy aq;clear cy hf2 aq)|(go_at_call 132;go_fit (Mr w n' C _ (S2.1.after ((Zu w2 w2).alloc (Zt _) (.cells #[XT] 9))) U.4 Qw);rintro e w3 ⟨v,rfl,hv,ah⟩;obtain⟨g,cap,sp,rfl,eo,iq,ir,fa⟩:=Xf hv (by rw[ey];exact fx);have S3:=ZX fa ah eo;clear hv fa ah eo));have⟨ts,dj⟩:=ZK (QS (C.names.map str)++sp);have fi:∀k (hk:k<C.length),ts[k]? =some (.string (str (C[k]).1)):=λk hk=>by rw[<-dj,Za (by simp[QS,Dir.names];omega)];simp[QS,Dir.names,hk]
 have bz:∀k (hk:k<C.length),(C[k]).1.length<=220:=λk hk=>by
  have hm:C[k]∈C:=Zl hk;have gj:C.get (C[k]).1=some (C[k]).2:=Z9k U.4 hm;have hg:(was.both d).get (C[k]).1=some (C[k]).2:=by rw[U.3];exact gj
  rw[Z9d _ U.1.sorted] at hg;cases hd:d.get (C[k]).1 with
  |some e=>exact(U.1.name _ (Z4 hd)).2
  |none=>rw[hd] at hg;exact(U.2.name _ (Z4 hg)).2
 have W0:WhS w g ts (.slice (some ⟨w2,0,none⟩) 1 1) [XT] w3:=by have ah:=S3.2;have fw:Below w2 w2 (w2.alloc (.cells #[XT] 9)):=(Zu w2 w2).alloc (Zt _) _;have S0:Strs (w2.alloc (.cells #[XT] 9)) w (.slice (some ⟨w2,0,none⟩) 1 1) [XT]:=⟨rfl,Zy ⟨w2.heap.size,1,#[.string (str XT)],rfl,S2.2.size,ZB w2 _,Zt _,by simp[maxLen],rfl,rfl⟩⟩;refine⟨S0.after ah,by rw[<-dj];exact S3.1,S2.2.trans ((fw.trans (ah.mono Qx)).mono S2.2.size),λe=> ?_⟩;simp[Value.ownBlock,ZdC] at e;have:=S3.3;simp at this;omega
 have fp:=ZI W0;have dy:=ZM fi bz;clear dj fi W0 bz;go_loopw [8,34] (λl8 iv wr=>∃k:Nat,k<=C.length/\iv=(k:Int)/\WhS w g ts l8 (XQ was d f k) wr) (λ_ iv _=>C.length- (intOf iv).toNat)
 .exact⟨0,Qw,rfl,fp.o⟩
 obtain⟨k,hk,rfl,F⟩:=hrel;have dz:=ZI F;by_cases de:k<C.length
 .have au:=F.txt.cell (dy.1 k de);have aj:(C[k]).1.length<=maxLen:=by have:=dy.2 k de;unfold maxLen;omega
  have⟨x,hx⟩:=ZK (C[k]).1;rw[hx] at au aj;have fq:=(HP.o.row.after F.bel).c0;obtain⟨sz1,sm1,a1,l1,c1,eu, -,ef⟩:=Ff (HP.o.dir.after F.bel) x aj;obtain⟨sz2,sm2,a2,l2,c2,ew, -,eh⟩:=Ff (HW.o.after F.bel) x aj;have q1:=eu _ (Zu _ _);have cu:Below wr wr (wr.alloc (.cells #[(sz1:Int),.int .u32 sm1,.slice a1 l1 c1] 164)):=(Zu _ wr).alloc (Zt _) _;have q2:=ew _ cu;have bf:Below wr wr ((wr.alloc (.cells #[(sz1:Int),.int .u32 sm1,.slice a1 l1 c1] 164)).alloc (.cells #[(sz2:Int),.int .u32 sm2,.slice a2 l2 c2] 164)):=cu.alloc Qx _;have q3:=Ha (HP.o.fsh.after (F.bel.trans (bf.mono F.bel.size))) x aj;have ft:=(HP.o.row.after (F.bel.trans (bf.mono F.bel.size))).c1;have dq:ChS w g ts u8 (XQ was d f k) wr (wr.heap.size+1) sz1 sm1 sz2 sm2 a1 a2 l1 c1 l2 c2 (d.get x) (was.get x) ((wr.alloc (.cells #[(sz1:Int),.int .u32 sm1,.slice a1 l1 c1] 164)).alloc (.cells #[(sz2:Int),.int .u32 sm2,.slice a2 l2 c2] 164)):=
   ⟨F.after bf,(Z2 wr _ _).after ((Zu _ _).alloc (Zt _) _),by have:=Z2 (wr.alloc (.cells #[(sz1:Int),.int .u32 sm1,.slice a1 l1 c1] 164)) 164 [.int .i64 sz2,.int .u32 sm2,.slice a2 l2 c2];simpa using this,λe he=>(ef e he).fr (Z1 (L:=[]) bf) Qx,λe he=>(eh e he).fr (Z1 (L:=[]) bf) Qx⟩
  have HC:=ZI dq;have HX:=ZI hx;clear F hx eu ew cu bf dq ef eh;go_wp2;generalize (wr.alloc (.cells #[(sz1:Int),.int .u32 sm1,.slice a1 l1 c1] 164)).alloc (.cells #[(sz2:Int),.int .u32 sm2,.slice a2 l2 c2] 164)=w5 at*
  generalize wr.heap.size+1=y2 at*
  generalize wr.heap.size=y1 at*
  clear q1 q2 q3 ft fq au;have⟨b1,Z⟩:=ZK (d.get x).isSome;have⟨b2,aq⟩:=ZK (was.get x).isSome;have⟨b3,ah⟩:=ZK (f.by x).isSome;rw[Z,aq,ah];go_cut [76] from 62 to 76 (λv wx=>v=.bool (B9 was d f x)/\ChS w g ts u8 (XQ was d f k) y1 y2 sz1 sm1 sz2 sm2 a1 a2 l1 c1 l2 c2 (d.get x) (was.get x) wx)
  case first=>
   have aw:(b1&&b2&& !b3)=false->B9 was d f x=false:=λh=>by
    unfold B9;cases J:d.get x with
    |none=>rfl
    |some e=>
     cases h2:was.get x with
     |none=>rfl
     |some o=>rw[J] at Z;rw[h2] at aq;subst Z;subst aq;subst ah;simp at h;simp[h]
   have fg:(b1&&b2&& !b3)=true->∃e o,d.get x=some e/\was.get x=some o/\B9 was d f x=decide (e.tail=o.tail):=λh=>by
    cases J:d.get x with
    |none=>rw[J] at Z;subst Z;simp at h
    |some e=>
     cases h2:was.get x with
     |none=>rw[h2] at aq;subst aq;simp at h
     |some o=>
      refine⟨e,o,rfl,rfl,?_⟩;have:b3=false:=by simp at h;exact h.2
      unfold B9;rw[J,h2,ah,this];simp
   cases b1<;>cases b2<;>cases b3
   case true.true.false=>
    have⟨e,o,he,ho,ic⟩:=fg rfl;have⟨p1,p2,p3,p4⟩:=(U.1.ent _ (Z4 he)).Zc9 df;have⟨q1,q2,q3,q4⟩:=(U.2.ent _ (Z4 ho)).Zc9 df;have D0:=HC.o.after ((Zu _ w5).drew);obtain⟨⟨d0,d1,d2⟩,d3,d4,d5⟩:=D0.cs;have HQ:=ZM p3 q3;have dx:=ZM he ho;clear p3 q3 aw fg;go_region_with (first|(go_at_call 133;go_fit (Iy _ e _ (ChS.e1 (by assumption) e dx.1) p1 p2 HQ.1 p4);rintro r w6 ⟨rfl,ae⟩;have D6:=ChS.after (w:=w) (by assumption) ae;obtain⟨⟨f0,f1,f2⟩,f3,f4,f5⟩:=D6.cs;clear ae)|(go_at_call 133;go_fit (Iy _ o _ (ChS.e2 (by assumption) o dx.2) q1 q2 HQ.2 q4);rintro r w6 ⟨rfl,ae⟩;have D6:=ChS.after (w:=w) (by assumption) ae;obtain⟨⟨f0,f1,f2⟩,f3,f4,f5⟩:=D6.cs;clear ae))
    all_goals go_wp2
    all_goals go_meet
    all_goals refine⟨?_,by assumption⟩
    all_goals rw[ic,Z7q]
   all_goals go_region
   all_goals go_wp2
   all_goals go_meet
   all_goals exact⟨by rw[aw rfl],HC.o.after ((Zu _ _).drew)⟩
  case rest=>
   have cw:=HC.o.wh.bel;obtain⟨rfl,hC⟩:=hcut;have cn:=ZI hC;have fj:(was.both d).names[k]? =some x:=by rw[U.3];unfold Dir.names;rw[Ze8,Z8 de,ZeO,HX.o]
   have bq:=ZI fj;have⟨sk,aw⟩:=ZK (B9 was d f x);rw[aw];clear hC fj cw HC dz;cases sk
   case true=>
    go_wp2;go_roundw
    .exact⟨k+1,Qw,QC,by rw[Z0k bq.o aw];exact cn.o.wh⟩
    simp[intOf];omega
   case false=>
    have bj:(YM (x,d.get x)).length<=60000:=Zq (Py (h:=XT) (Z0n bq.o aw)) HZ.o;have dt:=ZI bj;have er:(XQ was d f k).length<=1000000:=by have:=Z0j (was:=was) (d:=d) (f:=f) k;omega
    have du:=ZI er;clear bj er;have bu:Below wc wc (wc.alloc (.cells #[x] 9)):=(Zu _ wc).alloc (Zt _) _;have C6:=cn.o.after bu;obtain⟨⟨d0,d1,d2⟩, -⟩:=C6.cs;have X6:ChX w g ts u8 (XQ was d f k) y1 y2 sz1 sm1 sz2 sm2 a1 a2 l1 c1 l2 c2 (d.get x) (was.get x) wc (.slice (some ⟨wc,0,none⟩) 1 1) [x] (wc.alloc (.cells #[x] 9)):=⟨C6,Z4x wc x,bu.size⟩;have bm:=ZI X6;have dp:=ZI bu;clear C6 X6 bu;cases b1
    case true=>
     have⟨e,he⟩:=ZdQ.1 Z;have⟨p1,p2,p3,p4⟩:=(U.1.ent _ (Z4 he)).Zc9 df;have fm:=ZI p3;have HE:=ZI he;clear p3 he;have af:(Y8 [x,e.tail]).length<=60000:=by have:=dt.o;rw[HE.o] at this;exact this
     have cr:=ZI af;clear af;go_wp2_with (first|(go_at_call 133;go_fit (Iy _ e _ (bm.o.ch.e1 e HE.o) p1 p2 fm.o p4);rintro r w6 ⟨rfl,ae⟩;have S6:=ZM (bm.o.after ae) (dp.o.trans (ae.mono dp.o.size));clear ae)|(at_builtin;refine CY _ rfl (.tmp 80) (.tmp 83) rfl wc.heap.size (.slice (some ⟨wc,0,none⟩) 1 1) [x] rfl (S6.1.ox.after ((Zu _ _).alloc (Zt _) _)) w6.heap.size e.tail rfl (ZB w6 _) (by have:=S6.1.be;simp;omega) Qx ?_;intro g7 fu w7 fe ek ia;have S7:=ZM fe (cn.o.xfr (S6.2.trans (((Zu w6 w6).alloc (Zt _) _).mono S6.2.size)) (S6.1.ox.after ((Zu _ _).alloc (Zt _) _)) ek);clear fe ek ia)|(go_at_call 126;go_fit (KP wc _ [x,e.tail] _ S7.1 Qx cr.o);rintro r w8 ⟨rfl,bh⟩;have S8:=ZI (S7.2.after bh);clear bh)|(at_builtin;refine CY _ rfl (.tmp 93) (.tmp 95) rfl w.heap.size u8 (XQ was d f k) rfl (S8.o.wh.own.after ((Zu _ _).alloc (Zt _) _)) w8.heap.size (Y8 [x,e.tail]) rfl (ZB w8 _) (by have:=S8.o.wh.bel.size;simp;omega) du.o ?_;intro g9 ay w9 ag ai ak;have S9:=ZN ag ai ak;clear ag ai ak));go_roundw
     .refine⟨k+1,Qw,QC,?_⟩;rw[NY bq.o aw];have⟨ag,ai,ak⟩:=S9.o;have W8:=S8.o.wh.after ((Zu w8 w8).alloc (Zt _) (.cells #[.string (str (Y8 [x,e.tail]))] 9));have cz:YM (x,d.get x)=Y8 [x,e.tail]:=by unfold YM;rw[HE.o]
      refine W8.next (by rw[cz];have⟨g8,ct,ij,ie,_,_,_,ib⟩:=Xf ag Qx;exact ag) ai (λe=> ?_)
      simp[Value.ownBlock,ZdC] at e;subst e;rcases ak with J|J
      .exact W8.no J
      .have h9:g9=(w8.alloc (.cells #[.string (str (Y8 [x,e.tail]))] 9)).heap.size:=J;have:=W8.txt.lt;omega
     simp[intOf];omega
    case false=>
     have he:d.get x=none:=by cases h9:d.get x with
      |none=>rfl
      |some e=>rw[h9] at Z;cases Z
     have HE:=ZI he;clear he;have af:(Y8 [x]).length<=60000:=by have:=dt.o;rw[HE.o] at this;exact this
     have cr:=ZI af;clear af;go_wp2_with (first|(go_at_call 126;go_fit (KP wc _ [x] _ bm.o.ox Qx cr.o);rintro r w8 ⟨rfl,bh⟩;have S8:=ZI (bm.o.ch.after bh);clear bh)|(at_builtin;refine CY _ rfl (.tmp 93) (.tmp 95) rfl w.heap.size u8 (XQ was d f k) rfl (S8.o.wh.own.after ((Zu _ _).alloc (Zt _) _)) w8.heap.size (Y8 [x]) rfl (ZB w8 _) (by have:=S8.o.wh.bel.size;simp;omega) du.o ?_;intro g9 ay w9 ag ai ak;have S9:=ZN ag ai ak;clear ag ai ak));go_roundw
     .refine⟨k+1,Qw,QC,?_⟩;rw[NY bq.o aw];have⟨ag,ai,ak⟩:=S9.o;have W8:=S8.o.wh.after ((Zu w8 w8).alloc (Zt _) (.cells #[.string (str (Y8 [x]))] 9));have cz:YM (x,d.get x)=Y8 [x]:=by unfold YM;rw[HE.o]
      refine W8.next (by rw[cz];have⟨g8,ct,ij,ie,_,_,_,ib⟩:=Xf ag Qx;exact ag) ai (λe=> ?_)
      simp[Value.ownBlock,ZdC] at e;subst e;rcases ak with J|J
      .exact W8.no J
      .have h9:g9=(w8.alloc (.cells #[.string (str (Y8 [x]))] 9)).heap.size:=J;have:=W8.txt.lt;omega
     simp[intOf];omega
 .obtain rfl:k=C.length:=by omega
  have bg:XQ was d f C.length=XT::(YD was d f).map YM:=Z0i (by rw[U.3,ey];exact Zt _);rw[bg] at F;obtain⟨g9,ay,ik,rfl,_,_,_,fc⟩:=Xf F.own Qx;have fo:=ZI fc;have dm:=ZI F.bel;have⟨m,hm⟩:=ZK (YD was d f).length;have hlen:(XT::(YD was d f).map YM).length=m+1:=by rw[Ze,Zf,hm]
  have dw:=ZM hlen hm;have iw:m<=60000:=by have J:=Ep (XT::(YD was d f).map YM);have h2:(Y8 (XT::(YD was d f).map YM)).length<=60000:=HZ.o;rw[Xo] at h2;rw[hlen] at J;omega
  rw[hlen];clear hlen bg dz F fc hm;go_wp2_with (go_at_call 126;have hq:=Fq g9 ay (XT::(YD was d f).map YM) ik _ fo.o HZ.o;rw[dw.1] at hq;go_fit hq;rintro r w6 ⟨rfl,ae⟩;have S6:=ZI ae;clear ae hq);go_ret3;exact⟨by rw[dw.2];rfl,dm.o.trans (S6.o.mono dm.o.size)⟩
