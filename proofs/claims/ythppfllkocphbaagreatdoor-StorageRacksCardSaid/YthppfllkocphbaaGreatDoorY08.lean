/- Part 9: lemmas about what the program computes. -/
import Derived.Test.YthppfllkocphbaaGreatDoorY06
namespace Go.Proofs.YthppfllkocphbaaGreatDoor
set_option linter.unusedVariables false
set_option linter.unusedSimpArgs false
set_option maxHeartbeats 25600000
set_option maxRecDepth 100000
open Tryz Go.RowKit
section
open Go.Maps Go.WideMaps
def JE(D:Dk)(l:List Nat):Bs:=l.flatMap λa=>(D.reads a).data.toList
theorem Rc(D:Dk)(a b:List Nat):JE D (a++b)=JE D a++JE D b:=by simp[JE]
theorem Hj{D:Dk}{n:Nat}(ok:D.ok n){l:List Nat}(h:∀a∈l,a<n):(JE D l).length=64*l.length:=by
 unfold JE
 induction l with
 |nil=>rfl
 |cons a l ih=>have:=AI ok (h a (by simp));rw[Z5s,Z5d,ih (λb C=>h b (by grind)),Z5h];simp;omega
theorem Z05(s d:Nat)(S:Sto)(name:Bs)(w:World)(h:Yf w s d S)(hn:name.length<=1000000)(O:S.dir.get name=none):Calls prog 157 #[.pointer (some ⟨s,0,none⟩),.string (str name)] w λr w'=>∃b,r=.returned (.tuple #[.string ⟨#[]⟩,.iface 139 (.pointer (some ⟨b,0,none⟩))])/\Zk w' w.heap.size 13 (.iface 139 (.pointer (some ⟨b,0,none⟩)))/\Below w.heap.size w w':=by obtain⟨j,b,us,F,h2,⟨fv,m1,m2,m3⟩,h4⟩:=h;have U:=m1.look_none (t:=155) (e:=164) underlying155 (Aa w) (show name.length<=maxLen by unfold maxLen;omega) (m2 name O);have c3:=F.cell (j:=3) rfl;have Z:=F.cell (j:=5) rfl;go_enter func157,ntmps157;have J:Below w.heap.size w (w.alloc (.cells #[.int .i64 0,.int .u32 0,.slice none 0 0] 164)):=(Below.refl _ w).alloc Z5D _;have C:=Z5F J;go_wp2_with (go_at_call 83;refine(EF 13 0 (by omega) _).mono ?_;rintro r w' ⟨bb,rfl,hv,M⟩);go_ret2;exact⟨_,rfl,hv.base (by simp),C.out.trans (M.mono C.out.size)⟩
theorem Z2d(T:ByteArray)(cd:Int)(B p d n:Nat)(P:Pw)(D:Dk)(L:List Nat)(s:Nat)(S:Sto)(name:Bs)(e:Ent)(half:Nat)(w:World)(h:PD B w p d n P D L)(eo:Yf w s d S)(hn:name.length<=1000000)(hg:S.dir.get name=some e)(he:Ent.Ok n half e)(U:WX P D=0)(hT:if Wt (D.value e)=e.sum then T=str (D.value e)/\cd=0 else T=⟨#[]⟩/\cd=14):Calls prog 157 #[.pointer (some ⟨s,0,none⟩),.string (str name)] w λr w'=>∃ev,r=.returned (.tuple #[.string T,ev])/\Zk w' w.heap.size cd ev/\Below w.heap.size w w':=by
 have ee:=Z5F hT;clear hT;obtain⟨j,b,us,h1,h2,⟨fv,m1,m2,m3⟩,h4⟩:=eo;obtain⟨v,hv,a,len,cap,rfl,⟨hlen,ah⟩, -⟩:=m3 name e hg;subst hlen;have az:=m1.look_some (t:=155) (e:=164) underlying155 (Aa w) (show name.length<=maxLen by unfold maxLen;omega) hv;have c3:=h1.cell (j:=3) rfl;have c5:=h1.cell (j:=5) rfl;have ey:=h1.lt;have ae:=he.many;have fc:=he.size;have af:=he.secs;have cn:∀i∈Zb e.runs,i<n:=λi hi=>by obtain⟨r,U,hi⟩:=List.mem_flatMap.1 hi;have:=ae r U;rw[List.mem_range'_1] at hi;omega
 have ag:=Hj h.ok cn;have fa:e.runs.length<=100000:=by have h4:e.runs.length<=e.secs.length:=DH e.runs (λr U=>(ae r U).1);unfold ZJ at af;omega
 have cj:(Zb e.runs).length=ZJ e.size:=af;have eh:(Zb e.runs).length<=200:=by rw[cj];unfold ZJ;omega
 have H:=Z5J h U;have dy:=Z5F h1;have HR:=Z5F ah;have HM:=Z5L ae cn ag cj;clear h h1 h2 m1 m2 m3 h4 ah hv hg he U ae cn ag af cj;go_enter func157,ntmps157;go_wp2_with fail;obtain⟨w1,bm⟩:=Z5I (w.alloc (.cells #[.int .i64 e.size,.int .u32 e.sum,.slice a e.runs.length cap] 164));have eu:w1.heap.size=w.heap.size+1:=by rw[bm];simp
 have T0:TlS w (w.heap.size+1) (w.heap.size+1) w.heap.size [] e.size e.sum (.slice a e.runs.length cap) (w1.alloc (.cells #[.pointer none,.slice none 0 0] 258)):=by have U:=Row.new w 164 [.int .i64 e.size,.int .u32 e.sum,.slice a e.runs.length cap];have cu:=U.after ((Below.refl _ (w.alloc _)).alloc Z5D (.cells #[.pointer none,.slice none 0 0] 258));subst bm;exact⟨by rw[<-eu];exact Bld.new _,cu.cell (j:=0) rfl,cu.cell (j:=1) rfl,cu.cell (j:=2) rfl,by simp;omega,((Below.refl _ w).alloc Z5D _).alloc (by simp) _,by omega,by simp,by omega⟩
 rw[<-bm];clear bm;have dz:=Z5F T0;clear T0 az c3 c5;generalize w1.alloc (.cells #[.pointer none,.slice none 0 0] 258)=w2 at*
 go_loopw [35] (λC wr=>∃q:Nat,q<=e.runs.length/\C=.int .i64 q/\TlS w (w.heap.size+1) (w.heap.size+1) w.heap.size (JE D (Zb (e.runs.take q))) e.size e.sum (.slice a e.runs.length cap) wr) (λC _=>e.runs.length- (intOf C).toNat)
 case atStart=>exact⟨0,by omega,rfl,by simpa[JE,Zb] using dz.out⟩
 case round=>
  obtain⟨q,hq,rfl,hS⟩:=hrel;have M:=Z5F hS;by_cases Z:q<e.runs.length
  .obtain⟨g,sp,rfl,b8⟩:∃g sp,a=some ⟨g,0,none⟩/\Row w g 197 (Qp e.runs++sp):=by
    rcases HR.out with h0|h0
    .rw[h0] at Z;cases Z
    .exact h0
   have cw:=b8.after hS.below;obtain⟨g1,g2⟩:=AF e.runs q Z;have hl:=Wq e.runs;have d1:=cw.cell (j:=q*2) (by rw[Z5c (by omega),Nat.mul_comm];exact g1);have d2:=cw.cell (j:=q*2+1) (by rw[Z5c (by omega),Nat.mul_comm];exact g2);have du:=HM.out.1 (e.runs.getD q (0,0)) (by rw[Z59,Z5a Z];exact Z5r Z);have bj:=JM e.runs q Z;have b7:=Au e.runs (q+1);obtain⟨f,hf⟩:=Z5H (e.runs.getD q (0,0)).1;obtain⟨m,hm⟩:=Z5H (e.runs.getD q (0,0)).2;rw[hf,hm] at bj du;rw[hf] at d1;rw[hm] at d2;obtain⟨m1,m2,m3⟩:=du;have ez:n<=8192:=H.out.1.ok.n2;have aw:(Zb (e.runs.take q)).length+m<=200:=by obtain⟨zz,hz⟩:=b7;rw[bj] at hz;have:=congrArg List.length hz;simp only[Z5d,List.length_range'] at this;omega
   have HK:=Z5J bj aw;clear hS b8 cw g1 g2 hl hf hm bj b7 aw;go_wp2_with fail;obtain⟨x,hx⟩:=Z5H wr.heap.size;have cz:=Row.new wr 197 [.int .i64 (f:Int),.int .i64 (m:Int)];have T5:=M.out.after ((Below.refl wr.heap.size wr).alloc Z5D (.cells #[.int .i64 (f:Int),.int .i64 (m:Int)] 197));rw[hx] at cz⊢;have er:w.heap.size+1<=x:=by rw[<-hx];exact M.out.lo2
   generalize wr.alloc (.cells #[.int .i64 (f:Int),.int .i64 (m:Int)] 197)=w6 at*
   have de:=Z5J T5 cz;clear T5 cz hx d1 d2;go_loopw [11] (λC wj=>∃t:Nat,t<=m/\C=.int .i64 ((f+t:Nat):Int)/\TlS w (w.heap.size+1) (w.heap.size+1) w.heap.size (JE D (Zb (e.runs.take q)++List.range' f t)) e.size e.sum (.slice (some ⟨g,0,none⟩) e.runs.length cap) wj/\Row wj x 197 [.int .i64 (f:Int),.int .i64 (m:Int)]) (λC _=>f+m- (intOf C).toNat)
   case atStart=>exact⟨0,by omega,by simp,by simpa using de.out.1,de.out.2⟩
   case round=>
    obtain⟨t,ht,rfl,al,b9⟩:=hrel;have x0:=b9.cell (j:=0) rfl;have x1:=b9.cell (j:=1) rfl;have ak:=Z5J al b9;by_cases fe:t<m
    .obtain⟨C,cr⟩:=Z5H (f+t);have dt:C<n:=(by omega);have k3:(C:Int)<(f:Int)+(m:Int):=(by omega);have s0:wr.cell? ⟨s,0,none⟩=some (.pointer (some ⟨d,0,none⟩)):=(dy.out.after al.below).cell (j:=0) rfl;have ai:rdy P D C=0:=by rw[Io H.out.1.ok dt];exact H.out.2
     have aj:Bi P D C=D.reads C:=by unfold Bi;rw[if_pos ai,Int.toNat_natCast]
     have dc:=AI H.out.1.ok dt;obtain⟨R,hR⟩:=Z5H (D.reads C);rw[hR] at aj dc;have ek:(JE D (Zb (e.runs.take q)++List.range' f t)).length<=64*400:=by
      rw[Hj H.out.1.ok]
      .rw[Z5d,List.length_range'];have:=HK.out.2;omega
      .intro a ha;obtain⟨zz,hz⟩:=Au e.runs (q+1);rcases Z5p.1 ha with ha|ha
       .refine HM.out.2.1 a ?_;rw[hz,HK.out.1];simp[ha]
       .rw[List.mem_range'_1] at ha;omega
     obtain⟨Q,O⟩:=Z5H (JE D (Zb (e.runs.take q)++List.range' f t));rw[O] at al ak ek;have F:=Z5M O hR cr ai aj;rw[cr];clear al b9 O hR cr ai aj;go_wp2_with (first|(go_at_call 73;refine((H.out.1.after ak.out.1.below).read (C:Int)).mono ?_;rw[F.out.2.2.2.1,F.out.2.2.2.2];rintro r w8 ⟨ev,rfl,dp,bu⟩;obtain rfl:=dp.zero;have T8:=Z5J (ak.out.1.after bu) (ak.out.2.after bu);clear bu dp)|(go_at_call 164;refine(GO (w.heap.size+1) (w.heap.size+1) Q R _ T8.out.1.bld (by omega) T8.out.1.lo2).mono ?_;rintro r w9 ⟨rfl,df,dj,dq⟩;have T9:=Z5J (T8.out.1.wrote df dj) (dq _ _ _ (by decide) (by decide) T8.out.2);clear df dj dq));go_roundw
     case measure=>have:=F.out.2.2.1;simp[intOf];omega
     case rel=>
      refine⟨t+1,by omega,by have:=F.out.2.2.1;rw[<-this];go_num,?_,T9.out.2⟩;have h9:=T9.out.1;rw[<-F.out.1,<-F.out.2.1,<-F.out.2.2.1] at h9;have e9:JE D (Zb (e.runs.take q)++List.range' f (t+1))=JE D (Zb (e.runs.take q)++List.range' f t)++(D.reads (f+t)).data.toList:=by rw[List.range'_1_concat,<-Z5g,Rc];simp[JE]
      rw[e9];exact h9
    .obtain rfl:t=m:=(by omega);have k3:¬ ((f+t:Nat):Int)<(f:Int)+(t:Int):=(by omega);clear al b9;go_wp2_with fail;go_roundw
     case measure=>simp[intOf];omega
     case rel=>exact⟨q+1,by omega,by go_num,by rw[HK.out.1];exact ak.out.1⟩
  .obtain rfl:q=e.runs.length:=(by omega);rw[Z5A] at M;have au:=M.out.bld;clear hS;have bq:(JE D (Zb e.runs)).length=64*ZJ e.size:=(by rw[HM.out.2.2.1,HM.out.2.2.2]);obtain⟨Q,O⟩:=Z5H (JE D (Zb e.runs));have hV:D.value e=Q.take e.size:=by rw[<-O];rfl
   rw[O] at M au bq;have ct:e.size<=Q.length/\Q.length<=100000:=by rw[bq];unfold ZJ;omega
   have dw:∀W,(Instr.slice 9 (.string ⟨Q.toArray⟩) none (some (.int .i64 (e.size:Int))) none).run prog W=.ok (.string (str (Q.take e.size))) W:=λW=>by rw[Ex (P:=prog) 9 underlying9 ⟨Q.toArray⟩ e.size (by show e.size<=Q.toArray.size;simp;exact ct.1) W];congr 2;apply YU;rw[Zn];simp
   obtain⟨V,bg⟩:=Z5H (Q.take e.size);rw[bg] at dw;have ew:V.length<=100000:=by rw[<-bg,Z5j];omega
   have F:=Z5L O bg hV bq;have HZ:=Z5F ct;clear O bg hV bq ct;have e0:=M.out.e0;have e1:=M.out.e1;go_wp2_with fail;go_cut [14] from 66 to 69 (λv wx=>v=.string (str V)/\wx.cell? ⟨w.heap.size,1,none⟩=some (.int .u32 (e.sum:Int))/\Below w.heap.size w wx)
   case first=>
    have J:=M.out.after ((Below.refl _ wr).drew);have f0:=J.e0;clear e0 e1;go_region_with (go_at_call 165;refine(Df (w.heap.size+1) (w.heap.size+1) _ _ J.bld J.lo2).mono ?_;rintro r w7 ⟨rfl,bh⟩;have g0:w7.cell? ⟨w.heap.size,0,none⟩=some (.int .i64 (e.size:Int)):=(bh.cell (p:=⟨w.heap.size,0,none⟩) J.ebB).trans J.e0)
    all_goals have g1:w7.cell? ⟨w.heap.size,1,none⟩=some (.int .u32 (e.sum:Int)):=(bh.cell (p:=⟨w.heap.size,1,none⟩) J.ebB).trans J.e1
    all_goals have g2:Below w.heap.size w w7:=J.below.trans (bh.mono J.lo)
    all_goals clear bh
    all_goals go_wp2_with fail
    all_goals go_meet
    all_goals exact⟨rfl,g1,g2⟩
   case rest=>
    obtain⟨rfl,c1,dh⟩:=hcut;have bf:=Z5F dh;obtain⟨c,hc⟩:=Z5H (Wt V);have dm:uv (crc (str V).data.toList)=(c:Int):=by rw[<-hc,QD];rfl
    have dx:(str V).size<=maxLen:=by rw[Z5];unfold maxLen;omega
    have HC:=Z5J hc dm;clear dw e0 e1 dh hc dm au;have aq:=ee.out;rw[F.out.2.2.1,F.out.2.1,HC.out.1] at aq;by_cases bz:c=e.sum
    .rw[if_pos bz] at aq;obtain⟨rfl,rfl⟩:=aq;subst bz;have ef:((e.sum:Int) !=(e.sum:Int))=false:=(by simp);go_wp2_with fail;go_region_with (go_at_call 130;refine(DM (str V) _ dx).mono ?_;rw[HC.out.2];rintro r w8 ⟨rfl,rfl⟩)
     all_goals go_wp2_with fail
     all_goals go_ret2
     all_goals exact⟨_,rfl,Zk.nil _ _,bf.out.drew⟩
    .rw[if_neg bz] at aq;obtain⟨rfl,rfl⟩:=aq;have ef:((c:Int) !=(e.sum:Int))=true:=by simp;omega
     go_wp2_with fail;go_region_with (go_at_call 130;refine(DM (str V) _ dx).mono ?_;rw[HC.out.2];rintro r w8 ⟨rfl,rfl⟩)
     all_goals go_wp2_with (go_at_call 83;refine(EF 14 0 (by decide) _).mono ?_;rintro r w' ⟨bb,rfl,hv,hb⟩)
     all_goals go_ret2
     all_goals exact⟨_,rfl,hv.base (by have:=bf.out.size;exact this),bf.out.drew.trans (hb.mono (by have:=bf.out.size;exact this))⟩
theorem RW(B p d n:Nat)(P:Pw)(D:Dk)(L:List Nat)(s:Nat)(S:Sto)(name:Bs)(e:Ent)(half:Nat)(w:World)(h:PD B w p d n P D L)(C:Yf w s d S)(J:name.length<=1000000)(F:S.dir.get name=some e)(he:Ent.Ok n half e)(M:WX P D=0):Calls prog 157 #[.pointer (some ⟨s,0,none⟩),.string (str name)] w λr w'=>∃ev,r=.returned (.tuple #[.string (if Wt (D.value e)=e.sum then str (D.value e) else⟨#[]⟩),ev])/\Zk w' w.heap.size (if Wt (D.value e)=e.sum then 0 else 14) ev/\Below w.heap.size w w':=Z2d _ _ B p d n P D L s S name e half w h C J F he M (by simp_all)
end
section
open Go.Maps Go.WideMaps
variable{base:Nat}{l:List Bs}{v:Value}{w:World}
theorem RY(h:Nat)(pre x:Bs)(W:World)(hc:W.cell? ⟨h,0,none⟩=some (.string (str pre))):Calls prog 140 #[.string (str x),.pointer (some ⟨h,0,none⟩)] W λe w'=>e=.returned (.bool (!Lib.hasPrefix x pre))/\w'=W:=by go_enter func140,ntmps140;go_wp2_with (go_at_call 141;refine(Tryz.strings_HasPrefix _ _ _).mono ?_;rintro e w' ⟨rfl,rfl⟩);go_ret;exact⟨rfl,rfl⟩
theorem Strs.pre{g n cap:Nat}(h:Strs w base (.slice (some ⟨g,0,none⟩) n cap) l)(m:Nat)(hm:m<=l.length):Strs w base (.slice (some ⟨g,0,none⟩) m cap) (l.take m):=by
 rcases h.2 with ⟨hv,_⟩|⟨U,O,cur,hv,C,hh,Z,F,J,M⟩
 .grind
 .simp at hv;obtain⟨rfl,rfl,rfl⟩:=hv;have hl:(l.take m).length=m:=by simp_all
  refine⟨by simp[Z7],Or.inr ⟨g,cap,cur,by rw[hl],C,hh,by omega,F,J,?_⟩⟩;rw[hl,Nat.mul_one];have:=congrArg (List.take m) M;rw[List.take_take,Nat.mul_one,Nat.min_eq_left hm] at this;rw[this];simp[Z7]
theorem Strs.mono{C:Nat}(h:Strs w base v l)(J:C<=base):Strs w C v l:=by refine⟨h.1,h.2.imp id ?_⟩;rintro⟨g,cap,cur,hv,F,r⟩;exact⟨g,cap,cur,hv,Z5w J F,r⟩
theorem Z26(h:Value)(w:World):Calls prog 139 #[.slice none 0 0,h] w λe w'=>e=.returned (.slice none 0 0)/\w'=w:=by go_enter func139,ntmps139;go_wp2_with (go_at_call 198;refine(Tryz.slices_IndexFunc_empty (α:=Bs) none 0 h _).mono ?_;rintro e w' ⟨rfl,rfl⟩);go_ret;simp
theorem Z1W{h C off q:Nat}{d:Array Bs}{os:Array Obj}(hc:w.cell? ⟨h,0,none⟩=some v)(F:h≠C):(Sort.grow (Sort.putRow encStr (Sort.ahead w q) C off d) os).cell? ⟨h,0,none⟩=some v:=by have J:=Z5b w ⟨h,0,none⟩ hc;rw[Sort.cell?_grow _ _ _ (by simp_all),Sort.cell?_putRow_other _ _ _ _ _ _ (Or.inl F)];exact hc
theorem BY(s d:Nat)(S:Sto)(pre:Bs)(w:World)(h:Yf w s d S)(hs:S.dir.Sorted)(hn:S.dir.length<=100000):Calls prog 96 #[.pointer (some ⟨s,0,none⟩),.string (str pre)] w λr w'=>∃v,r=.returned (.tuple #[v,.nilIface])/\Strs w' w.heap.size v (S.dir.names.filter λn=>Lib.hasPrefix n pre)/\Below w.heap.size w w':=by
 obtain⟨j,b,us,O,h2,J,h4⟩:=h;have c3:=O.cell (j:=3) rfl;have c5:=O.cell (j:=5) rfl;have b7:=O.lt;have HD:=Z5F J;have af:=Z5F hs;have ae:S.dir.names.length=S.dir.length:=Z5i ..;have HN:=Z5F ae;clear O h2 h4 J hs ae;go_enter func96,ntmps96;have ai:=Row.new w 9 [.string (str pre)];have ag:Below w.heap.size w (w.alloc (.cells #[.string (str pre)] 9)):=(Below.refl _ w).alloc Z5D _;have M:=Z5J ai ag;go_wp2_with (go_at_call 132;refine(EH b S.dir.length S.dir _ (HD.out.after M.out.2) af.out hn).mono ?_;rintro r w2 ⟨v,rfl,hv,U⟩;have C:=Z5K (show Strs w2 (w.heap.size+1) v S.dir.names by simpa using hv) (M.out.1.after U) (M.out.2.trans (U.mono M.out.2.size));clear U hv);have eg:∀args w,(callFunc 140 args).run prog w=.ok (.enter 140 args) w:=enters_of func140 (by kernel_rfl) rfl;have z9:∀w,(zeroValue 9).run prog w=.ok (encStr []) w:=λw=>by kernel_rfl
 rcases C.out.1.2 with ⟨hv,h0⟩|⟨g,cap,cur,hv,_⟩
 .subst hv;have ak:S.dir.names=[]:=by simp_all
  go_fit (Z26 _ _);rintro e w' ⟨rfl,rfl⟩;go_wp2;go_ret2;exact⟨_,rfl,by rw[ak];exact Strs.nil _ _,C.out.2.2⟩
 .have ho:=C.out.1;subst hv;obtain⟨hH,aw,az,aj⟩:=ho.holds;have Z:w2.cell? ⟨w.heap.size,0,none⟩=some (.string (str pre)):=C.out.2.1.cell (j:=0) rfl;have al:w.heap.size≠g:=by omega
  have aq:=Z5b w2 _ Z;have J:=Tryz.slices_DeleteFunc (α:=Bs) encStr (λx=>rfl) (λx=> !Lib.hasPrefix x pre) 140 #[.pointer (some ⟨w.heap.size,0,none⟩)] eg [] z9 g 0 cap S.dir.names.toArray w2
   (λW x hb=>(RY w.heap.size pre x W ((hb.cell (p:=⟨w.heap.size,0,none⟩) aq).trans Z)).mono λe w' h=>⟨h.1,0,h.2⟩)
   (λq os dk x J=>(RY w.heap.size pre x _ (Z1W Z al)).mono λe w' h=>⟨h.1,0,h.2⟩)
   hH (by have:=HN.out;simp;omega) (by omega)
  go_fit J;rintro e w' ⟨rfl,q,rfl⟩;obtain⟨F,hF⟩:=Z5H (S.dir.names.filter λx=>Lib.hasPrefix x pre);have au:F.length<=S.dir.names.length:=by grind
  have HF:=Z5F hF;obtain⟨s1,s2⟩:=ho.sorted (q:=q) (os:= #[]) (l':=F++List.replicate (S.dir.names.length-F.length) []) (by simp_all);have s3:=(s1.pre F.length (by simp)).mono (Nat.le_succ w.heap.size);rw[List.take_left] at s3;have ah:Below w.heap.size w _:=C.out.2.2.trans (s2.below C.out.2.2.size (λi hi=>by rw[Z58] at hi;subst hi;omega));go_wp2;go_ret2;exact⟨_,rfl,by rw[HF.out];exact s3,ah⟩
end
section
open Go.Maps Go.WideMaps
variable{eb:Nat}{rs:List (Nat×Nat)}{sm sz:Int}{v:Value}{w w' wr:World}
theorem Rn(e:Ent):e.tail.length=8+8*e.runs.length:=by unfold Ent.tail;rw[Z5d,Z5d,Zw,Zw,AK]
structure RB(w:World)(g:Nat)(et:TypeId)(l:List Value)(wr:World):Prop where
 row:Row wr g et l
 bel:Below w.heap.size w wr
theorem RB.after{g:Nat}{C:TypeId}{l:List Value}(h:RB w g C l wr)(F:Below wr.heap.size wr w'):RB w g C l w':=⟨h.row.after F,h.bel.trans (F.mono h.bel.size)⟩
structure UtS(w:World)(eb:Nat)(sz sm:Int)(v:Value)(rs:List (Nat×Nat))(wr:World):Prop where
 row:Row wr eb 164 [.int .i64 sz,.int .u32 sm,v]
 own:wr.ownsRow w.heap.size 197 2 v rs.length (Qp rs)
 bel:Below w.heap.size w wr
theorem UtS.after(h:UtS w eb sz sm v rs wr)(C:Below wr.heap.size wr w'):UtS w eb sz sm v rs w':=⟨h.row.after C,Wc h.own C,h.bel.trans (C.mono h.bel.size)⟩
structure XtS(w:World)(v:Value)(x:Nat)(c0 c1:Value)(wr:World):Prop where
 row:Row wr x 197 [c0,c1]
 no:∀g,v.ownBlock=some g->g≠x
 lo:w.heap.size<=x
theorem XtS.new(h:UtS w eb sz sm v rs wr)(c0 c1:Value):XtS w v wr.heap.size c0 c1 (wr.alloc (.cells #[c0,c1] 197)):=⟨Row.new wr _ [c0,c1],λg C e=>by have:=(h.own.lt g C).2;omega,h.bel.size⟩
theorem UtS.set2(h:UtS w eb sz sm v rs wr){x:Nat}{c0 c1:Value}(hx:XtS w v x c0 c1 wr)(a b:Value):Row ((wr.setCell ⟨x,0,none⟩ a).setCell ⟨x,1,none⟩ b) x 197 [a,b]/\UtS w eb sz sm v rs ((wr.setCell ⟨x,0,none⟩ a).setCell ⟨x,1,none⟩ b):=by
 have C:Fr [x] wr ((wr.setCell ⟨x,0,none⟩ a).setCell ⟨x,1,none⟩ b):=((Fr.refl _ _).setCell (Or.inl (by simp)) _).setCell (Or.inl (by simp)) _;have J:eb≠x:=λe=>by have:=Yz h.row (by rw[e];exact hx.row);simp_all
 refine⟨(hx.row.set 0 a).set 1 b,h.row.fr C (by simp_all),Qa h.own C (λg F hm=>hx.no g F (by simp_all)),(h.bel.setCell (p:=⟨x,0,none⟩) hx.lo _).setCell (p:=⟨x,1,none⟩) hx.lo _⟩
theorem PD.sectors{B:Nat}{p d n:Nat}{P:Pw}{D:Dk}{L:List Nat}(h:PD B w p d n P D L):Calls prog 138 #[.pointer (some ⟨d,0,none⟩)] w λe w'=>e=.returned (.int .i64 (n:Int))/\w=w':=by obtain⟨gh,v,_,C⟩:=h.dk;exact Ys p d gh v D n w C h.ok.len h.ok.n2
def Z4K:Value->Nat
 |.string s=>s.size
 |_=>0
def Ww(l:List (Nat×Nat)):Nat:=(l.map (·.2)).sum
theorem Z0Y(l:List (Nat×Nat)):(Zb l).length=Ww l:=by unfold Zb Ww;simp
theorem Ox(a b:List (Nat×Nat)):Ww (a++b)=Ww a+Ww b:=by simp[Ww]
theorem U5(x:Nat×Nat)(l:List (Nat×Nat)):Qr (x::l)=Z4 x.1++(Z4 x.2++Qr l):=by rfl
theorem U7(x:Nat×Nat)(l:List (Nat×Nat)):Ww (x::l)=x.2+Ww l:=by rfl
theorem Z01(f m:Nat)(l:List (Nat×Nat))(U:f<4294967296)(hm:m<4294967296)(hl:l.length<=1000):∃T C:ByteArray,str (Qr ((f,m)::l))=T/\T.size=8+8*l.length/\Yw T.data.toList=f/\Yw C.data.toList=m/\4<=C.size/\ (∀W,(Instr.slice 9 (.string T) (some (.int .i64 4)) none none).run prog W=.ok (.string C) W)/\(∀W,(Instr.slice 9 (.string T) (some (.int .i64 8)) none none).run prog W=.ok (.string (str (Qr l))) W):=by
 obtain⟨T,F⟩:=Z5H (str (Qr ((f,m)::l)));have O:T.size=8+8*l.length:=by rw[<-F,Z5,AK,Z5h];omega
 have h:T.data.toList=Z4 f++(Z4 m++Qr l):=by rw[<-F,Zn,U5]
 have J:(T.extract 4 T.size).data.toList=Z4 m++Qr l:=by rw[Lib.extract_to_end,h,<-Zw f,List.drop_left]
 have M:T.extract 8 T.size=str (Qr l):=by apply YU;rw[Zn,Lib.extract_to_end,h,<-Z5g,show 8=(Z4 f++Z4 m).length from rfl,List.drop_left]
 refine⟨T,T.extract 4 T.size,F,O,by rw[h,Yx _ U],by rw[J,Yx _ hm],by have:=We J;simp at this;rw[ByteArray.size_extract];omega,λW=>YA 9 underlying9 T 4 (by omega) W,λW=>by rw[<-M];exact YA 9 underlying9 T 8 (by omega) W⟩
theorem U8(l:List (Nat×Nat))(k:Nat)(h:k<l.length):l.drop k=l.getD k (0,0)::l.drop (k+1):=by simp_all
theorem Z0j(B p d n:Nat)(P:Pw)(D:Dk)(L:List Nat)(s half:Nat)(e:Ent)(w:World)(h:PD B w p d n P D L)(hs0:w.cell? ⟨s,0,none⟩=some (.pointer (some ⟨d,0,none⟩)))(ft:w.cell? ⟨s,2,none⟩=some (.int .i64 half))(he:Ent.Ok n half e)(h2:2*half<=n):Calls prog 156 #[.pointer (some ⟨s,0,none⟩),.string (str e.tail)] w λr w'=>∃v,r=.returned (.tuple #[v,.bool true])/\Xe w' v e/\Below w.heap.size w w':=by
 have ae:=he.many;have j7:=he.size;have fu:=he.sum;have ah:=he.secs;have bj:=Z5b w _ hs0;have iy:=h.ok.n2;have dz:Ww e.runs=ZJ e.size:=by rw[<-Z0Y];exact ah
 have iz:e.runs.length<=200:=by have h4:e.runs.length<=e.secs.length:=DH e.runs (λr hr=>(ae r hr).1);unfold ZJ at ah;omega
 obtain⟨T,J⟩:=Z5H (str e.tail);have b8:T.size=8+8*e.runs.length:=by rw[<-J,Z5,Rn]
 have bm:T.data.toList=Z4 e.size++(Z4 e.sum++Qr e.runs):=by rw[<-J,Zn];unfold Ent.tail;rw[Z5g]
 have bf:Yw T.data.toList=e.size:=by rw[bm,Yx _ (by omega)]
 obtain⟨Z,cu⟩:=Z5H (T.extract 4 T.size);obtain⟨T8,cw⟩:=Z5H (T.extract 8 T.size);have aq:Z.data.toList=Z4 e.sum++Qr e.runs:=by rw[<-cu,Lib.extract_to_end,bm,<-Zw e.size,List.drop_left]
 have ff:4<=Z.size:=by have:=We aq;simp[Zw] at this;omega
 have b7:T8=str (Qr e.runs):=by apply YU;rw[Zn,<-cw,Lib.extract_to_end,bm,<-Z5g,show 8=(Z4 e.size++Z4 e.sum).length from rfl,List.drop_left]
 have bh:Yw Z.data.toList=e.sum:=by rw[aq,Yx _ fu]
 have dp:∀W,(Instr.slice 9 (.string T) (some (.int .i64 4)) none none).run prog W=.ok (.string Z) W:=λW=>by rw[<-cu];exact YA 9 underlying9 T 4 (by omega) W
 have eo:∀W,(Instr.slice 9 (.string T) (some (.int .i64 8)) none none).run prog W=.ok (.string (str (Qr e.runs))) W:=λW=>by rw[<-b7,<-cw];exact YA 9 underlying9 T 8 (by omega) W
 rw[J];have H:=Z5F h;have HM:=Z5J ae dz;have HR:=Z5J bf bh;have z1:4<=T.size:=by omega
 have zm:(T.size:Int)%8=0:=by omega
 have zl:¬ (T.size:Int)<8:=by omega
 have HZ:=Z5F b8;clear h ae dz J bm bf bh cu cw aq b7 ah b8;go_enter func156,ntmps156;go_wp2_with fail;have aw:=Row.new w 164 [.int .i64 0,.int .u32 0,.slice none 0 0];have dw:Below w.heap.size w (w.alloc (.cells #[.int .i64 0,.int .u32 0,.slice none 0 0] 164)):=(Below.refl _ w).alloc Z5D _;generalize (w.alloc (.cells #[.int .i64 0,.int .u32 0,.slice none 0 0] 164))=w1 at*
 obtain⟨eb,bz⟩:=Z5H w.heap.size;have HE:=Z5F bz;rw[show(Value.pointer (some ⟨w.heap.size,0,none⟩))=Value.pointer (some ⟨eb,0,none⟩) from by rw[bz]];rw[bz] at aw;clear bz;have ik:IntKind.u32.wrap (e.sum:Int)=(e.sum:Int):=IntWalk.u32_in _ (by omega);have HB:=Z5J aw dw;clear aw dw;go_cut [] from 18 to 25 (λwx=>Row wx eb 164 [.int .i64 e.size,.int .u32 e.sum,.slice none 0 0]/\Below w.heap.size w wx)
 case first=>
  have r1:=(RB.mk HB.out.1 HB.out.2).after ((Below.refl _ w1).drew);have f0:=r1.row.free (j:=0) (by simp);have f1:=r1.row.free (j:=1) (by simp);have q0:=r1.row.cell (j:=0) rfl;have q1:=r1.row.cell (j:=1) rfl;go_region_with (go_at_call 218;refine(Mh _ (by assumption) _).mono ?_;(first|rw[HR.out.1]|rw[HR.out.2]);rintro r w3 ⟨rfl,O⟩;have M:=RB.after (w:=w) (g:=eb) (by assumption) O;have f0:=M.row.free (j:=0) (by simp);have f1:=M.row.free (j:=1) (by simp);have q0:=M.row.cell (j:=0) rfl;have q1:=M.row.cell (j:=1) rfl;clear O)
  all_goals go_wp2_with fail
  all_goals go_meet
  all_goals first
   |exact⟨(M.row.set 0 (.int .i64 e.size)).set 1 (.int .u32 e.sum),(M.bel.setCell (p:=⟨eb,0,none⟩) (Nat.le_of_eq HE.out) _).setCell (p:=⟨eb,1,none⟩) (Nat.le_of_eq HE.out) _⟩
   |exact⟨(M.row.set 1 (.int .u32 e.sum)).set 0 (.int .i64 e.size),(M.bel.setCell (p:=⟨eb,1,none⟩) (Nat.le_of_eq HE.out) _).setCell (p:=⟨eb,0,none⟩) (Nat.le_of_eq HE.out) _⟩
 case rest=>
  obtain⟨ag,aj⟩:=hcut;have U0:UtS w eb e.size e.sum (.slice none 0 0) [] wc:=⟨ag,World.ownsRow_nil _ _ _ _,aj⟩;have d0:=ag.cell (j:=0) rfl;have ey:=Z5F U0;clear U0 ag aj ik dp;go_wp2_with (go_at_call 90;refine(EE e.size (by omega) _).mono ?_;rintro r w' ⟨rfl,rfl⟩);have im:=Z5F d0;obtain⟨i0,hi,gj,ia,ib⟩:=info_parts I9;rw[show((ZJ e.size:Nat):Int)=((Ww e.runs:Nat):Int) from by rw[HM.out.2]];clear d0 eo z1 zm zl;go_loopw [1,6] (λtv lv wr=>∃ (k:Nat) (v:Value),k<=e.runs.length/\tv=.string (str (Qr (e.runs.drop k)))/\lv=.int .i64 (Ww (e.runs.drop k):Nat)/\UtS w eb e.size e.sum v (e.runs.take k) wr/\(k=0->v=.slice none 0 0)) (λtv _ _=>Z4K tv)
  case atStart=>exact⟨0,_,by omega,rfl,rfl,ey.out,λ_=>rfl⟩
  case round=>
   obtain⟨k,v,hk,rfl,rfl,C,dh⟩:=hrel;by_cases b9:k<e.runs.length
   .have az:=U8 e.runs k b9;have eh:=HM.out.1 (e.runs.getD k (0,0)) (by rw[Z59,Z5a b9];exact Z5r b9);obtain⟨f,hf⟩:=Z5H (e.runs.getD k (0,0)).1;obtain⟨m,hm⟩:=Z5H (e.runs.getD k (0,0)).2;have cj:e.runs.getD k (0,0)=(f,m):=(by rw[<-hf,<-hm]);rw[hf,hm] at eh;obtain⟨m1,m2,m3⟩:=eh;rw[cj] at az;obtain⟨R,hR⟩:=Z5H (e.runs.drop (k+1));rw[hR] at az;have fe:R.length<=200:=by rw[<-hR,List.length_drop];omega
    obtain⟨T,Z,J,b8,bf,bh,ir,dp,eo⟩:=Z01 f m R (by omega) (by omega) (by omega);have hN:Ww ((f,m)::R)=m+Ww R:=U7 _ _;rw[az,J,hN];have er:e.runs.take (k+1)=e.runs.take k++[(f,m)]:=by
     rw[Z5f b9];have:e.runs[k]=(f,m):=by rw[<-cj,Z59,Z5a b9];rfl
     rw[this]
    have ef:m+Ww R<=200:=by have h1:Ww e.runs=Ww (e.runs.take k)+Ww (e.runs.drop k):=(by rw[<-Ox,Z5z]);rw[az,hN,HM.out.2] at h1;unfold ZJ at h1;omega
    obtain⟨rn,dm⟩:=Z5H (Ww R);rw[dm] at ef⊢;obtain⟨lf,de⟩:=Z5H (m+rn);have ix:m<=lf:=(by omega);rw[de] at ef⊢;have df:=Z5F de;clear de;have bg:=Z5J bf bh;have HK:=Z5N er hR dm cj J az;have z1:4<=T.size:=(by omega);have zp:0<T.size:=(by omega);have zT:T.size<=2000:=(by omega);have ez:=Z5F C;have cz:=Z5F b8;clear C dh az hf hm cj hR J hN er bf bh dm b8 fe;go_wp2_with fail;go_cut [7] from 36 to 41 (λv7 wx=>∃x,v7=.pointer (some ⟨x,0,none⟩)/\Row wx x 197 [.int .i64 (f:Int),.int .i64 (m:Int)]/\UtS w eb e.size e.sum v (e.runs.take k) wx)
    case first=>
     have U1:=ez.out.after ((Below.refl _ wr).drew);go_region_with (go_at_call 218;refine(Mh _ (by assumption) _).mono ?_;(first|rw[bg.out.1]|rw[bg.out.2]);rintro r w3 ⟨rfl,O⟩;have U3:=UtS.after (w:=w) (eb:=eb) (by first|assumption|exact UtS.after (by assumption) (Z5E.alloc Z5D _)) O;(try have X3:=Row.after (e:=197) (l:=[.int .i64 0,.int .i64 0]) (by first|assumption|exact Row.new _ _ _) O);(try have jb:=X3.free (j:=0) (by simp));(try have jc:=X3.free (j:=1) (by simp));(try have j9:=X3.cell (j:=0) rfl);(try have ja:=X3.cell (j:=1) rfl);have iu:=O.size;clear O)
     all_goals go_wp2_with fail
     all_goals go_meet
     all_goals first
      |exact⟨_,rfl,UtS.set2 (w:=w) U3 (XtS.mk X3 (λg hg e2=>by have:=(U1.own.lt g hg).2;have hd:wr.drew.heap.size=wr.heap.size:=rfl;omega) (by have:=U1.bel.size;have hd:wr.drew.heap.size=wr.heap.size:=rfl;omega)) _ _⟩
      |exact⟨_,rfl,UtS.set2 (w:=w) (UtS.after U3 (Z5E.alloc Z5D _)) (XtS.new U3 _ _) _ _⟩
      |exact⟨_,rfl,Row.new _ _ [.int .i64 (f:Int),.int .i64 (m:Int)],UtS.after (by assumption) (Z5E.alloc Z5D _)⟩
    case rest=>
     obtain⟨x,rfl,ct,bq⟩:=hcut;have x0:=ct.cell (j:=0) rfl;have x1:=ct.cell (j:=1) rfl;have y0:wc.cell? ⟨s,0,none⟩=some (.pointer (some ⟨d,0,none⟩)):=(bq.bel.cell (p:=⟨s,0,none⟩) bj).trans hs0;have y2:wc.cell? ⟨s,2,none⟩=some (.int .i64 half):=(bq.bel.cell (p:=⟨s,2,none⟩) bj).trans ft;have g1:decide ((m:Int)<1)=false:=by simp;omega
     have g2:decide ((lf:Int)<(m:Int))=false:=by simp;omega
     have g3:decide ((f:Int)<2*(half:Int))=false:=by simp;omega
     have g4:decide ((n:Int)<(f:Int))=false:=by simp;omega
     have fc:decide (n<f)=false:=by simp;omega
     have g5:decide ((n:Int)- (f:Int)<(m:Int))=false:=by simp;omega
     have ig:IntKind.i64.wrap (2*(half:Int))=2*(half:Int):=Z5x _ (by omega);have ij:IntKind.i64.wrap ((n:Int)- (f:Int))=(n:Int)- (f:Int):=Z5x _ (by omega);have HX:=Z5J ct bq;clear ct bq dp;go_wp2_with fail;have hq:∀k,Calls prog 138 #[.pointer (some ⟨d,0,none⟩)] (wc.drewN k) λe w'=>e=.returned (.int .i64 (n:Int))/\w'=wc.drewN k:=λk=>(PD.sectors (H.out.after (HX.out.2.bel.trans (Zv Z5E k)))).mono λe w' h=>⟨h.1,h.2.symm⟩;have HQ:=Z5F hq;clear hq;go_quiet ((go_at_call 138;exact Calls.quiet_of_same (HQ.out _)));obtain⟨w5,dq⟩:=Z5I (wc.drewN nq);rw[<-dq];have dc:Below wc.heap.size wc w5:=by rw[dq];exact Zv Z5E nq
     have bu:=HX.out.2.after dc;have ai:=HX.out.1.after dc;have z0:=ai.cell (j:=0) rfl;have jd:=ai.cell (j:=1) rfl;have e2:=bu.row.cell (j:=2) rfl;have f2:=bu.row.free (j:=2) (by simp);have U:=Z5J ai bu;have fo:(lf:Int)- (m:Int)=(rn:Int):=by have:=df.out;omega
     have ee:k<=200:=(by omega);have cn:(e.runs.take k).length=k:=by rw[Z5j];omega
     clear dq dc bu ai x0 x1 y0 y2 g1 g2 g3 g4 fc g5 ig ij;go_wp2_with (at_builtin;refine wpList_append_own _ rfl (.tmp 90) (.tmp 92) 162 rfl w.heap.size 197 i0 _ 2 16 underlying162 hi gj ia ib rfl (by omega) v (e.runs.take k).length (Qp (e.runs.take k)) rfl (U.out.2.own.alloc _) ⟨w5.heap.size,0,none⟩ 1 1 [.int .i64 (f:Int),.int .i64 (m:Int)] rfl rfl (World.news_of_block (cs:= #[.int .i64 (f:Int),.int .i64 (m:Int)]) (t:=197) (fr:=(0,0)) (heap_alloc_new w5 _)) (by simp[Value.oneCell']) (by rw[cn];unfold maxLen;omega) (by rw[cn];omega) (by have:=U.out.2.bel.size;simp;omega) ?_;intro v' w6 af au ak;obtain⟨g6,al,j8,rfl,_,_,_,_⟩:=A7 af (λe6=>by have:=ak.1 e6;omega);clear ak;have cr:=Ae (U.out.2.row.alloc (.cells #[.int .i64 (f:Int),.int .i64 (m:Int)] 197)) au (XD U.out.2.row U.out.2.own (by decide));have f26:=cr.free (j:=2) (by simp);have iq:=cr.cell (j:=2) rfl;have dx:Below w.heap.size w w6:=Fr.nil_below (((Fr.of_below (L:=[]) U.out.2.bel).alloc _).grown au (λg hg=>Or.inr (Jj U.out.2.own hg)));have S6:=Z5K cr af dx;clear cr af au dx);go_roundw
     case measure=>have h1:(str (Qr R)).size=8*R.length:=(by rw[Z5,AK]);have h3:=cz.out;show(str (Qr R)).size<T.size;omega
     case rel=>
      obtain⟨eu,du,ic⟩:=S6.out;rw[cn] at du;refine⟨k+1,.slice (some ⟨g6,0,none⟩) (k+1) al,by omega,by rw[HK.out.2.1],by rw[HK.out.2.1,HK.out.2.2.1],?_⟩;rw[HK.out.1];have fi:Fr [eb] w6 (w6.setCell ⟨eb,2,none⟩ (.slice (some ⟨g6,0,none⟩) (k+1) al)):=(Fr.refl _ _).setCell (Or.inl (by simp)) _;refine⟨⟨eu.set 2 (.slice (some ⟨g6,0,none⟩) (k+1) al),?_,ic.setCell (p:=⟨eb,2,none⟩) (Nat.le_of_eq HE.out) _⟩,λh0=>by omega⟩
      have h9:=Qa du fi (λg hg hm=>by
       rw[Z58] at hm;subst hm
       exact XD eu du (by decide) hg)
      rw[Z5d,JQ,cn];exact h9
   .obtain rfl:k=e.runs.length:=(by omega);rw[List.drop_length];have HU:=Z5F C;rw[show str (Qr [])=⟨#[]⟩ from rfl,show Ww []=0 from rfl];obtain⟨a,F,cap,rfl,ek⟩:∃a F cap,v=.slice a F cap/\MH wr a F cap e.runs:=by
     have h1:=C.own;rw[Z5A] at h1;rcases h1.2 with ⟨hv,h0⟩|⟨g,cap,cur,hv,_⟩
     .exact⟨none,0,0,hv,⟨by rw[h0],Or.inl (List.length_eq_zero_iff.1 h0)⟩,λ_=>⟨rfl,rfl⟩⟩
     .obtain⟨g',fa,ie,fw,_,_,_,fp⟩:=A7 h1 (by rw[hv];simp)
      exact⟨_,_,_,fw,⟨rfl,Or.inr ⟨g',ie,rfl,fp⟩⟩,λh0=>by
       have h9:=dh (by rw[h0];rfl)
       rw[hv] at h9;cases h9⟩
    have c0:=C.row.cell (j:=0) rfl;have c1:=C.row.cell (j:=1) rfl;have c2:=C.row.cell (j:=2) rfl;have iw:=C.row.free (j:=0) (by simp);have fj:=C.row.free (j:=1) (by simp);have fm:=C.row.free (j:=2) (by simp);have fq:decide ((e.size:Int)<=12000)=true:=by simp;omega
    have ew:=Z5F ek;clear C ek dh;go_wp2_with fail;obtain⟨w9,dt⟩:=Z5I (((wr.setCell ⟨eb,0,none⟩ (.int .i64 (e.size:Int))).setCell ⟨eb,1,none⟩ (.int .u32 (e.sum:Int))).setCell ⟨eb,2,none⟩ (.slice a F cap));rw[<-dt];have dj:Row w9 eb 164 [.int .i64 (e.size:Int),.int .u32 (e.sum:Int),.slice a F cap]:=by rw[dt];exact((HU.out.row.set 0 (.int .i64 (e.size:Int))).set 1 (.int .u32 (e.sum:Int))).set 2 (.slice a F cap)
    have dy:Fr [eb] wr w9:=by rw[dt];exact(((Fr.refl _ _).setCell (Or.inl (by simp)) _).setCell (Or.inl (by simp)) _).setCell (Or.inl (by simp)) _
    have y0:=dj.cell (j:=0) rfl;have y1:=dj.cell (j:=1) rfl;have y2:=dj.cell (j:=2) rfl;have fg:Below w.heap.size w w9:=HU.out.bel.trans (dy.below HU.out.bel.size (λi hi=>by rw[Z58] at hi;subst hi;exact Nat.le_of_eq HE.out))
    have fh:Xe w9 (.agg #[.int .i64 (e.size:Int),.int .u32 (e.sum:Int),.slice a F cap]) e:=⟨a,F,cap,rfl,ew.out.fr dy (λk hk l hl=>by
     rw[Z58] at hk;subst hk;have:=Yz HU.out.row hl
     revert this;decide)⟩
    exact bodyPost_ret (v:=.tuple #[.agg #[.int .i64 (e.size:Int),.int .u32 (e.sum:Int),.slice a F cap],.bool true]) (by simp[results,Tryz.results156,go_sem,y0,y1,y2]) rfl ⟨_,rfl,fh,fg⟩
end
section
open Go.Maps Go.WideMaps
variable{b n:Nat}{d:Dir}{e t:TypeId}{f fv:Bs->Option Value}{k:Bs}{w w':World}
theorem Z32(O:prog.underlying t=some (.map 9 e))(h:ZA w b n f)(ty:TypeId):∃w',(Builtin.clear_ #[t] ty #[.map (some b)]).run prog w=.ok (.tuple #[]) w'/\ZA w' b 0 (λ_=>none)/\Fr [b] w w':=by obtain⟨D,⟨es,C,J,F,hs,Z⟩,ht2⟩:=h;have M:=MapKept.heap_set (o':=Obj.map #[] C) J;refine⟨{w with heap:=w.heap.setIfInBounds b (.map #[] C)},?_,⟨.map [],⟨#[],C,M.1,⟨by simp,MapKept.stamped_empty C,by simp⟩,Z5D,rfl⟩,λk=>⟨rfl,λv h=>by cases h⟩⟩,⟨rfl,rfl,rfl,by simp,λk hk U=>M.2 k (by simp_all)⟩⟩;simp[Builtin.clear_,run_underlying O,MapKept.run_getObj_map J,MapKept.run_setObj_map _ J]
theorem Gp(M:prog.underlying t=some (.map 9 e))(h:ZA w b n f)(k:Bs)(C:k.length<=maxLen)(ty:TypeId):∃w',(Builtin.delete_ #[t,9] ty #[.map (some b),.string (str k)]).run prog w=.ok (.tuple #[]) w'/\ZA w' b n (λm=>if m=k then none else f m)/\Fr [b] w w':=by obtain⟨D,F,J⟩:=h;obtain⟨w',O,U,Z⟩:=F.drop JG M (FF k C) ty;exact⟨w',O,⟨_,U,J.del k⟩,(Fr.refl [b] w).grown Z.grown (λk C=>by cases C;exact Or.inl (by simp))⟩
theorem L9(O:prog.underlying t=some (.map 9 e))(h:ZA w b n f)(M:n<maxLen)(k:Bs)(C:k.length<=maxLen)(v:Value):∃w',(Instr.mapUpdate t (.map (some b)) (.string (str k)) v).run prog w=.ok () w'/\ZA w' b (n+1) (λm=>if m=k then some v else f m)/\Fr [b] w w':=by obtain⟨D,F,J⟩:=h;obtain⟨w',U,Z,r3⟩:=F.store JG O M (FF k C) (val:=v) (d:=.held v) (ps:=[]) rfl;exact⟨w',U,⟨_,Z,J.put F.isMap k v⟩,(Fr.refl [b] w).grown r3.grown (λk C=>by cases C;exact Or.inl (by simp))⟩
theorem BZ{t u:ByteArray}(h:t≠u):(t.toList==u.toList)=false:=by rw[ByteArray.toList_eq,ByteArray.toList_eq,beq_eq_false_iff_ne];intro e;exact h (YU e)
theorem ZE.delW(hm:ZA w' b n (λm=>if m=k then none else fv m))(F:∀k,d.get k=none->fv k=none)(J:∀k e,d.get k=some e->∃v,fv k=some v/\Xe w' v e):ZE w' b n (d.del k):=by
 refine⟨_,hm,λm C=> ?_,λm e h=> ?_⟩
 .rw[Dir.get_del] at C;simp_all
 .rw[Dir.get_del] at h;simp_all
theorem ZE.putW{v:Value}{x:Ent}(hm:ZA w' b n (λm=>if m=k then some v else fv m))(F:∀k,d.get k=none->fv k=none)(J:∀k e,d.get k=some e->∃v,fv k=some v/\Xe w' v e)(he:Xe w' v x):ZE w' b n (d.put k x):=by
 refine⟨_,hm,λm C=> ?_,λm e h=> ?_⟩
 .rw[Dir.get_put] at C;grind
 .rw[Dir.get_put] at h;grind
theorem XB(h:ZA w b n f):∀k,k∈[b]->∀l,¬Row w k 197 l:=λk C l hl=>by rw[Z58] at C;subst C;obtain⟨es,J,F⟩:=h.block;exact Yh hl F
theorem DC(hm:ZA w b n f)(h:∀k e,d.get k=some e->∃v,f k=some v/\Xe w v e)(J:Fr [b] w w'):∀k e,d.get k=some e->∃v,f k=some v/\Xe w' v e:=λk e M=>by obtain⟨v,C,F⟩:=h k e M;exact⟨v,C,F.fr J (XB hm)⟩
theorem Rw(d:Dir):Ya d=Zz (XH::(d.map λx=>(x.1,some x.2)).map QT):=by rw[List.map_map];rfl
