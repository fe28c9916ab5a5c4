/- Part 4: lemmas about what the program computes. -/
import Derived.Test.YthppfllkocphbaaGreatDoorY02
namespace Go.Proofs.YthppfllkocphbaaGreatDoor
set_option linter.unusedVariables false
set_option linter.unusedSimpArgs false
set_option maxHeartbeats 25600000
set_option maxRecDepth 100000
open Tryz Go.RowKit
section
variable{M:Nat->Nat->BitVec 8}{c g r:Nat}{w:World}
theorem ZD.after{w':World}{e:TypeId}{l:List Value}(h:ZD w g e l)(C:Below w.heap.size w w'):ZD w' g e l:=h.fr (Fr.of_below (L:=[]) C) (by simp)
theorem Qm.of_row{sp:List Value}(h:Row w g 5 (Zd (mat r c M).cells++sp)):Qm w g 0 r c M:=λi j hi F=>by refine h.cell ?_;rw[Nat.zero_add];have C:=K5 hi F;rw[Z5c (by rw[Qe,EN,Zq];exact C),Xb _ _ (by rw[EN,Zq];exact C)];simp[EN];rw[Yk _ _ _ C,JA _ _ _ F]
theorem Qm.of_row0(h:ZD w g 5 (Zd (mat r c M).cells)):Qm w g 0 r c M:=Qm.of_row (sp:=[]) (by rw[Z5C];exact h.row)
theorem Z3b(k:Nat):mat k k idm=mat k k (gen k):=VJ λi j hi _=>by unfold gen;rw[if_pos hi]
theorem Lb(k m:Nat)(w:World)(h1:1<=k)(h2:k+m<=255):Calls prog 159 #[.int .i64 k,.int .i64 m] w λe w'=>∃g,e=.returned (.tuple #[Xi (k+m) k g,.nilIface])/\w.heap.size<=g/\ZD w' g 5 (Zd (mat (k+m) k (gen k)).cells)/\Below w.heap.size w w':=by
 obtain⟨J,al⟩:=Z5I (k*k);have S0:=Z5F ((Bun.start w).box 250 [.int .i64 0,.int .i64 0,.slice none 0 0]);have af:=Z5F al;clear al;by_cases hm:m=0
 .subst hm;go_enter func159,ntmps159;go_wp2_with (go_at_call 220;have C:=S0.out;clear S0;refine(Ha k _ (by omega) (by omega)).mono ?_;rintro e w4 ⟨Z,he,hg,O,U⟩;have ae:e=.returned (.tuple #[.agg #[.int .i64 k,.int .i64 k,.slice (some ⟨Z,0,none⟩) J J],.nilIface]):=(by rw[he,af.out];rfl);subst ae;clear he;have ag:w.heap.size<=Z:=Z5w C.bel.size hg;have F:=((C.after U).add (λ_ h=>O.after h)).box 250 [.int .i64 k,.int .i64 k,.slice (some ⟨Z,0,none⟩) J J];obtain⟨x0,x1,x2⟩:=Zl F.here.2;obtain⟨z0,z1,z2⟩:=Zl F.here.1.1.2;obtain⟨f0,f1,f2⟩:=Xk F.here.1.1.2;have S4:=Z5F F;clear C U O hg F);have hy:=Qt (a:=.int .i64 k) (b:=.int .i64 k) (c:=.slice (some ⟨Z,0,none⟩) J J) S4.out.here.1.1.2;obtain⟨y0,y1,y2⟩:=Zl hy
  exact bodyPost_ret (v:=.tuple #[.agg #[.int .i64 k,.int .i64 k,.slice (some ⟨Z,0,none⟩) J J],.nilIface]) (by simp[results,go_sem,y0,y1,y2]) rfl ⟨Z,by rw[af.out];rfl,ag,by
   have C:=S4.out.here.1.2;rw[Z3b] at C
   exact C.fr ((((Fr.refl [w.heap.size] _).setCell (Or.inl (by simp)) _).setCell (Or.inl (by simp)) _).setCell (Or.inl (by simp)) _) (by simp;exact λe=>S4.out.here.1.1.2.ne C.row (by simp) e.symm),Qb S4.out.bel Z5D⟩
 .obtain⟨qc,ak⟩:=Z5I (m*k);obtain⟨K,hK⟩:=Z5I (k+m);obtain⟨qa,aj⟩:=Z5I (K*k);have aq:((m:Int)==0)=false:=by simp_all
  have ai:=Z5F ak;have HK:=Z5F hK;have ah:=Z5F aj;clear ak hK aj hm;go_enter func159,ntmps159;go_wp2_with (first|(go_at_call 220;have C:=S0.out;clear S0;refine(Ha k _ (by omega) (by omega)).mono ?_;rintro e w4 ⟨Z,he,hg,O,U⟩;have ae:e=.returned (.tuple #[.agg #[.int .i64 k,.int .i64 k,.slice (some ⟨Z,0,none⟩) J J],.nilIface]):=(by rw[he,af.out];rfl);subst ae;clear he;have F:=((C.after U).add (λ_ h=>O.after h)).box 250 [.int .i64 k,.int .i64 k,.slice (some ⟨Z,0,none⟩) J J];have S4:=Z5F F;clear C U O hg F)|(go_at_call 221;have C:=S4.out;clear S4;refine(UR m k _ (by grind) (by omega) (by omega) (by omega) (by omega)).mono ?_;rintro e w5 ⟨gc,he,hg,O,U⟩;have ae:e=.returned (.tuple #[.agg #[.int .i64 m,.int .i64 k,.slice (some ⟨gc,0,none⟩) qc qc],.nilIface]):=(by rw[he,ai.out];rfl);subst ae;clear he;have F:=((C.after U).add (λ_ h=>O.after h)).box 250 [.int .i64 m,.int .i64 k,.slice (some ⟨gc,0,none⟩) qc qc];obtain⟨x0,x1,x2⟩:=Zl F.here.1.1.2;obtain⟨y0,y1,y2⟩:=Zl F.here.2;have S5:=Z5F F;clear C U O hg F)|(go_at_call 222;have C:=S5.out;clear S5;refine(Z2r k m k Z 0 gc 0 J qc J qc idm (cau k) _ (by omega) (by omega) (by omega) (by grind) (by omega) af.out ai.out (Qm.of_row0 C.here.1.1.1.2) (Qm.of_row0 C.here.1.2)).mono ?_;rintro e w6 ⟨ga,he,hg,O,U⟩;have ae:e=.returned (.tuple #[.agg #[.int .i64 K,.int .i64 k,.slice (some ⟨ga,0,none⟩) qa qa],.nilIface]):=(by rw[he,ah.out,HK.out];rfl);subst ae;clear he;have ag:w.heap.size<=ga:=Z5w C.bel.size hg;have F:=(C.after U).add (λ_ h=>O.after h);obtain⟨z0,z1,z2⟩:=Zl F.here.1.1.1.1.1.2;obtain⟨f0,f1,f2⟩:=Xk F.here.1.1.1.1.1.2;have S6:=Z5F (F.map (λx h=>Z5G h.1.1.1.1.1.2 h.2));clear C U O hg F));have hy:=Qt (a:=.int .i64 K) (b:=.int .i64 k) (c:=.slice (some ⟨ga,0,none⟩) qa qa) S6.out.here.1;obtain⟨y0,y1,y2⟩:=Zl hy
  exact bodyPost_ret (v:=.tuple #[.agg #[.int .i64 K,.int .i64 k,.slice (some ⟨ga,0,none⟩) qa qa],.nilIface]) (by simp[results,go_sem,y0,y1,y2]) rfl ⟨ga,by rw[ah.out,HK.out];rfl,ag,by
   have C:=S6.out.here.2
   exact C.fr ((((Fr.refl [w.heap.size] _).setCell (Or.inl (by simp)) _).setCell (Or.inl (by simp)) _).setCell (Or.inl (by simp)) _) (by simp;exact λe=>S6.out.here.1.ne C.row (by simp) e.symm),Qb S6.out.bel Z5D⟩
theorem UC(k m ae len:Nat)(la:Option Addr)(cols:List ByteArray)(w:World)(h1:1<=k)(h2:k+m<=255)(hlen:cols.length=k)(aj:∀i,i<cols.length->(cols.getD i ⟨#[]⟩).size=len)(hl:len<=100000)(hL:Zx w la cols):Calls prog 121 #[.int .i64 k,.int .i64 m,.slice la k ae] w λe w'=>∃g O,e=.returned (.tuple #[.slice (some ⟨g,0,none⟩) (k+m) O,.nilIface])/\(Zx w' (some ⟨g,0,none⟩) (Qn (gen k) cols len k (k+m))/\k+m<=O/\O<=9223372036854775807)/\Below w.heap.size w w':=by
 obtain⟨K,hK⟩:=Z5I (k+m);obtain⟨F,ah⟩:=Z5I (K*k);have aq:F<=255*255:=by rw[ah];exact Nat.mul_le_mul (by omega) (by omega)
 have S0:=Z5F (Bun.start w);have HK:=Z5F hK;have ai:=Z5F ah;have af:=Z5F hlen;have ak:=Z5F aj;have HL:=Z5F hL;have au:k<=K:=by omega
 have aw:K<=255:=by omega
 rw[<-hK];clear hK ah hlen aj hL;go_enter func121,ntmps121;go_wp2_with (first|(go_at_call 159;have C:=S0.out;clear S0;refine(Lb k m _ h1 h2).mono ?_;rintro e w1 ⟨ga,he,hg,U,J⟩;have al:e=.returned (.tuple #[.agg #[.int .i64 K,.int .i64 k,.slice (some ⟨ga,0,none⟩) F F],.nilIface]):=(by rw[he,ai.out,HK.out];rfl);subst al;clear he;rw[<-HK.out] at U;have Z:=((C.after J).add (λ_ h=>(Qm.of_row0 U).after h)).box 250 [.int .i64 K,.int .i64 k,.slice (some ⟨ga,0,none⟩) F F];obtain⟨x0,x1,x2⟩:=Zl Z.here.2;have S1:=Z5F Z;clear C J U hg Z)|(go_at_call 162;have C:=S1.out;clear S1;refine(Sp K k ga 0 F F ae len la (gen k) cols _ (by omega) (by omega) (by omega) (by omega) ai.out Z5D (by omega) af.out ak.out hl C.here.1.2 (HL.out.after C.bel)).mono ?_;rintro e w2 ⟨g5,ag,rfl,ht,J⟩;have S2:=Z5J ht (C.after J).bel;clear C J ht));go_ret2;exact⟨g5,ag,rfl,S2.out.1,S2.out.2⟩
end
def WU(n:Nat):ByteArray:=⟨(List.replicate n 0).toArray⟩
theorem XL(n:Nat):(WU n).size=n:=by show(List.replicate n (0:UInt8)).toArray.size=n;simp
theorem Jp(z:Nat):(⟨(Lib.repeatL (⟨#[0]⟩:ByteArray).data.toList z).toArray⟩:ByteArray)=WU z:=by
 congr 2
 induction z with
 |zero=>rfl
 |succ z ih=>rw[List.replicate_succ,<-ih];rfl
def Wo(T:ByteArray)(n k:Nat):List ByteArray:=(List.range k).map λi=>T.extract (i*n) ((i+1)*n)
theorem YW(T:ByteArray)(n k:Nat):(Wo T n k).length=k:=by simp[Wo]
theorem N6(T:ByteArray)(n k i:Nat)(h:i<k):(Wo T n k).getD i ⟨#[]⟩=T.extract (i*n) ((i+1)*n):=by simp[Wo,h]
theorem Lw(T:ByteArray)(n k:Nat):Z7 (Wo T n (k+1))=Z7 (Wo T n k)++[.string (T.extract (k*n) ((k+1)*n))]:=by unfold Z7 Wo;rw[List.range_succ,Z5u,Z5u];rfl
theorem Ft(T:ByteArray)(n k:Nat)(h:T.size=k*n):∀i,i<(Wo T n k).length->((Wo T n k).getD i ⟨#[]⟩).size=n:=by intro i hi;rw[YW] at hi;rw[N6 T n k i hi,ByteArray.size_extract,h];have C:(i+1)*n<=k*n:=Nat.mul_le_mul_right n hi;grind
def Jl(t:ByteArray)(N:Nat):ByteArray:=t++WU (N-t.size)
theorem FM(t:ByteArray)(N:Nat)(h:t.size<=N):(Jl t N).size=N:=by unfold Jl;rw[ByteArray.size_append,XL];omega
theorem Af(k l:Nat)(C:1<=k):l<=k*ZT k l:=by
 unfold ZT;have h:=Nat.div_add_mod l k;split
 .have:=Nat.mod_lt l (show k>0 by omega);grind
 .simp_all
theorem Sa(k l:Nat)(C:1<=k):k*ZT k l<=l+k:=by unfold ZT;have h:=Nat.div_add_mod l k;grind
theorem DN(k l:Nat)(h:1<=k):ZT k l<=l+1:=by unfold ZT;have:=Nat.div_le_self l k;grind
def Zs(k m:Nat)(t:ByteArray):List ByteArray:=Qn (gen k) (Wo (Jl t (k*ZT k t.size)) (ZT k t.size) k) (ZT k t.size) k (k+m)
open Go.RowKit
section
variable{A:Nat->Nat->BitVec 8}{B K i k n s:Nat}{L:List (Bool×ByteArray)}{a:Option Addr}{e:Ending}{v:Value}{w w':World}{xs:List Value}
def DR(w:World)(a:Option Addr)(L:List (Bool×ByteArray)):Prop:=∀j (h:j<L.length),∃g o,a=some ⟨g,o,none⟩/\w.cell? ⟨g,o+j*2,none⟩=some (.bool L[j].1)/\w.cell? ⟨g,o+j*2+1,none⟩=some (.string L[j].2)
def QU(L:List (Bool×ByteArray))(j:Nat):Bool×ByteArray:=L.getD j (false,⟨#[]⟩)
theorem Z1O(L:List (Bool×ByteArray))(j:Nat)(h:j<L.length):L[j]=QU L j:=by unfold QU;rw[Z59,Z5a h,Option.getD_some]
theorem DR.at_(h:DR w a L){j:Nat}(J:j<L.length):∃g o,a=some ⟨g,o,none⟩/\g<w.heap.size/\w.cell? ⟨g,o+j*2,none⟩=some (.bool (QU L j).1)/\w.cell? ⟨g,o+j*2+1,none⟩=some (.string (QU L j).2):=by obtain⟨g,o,ha,C,F⟩:=h j J;rw[Z1O L j J] at C F;exact⟨g,o,ha,QB C,C,F⟩
def whF(L:List (Bool×ByteArray))(i:Nat):List Nat:=(List.range i).filter λj=>(QU L j).1
def hvF(L:List (Bool×ByteArray))(i:Nat):List ByteArray:=(whF L i).map λj=>(QU L j).2
theorem Lm(h:(QU L i).1=true):whF L (i+1)=whF L i++[i]:=by unfold whF;rw[List.range_succ,List.filter_append];grind
theorem OP(h:(QU L i).1=false):whF L (i+1)=whF L i:=by unfold whF;rw[List.range_succ,List.filter_append];grind
theorem Z3g(h:(QU L i).1=true):hvF L (i+1)=hvF L i++[(QU L i).2]:=by unfold hvF;rw[Lm h,Z5u];rfl
theorem Z4r(h:(QU L i).1=false):hvF L (i+1)=hvF L i:=by unfold hvF;rw[OP h]
theorem BQ(L:List (Bool×ByteArray))(i:Nat):(hvF L i).length=(whF L i).length:=by simp[hvF]
theorem Kz(L:List (Bool×ByteArray))(i:Nat):(whF L i).length<=i:=by unfold whF;grind
theorem Gi{j:Nat}(h:j∈whF L i):j<i/\(QU L j).1=true:=by unfold whF at h;simp_all
theorem Z0r(L:List (Bool×ByteArray))(i:Nat):(whF L i).Nodup:=by exact List.Pairwise.filter (λj=>(QU L j).1) List.nodup_range
theorem Mb{e B2 e2 s2 n2:Nat}{v2:Value}{F:List Value}(M:w.ownsRow B e s v n xs)(J:w.ownsRow B2 e2 s2 v2 n2 F)(ag:e≠e2)(U:w.grownBy w' v.ownBlock):w'.ownsRow B2 e2 s2 v2 n2 F:=by
 refine⟨J.1,?_⟩;rcases J.2 with h|⟨g,cap,cur,hv,O,hh,r⟩
 .simp_all
 .refine Or.inr ⟨g,cap,cur,hv,O,(U.block g (Z5l.1 hh).1 ?_).trans hh,r⟩;intro e1;rcases M.2 with ⟨C,_⟩|⟨g1,Z,ae,C,_,af,_⟩
  .rw[C] at e1;cases e1
  .rw[C] at e1;simp[Value.ownBlock] at e1;simp_all
theorem Hh(cols:List ByteArray)(u:ByteArray):Z7 (cols++[u])=Z7 cols++[.string u]:=by simp[Z7]
theorem Xd{e:Nat}(h:w.ownsRow B e s v n xs):∃a c,v=.slice a n c:=by
 rcases h.2 with ⟨hv,C⟩|⟨g,cap,cur,hv,_⟩
 .simp_all
 .simp_all
theorem Z1g:(prog.info? 3).map (λi=>(i.zero,i.size,i.bytes))=some (some (.int .i64 0),1,8):=by kernel_rfl
theorem TK{r c:Nat}{L:List Int}(hx:RD w r c A L e w')(h:∀i,i<L.length->0<=L.getD i 0/\L.getD i 0<r):∃g,e=.returned (.tuple #[Xi L.length c g,.nilIface])/\w.heap.size<=g/\Qm w' g 0 L.length c (λi j=>A (L.getD i 0).toNat j)/\Below w.heap.size w w':=by
 obtain⟨hx,F⟩:=hx;rcases hx with ⟨⟨i,hi,M⟩,_⟩|⟨_,g,he,J,C⟩
 .simp_all
 .exact⟨g,he,J,Qm.of_row0 C,F⟩
theorem Vp{N:Nat}(hx:Ux w N A e w')(U:Inj N A):∃g B,BC N A B/\e=.returned (.tuple #[Xi N N g,.nilIface])/\w.heap.size<=g/\Qm w' g 0 N N B/\Below w.heap.size w w':=by
 obtain⟨hx,O⟩:=hx;rcases hx with ⟨h,_⟩|⟨_,g,B,C,F,J,M⟩
 .simp_all
 .exact⟨g,B,C,F,J,Qm.of_row0 M,O⟩
theorem Zx.take{ss:List ByteArray}(h:Zx w a ss)(k:Nat):Zx w a (ss.take k):=λj C=>by rw[Z5j] at C;obtain⟨g,o,ha,hc⟩:=h j (by omega);grind
theorem Z1b(h:∀j,j<K->(QU L j).1=true->(QU L j).2.size=n)(k:Nat):∀i,i<((hvF L K).take k).length->(((hvF L K).take k).getD i ⟨#[]⟩).size=n:=by
 intro i hi;rw[Z59,Z5a hi,Option.getD_some];have hm:((hvF L K).take k)[i]∈hvF L K:=by simp
 obtain⟨j,J,he⟩:=List.mem_map.1 hm;have C:=Gi J;have F:=h j C.1 C.2;rw[he] at F;exact F
theorem TV{P P' B:Nat->Nat->BitVec 8}(h:∀i j,i<k->P i j=P' i j)(hB:BC k P B):BC k P' B:=λi l hi hl=>by rw[<-hB i l hi hl];unfold Yq;simp_all
theorem CV(L:List Nat)(k i:Nat)(h:i<k):(L.take k).getD i 0=L.getD i 0:=by simp_all
theorem Z1w(L:List Nat)(i:Nat):(L.map λ(x:Nat)=>(x:Int)).getD i 0=(L.getD i 0:Int):=by grind
theorem Ip{m:Nat}(hK:K=k+m)(h:K<=255)(hc:k<=(whF L K).length):Inj k (λi j=>gen k (((whF L K).take k).getD i 0) j):=Z3i k m (by omega) _ (by simp_all) ((Z0r L K).sublist (List.take_sublist _ _)) (λa ha=>by have:=Gi (List.mem_of_mem_take ha);omega)
def Gx(k:Nat)(L:List (Bool×ByteArray))(K i j:Nat):BitVec 8:=gen k ((whF L K).getD i 0) j
def Dw(k m n:Nat)(L:List (Bool×ByteArray))(code:Int)(T:List ByteArray):Prop:=
 ((∃j,j<k+m/\(QU L j).1=true/\(QU L j).2.size≠n)/\code=19/\T=[])∨
 ((∀j,j<k+m->(QU L j).1=true->(QU L j).2.size=n)/\(whF L (k+m)).length<k/\code=17/\T=[])∨
 ((∀j,j<k+m->(QU L j).1=true->(QU L j).2.size=n)/\k<=(whF L (k+m)).length/\code=0/\∃B,BC k (Gx k L (k+m)) B/\T=Qn (gen k) (Qn B ((hvF L (k+m)).take k) n k k) n k (k+m))
theorem Oe(k m l:Nat)(pa:Option Addr)(pc:Nat)(L:List (Bool×ByteArray))(w:World)(h1:1<=k)(h2:k+m<=255)(h3:l<=9223372036854775807)(hl:L.length=k+m)(hP:DR w pa L)(cu:∀j,j<k+m->(QU L j).1=true->(QU L j).2.size<=100000):Calls prog 112 #[.int .i64 k,.int .i64 m,.int .i64 l,.slice pa (k+m) pc] w λe w'=>∃code T a' aj ev,Dw k m (ZT k l) L code T/\e=.returned (.tuple #[.slice a' T.length aj,ev])/\Q9 w.heap.size w' ev code/\(Zx w' a' T/\T.length<=aj/\aj<=9223372036854775807)/\Below w.heap.size w w':=by
 have H:=Z5F (AW (c:=l) h1 h2);obtain⟨n,hn⟩:=Z5I (ZT k l);obtain⟨K,hK⟩:=Z5I (k+m);have k1:K<=255:=by omega
 have k2:k<=K:=by omega
 have J:((K:Int) !=(k:Int)+(m:Int))=false:=by simp;omega
 have ib:n<=9223372036854775807:=by rw[hn];unfold ZT;have h4:=Nat.div_add_mod l k;have h5:l / k<=k*(l / k):=Nat.le_mul_of_pos_left _ (by omega);split<;>omega
 obtain⟨j0,fe,fm,fo,fp⟩:=info_parts XK;obtain⟨i9,fc,fh,fi,fj⟩:=info_parts Z1g;unfold Dw;rw[<-hn,<-hK];rw[<-hK] at hl cu;have HN:=Z5F hn;have HK:=Z5F hK;have HL:=Z5F hl;have HP:=Z5F hP;have dh:=Z5F cu;clear hn hK hl hP cu;go_enter func112,ntmps112;go_wp2_with (first|(go_at_call 119;refine(Jx k m l _).mono ?_;rintro e w1 ⟨rfl,rfl⟩;rw[H.out])|(go_at_call 113;refine(B4 k l _ h1 (by omega) h3).mono ?_;rintro e w1 ⟨rfl,rfl⟩;rw[<-HN.out]));obtain⟨w0,fg⟩:∃w0:World,w0=w:=⟨_,rfl⟩;subst fg;go_loopw [12,13,39] (λhv wv ii wr=>∃i:Nat,i<=K/\ii=.int .i64 i/\(∀j,j<i->(QU L j).1=true->(QU L j).2.size=n)/\wr.ownsRow w0.heap.size 9 1 hv (whF L i).length (Z7 (hvF L i))/\wr.ownsRow w0.heap.size 3 1 wv (whF L i).length (WL (whF L i))/\Below w0.heap.size w0 wr) (λ_ _ ii _=>K- (intOf ii).toNat)
 case atStart=>exact⟨0,by omega,rfl,λj h=>by omega,World.ownsRow_nil _ _ _ _,World.ownsRow_nil _ _ _ _,Z5E⟩
 case round=>
  obtain⟨i,hi,rfl,aw,ae,O,U⟩:=hrel;have ag:=Z5F aw;clear aw;by_cases bq:i<K
  .obtain⟨pg,po,rfl,ef,c0,c1⟩:=HP.out.at_ (j:=i) (by rw[HL.out];exact bq);have d0:=(U.cell (p:=⟨pg,po+i*2,none⟩) ef).trans c0;have d1:=(U.cell (p:=⟨pg,po+i*2+1,none⟩) ef).trans c1;obtain⟨b,cj⟩:=Z5I (QU L i).1;obtain⟨t,ht⟩:=Z5I (QU L i).2;rw[<-cj] at d0;rw[<-ht] at d1;have HB:=Z5F cj;have HT:=Z5F ht;clear c0 c1 cj ht;cases b
   .have S1:=Z5K ae O U;clear ae O U;go_wp2;go_roundw
    case measure=>simp[intOf];omega
    case rel=>
     refine⟨i+1,by omega,by go_num,λj hj bg=> ?_,by rw[OP HB.out.symm,Z4r HB.out.symm];exact S1.out.1,by rw[OP HB.out.symm];exact S1.out.2.1,S1.out.2.2⟩;by_cases e:j=i
     .rw[e,<-HB.out] at bg;cases bg
     .exact ag.out j (by omega) bg
   .have ic:t.size<=100000:=by rw[HT.out];exact dh.out i bq HB.out.symm
    by_cases bh:t.size=n
    .have ff:((t.size:Int) !=(n:Int))=false:=(by simp[bh]);have bu:=Z5F bh;have hz:=U.size;have ey:=Kz L i;obtain⟨c,hc⟩:=Z5I (whF L i).length;rw[<-hc] at ae O ey;have S1:=Z5K ae O U;have HC:=Z5F hc;clear ae O U bh hc;go_wp2_with (first|(at_builtin;have C:=S1.out;clear S1;refine wpList_append_own _ rfl (.tmp 57) (.tmp 63) 96 rfl w0.heap.size 9 j0 _ 1 16 underlying96 fe fm fo fp rfl (by omega) _ c (Z7 (hvF L i)) rfl (C.1.alloc _) ⟨wr.heap.size,0,none⟩ 1 1 [.string t] rfl rfl (World.news_of_block (cs:= #[.string t]) (t:=9) (fr:=(0,0)) (heap_alloc_new wr _)) (by simp[Value.oneCell']) (by unfold maxLen;omega) (by omega) (Z5w hz (by simp)) ?_;intro v' w7 O af ah;clear ah;have S2:=Z5K O (Mb (C.1.alloc _) (C.2.1.alloc _) (by decide) af) (Xc (C.1.alloc _) (C.2.2.alloc hz _) (Z5w hz (by simp)) af);have cw:=S2.out.2.2.size;clear C O af)|(at_builtin;have C:=S2.out;clear S2;refine wpList_append_own _ rfl (.tmp 65) (.tmp 67) 46 rfl w0.heap.size 3 i9 _ 1 8 underlying46 fc fh fi fj rfl (by omega) _ c (WL (whF L i)) rfl (C.2.1.alloc _) ⟨w7.heap.size,0,none⟩ 1 1 [.int .i64 (i:Int)] rfl rfl (World.news_of_block (cs:= #[.int .i64 (i:Int)]) (t:=3) (fr:=(0,0)) (heap_alloc_new w7 _)) (by simp[Value.oneCell']) (by unfold maxLen;omega) (by omega) (Z5w cw (by simp)) ?_;intro v8 w8 O af ah;clear ah;have S3:=Z5K (Mb (C.2.1.alloc _) (C.1.alloc _) (by decide) af) O (Xc (C.2.1.alloc _) (C.2.2.alloc cw _) (Z5w cw (by simp)) af);clear C O af));go_roundw
     case measure=>simp[intOf];omega
     case rel=>
      have e1:(whF L (i+1)).length=c+1:=by rw[Lm HB.out.symm,Z5d,HC.out];rfl
      refine⟨i+1,by omega,by go_num,λj hj bg=> ?_,?_,?_,S3.out.2.2⟩
      .by_cases e:j=i
       .rw[e,<-HT.out];exact bu.out
       .exact ag.out j (by omega) bg
      .rw[e1,Z3g HB.out.symm,Hh,<-HT.out];exact S3.out.1
      .rw[e1,Lm HB.out.symm,Mx];exact S3.out.2.1
    .have ff:((t.size:Int) !=(n:Int))=true:=by simp;omega
     have S1:=Z5F U;have bu:=Z5F bh;clear ae O U bh;go_wp2_with (go_at_call 114;refine(X8 19 (by decide) _).mono ?_;rintro e w2 ⟨ev,rfl,he,J⟩;have S2:=Z5J (he.mono S1.out.size) (S1.out.trans (J.mono S1.out.size));clear he J);go_ret2;exact⟨19,[],none,0,ev,Or.inl ⟨⟨i,bq,HB.out.symm,by rw[<-HT.out];exact bu.out⟩,rfl,rfl⟩,rfl,S2.out.1,⟨λj hj=>by simp at hj,by simp,by simp⟩,S2.out.2⟩
  .obtain rfl:K=i:=(by omega);clear bq hi;obtain⟨c,hc⟩:=Z5I (whF L K).length;have fu:c<=K:=by rw[hc];exact Kz L K
   rw[<-hc] at ae O;obtain⟨ha,b7,rfl⟩:=Xd ae;have HC:=Z5F hc;by_cases ew:c<k
   .have S1:=Z5F U;clear ae O U hc;go_wp2_with (go_at_call 114;refine(X8 17 (by decide) _).mono ?_;rintro e w2 ⟨ev,rfl,he,J⟩;have S2:=Z5J (he.mono S1.out.size) (S1.out.trans (J.mono S1.out.size));clear he J);go_ret2;exact⟨17,[],none,0,ev,Or.inr (Or.inl ⟨ag.out,by rw[<-HC.out];exact ew,rfl,rfl⟩),rfl,S2.out.1,⟨λj hj=>by simp at hj,by simp,by simp⟩,S2.out.2⟩
   .have b8:k<=c:=(by omega);obtain⟨gh,rfl,_,fw,gj⟩:=O5 ae (by omega);obtain⟨wa,bj,rfl⟩:=Xd O;obtain⟨gw,rfl,_,ie,ig⟩:=O5 O (by omega);have ee:=Zx.own ae;have dw:=Yt.own O;obtain⟨qa,cr⟩:=Z5I (K*k);obtain⟨M,ct⟩:=Z5I (k*k);have ij:qa<=255*255:=by rw[cr];exact Nat.mul_le_mul k1 (by omega)
    have ik:M<=255*255:=by rw[ct];exact Nat.mul_le_mul (by omega) (by omega)
    obtain⟨R,hR⟩:∃R:List Int,R=((whF L K).take k).map λ(x:Nat)=>(x:Int):=⟨_,rfl⟩;have du:R.length=k:=by rw[hR,Z5i,Z5j,<-hc];omega
    have au:∀j,R.getD j 0=(((whF L K).take k).getD j 0:Int):=λj=>(by rw[hR,Z1w]);have aq:∀i,i<R.length->0<=R.getD i 0/\R.getD i 0<K:=λi hi=>by
     rw[au];have ai:((whF L K).take k).getD i 0∈(whF L K).take k:=by rw[Z59,Z5a (by rw[Z5j,<-hc];omega),Option.getD_some];exact Z5r _
     have:=Gi (List.mem_of_mem_take ai);omega
    have dp:(λi j=>gen k (R.getD i 0).toNat j)=λi j=>gen k (((whF L K).take k).getD i 0) j:=by
     funext i j
     rw[au,Int.toNat_natCast]
    have hI:Inj k (λi j=>gen k (R.getD i 0).toNat j):=by rw[dp];exact Ip HK.out k1 (by rw[<-hc];exact b8)
    have dq:∀x,Yt x gw 0 (whF L K)->∀j,j<R.length->x.cell? ⟨gw,0+j,none⟩=some (.int .i64 (R.getD j 0)):=λx hx j hj=>by rw[au,CV _ _ _ (by omega)];exact hx j (by rw[<-hc];omega)
    have dt:∀B,BC k (λi j=>gen k (R.getD i 0).toNat j) B->BC k (Gx k L K) B:=λB hB=>TV (λi j hi=>by
     show gen k (R.getD i 0).toNat j=gen k ((whF L K).getD i 0) j
     rw[au,Int.toNat_natCast,CV _ _ _ hi]) hB
    have dj:((hvF L K).take k).length=k:=by rw[Z5j,BQ,<-hc];omega
    have dm:=Z1b ag.out k;have S1:=Z5F (Bun.of (F:=λx=>Zx x (some ⟨gh,0,none⟩) (hvF L K)/\Yt x gw 0 (whF L K)) (λx hx=>⟨ee.after hx,dw.after hx⟩) U);obtain⟨P,hP⟩:∃P:Nat->Nat->BitVec 8,P=λi j=>gen k (R.getD i 0).toNat j:=⟨_,rfl⟩;have dz:n<=100000:=by have e0:0<((hvF L K).take k).length:=(by omega);have ai:(hvF L K)[0]'(by rw[BQ,<-hc];omega)∈hvF L K:=Z5r _;unfold hvF at ai;obtain⟨j,hj,_⟩:=List.mem_map.1 ai;have h5:=Gi hj;have h6:=dh.out j h5.1 h5.2;rw[ag.out j h5.1 h5.2] at h6;exact h6
    rw[<-hP] at hI;have df:=Z5F cr;have bm:=Z5F ct;have al:=Z5F du;have eh:=Z5F aq;have HI:=Z5F hI;have er:=Z5F dq;have eu:=Z5F dt;have cz:=Z5F dj;have dc:=Z5F dm;have de:=Z5F hP;have eo:=Z5F b8;clear ae O U hc ee dw cr ct hR du au aq dp hI dq dt dj dm hP;go_wp2_with (go_at_call 159;have C:=S1.out;clear S1;refine(Lb k m _ h1 h2).mono ?_;rintro e w1 ⟨ga,he,hg,ak,J⟩;have b9:e=.returned (.tuple #[.agg #[.int .i64 K,.int .i64 k,.slice (some ⟨ga,0,none⟩) qa qa],.nilIface]):=(by rw[he,df.out,HK.out];rfl);subst b9;clear he;rw[<-HK.out] at ak;have dx:=(C.after J).add (λ_ h=>(Qm.of_row0 ak).after h);have Z:=Row.new w1 250 [.int .i64 K,.int .i64 k,.slice (some ⟨ga,0,none⟩) qa qa];obtain⟨x0,x1,x2⟩:=Zl Z;have SB:=Z5F dx;have SX:=Z5J Z ((Below.refl w1.heap.size w1).alloc Z5D (.cells #[.int .i64 K,.int .i64 k,.slice (some ⟨ga,0,none⟩) qa qa] 250));clear C J ak hg dx Z);have e1:0<=(k:Int):=(by omega);have e2:(k:Int)<=(bj:Int):=(by omega);have e3:((k:Int)).toNat=k:=(by omega);have e4:(k:Int)<=(b7:Int):=(by omega);go_region_law
     (first|(go_simp;go_at_call 160;have C:=SX.out;clear SX;have az:=C.2.drew;have hF:=SB.out.after az;have hp:=Z3B K k ga 0 qa qa gw 0 bj (gen k) R _ (by omega) (by omega) (by omega) (by omega) df.out Z5D (by omega) (by rw[al.out];omega) (by rw[al.out];omega) hF.here.2 (er.out _ hF.here.1.2);rw[al.out] at hp;refine hp.mono ?_;rintro e fq hx;obtain⟨gp,he,ez,cn,J⟩:=TK hx eh.out;have b9:e=.returned (.tuple #[.agg #[.int .i64 k,.int .i64 k,.slice (some ⟨gp,0,none⟩) M M],.nilIface]):=(by rw[he,al.out,bm.out];rfl);subst b9;clear he hx hp;rw[al.out,<-de.out] at cn;have bf:gp≠w1.heap.size:=(by have h8:(w1.alloc (.cells #[.int .i64 K,.int .i64 k,.slice (some ⟨ga,0,none⟩) qa qa] 250)).drew.heap.size=w1.heap.size+1:=(by show(w1.alloc _).heap.size=_;simp);omega);have Z:=Row.after C.1.drew J;have ia:=Zl Z;obtain⟨f0,f1,f2⟩:=Xk Z;have hy:=Qt (a:=.int .i64 k) (b:=.int .i64 k) (c:=.slice (some ⟨gp,0,none⟩) M M) Z;obtain⟨y0,y1,y2⟩:=Zl hy;have SY:=Z5K hy (Qb (a:=.int .i64 k) (b:=.int .i64 k) (c:=.slice (some ⟨gp,0,none⟩) M M) (C.2.drew.trans (J.mono C.2.drew.size)) (Nat.le_refl w1.heap.size)) (cn.fr ((((Fr.refl [w1.heap.size] fq).setCell (p:=⟨w1.heap.size,0,none⟩) (Or.inl (by simp)) (.int .i64 k)).setCell (p:=⟨w1.heap.size,1,none⟩) (Or.inl (by simp)) (.int .i64 k)).setCell (p:=⟨w1.heap.size,2,none⟩) (Or.inl (by simp)) (.slice (some ⟨gp,0,none⟩) M M)) (by simp only[Z58];exact bf));clear C az hF cn J Z bf ez))
    clear e1 e2 e3 x0 x1 x2;go_wp2_with (go_at_call 161;have C:=SY.out;clear SY;refine(Vr k gp 0 M M P _ h1 (by omega) bm.out Z5D (by omega) C.2.2).mono ?_;intro e ft hx;obtain⟨gz,B,hB,he,fa,dy,J⟩:=Vp hx HI.out;have b9:e=.returned (.tuple #[.agg #[.int .i64 k,.int .i64 k,.slice (some ⟨gz,0,none⟩) M M],.nilIface]):=(by rw[he,bm.out];rfl);subst b9;clear he hx;have bf:gz≠w1.heap.size:=(by have h8:=C.1.lt;omega);have Z:=Row.after C.1 J;obtain⟨v0,v1,v2⟩:=Zl Z;obtain⟨f3,f4,f5⟩:=Xk Z;have hy:=Qt (a:=.int .i64 k) (b:=.int .i64 k) (c:=.slice (some ⟨gz,0,none⟩) M M) Z;obtain⟨z0,z1,z2⟩:=Zl hy;have SZ:=Z5K hy (Qb (a:=.int .i64 k) (b:=.int .i64 k) (c:=.slice (some ⟨gz,0,none⟩) M M) (C.2.1.trans (J.mono C.2.1.size)) (Nat.le_refl w1.heap.size)) (dy.fr ((((Fr.refl [w1.heap.size] ft).setCell (p:=⟨w1.heap.size,0,none⟩) (Or.inl (by simp)) (.int .i64 k)).setCell (p:=⟨w1.heap.size,1,none⟩) (Or.inl (by simp)) (.int .i64 k)).setCell (p:=⟨w1.heap.size,2,none⟩) (Or.inl (by simp)) (.slice (some ⟨gz,0,none⟩) M M)) (by simp only[Z58];exact bf));have ek:=Z5F hB;clear C dy J Z bf fa hy hB);clear f0 f1 f2 f3 f4 f5 v0 v1 v2 y0 y1 y2;have e1:0<=(k:Int):=(by omega);have e3:((k:Int)).toNat=k:=(by omega);go_region_law (first|(go_simp;go_at_call 162;have C:=SZ.out;clear SZ;have az:=C.2.1.drew;have hF:=SB.out.after az;refine(Sq k k gz 0 M M b7 n (some ⟨gh,0,none⟩) B ((hvF L K).take k) _ h1 (by omega) h1 (by omega) bm.out Z5D (by omega) cz.out dc.out dz (C.2.2.after (Z5E.drew)) (Zx.take hF.here.1.1 k)).mono ?_;rintro e im ⟨gq,cq,rfl,ht,J⟩;have SW:=Z5J ht (hF.after J).bel;clear C az hF ht J));go_wp2_with (go_at_call 121;have C:=SW.out;clear SW;refine(UC k m cq n _ (Qn B ((hvF L K).take k) n k k) _ h1 h2 (QR _ _ _ _ _) (Cr B ((hvF L K).take k) n k k dc.out (by rw[cz.out];exact Z5D)) dz C.1).mono ?_;rw[<-HK.out];rintro e iq ⟨g8,bz,rfl,hs,J⟩;have S4:=Z5J hs (C.2.trans (J.mono C.2.size));clear C hs J);go_ret2;exact⟨0,_,some ⟨g8,0,none⟩,bz,.nilIface,Or.inr (Or.inr ⟨ag.out,by rw[<-HC.out];exact eo.out,rfl,B,eu.out B (by rw[<-de.out];exact ek.out),rfl⟩),by rw[QR];rfl,Q9.ok0 _ _,⟨S4.out.1.1,by rw[QR];exact S4.out.1.2.1,S4.out.1.2.2⟩,S4.out.2⟩
end
theorem data_append(a b:ByteArray):(a++b).data.toList=a.data.toList++b.data.toList:=by rfl
theorem MU{a b:ByteArray}(h:a.data.toList=b.data.toList):a=b:=ByteArray.ext (Array.toList_inj.1 h)
theorem WB(s:ByteArray):s.data.toList.length=s.size:=by rfl
def Z4Y:ByteArray:=⟨#[1,0,0,0]⟩
def K2(e n len:Nat):ByteArray:=s32 len++s32 n++s32 (e / 4294967296)++s32 e
theorem GV(e n len:Nat):(K2 e n len).data.toList=J6 e n len:=by rfl
theorem PA(e n len:Nat):(K2 e n len).size=16:=by rfl
theorem DE(e n:Nat)(p:ByteArray)(w:World)(he:e<=4000000000)(hn:n<=4000000000)(hp:p.size<=60000):Calls prog 193 #[.int .i64 e,.int .i64 n,.string p] w λx w'=>x=.returned (.tuple #[.string ⟨(Zh e n p.data.toList).toArray⟩,.nilIface])/\Below w.heap.size w w':=by
 have hr:=LH e n (by omega) (by omega);obtain⟨E,hE⟩:=Z5H (e / 4294967296);have b7:(e:Int) / 4294967296=(E:Int):=by omega
 have b8:E<=4:=by omega
 obtain⟨h,ag⟩:=Z5H (s32 p.size++s32 n++s32 E++s32 e);have O:h=K2 e n p.size:=by rw[<-ag,K2,hE]
 have U:h.size=16:=by rw[O,PA]
 have az:h.size<=maxLen:=by rw[U];unfold maxLen;omega
 have lp:p.size<=maxLen:=by unfold maxLen;omega
 obtain⟨c,hc⟩:=Z5H (XT (crc h.data.toList) p.data.toList);have ae:uv c=((B6 e n p.data.toList:Nat):Int):=by rw[QD,<-hc,O,GV];unfold B6;rw[WB]
 obtain⟨q,hq⟩:=Z5H (B6 e n p.data.toList);rw[hq] at ae;have bg:q<4294967296:=by rw[<-hq];unfold B6;exact BitVec.isLt _
 have aq:=I6 p.size;obtain⟨m,hm⟩:=Z5H (Zf p.size);obtain⟨z,hz⟩:=Z5H (m- (24+p.size));have bf:m<=60100:=by rw[<-hm];unfold Zf;omega
 obtain⟨b1,C⟩:=Z5H (Z4Y++h);obtain⟨b2,F⟩:=Z5H (b1++s32 q);obtain⟨M,J⟩:=Z5H (b2++p);have ah:b1.size=20:=by rw[<-C,ByteArray.size_append,U];rfl
 have ai:b2.size=24:=by rw[<-F,ByteArray.size_append,ah];rfl
 have Z:M.size=24+p.size:=by rw[<-J,ByteArray.size_append,ai]
 have k1:∀W,(Op.stringOp .add (s32 p.size) (s32 n)).run prog W=.ok (.string (s32 p.size++s32 n)) W:=λW=>run_string_add_sum W _ _ (by grind);have k2:∀W,(Op.stringOp .add (s32 p.size++s32 n) (s32 E)).run prog W=.ok (.string (s32 p.size++s32 n++s32 E)) W:=λW=>run_string_add_sum W _ _ (by grind);have k3:∀W,(Op.stringOp .add (s32 p.size++s32 n++s32 E) (s32 e)).run prog W=.ok (.string h) W:=λW=>by rw[<-ag];exact run_string_add_sum W _ _ (by grind)
 have k4:∀W,(Op.stringOp .add ⟨#[1,0,0,0]⟩ h).run prog W=.ok (.string b1) W:=λW=>by rw[<-C];exact run_string_add_sum W _ _ (by rw[U];show 4+16<=_;omega)
 have k5:∀W,(Op.stringOp .add b1 (s32 q)).run prog W=.ok (.string b2) W:=λW=>by rw[<-F];exact run_string_add_sum W _ _ (by grind)
 have k6:∀W,(Op.stringOp .add b2 p).run prog W=.ok (.string M) W:=λW=>by rw[<-J];exact run_string_add_sum W _ _ (by omega)
 have k7:∀W,(Op.stringOp .add M (WU z)).run prog W=.ok (.string (M++WU z)) W:=λW=>run_string_add_sum W _ _ (by rw[Z,XL];omega);have af:M++WU z=⟨(Zh e n p.data.toList).toArray⟩:=by apply MU;rw[<-J,<-F,<-C,O,data_append,data_append,data_append,data_append,GV];show[1,0,0,0]++J6 e n p.size++Z4 q++p.data.toList++List.replicate z 0=Zh e n p.data.toList;unfold Zh;rw[WB,hq,hm,hz]
 have HF:=Z5F af;have HX:=Z5O ag O hc hq hm hz aq;have HY:=Z5L ah ai Z U;have HS:=Z5F ae;have bh:z<=60100:=by omega
 have au:m=24+p.size+z:=by omega
 have aw:=Z5F au;have b9:p.size<=60000:=by omega
 clear af ag O hc hq hm hz aq ah ai U ae au C F J hE;have zl:M.size<=60100:=by rw[Z];omega
 have HD:Hid ((m:Int)- (M.size:Int)=(z:Int)):=Z5F (by rw[Z];have:=aw.out;omega);clear Z;have T0:=Z5F True.intro;go_enter func193,ntmps193;go_wp2_with (first|(go_at_call 213;refine(Av _ _ _).mono ?_;rw[hr];rintro e w' ⟨rfl,rfl⟩)|(go_at_call 181;have t0:=T0.out;clear T0 t0;refine(JB p.size (by omega) _).mono ?_;rintro e w1 ⟨rfl,C⟩;have T1:=Z5F C;clear C)|(go_at_call 181;have t1:=T1.out;clear T1;refine(JB n (by omega) _).mono ?_;rintro e w2 ⟨rfl,F⟩;have T2:=Z5F (t1.trans (F.mono t1.size));clear F t1)|(go_at_call 181;have t2:=T2.out;clear T2;refine(JB E (by omega) _).mono ?_;rintro e w3 ⟨rfl,J⟩;have T3:=Z5F (t2.trans (J.mono t2.size));clear J t2)|(go_at_call 181;have t3:=T3.out;clear T3;refine(JB e (by omega) _).mono ?_;rintro e w4 ⟨rfl,aj⟩;have T4:=Z5F (t3.trans (aj.mono t3.size));clear aj t3)|(go_at_call 130;refine(DM _ _ az).mono ?_;rintro e w8 ⟨rfl,rfl⟩)|(go_at_call 186;refine(Ij _ _ _ lp).mono ?_;rw[HX.out.2.2.1,HS.out];rintro e w8 ⟨rfl,rfl⟩)|(go_at_call 181;have t4:=T4.out;clear T4;refine(JB q (by omega) _).mono ?_;rintro e w5 ⟨rfl,ak⟩;have T5:=Z5F (t4.trans (ak.mono t4.size));clear ak t4)|(go_at_call 215;refine(I7 p.size (by omega) _).mono ?_;rw[HX.out.2.2.2.2.1];rintro e w8 ⟨rfl,rfl⟩)|(go_at_call 120;rw[HD.out];refine(Tryz.strings_Repeat ⟨#[0]⟩ z _ (by omega) (by show 1*z<=_;omega)).mono ?_;rw[Jp];rintro e w6 ⟨rfl,al⟩;have t5:=T5.out;have T6:=Z5F (t5.trans (al.mono t5.size));clear al t5));go_ret2;exact⟨by rw[HF.out];rfl,T6.out⟩
theorem Ro(ss:List ByteArray)(k:Nat)(h:k<ss.length):Z7 (ss.take (k+1))=Z7 (ss.take k)++[.string (ss.getD k ⟨#[]⟩)]:=by rw[Z5f h,Hh,Z59,Z5a h];rfl
theorem Ir(ss:List ByteArray)(k:Nat)(h:k<ss.length):Zz (ZV ss)=(Z4 ss.length++Wv (ZV (ss.take k)))++(Z4 (ss.getD k ⟨#[]⟩).size++((ss.getD k ⟨#[]⟩).data.toList++Wv (ZV (ss.drop (k+1))))):=by
 have e:ss=ss.take k++[ss.getD k ⟨#[]⟩]++ss.drop (k+1):=by simp_all
 have e2:ZV ss=ZV (ss.take k)++[(ss.getD k ⟨#[]⟩).data.toList]++ZV (ss.drop (k+1)):=by unfold ZV;rw[<-List.map_singleton (f:=λs:ByteArray=>s.data.toList),<-Z5u,<-Z5u,<-e]
 rw[Zz,WJ,e2,Cl,Cl,LT,WB];simp
theorem CU(ss:List ByteArray)(k:Nat):(Z4 ss.length++Wv (ZV (ss.take k))).length=4+Zy (ZV (ss.take k)):=by rw[Z5d,AA];rfl
theorem EI(s:ByteArray)(ss:List ByteArray)(w:World)(h:s.data.toList=Zz (ZV ss))(hs:s.size<=100000):Calls prog 155 #[.string s] w λe w'=>∃a cap,e=.returned (.tuple #[.slice a ss.length cap,.nilIface])/\w'.ownsRow w.heap.size 9 1 (.slice a ss.length cap) ss.length (Z7 ss)/\Below w.heap.size w w':=by
 obtain⟨j0,cr,cw,cz,dc⟩:=info_parts XK;have hlen:s.size=4+Zy (ZV ss):=by rw[We h,ZN]
 have df:4*ss.length<=100000:=by have:=Wk (ZV ss);rw[WJ] at this;omega
 have F:Yw s.data.toList=ss.length:=by rw[h,Zz,Yx _ (by rw[WJ];omega),WJ]
 have bj:4<=s.size:=by omega
 have dh:ss.length<=s.size-4:=by have:=Wk (ZV ss);rw[WJ] at this;omega
 have ct:(ss.length:Int)<=(s.size:Int)-4:=by omega
 have ai:∀k,k<ss.length->4+Zy (ZV (ss.take k))+4+(ss.getD k ⟨#[]⟩).size+Zy (ZV (ss.drop (k+1)))=s.size:=λk C=>by rw[We h,Ir ss k C,Z5d,CU,Z5d,Z5d,AA,WB];simp[Zw];omega
 have ag:∀k,k<ss.length->4+Zy (ZV (ss.take (k+1)))=4+Zy (ZV (ss.take k))+4+(ss.getD k ⟨#[]⟩).size:=λk C=>by rw[BN ss k C,J9,Ck,WB];omega
 have bh:∀k,k<ss.length->Yw (s.extract (4+Zy (ZV (ss.take k))) s.size).data.toList=(ss.getD k ⟨#[]⟩).size:=λk C=>by rw[Lib.extract_to_end,h,Ir ss k C,<-CU ss k,List.drop_left,Yx _ (by grind)]
 have hcut:∀k,k<ss.length->s.extract (4+Zy (ZV (ss.take k))+4) (4+Zy (ZV (ss.take k))+4+(ss.getD k ⟨#[]⟩).size)=ss.getD k ⟨#[]⟩:=λk C=>by have:=IN (s:=s) (a:=Z4 ss.length++Wv (ZV (ss.take k))++Z4 (ss.getD k ⟨#[]⟩).size) (m:=(ss.getD k ⟨#[]⟩).data.toList) (r:=Wv (ZV (ss.drop (k+1)))) (by rw[h,Ir ss k C];simp) (4+Zy (ZV (ss.take k))+4) (4+Zy (ZV (ss.take k))+4+(ss.getD k ⟨#[]⟩).size) (by rw[Z5d,CU];rfl) (by rw[Z5d,CU,WB];rfl);rw[this]
 have H:=Z5F h;have HL:=Z5F hlen;have HR:=Z5F F;have HE:=Z5F ai;have HS:=Z5F ag;have cj:=Z5F bh;have HC:=Z5F hcut;clear h hlen F ai ag bh hcut;go_enter func155,ntmps155;have U:=Z5F True.intro;go_wp2_with (first|(go_at_call 214;have m0:=U.out;clear U m0;refine(Ew _ bj _).mono ?_;rw[HR.out];rintro e w1 ⟨rfl,bf⟩;have Z:=Z5F bf;clear bf)|(go_at_call 214;refine(Ew _ bj _).mono ?_;rw[HR.out];rintro e w2 ⟨rfl,bg⟩;have M2:=Z5F (Z.out.trans (bg.mono Z.out.size));clear bg));have ah:=M2.out;go_loopw [5,6,25] (λl z i wr=>∃k:Nat,k<=ss.length/\i=.int .i64 k/\z=.int .i64 ((4+Zy (ZV (ss.take k)):Nat):Int)/\wr.ownsRow w.heap.size 9 1 l k (Z7 (ss.take k))/\Below w.heap.size w wr) (λ_ _ i _=>ss.length- (intOf i).toNat)
 case atStart=>exact⟨0,by omega,rfl,rfl,World.ownsRow_nil _ _ _ _,ah⟩
 case round=>
  obtain⟨k,C,rfl,rfl,J,M⟩:=hrel;have hz:=M.size;by_cases O:k<ss.length
  .have he:=HE.out k O;have aw:=HS.out k O;have F:=cj.out k O;have hc:=HC.out k O;have az:=Ro ss k O;obtain⟨t,ht⟩:=Z5H (ss.getD k ⟨#[]⟩);obtain⟨z,b8⟩:=Z5H (4+Zy (ZV (ss.take k)));rw[ht] at he aw F hc az;rw[b8] at he aw F hc⊢;have e1:z+4+t.size<=s.size:=(by omega);have e2:¬ ((s.size:Int)- (z:Int)<4):=(by omega);have e3:¬ ((s.size:Int)- (z:Int)-4<(t.size:Int)):=(by omega);have e4:(z:Int)<=(s.size:Int):=(by omega);have e5:(z:Int)+4+(t.size:Int)<=(s.size:Int):=(by omega);have bm:4<=(s.extract z s.size).size:=by rw[ByteArray.size_extract];omega
   have cu:t.size<=140737488355328:=(by omega);have de:=Z5F he;have cn:=Z5F aw;have b9:=Z5F F;have bz:=Z5F hc;have HT:=Z5F az;have HX:=Z5J ht b8;have S0:=Z5J J M;have U:=Z5F True.intro;clear he aw F hc az ht b8 J M;go_wp2_with (first|(go_at_call 214;have m0:=U.out;clear U m0;refine(Ew _ bm _).mono ?_;rw[b9.out];rintro e w3 ⟨rfl,al⟩;have Z:=Z5J (Wc S0.out.1 al) (S0.out.2.trans (al.mono hz));have bq:=Z5w hz al.size;clear al)|(go_at_call 214;have m1:=Z.out;clear Z;refine(Ew _ bm _).mono ?_;rw[b9.out];rintro e w4 ⟨rfl,aq⟩;have M2:=Z5J (Wc m1.1 aq) (m1.2.trans (aq.mono bq));have bu:=Z5w bq aq.size;clear aq m1)|(go_at_call 216;rw[bz.out];refine(Fp _ _ cu).mono ?_;rintro e w5 ⟨rfl,au⟩;have m2:=M2.out;clear M2;have M3:=Z5J (Wc m2.1 au) (m2.2.trans (au.mono bu));have b7:=Z5w bu au.size;clear au m2)|(at_builtin;have m3:=M3.out;clear M3;refine wpList_append_own _ rfl (.tmp 57) (.tmp 63) 96 rfl w.heap.size 9 j0 _ 1 16 underlying96 cr cw cz dc rfl (by omega) _ k (Z7 (ss.take k)) rfl (m3.1.alloc _) ⟨w5.heap.size,0,none⟩ 1 1 [.string t] rfl rfl (World.news_of_block (cs:= #[.string t]) (t:=9) (fr:=(0,0)) (heap_alloc_new w5 _)) (by simp[Value.oneCell']) (by unfold maxLen;omega) (by omega) (Z5w b7 (by simp)) ?_;intro v' w7 af aj ak;clear ak;have S4:=Z5J af (Xc (m3.1.alloc _) (m3.2.alloc b7 _) (Z5w b7 (by simp)) aj);clear af aj));go_roundw
   case measure=>simp[intOf];omega
   case rel=>
    refine⟨k+1,by omega,by go_num,Cw ?_,?_,S4.out.2⟩
    .rw[cn.out];omega
    .rw[HT.out];exact S4.out.1
  .obtain rfl:k=ss.length:=(by omega);rw[Z5A] at J⊢;obtain⟨a,cap,rfl⟩:=Xd J;have ae:4+Zy (ZV ss)=s.size:=HL.out.symm;rw[ae];have S0:=Z5J J M;clear J M ae;go_wp2;go_ret2;exact⟨a,cap,rfl,S0.out.1,S0.out.2⟩
