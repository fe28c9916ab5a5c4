/- Part 3: lemmas about what the program computes. -/
import Derived.Outline
import Derived.Laws.AppendOwnNone
import Derived.Maps.AppendAt
import Derived.Test.YthppfllkocphbaaGreatDoorY01
namespace Go.Proofs.YthppfllkocphbaaGreatDoor
set_option linter.unusedVariables false
set_option linter.unusedSimpArgs false
set_option maxHeartbeats 25600000
set_option maxRecDepth 100000
open Tryz Go.RowKit
theorem FC(n:Int)(w:World):Calls prog 253 #[.int .i64 n] w λe w'=>e=.returned (.bool (decide (1<=n/\n<=255)))/\w=w':=by
 by_cases h:1<=n
 .by_cases C:n<=255
  .go_enter func253,ntmps253;go_wp2;go_ret;simp_all
  .go_enter func253,ntmps253;go_wp2;go_ret;simp_all
 .go_enter func253,ntmps253;go_wp2;go_ret;exact⟨by simp;omega,rfl⟩
theorem VW(m:Mt)(a:Option Addr)(cap:Nat)(w:World)(hl:m.cells.length<=maxLen):Calls prog 223 #[m.val a cap] w λe w'=>e=.returned (.bool m.right)/\Below w.heap.size w w':=by
 obtain⟨r,c,l⟩:=m;show Calls prog 223 #[.agg #[.int .i64 r,.int .i64 c,.slice a l.length cap]] w _;simp only at hl;unfold maxLen at hl;have U:(⟨r,c,l⟩:Mt).right=(decide (1<=r/\r<=255)&&(decide (1<=c/\c<=255)&&decide ((l.length:Int)=r*c))):=by unfold Mt.right;simp only;rw[Bool.eq_iff_iff];simp only[decide_eq_true_eq,Bool.and_eq_true];exact⟨λ⟨a,b,c,d,e⟩=>⟨⟨a,b⟩,⟨c,d⟩,e⟩,λ⟨⟨a,b⟩,⟨c,d⟩,e⟩=>⟨a,b,c,d,e⟩⟩
 rw[U];have Z:=Z5F U;clear U;obtain⟨b1,J⟩:=Z5I (decide (1<=r/\r<=255));obtain⟨b2,M⟩:=Z5I (decide (1<=c/\c<=255));rw[<-J,<-M];have C:=Z5F J;have F:=Z5F M;have O:b1=true->b2=true->0<=r*c/\r*c<=65025:=by intro e1 e2;rw[J,decide_eq_true_eq] at e1;rw[M,decide_eq_true_eq] at e2;exact⟨Int.mul_nonneg (by omega) (by omega),Int.le_trans (Int.mul_le_mul e1.2 e2.2 (by omega) (by omega)) (by omega)⟩
 clear J M;cases b1
 .clear O;go_enter func223,ntmps223;go_wp2_with (go_at_call 253;refine(FC _ _).mono ?_;rintro e w' ⟨he,rfl⟩;have h:=C.out;clear C;rw[<-h] at he;subst he;clear h);go_ret;exact⟨rfl,Z5E.alloc Z5D _⟩
 .cases b2
  .clear O;go_enter func223,ntmps223;go_wp2_with (first|(go_at_call 253;have h:=C.out;clear C;refine(FC r _).mono ?_;rintro e w' ⟨he,rfl⟩;rw[<-h] at he;subst he;clear h)|(go_at_call 253;have h:=F.out;clear F;refine(FC c _).mono ?_;rintro e w' ⟨he,rfl⟩;rw[<-h] at he;subst he;clear h));go_ret;exact⟨rfl,Z5E.alloc Z5D _⟩
  .obtain⟨p0,p1⟩:=O rfl rfl;clear O;go_enter func223,ntmps223;go_wp2_with (first|(go_at_call 253;have h:=C.out;clear C;refine(FC r _).mono ?_;rintro e w' ⟨he,rfl⟩;rw[<-h] at he;subst he;clear h)|(go_at_call 253;have h:=F.out;clear F;refine(FC c _).mono ?_;rintro e w' ⟨he,rfl⟩;rw[<-h] at he;subst he;clear h));go_ret;refine⟨?_,Z5E.alloc Z5D _⟩;congr 2
theorem Gz(r c i g o n cap:Nat)(w:World)(hi:i<r)(U:r<=255)(hc:1<=c)(O:c<=510)(F:n=r*c)(M:n<=cap)(J:cap<=9223372036854775807):Calls prog 226 #[.agg #[.int .i64 r,.int .i64 c,.slice (some ⟨g,o,none⟩) n cap],.int .i64 i] w λe w'=>e=.returned (.slice (some ⟨g,o+i*c,none⟩) c (cap-i*c))/\Below w.heap.size w w':=by
 have C:i*c+c<=n:=by have:(i+1)*c<=r*c:=Nat.mul_le_mul_right c hi;grind
 obtain⟨q,h⟩:∃q:Nat,q=i*c:=⟨_,rfl⟩;have e1:(i:Int)*(c:Int)=(q:Int):=by omega
 have e2:((i:Int)+1)*(c:Int)=((q+c:Nat):Int):=by grind
 rw[<-h] at C⊢;clear F h;go_enter func226,ntmps226;go_wp2;go_ret;exact⟨by rw[show q+c-q=c from by omega];rfl,Z5E.alloc Z5D _⟩
theorem QG(r c i g n cap:Nat)(w:World)(hi:i<r)(O:r<=255)(hc:1<=c)(F:c<=510)(M:n=r*c)(C:n<=cap)(h:cap<=9223372036854775807):Calls prog 226 #[.agg #[.int .i64 r,.int .i64 c,.slice (some ⟨g,0,none⟩) n cap],.int .i64 i] w λe w'=>∃q,q=i*c/\q+c<=n/\e=.returned (.slice (some ⟨g,q,none⟩) c (cap-q))/\Below w.heap.size w w':=by refine(Gz r c i g 0 n cap w hi O hc F M C h).mono ?_;rintro e w' ⟨rfl,J⟩;refine⟨i*c,rfl,?_,by rw[Nat.zero_add],J⟩;have:(i+1)*c<=r*c:=Nat.mul_le_mul_right c hi;grind
def Xi(r c g:Nat):Value:=.agg #[.int .i64 r,.int .i64 c,.slice (some ⟨g,0,none⟩) (r*c) (r*c)]
theorem Ba(r c:Nat)(w:World)(h1:r<=510)(h2:c<=510):Calls prog 225 #[.int .i64 r,.int .i64 c] w λe w'=>∃g,e=.returned (Xi r c g)/\w.heap.size<=g/\ZD w' g 5 (Zd (tab (r*c) λ_=>0#8))/\Below w.heap.size w w':=by
 obtain⟨i0,hi,F,J,M⟩:=info_parts Xw;have h3:r*c<=510*510:=Nat.mul_le_mul h1 h2;obtain⟨q,U⟩:∃q:Nat,q=r*c:=⟨_,rfl⟩;have e1:(r:Int)*(c:Int)=(q:Int):=by omega
 unfold Xi;rw[<-U] at h3⊢;have C:=λW=>WF (P:=prog) 75 5 i0 underlying75 hi F J M q (by omega) W;rw[<-PL,<-Z2n] at C;obtain⟨Z,O⟩:=Z5I (Zd (tab q λ_=>0#8));rw[<-O] at C⊢;clear hi F J M U O;go_enter func225,ntmps225;go_wp2;exact bodyPost_ret (v:=.agg #[.int .i64 r,.int .i64 c,.slice (some ⟨w.heap.size+1,0,none⟩) q q]) (by simp[results,go_sem]) rfl ⟨_,rfl,by omega,by have h:=ZD.new (w.alloc (.cells #[.int .i64 r,.int .i64 c,.slice (some ⟨w.heap.size+1,0,none⟩) q q] 250)) 5 Z;rw[show(w.alloc (.cells #[.int .i64 r,.int .i64 c,.slice (some ⟨w.heap.size+1,0,none⟩) q q] 250)).heap.size=w.heap.size+1 from by simp] at h;exact h,(Z5E.alloc Z5D _).alloc (by simp) _⟩
def Z2K(w:World)(b:Nat)(c:Int):Prop:=Row w b 141 [.int .i64 c,.int .i64 0,.nilIface]
def Q9(B:Nat)(w:World)(v:Value)(c:Int):Prop:=(v=.nilIface/\c=0)∨(c≠0/\∃b,v=.iface 139 (.pointer (some ⟨b,0,none⟩))/\B<=b/\Z2K w b c)
theorem Q9.ok0(B:Nat)(w:World):Q9 B w .nilIface 0:=Or.inl ⟨rfl,rfl⟩
theorem Q9.mono{B B':Nat}{w:World}{v:Value}{c:Int}(h:Q9 B w v c)(hB:B'<=B):Q9 B' w v c:=by
 rcases h with h|⟨hc,b,C,J,F⟩
 .exact Or.inl h
 .exact Or.inr ⟨hc,b,C,by omega,F⟩
theorem Yc(c:Int)(hc:c≠0)(w:World):Calls prog 224 #[.int .i64 c] w λe w'=>∃v,e=.returned v/\Q9 w.heap.size w' v c/\Below w.heap.size w w':=by have h:=Z5F hc;go_enter func224,ntmps224;go_wp2;go_ret;exact⟨_,rfl,Or.inr ⟨h.out,w.heap.size,rfl,Z5D,Row.new w _ [.int .i64 c,.int .i64 0,.nilIface]⟩,Z5E.alloc Z5D _⟩
def AS(f:Nat->BitVec 8)(o n:Nat)(t:BitVec 8)(of:Nat->BitVec 8)(j:Nat):BitVec 8:=if o<=j/\j<o+n then f j^^^gm t (of (j-o)) else f j
theorem UA(f:Nat->BitVec 8)(o:Nat)(t:BitVec 8)(of:Nat->BitVec 8):AS f o 0 t of=f:=by funext j;unfold AS;rw[if_neg (by omega)]
theorem Uz(f:Nat->BitVec 8)(o k:Nat)(t:BitVec 8)(of:Nat->BitVec 8):(λj=>if j=o+k then f (o+k)^^^gm t (of k) else AS f o k t of j)=AS f o (k+1) t of:=by
 funext j;unfold AS
 grind
theorem KH(g o n cap g2 o2 n2 ae N:Nat)(f of:Nat->BitVec 8)(sp:List Value)(t:Int)(w:World)(h0:0<=t)(h1:t<256)(h:Row w g 5 (Zd (tab N f)++sp))(hN:o+n<=N)(hn:n<=n2)(ah:n<=100000)(ag:∀j,j<n->w.cell? ⟨g2,o2+j,none⟩=some (.int .u8 (nv (of j))))(hd:g2≠g∨o<=o2∨o2+n<=o):Calls prog 254 #[.slice (some ⟨g,o,none⟩) n cap,.slice (some ⟨g2,o2,none⟩) n2 ae,.int .u8 t] w λe w'=>e=.returned (.tuple #[])/\Row w' g 5 (Zd (tab N (AS f o n (bv t) of))++sp)/\Fr [g] w w':=by
 have O:=Z5F h;have Z:=Z5F ag;clear h ag;go_enter func254,ntmps254;go_wp2;go_loopw [9] (λi wr=>∃k:Nat,k<=n/\i=.int .i64 k/\Row wr g 5 (Zd (tab N (AS f o k (bv t) of))++sp)/\Fr [g] w wr) (λi _=>n- (intOf i).toNat)
 case atStart=>exact⟨0,by omega,rfl,by rw[UA];exact O.out,Fr.refl _ _⟩
 case round=>
  obtain⟨k,hk,rfl,h,C⟩:=hrel;by_cases af:k<n
  .have J:∀i,i<N->wr.cell? ⟨g,i,none⟩=some (.int .u8 (nv (AS f o k (bv t) of i))):=λi hi=>h.cell (by rw[Z5c (by rw[Qe,Zq];exact hi),Xb _ _ (by rw[Zq];exact hi),Yk _ _ _ hi]);have c1:wr.cell? ⟨g,o+k,none⟩=some (.int .u8 (nv (f (o+k)))):=by rw[J (o+k) (by omega)];unfold AS;rw[if_neg (by omega)]
   have c2:wr.cell? ⟨g2,o2+k,none⟩=some (.int .u8 (nv (of k))):=by
    by_cases e:g2=g
    .subst e;have hl:o2+k<N∨¬o2+k<N:=(by omega);have U:=Z.out k af;by_cases hl:o2+k<N
     .rw[J _ hl];have h8:w.cell? ⟨g2,o2+k,none⟩=some (.int .u8 (nv (f (o2+k)))):=O.out.cell (by rw[Z5c (by rw[Qe,Zq];exact hl),Xb _ _ (by rw[Zq];exact hl),Yk _ _ _ hl]);rw[<-U,h8];unfold AS;rw[if_neg (by omega)]
     .have hx:=O.out;obtain⟨fz,hh,_⟩:=hx;obtain⟨aj,ai,_⟩:=h;rw[cell_of_row _ _ _ _ _ _ hh] at U;rw[cell_of_row _ _ _ _ _ _ ai];rw[<-U];simp only[List.getElem?_toArray];rw[Z5k (by rw[Qe,Zq];omega),Z5k (by rw[Qe,Zq];omega)];simp only[Qe,Zq]
    .exact Gl C (by simp_all) (Z.out k af)
   have hf:wr.frozen? ⟨g,o+k,none⟩=false:=h.free (by rw[Z5d,Qe,Zq];omega);have F:=Z5F h;have M:=Z5F C;have ak:k<n2:=(by omega);clear h C J hd;go_wp2_with fail;go_still_tail 12,(by kernel_rfl)
   still_call (XJ (KZ _ _ h0 h1 (AE _) (AD _) _))
   repeat still_step
   refine wpStill_nil ?_;change wpList _ _ _ _ _ wr.drew;go_wp2;go_roundw
   case measure=>simp[intOf];omega
   case rel=>refine⟨k+1,by omega,by go_num,?_,(M.out.setCell (Or.inl (by simp)) _).drew⟩;rw[Wg,Ag];have hm:=F.out.set (o+k) (.int .u8 (nv (f (o+k)^^^gm (bv t) (of k))));rw[List.set_append_left _ _ (by rw[Qe,Zq];omega),Eo,Lh,Uz] at hm;exact hm.drew
  .obtain rfl:k=n:=(by omega);have F:=Z5F h;have M:=Z5F C;clear h C hd;go_wp2;go_end0;exact⟨rfl,F.out,M.out⟩
def JH:Value:=.agg #[.int .i64 0,.int .i64 0,.slice none 0 0]
section
variable{w w0:World}{g B:Nat}{T:TypeId}{x y z a b c v:Value}{k:Int}
theorem Qt(h:Row w g T [x,y,z]):Row (((w.setCell ⟨g,0,none⟩ a).setCell ⟨g,1,none⟩ b).setCell ⟨g,2,none⟩ c) g T [a,b,c]:=((h.set 0 a).set 1 b).set 2 c
theorem Qb(h:Below B w0 w)(hB:B<=g):Below B w0 (((w.setCell ⟨g,0,none⟩ a).setCell ⟨g,1,none⟩ b).setCell ⟨g,2,none⟩ c):=((h.setCell hB a).setCell hB b).setCell hB c
theorem Q9.setCell(h:Q9 B w v k)(M:g<B)(j:Nat):Q9 B (w.setCell ⟨g,j,none⟩ a) v k:=by
 rcases h with h|⟨hc,f,C,F,J⟩
 .exact Or.inl h
 .exact Or.inr ⟨hc,f,C,F,Row.other J (by grind) _⟩
theorem WP(h:Q9 B w v k)(C:g<B):Q9 B (((w.setCell ⟨g,0,none⟩ a).setCell ⟨g,1,none⟩ b).setCell ⟨g,2,none⟩ c) v k:=((h.setCell C 0).setCell C 1).setCell C 2
end
theorem Z4s(n:Int)(w:World)(h:n<1∨255<n):Calls prog 220 #[.int .i64 n] w λe w'=>∃ev,e=.returned (.tuple #[JH,ev])/\Q9 w.heap.size w' ev 1/\Below w.heap.size w w':=by
 have hx:(n<1)∨(¬n<1/\255<n):=by omega
 have M:=Row.new w 250 [.int .i64 0,.int .i64 0,.slice none 0 0];have F:=Z5F M;rcases hx with hx|⟨hx,ae⟩
 all_goals
  go_enter func220,ntmps220;go_wp2_with (go_at_call 224;refine(Yc 1 (by omega) _).mono ?_;rintro e w1 ⟨ev,rfl,he,J⟩;have hB:=F.out.after J;have x0:=hB.cell (j:=0) rfl;have x1:=hB.cell (j:=1) rfl;have x2:=hB.cell (j:=2) rfl;have f0:=hB.free (j:=0) (by simp);have f1:=hB.free (j:=1) (by simp);have f2:=hB.free (j:=2) (by simp);have O:=Z5F he;have C:=Z5F J;clear he J hB);have U:=(Qt (a:=.int .i64 0) (b:=.int .i64 0) (c:=.slice none 0 0) (F.out.after C.out)).cell (j:=0) rfl;have Z:=(Qt (a:=.int .i64 0) (b:=.int .i64 0) (c:=.slice none 0 0) (F.out.after C.out)).cell (j:=1) rfl;have y2:=(Qt (a:=.int .i64 0) (b:=.int .i64 0) (c:=.slice none 0 0) (F.out.after C.out)).cell (j:=2) rfl;exact bodyPost_ret (v:=.tuple #[.agg #[.int .i64 0,.int .i64 0,.slice none 0 0],ev]) (by simp[results,go_sem,U,Z,y2]) rfl ⟨ev,rfl,(WP O.out (by simp)).mono (by simp),Qb ((Z5E.alloc Z5D _).trans (C.out.mono (by simp))) Z5D⟩
def idF(n k j:Nat):BitVec 8:=if j / n=j%n/\j / n<k then 1#8 else 0#8
theorem Z1e(n:Nat):(λ_=>0#8)=idF n 0:=by funext j;unfold idF;rw[if_neg (by omega)]
theorem Z1d(n k:Nat)(h:k<n):(λj=>if j=k*n+k then 1#8 else idF n k j)=idF n (k+1):=by
 funext j
 unfold idF;by_cases e:j=k*n+k
 .subst e;rw[if_pos rfl,Jv k k h,Jw k k h,if_pos ⟨rfl,by omega⟩]
 .rw[if_neg e];by_cases C:j / n=j%n/\j / n<k
  .grind
  .rw[if_neg C,if_neg];rintro⟨F,J⟩;apply e;have:=Nat.div_add_mod j n;grind
theorem Z1c(n:Nat):tab (n*n) (idF n n)=(mat n n idm).cells:=by refine Wf λj h=> ?_;unfold idF idm;have hl:=Cs h;simp_all
theorem Ha(n:Nat)(w:World)(n1:1<=n)(n2:n<=255):Calls prog 220 #[.int .i64 n] w λe w'=>∃g,e=.returned (.tuple #[Xi n n g,.nilIface])/\w.heap.size<=g/\ZD w' g 5 (Zd (mat n n idm).cells)/\Below w.heap.size w w':=by
 have af:=Row.new w 250 [.int .i64 0,.int .i64 0,.slice none 0 0];have HB:=Z5F af;go_enter func220,ntmps220;go_wp2_with (go_at_call 225;refine(Ba n n _ (by omega) (by omega)).mono ?_;rintro e w1 ⟨g,rfl,hg,F,h⟩;unfold Xi;have ai:=Z5F (HB.out.after h);have Z:=Z5F F;have aj:=Z5F (((Below.refl w.heap.size w).alloc Z5D (.cells #[.int .i64 0,.int .i64 0,.slice none 0 0] 250)).trans (h.mono (by simp)));clear F h HB);have ak:=Z5F (Row.new w1 250 [.int .i64 n,.int .i64 n,.slice (some ⟨g,0,none⟩) (n*n) (n*n)]);have b9:w.heap.size<g:=by simp at hg;omega
 have b8:=Z.out.row.lt;have hq:n*n<=255*255:=Nat.mul_le_mul n2 n2;go_loopw [18] (λi wr=>∃k:Nat,k<=n/\i=.int .i64 k/\ZD wr g 5 (Zd (tab (n*n) (idF n k)))/\Row wr w1.heap.size 250 [.int .i64 n,.int .i64 n,.slice (some ⟨g,0,none⟩) (n*n) (n*n)]/\Row wr w.heap.size 250 [.int .i64 0,.int .i64 0,.slice none 0 0]/\Below w.heap.size w wr/\w1.heap.size<wr.heap.size) (λi _=>n- (intOf i).toNat)
 case atStart=>exact⟨0,by omega,rfl,by rw[<-Z1e];exact Z.out.fr ((Fr.refl [] _).alloc _) (by simp),ak.out,ai.out.alloc _,aj.out.alloc (by omega) _,by simp⟩
 case round=>
  obtain⟨k,hk,rfl,F,J,az,ae,bg⟩:=hrel;have x0:=J.cell (j:=0) rfl;have x1:=J.cell (j:=1) rfl;have x2:=J.cell (j:=2) rfl;have HR:=Z5F F;have HX:=Z5F J;have C:=Z5F az;have O:=Z5F ae;by_cases ag:k<n
  .go_wp2_with (go_at_call 226;refine(QG n n k g (n*n) (n*n) _ ag (by omega) (by omega) (by omega) rfl Z5D (by omega)).mono ?_;rintro e w2 ⟨q,ah,bf,rfl,h⟩;have M:=HR.out.fr (Fr.of_below (L:=[]) h) (by simp);have c0:=G6 (i:=q+k) M (by omega);have f0:=G7 (i:=q+k) M (by omega);have au:=Z5F M;have aw:=Z5F (HX.out.after h);have al:=Z5F (C.out.after h);have aq:=Z5F (O.out.trans (h.mono O.out.size));have b7:=h.size;have HQ:=Z5F ah;clear M h ah x0 x1 x2);go_roundw
   case measure=>simp[intOf];omega
   case rel=>refine⟨k+1,by omega,by go_num,?_,aw.out.other (by grind) _,al.out.other (by grind) _,aq.out.setCell (by grind) _,by simp;omega⟩;have hm:=EK (i:=q+k) au.out 1#8;rw[HQ.out,Z1d n k ag,Co] at hm;rw[HQ.out];omega
  .obtain rfl:k=n:=(by omega);have r0:=C.out.cell (j:=0) rfl;have r1:=C.out.cell (j:=1) rfl;have r2:=C.out.cell (j:=2) rfl;have f0:=C.out.free (j:=0) (by simp);have f1:=C.out.free (j:=1) (by simp);have f2:=C.out.free (j:=2) (by simp);go_wp2;have U:=Qt (a:=.int .i64 k) (b:=.int .i64 k) (c:=.slice (some ⟨g,0,none⟩) (k*k) (k*k)) C.out;have y0:=U.cell (j:=0) rfl;have y1:=U.cell (j:=1) rfl;have y2:=U.cell (j:=2) rfl
   exact bodyPost_ret (v:=.tuple #[.agg #[.int .i64 k,.int .i64 k,.slice (some ⟨g,0,none⟩) (k*k) (k*k)],.nilIface]) (by simp[results,go_sem,y0,y1,y2]) rfl ⟨g,rfl,by omega,by
    have h9:=HR.out;rw[Z1c] at h9
    exact h9.fr ((((Fr.refl [w.heap.size] wr).setCell (Or.inl (by simp)) _).setCell (Or.inl (by simp)) _).setCell (Or.inl (by simp)) _) (by grind),Qb O.out Z5D⟩
theorem Z4V(r c:Int)(w:World)(h:r<1∨255<r∨c<1∨255<c∨256<r+c):Calls prog 221 #[.int .i64 r,.int .i64 c] w λe w'=>∃ev,e=.returned (.tuple #[JH,ev])/\Q9 w.heap.size w' ev 1/\Below w.heap.size w w':=by
 have hx:(r<1)∨(¬r<1/\c<1)∨(¬r<1/\¬c<1/\255<r)∨(¬r<1/\¬c<1/\¬255<r/\255<c)∨(¬r<1/\¬c<1/\¬255<r/\¬255<c/\256<r+c):=by omega
 have ae:=Row.new w 250 [.int .i64 0,.int .i64 0,.slice none 0 0];have U:=Z5F ae;rcases hx with C|⟨C,F⟩|⟨C,F,Z⟩|⟨C,F,Z,h4⟩|⟨C,F,Z,h4,h5⟩
 all_goals
  go_enter func221,ntmps221;go_wp2_with (go_at_call 224;refine(Yc 1 (by omega) _).mono ?_;rintro e w1 ⟨ev,rfl,he,J⟩;have hB:=U.out.after J;have x0:=hB.cell (j:=0) rfl;have x1:=hB.cell (j:=1) rfl;have x2:=hB.cell (j:=2) rfl;have f0:=hB.free (j:=0) (by simp);have f1:=hB.free (j:=1) (by simp);have f2:=hB.free (j:=2) (by simp);have HE:=Z5F he;have O:=Z5F J;clear he J hB);have M:=Qt (a:=.int .i64 0) (b:=.int .i64 0) (c:=.slice none 0 0) (U.out.after O.out);have y0:=M.cell (j:=0) rfl;have y1:=M.cell (j:=1) rfl;have y2:=M.cell (j:=2) rfl;exact bodyPost_ret (v:=.tuple #[.agg #[.int .i64 0,.int .i64 0,.slice none 0 0],ev]) (by simp[results,go_sem,y0,y1,y2]) rfl ⟨ev,rfl,(WP HE.out (by simp)).mono (by simp),Qb ((Z5E.alloc Z5D _).trans (O.out.mono (by simp))) Z5D⟩
def upF(c:Nat)(M:Nat->Nat->BitVec 8)(t j:Nat):BitVec 8:=if j<t then M (j / c) (j%c) else 0#8
theorem Iu(c:Nat)(M:Nat->Nat->BitVec 8):(λ_=>0#8)=upF c M 0:=by rfl
theorem Z2s(c:Nat)(M:Nat->Nat->BitVec 8)(k l:Nat)(h:l<c):(λj=>if j=k*c+l then M k l else upF c M (k*c+l) j)=upF c M (k*c+l+1):=by
 funext j
 unfold upF;by_cases e:j=k*c+l
 .subst e;rw[if_pos rfl,if_pos (by omega),Jv k l h,Jw k l h]
 .grind
theorem It(r c:Nat)(M:Nat->Nat->BitVec 8):tab (r*c) (upF c M (r*c))=(mat r c M).cells:=by exact Wf λj h=>by unfold upF;rw[if_pos h]
theorem Z2X(c k l:Nat)(h:c+k<256)(C:l<256):bits .xor .u8 ((c:Int)+(k:Int)) (l:Int)=nv (BitVec.ofNat 8 (c+k)^^^BitVec.ofNat 8 l):=by
 have e:((c:Int)+(k:Int))=nv (BitVec.ofNat 8 (c+k)):=by rw[Z2G h];omega
 rw[e,<-Z2G C,Ag]
theorem Z2Y(c k l:Nat):ivv (BitVec.ofNat 8 (c+k)^^^BitVec.ofNat 8 l)=cau c k l:=rfl
theorem UR(r c:Nat)(w:World)(r1:1<=r)(r2:r<=255)(c1:1<=c)(c2:c<=255)(bu:r+c<=256):Calls prog 221 #[.int .i64 r,.int .i64 c] w λe w'=>∃g,e=.returned (.tuple #[Xi r c g,.nilIface])/\w.heap.size<=g/\ZD w' g 5 (Zd (mat r c (cau c)).cells)/\Below w.heap.size w w':=by
 have ag:=Row.new w 250 [.int .i64 0,.int .i64 0,.slice none 0 0];have HB:=Z5F ag;have i1:(1:Int)<=r:=by omega
 have i2:(r:Int)<=255:=by omega
 have i3:(1:Int)<=c:=by omega
 have i4:(c:Int)<=255:=by omega
 have i5:(r:Int)+(c:Int)<=256:=by omega
 clear ag;have hq:r*c<=255*255:=Nat.mul_le_mul r2 c2;obtain⟨N,hN⟩:=Z5I (r*c);unfold Xi;rw[<-hN] at hq⊢;have HN:=Z5F hN;clear hN;go_enter func221,ntmps221;go_wp2_with (go_at_call 225;refine(Ba r c _ (by omega) (by omega)).mono ?_;rintro e w1 ⟨g,rfl,hg,F,C⟩;unfold Xi;rw[<-HN.out] at F⊢;have ai:=Z5F (HB.out.after C);have af:=Z5F F;have al:=Z5F (((Below.refl w.heap.size w).alloc Z5D (.cells #[.int .i64 0,.int .i64 0,.slice none 0 0] 250)).trans (C.mono (by simp)));clear F C HB);have aq:=Z5F (Row.new w1 250 [.int .i64 r,.int .i64 c,.slice (some ⟨g,0,none⟩) N N]);have bm:w.heap.size<g:=by simp at hg;omega
 have bj:=af.out.row.lt;have bz:w.heap.size<w1.heap.size:=ai.out.lt;clear hg;go_loopw [35] (λi wr=>∃k:Nat,k<=r/\i=.int .i64 k/\ZD wr g 5 (Zd (tab N (upF c (cau c) (k*c))))/\Row wr w1.heap.size 250 [.int .i64 r,.int .i64 c,.slice (some ⟨g,0,none⟩) N N]/\Row wr w.heap.size 250 [.int .i64 0,.int .i64 0,.slice none 0 0]/\Below w.heap.size w wr/\w1.heap.size<wr.heap.size) (λi _=>r- (intOf i).toNat)
 case atStart=>exact⟨0,by omega,rfl,by rw[Nat.zero_mul,<-Iu];exact af.out.fr ((Fr.refl [] _).alloc _) (by simp),aq.out,ai.out.alloc _,al.out.alloc (by omega) _,by simp⟩
 case round=>
  obtain⟨k,hk,rfl,F,J,ae,Z,ak⟩:=hrel;have U:=Z5F F;have M:=Z5F J;have h:=Z5F ae;have O:=Z5F Z;clear F J ae Z af aq ai al;by_cases bg:k<r
  .go_wp2;obtain⟨wo,rfl⟩:∃wo:World,wo=wr:=⟨_,rfl⟩;go_loopw [39] (λi wr=>∃l:Nat,l<=c/\i=.int .i64 l/\ZD wr g 5 (Zd (tab N (upF c (cau c) (k*c+l))))/\Row wr w1.heap.size 250 [.int .i64 r,.int .i64 c,.slice (some ⟨g,0,none⟩) N N]/\Row wr w.heap.size 250 [.int .i64 0,.int .i64 0,.slice none 0 0]/\Below w.heap.size w wr/\w1.heap.size<wr.heap.size) (λi _=>c- (intOf i).toNat)
   case atStart=>exact⟨0,by omega,rfl,U.out,M.out,h.out,O.out,ak⟩
   case round=>
    clear U M h O;obtain⟨l,hl,rfl,F,J,ae,Z,ak⟩:=hrel;have x0:=J.cell (j:=0) rfl;have x1:=J.cell (j:=1) rfl;have x2:=J.cell (j:=2) rfl;have U:=Z5F F;have M:=Z5F J;have h:=Z5F ae;have O:=Z5F Z;clear F J ae Z;by_cases aj:l<c
    .have bf:=Z2X c k l (by omega) (by omega);obtain⟨X,hX⟩:=Z5I (BitVec.ofNat 8 (c+k)^^^BitVec.ofNat 8 l);rw[<-hX] at bf;have b9:=Z5F hX;clear hX;go_wp2_with (first|(go_at_call 226;refine(QG r c k g N N _ bg (by omega) (by omega) (by omega) HN.out Z5D (by omega)).mono ?_;rintro e w2 ⟨q,au,bq,rfl,C⟩;have ah:=U.out.fr (Fr.of_below (L:=[]) C) (by simp);have c0:=G6 (i:=q+l) ah (by omega);have f0:=G7 (i:=q+l) ah (by omega);have b7:=Z5F ah;have b8:=Z5F (M.out.after C);have aw:=Z5F (h.out.after C);have az:=Z5F (O.out.trans (C.mono O.out.size));have bh:=C.size;have HQ:=Z5F au;clear ah C au x0 x1 x2)|(go_at_call 252;refine(KU (nv X) (AE _) (AD _) _).mono ?_;rw[Wg];rintro e w3 ⟨rfl,rfl⟩));go_roundw
     case measure=>simp[intOf];omega
     case rel=>refine⟨l+1,by omega,by go_num,?_,b8.out.other (by grind) _,aw.out.other (by grind) _,az.out.setCell (by grind) _,by simp;omega⟩;have hm:=EK (i:=q+l) b7.out (cau c k l);rw[HQ.out,Z2s c _ k l aj,<-Z2Y,<-b9.out] at hm;rw[HQ.out];exact hm
    .obtain rfl:l=c:=(by omega);go_wp2;go_roundw
     case measure=>simp[intOf];omega
     case rel=>exact⟨k+1,by omega,by go_num,by rw[Nat.add_mul,Nat.one_mul];exact U.out,M.out,h.out,O.out,ak⟩
  .obtain rfl:k=r:=(by omega);have x0:=M.out.cell (j:=0) rfl;have x1:=M.out.cell (j:=1) rfl;have x2:=M.out.cell (j:=2) rfl;have r0:=h.out.cell (j:=0) rfl;have r1:=h.out.cell (j:=1) rfl;have r2:=h.out.cell (j:=2) rfl;have f0:=h.out.free (j:=0) (by simp);have f1:=h.out.free (j:=1) (by simp);have f2:=h.out.free (j:=2) (by simp);go_wp2;have hy:=Qt (a:=.int .i64 k) (b:=.int .i64 c) (c:=.slice (some ⟨g,0,none⟩) N N) h.out;have y0:=hy.cell (j:=0) rfl;have y1:=hy.cell (j:=1) rfl;have y2:=hy.cell (j:=2) rfl
   exact bodyPost_ret (v:=.tuple #[.agg #[.int .i64 k,.int .i64 c,.slice (some ⟨g,0,none⟩) N N],.nilIface]) (by simp[results,Tryz.results221,go_sem,y0,y1,y2]) rfl ⟨g,rfl,by omega,by
    have h9:=U.out;rw[HN.out,It] at h9
    exact h9.fr ((((Fr.refl [w.heap.size] wr).setCell (Or.inl (by simp)) _).setCell (Or.inl (by simp)) _).setCell (Or.inl (by simp)) _) (by simp;omega),Qb O.out Z5D⟩
section
variable{T:TypeId}
def Y2(r c:Int)(n:Nat):Bool:=decide (1<=r/\r<=255/\1<=c/\c<=255/\(n:Int)=r*c)
theorem QO(r c:Int)(n:Nat)(a:Option Addr)(cap:Nat)(w:World)(hl:n<=maxLen):Calls prog 223 #[.agg #[.int .i64 r,.int .i64 c,.slice a n cap]] w λe w'=>e=.returned (.bool (Y2 r c n))/\Below w.heap.size w w':=by have h:=VW ⟨r,c,List.replicate n 0#8⟩ a cap w (by simp_all);simpa[Mt.val,Mt.right,Y2] using h
theorem Jq{r c:Nat}(C:1<=r)(F:r<=255)(J:1<=c)(M:c<=255){n:Nat}(h:n=r*c):Y2 r c n=true:=by unfold Y2;grind
def Qm(w:World)(g o r c:Nat)(M:Nat->Nat->BitVec 8):Prop:=∀i j,i<r->j<c->w.cell? ⟨g,o+i*c+j,none⟩=some (.int .u8 (nv (M i j)))
theorem Qm.after{w w':World}{g o r c:Nat}{M:Nat->Nat->BitVec 8}(h:Qm w g o r c M)(F:Below w.heap.size w w'):Qm w' g o r c M:=λi j hi C=>(F.cell (p:=⟨g,o+i*c+j,none⟩) (QB (h i j hi C))).trans (h i j hi C)
theorem Qm.fr{w w':World}{g o r c:Nat}{M:Nat->Nat->BitVec 8}(h:Qm w g o r c M){L:List Nat}(C:Fr L w w')(F:g∉L):Qm w' g o r c M:=λi j hi J=>Gl C F (h i j hi J)
theorem Zl{w:World}{g:Nat}{a b c:Value}(h:Row w g T [a,b,c]):w.cell? ⟨g,0,none⟩=some a/\w.cell? ⟨g,1,none⟩=some b/\w.cell? ⟨g,2,none⟩=some c:=⟨h.cell rfl,h.cell rfl,h.cell rfl⟩
theorem Xk{w:World}{g:Nat}{a b c:Value}(h:Row w g T [a,b,c]):w.frozen? ⟨g,0,none⟩=false/\w.frozen? ⟨g,1,none⟩=false/\w.frozen? ⟨g,2,none⟩=false:=⟨h.free (by simp),h.free (by simp),h.free (by simp)⟩
theorem Rp(w:World)(h C F v0 v1 v2:Value):Row (((w.alloc (.cells #[h,C,F] 250)).alloc (.cells #[v0,v1,v2] 250)).alloc (.cells #[.int .i64 0,.int .i64 0,.slice none 0 0] 250)) w.heap.size 250 [h,C,F]/\Row (((w.alloc (.cells #[h,C,F] 250)).alloc (.cells #[v0,v1,v2] 250)).alloc (.cells #[.int .i64 0,.int .i64 0,.slice none 0 0] 250)) (w.heap.size+1) 250 [v0,v1,v2]/\Row (((w.alloc (.cells #[h,C,F] 250)).alloc (.cells #[v0,v1,v2] 250)).alloc (.cells #[.int .i64 0,.int .i64 0,.slice none 0 0] 250)) (w.heap.size+1+1) 250 [.int .i64 0,.int .i64 0,.slice none 0 0]/\Below w.heap.size w (((w.alloc (.cells #[h,C,F] 250)).alloc (.cells #[v0,v1,v2] 250)).alloc (.cells #[.int .i64 0,.int .i64 0,.slice none 0 0] 250)):=by
 have hs:∀ (W:World) (o:Obj),(W.alloc o).heap.size=W.heap.size+1:=by simp
 have O:=((Row.new w 250 [h,C,F]).alloc (.cells #[v0,v1,v2] 250)).alloc (.cells #[.int .i64 0,.int .i64 0,.slice none 0 0] 250);have J:=(Row.new (w.alloc (.cells #[h,C,F] 250)) 250 [v0,v1,v2]).alloc (.cells #[.int .i64 0,.int .i64 0,.slice none 0 0] 250);have M:=Row.new ((w.alloc (.cells #[h,C,F] 250)).alloc (.cells #[v0,v1,v2] 250)) 250 [.int .i64 0,.int .i64 0,.slice none 0 0];rw[hs] at J;rw[hs,hs] at M;exact⟨O,J,M,((Z5E.alloc Z5D _).alloc (by simp) _).alloc (by grind) _⟩
structure M3(w0:World)(b0 b1 b2:Nat)(A B:List Value)(w:World):Prop where
 one:Row w b0 250 A
 two:Row w b1 250 B
 res:Row w b2 250 [.int .i64 0,.int .i64 0,.slice none 0 0]
 bel:Below w0.heap.size w0 w
 le:w0.heap.size<=b2
theorem M3.after{w0 w w':World}{b0 b1 b2:Nat}{A B:List Value}(h:M3 w0 b0 b1 b2 A B w)(C:Below w.heap.size w w'):M3 w0 b0 b1 b2 A B w':=⟨h.one.after C,h.two.after C,h.res.after C,h.bel.trans (C.mono h.bel.size),h.le⟩
theorem Ih(w:World)(h C F v0 v1 v2:Value):M3 w w.heap.size (w.heap.size+1) (w.heap.size+1+1) [h,C,F] [v0,v1,v2] (((w.alloc (.cells #[h,C,F] 250)).alloc (.cells #[v0,v1,v2] 250)).alloc (.cells #[.int .i64 0,.int .i64 0,.slice none 0 0] 250)):=by obtain⟨J,M,O,U⟩:=Rp w h C F v0 v1 v2;exact⟨J,M,O,U,by omega⟩
open Go.RowKit
section
variable{w0 w w':World}{b0 b1 b2 bx g ga oa gb ob r n c N:Nat}{A B:Nat->Nat->BitVec 8}{LA LB LX:List Value}{f f':Nat->BitVec 8}
end
end
def tb(c:Nat)(M:Nat->Nat->BitVec 8)(j:Nat):BitVec 8:=M (j / c) (j%c)
theorem JA{c:Nat}(M:Nat->Nat->BitVec 8)(i j:Nat)(h:j<c):tb c M (i*c+j)=M i j:=by unfold tb;rw[Jv i j h,Jw i j h]
theorem EN(r c:Nat)(M:Nat->Nat->BitVec 8):(mat r c M).cells=tab (r*c) (tb c M):=rfl
theorem FD{c i j:Nat}(hc:1<=c):(i*c<=j/\j<i*c+c)↔j / c=i:=by
 constructor
 .rintro⟨h,C⟩;obtain⟨m,rfl⟩:∃m,j=i*c+m:=⟨j-i*c,by omega⟩;exact Jv i m (by omega)
 .rintro rfl;have h:=Nat.div_add_mod j c;have C:=Nat.mod_lt j (show 0<c by omega);grind
theorem G8{c:Nat}(M:Nat->Nat->BitVec 8)(t s:Nat)(a:BitVec 8)(hc:1<=c):AS (tb c M) (t*c) c a (M s)=tb c (Y8 M t s a):=by
 funext j
 show(if t*c<=j/\j<t*c+c then M (j / c) (j%c)^^^gm a (M s (j-t*c)) else M (j / c) (j%c))=(if j / c=t then M t (j%c)^^^gm a (M s (j%c)) else M (j / c) (j%c));by_cases h:j / c=t
 .have C:=(FD hc).2 h;rw[if_pos C,if_pos h,h];obtain⟨m,rfl⟩:∃m,j=t*c+m:=⟨j-t*c,by omega⟩;rw[Jw t m (by omega),show t*c+m-t*c=m from by omega]
 .rw[if_neg (λC=>h ((FD hc).1 C)),if_neg h]
theorem Z4m:bv 1=1#8:=by rw[show(1:Int)=nv 1#8 from Co.symm,Wg]
theorem NA{r c:Nat}{M:Nat->Nat->BitVec 8}:∀x,Ker r c M x↔Ker r c M x:=λ_=>Iff.rfl
def Q7(M:Nat->Nat->BitVec 8)(k j i:Nat)(a c:Nat):BitVec 8:=if a<i/\a≠k then M a c^^^gm (M a j) (M k c) else M a c
theorem Dz(M:Nat->Nat->BitVec 8)(k j:Nat):Q7 M k j 0=M:=by rfl
theorem Jt(M:Nat->Nat->BitVec 8)(k j i:Nat)(h:i=k∨M i j=0#8):Q7 M k j (i+1)=Q7 M k j i:=by
 funext a c
 unfold Q7;by_cases e:a=i
 .subst e;by_cases e2:a=k
  .simp_all
  .rw[if_pos ⟨Nat.lt_succ_self a,e2⟩,h.resolve_left e2,Qg];simp
 .grind
theorem Mq(M:Nat->Nat->BitVec 8)(k j i a c:Nat)(h:i<=a):Q7 M k j i a c=M a c:=by unfold Q7;rw[if_neg (by omega)]
theorem KL(M:Nat->Nat->BitVec 8)(k j i:Nat)(h:i≠k):Y8 (Q7 M k j i) i k (M i j)=Q7 M k j (i+1):=by
 funext a c
 unfold Y8;by_cases e:a=i
 .subst e;unfold Q7;simp_all
 .rw[if_neg e];unfold Q7;grind
structure Piv(r c:Nat)(M' M1:Nat->Nat->BitVec 8)(j k:Nat):Prop where
 up:∀i x,i<k->M1 i x=M' i x
 low:∀i x,k<=i->i<r->x<j->M1 i x=0#8
 ne:M1 k j≠0#8
 ker:∀x,Ker r c M1 x↔Ker r c M' x
theorem Z1U{r c j k:Nat}{M':Nat->Nat->BitVec 8}{p:Nat->Nat}(g:WV r M' j k p)(J:M' k j≠0#8):Piv r c M' M' j k:=⟨λ_ _ _=>rfl,λi x h C F=>g.below i x h C F,J,λ_=>Iff.rfl⟩
theorem Z3C{r c j k m:Nat}{M':Nat->Nat->BitVec 8}{p:Nat->Nat}(g:WV r M' j k p)(F:k<r)(hm:m<r)(Z:k<m)(U:M' k j=0#8)(O:M' m j≠0#8):Piv r c M' (Y8 M' k m 1#8) j k:=by
 refine⟨λi x h=> ?_,λi x J M C=> ?_,?_,λx=> ?_⟩
 .unfold Y8;rw[if_neg (by omega)]
 .unfold Y8;by_cases e:i=k
  .rw[if_pos e,g.below k x Z5D F C,g.below m x (by omega) hm C,Zm];simp
  .rw[if_neg e,g.below i x J M C]
 .unfold Y8;rw[if_pos rfl,U,Qj];simpa using O
 .exact Ec hm F (Or.inl (by omega)) x
theorem VT{r c j k:Nat}{M' C:Nat->Nat->BitVec 8}(h:Piv r c M' C j k)(F:k<r):Piv r c M' (Y8 C k k (ivv (C k j)^^^1#8)) j k/\Y8 C k k (ivv (C k j)^^^1#8) k j=1#8:=by
 have J:ivv (C k j)=iv (C k j):=by unfold ivv;rw[if_neg h.ne]
 have M:Y8 C k k (ivv (C k j)^^^1#8) k j=1#8:=by unfold Y8;rw[if_pos rfl,XX,Qj,J,Wi,Be _ h.ne,<-BitVec.xor_assoc,BitVec.xor_comm (C k j),BitVec.xor_assoc,BitVec.xor_self,BitVec.xor_zero]
 refine⟨⟨λi x hi=> ?_,λi x Z h3 O=> ?_,by rw[M];decide,λx=> ?_⟩,M⟩
 .rw[<-h.up i x hi];unfold Y8;rw[if_neg (by omega)]
 .unfold Y8;by_cases e:i=k
  .rw[if_pos e,h.low k x Z5D F O,Zm];simp
  .rw[if_neg e,h.low i x Z h3 O]
 .rw[Ec F F (Or.inr ?_) x,h.ker x];intro e;have U:ivv (C k j)=0#8:=by have:=congrArg (λy=>y^^^1#8) e;grind
  rw[J] at U;exact Vq _ h.ne U
theorem Z1T{r c j k:Nat}{M M' M2:Nat->Nat->BitVec 8}{p:Nat->Nat}(g:WV r M' j k p)(h:Piv r c M' M2 j k)(F:k<r)(C:M2 k j=1#8):WV r (Q7 M2 k j r) (j+1) (k+1) (λt=>if t=k then j else p t):=by refine Vk g F h.up h.low C (λi x hi=> ?_);unfold Q7;simp_all
theorem TZ{c i k C F:Nat}(h:i≠k)(J:C=i*c)(M:F=k*c):C<=F∨F+c<=C:=by
 rcases Nat.lt_or_gt_of_ne h with h8|h8
 .left;rw[J,M];exact Nat.mul_le_mul_right c (by omega)
 .right;have:=Nat.mul_le_mul_right c (show k+1<=i by omega);grind
structure BD(w0:World)(g N:Nat)(LX:List Value)(sp:List Value)(f:Nat->BitVec 8)(w:World):Prop where
 box:Row w w0.heap.size 250 LX
 row:Row w g 5 (Zd (tab N f)++sp)
 fr:Fr [g] w0 w
section
variable{w0 w w':World}{g N:Nat}{LX sp:List Value}{f f':Nat->BitVec 8}
theorem BD.after(h:BD w0 g N LX sp f w)(C:Below w.heap.size w w'):BD w0 g N LX sp f w':=⟨h.box.after C,h.row.after C,h.fr.trans (Fr.of_below (L:=[]) C) (by simp)⟩
theorem BD.add(h:BD w0 g N LX sp f w)(F:Row w' g 5 (Zd (tab N f')++sp))(C:Fr [g] w w'):BD w0 g N LX sp f' w':=⟨h.box.fr C (by simp;exact h.box.ne h.row (by simp)),F,h.fr.trans C (λi hi _=>hi)⟩
end
theorem Z0c(r c cols g cap N:Nat)(M:Nat->Nat->BitVec 8)(sp:List Value)(w:World)(r1:1<=r)(r2:r<=255)(c1:1<=c)(c2:c<=510)(hN:N=r*c)(af:N<=cap)(ae:cap<=9223372036854775807)(eh:cols<=c)(ah:Row w g 5 (Zd (tab N (tb c M))++sp)):Calls prog 227 #[.agg #[.int .i64 r,.int .i64 c,.slice (some ⟨g,0,none⟩) N cap],.int .i64 cols] w λe w'=>∃k M' j p,e=.returned (.int .i64 (k:Nat))/\Row w' g 5 (Zd (tab N (tb c M'))++sp)/\Fr [g] w w'/\WV r M' j k p/\j<=cols/\(j=cols∨k=r)/\(∀x,Ker r c M' x↔Ker r c M x):=by
 have q1:N<=255*510:=by rw[hN];exact Nat.mul_le_mul r2 c2
 have S0:Hid (BD w g N [.int .i64 r,.int .i64 c,.slice (some ⟨g,0,none⟩) N cap] sp (tb c M) (w.alloc (.cells #[.int .i64 r,.int .i64 c,.slice (some ⟨g,0,none⟩) N cap] 250))):=
  Z5F ⟨Row.new _ _ _,ah.alloc _,(Fr.refl _ _).alloc _⟩
 have gl:=ah.lt;have HN:=Z5F hN;clear hN ah;go_enter func227,ntmps227;go_wp2;go_loopw [5,6] (λat_ jj wr=>∃ (k j:Nat) (M':Nat->Nat->BitVec 8) (p:Nat->Nat),at_=.int .i64 k/\jj=.int .i64 j/\j<=cols/\WV r M' j k p/\(∀x,Ker r c M' x↔Ker r c M x)/\BD w g N [.int .i64 r,.int .i64 c,.slice (some ⟨g,0,none⟩) N cap] sp (tb c M') wr) (λ_ jj _=>cols- (intOf jj).toNat)
 case atStart=>exact⟨0,0,M,λ_=>0,rfl,rfl,by omega,Tq r M _,NA,S0.out⟩
 case round=>
  clear S0;obtain⟨k,j,M',p,rfl,rfl,hj,ai,aj,hs⟩:=hrel;have fq:=ai.le;have HG:=Z5F ai;have HK:=Z5F aj;obtain⟨x0,x1,x2⟩:=Zl hs.box;have S1:=Z5F hs;clear ai aj hs;by_cases eo:j<cols/\k<r
  .obtain⟨ft,ag⟩:=eo;go_wp2;obtain⟨wo,rfl⟩:∃wo:World,wo=wr:=⟨_,rfl⟩;go_loopw [7] (λrr wr=>∃m:Nat,rr=.int .i64 m/\k<=m/\m<=r/\(∀i,k<=i->i<m->M' i j=0#8)/\BD w g N [.int .i64 r,.int .i64 c,.slice (some ⟨g,0,none⟩) N cap] sp (tb c M') wr) (λrr _=>r- (intOf rr).toNat)
   case atStart=>exact⟨k,rfl,Z5D,fq,λi h1 h2=>by omega,S1.out⟩
   case round=>
    clear S1 x0 x1 x2;obtain⟨m,rfl,fp,jt,hz,hs⟩:=hrel;obtain⟨x0,x1,x2⟩:=Zl hs.box;have HZ:=Z5F hz;have S2:=Z5F hs;clear hz hs;by_cases hm:m<r
    .by_cases b7:nv (M' m j)=0
     .have fm:(nv (M' m j)==0)=true:=(by simpa using b7);have dc:=Z5F b7;clear b7;go_wp2_with (go_at_call 226;have F:=S2.out;clear S2;refine(QG r c m g N cap _ hm r2 c1 c2 HN.out af ae).mono ?_;rintro e w2 ⟨q,J,ju,rfl,O⟩;have C:=F.after O;have c0:=Wr (i:=q+j) C.row (by omega);rw[J,JA M' m j (by omega),<-J] at c0;have S3:=Z5F C;have HQ:=Z5F J;clear F O C J x0 x1 x2);go_roundw
      case measure=>simp[intOf];omega
      case rel=>exact⟨m+1,by go_num,by omega,by omega,λi h1 h2=>by
       by_cases e:i=m
       .rw[e];exact(YX _).1 dc.out
       .exact HZ.out i h1 (by omega),S3.out⟩
     .have fm:(nv (M' m j)==0)=false:=(by simpa using b7);have dc:=Z5F b7;clear b7;refine if hmk:m=k then ?same else ?other
      case' same=>
       have e1:((m:Int)==(r:Int))=false:=by simp;omega
       have e2:((m:Int) !=(k:Int))=false:=(by simp[hmk]);have bz:=Z1U (c:=c) HG.out (by rw[<-hmk];exact λe=>dc.out ((YX _).2 e));obtain⟨Z,au⟩:=Z5I M';have cj:Piv r c M' Z j k:=by rw[au];exact bz
       clear bz;obtain⟨X,hX⟩:=Z5I (Z k j);have df:=Z5F au;have dh:=Z5F cj;have bq:=Z5F hX;have fh:=Z5F hmk;clear au cj hX hmk;by_cases U:nv X=1
       case' pos=>have cu:(nv X !=1)=false:=(by simp[U]);have dm:=Z5F U;clear U
       case' neg=>have cu:(nv X !=1)=true:=(by simpa using U);have dq:=Z5F U;clear U
       all_goals
        go_wp2_with (first|(go_at_call 226;have F:=S2.out;clear S2;refine(QG r c m g N cap _ hm r2 c1 c2 HN.out af ae).mono ?_;rintro e w2 ⟨q2,J,cr,rfl,O⟩;have C:=F.after O;have dp:=Wr (i:=q2+j) C.row (by omega);rw[J,JA M' m j (by omega),<-J] at dp;obtain⟨fu,iq,jb⟩:=Zl C.box;have S3:=Z5F C;have fi:=Z5F J;clear F O C J x0 x1 x2)|(go_at_call 226;have F:=S3.out;rw[<-df.out] at F;clear S3;refine(QG r c k g N cap _ ag r2 c1 c2 HN.out af ae).mono ?_;rintro e w4 ⟨q4,J,ct,rfl,O⟩;have C:=F.after O;have bu:=Wr (i:=q4+j) C.row (by omega);rw[J,JA Z k j (by omega),<-J] at bu;rw[<-bq.out] at bu;obtain⟨fw,ir,jc⟩:=Zl C.box;have S4:=Z5F C;have fj:=Z5F J;clear F O C J)|(go_at_call 252;refine(KU (nv X) (AE _) (AD _) _).mono ?_;rw[Wg];rintro e w5 ⟨rfl,rfl⟩))
      case' other=>
       have e1:((m:Int)==(r:Int))=false:=by simp;omega
       have e2:((m:Int) !=(k:Int))=true:=by simp;omega
       have bz:=Z3C (c:=c) HG.out ag hm (by omega) (HZ.out k Z5D (by omega)) (λe=>dc.out ((YX _).2 e));obtain⟨Z,au⟩:=Z5I (Y8 M' k m 1#8);have cj:Piv r c M' Z j k:=by rw[au];exact bz
       clear bz;obtain⟨X,hX⟩:=Z5I (Z k j);have df:=Z5F au;have dh:=Z5F cj;have bq:=Z5F hX;have fh:=Z5F hmk;clear au cj hX hmk;by_cases U:nv X=1
       case' pos=>have cu:(nv X !=1)=false:=(by simp[U]);have dm:=Z5F U;clear U
       case' neg=>have cu:(nv X !=1)=true:=(by simpa using U);have dq:=Z5F U;clear U
       all_goals
        go_wp2_with (go_at_call 226;have F:=S2.out;clear S2;refine(QG r c m g N cap _ hm r2 c1 c2 HN.out af ae).mono ?_;rintro e w2 ⟨q2,J,cr,rfl,O⟩;have C:=F.after O;have dp:=Wr (i:=q2+j) C.row (by omega);rw[J,JA M' m j (by omega),<-J] at dp;obtain⟨fu,iq,jb⟩:=Zl C.box;have S3:=Z5F C;have fi:=Z5F J;clear F O C J x0 x1 x2);go_region_held3 (λw'=>w'.cell? ⟨w.heap.size,0,none⟩=some (.int .i64 r)/\w'.cell? ⟨w.heap.size,1,none⟩=some (.int .i64 c)/\w'.cell? ⟨w.heap.size,2,none⟩=some (.slice (some ⟨g,0,none⟩) N cap)) (first|exact⟨by assumption,by assumption,by assumption⟩)
         (first|(go_at_call 226;have F:=S3.out;clear S3;refine(QG r c k g N cap _ ag r2 c1 c2 HN.out af ae).mono ?_;rintro e ke ⟨jo,J,er,rfl,O⟩;have C:=(F.after Z5E.drew).after O;obtain⟨gj,iu,jd⟩:=Zl C.box;have du:=Z5F C;have b9:=Z5F J;clear F O C J)|(go_at_call 226;have F:=du.out;clear du;refine(QG r c m g N cap _ hm r2 c1 c2 HN.out af ae).mono ?_;rintro e kf ⟨fe,J,eu,rfl,O⟩;have C:=F.after O;obtain⟨ia,iw,je⟩:=Zl C.box;have dw:=Z5F C;have bf:=Z5F J;clear F O C J)|(go_at_call 254;have F:=dw.out;clear dw;refine(KH g jo c _ g fe c _ N (tb c M') (M' m) sp 1 _ (by omega) (by omega) F.row (by omega) Z5D (by omega) (λi hi=>by rw[Wr (i:=fe+i) F.row (by omega),bf.out,JA _ _ _ hi]) (Or.inr (Or.inl (by rw[b9.out,bf.out];exact Nat.mul_le_mul_right c fp)))).mono ?_;rintro e kg ⟨rfl,hr,hf⟩;rw[Z4m,b9.out,G8 _ _ _ _ c1] at hr;have C:=F.add hr hf;obtain⟨ib,ix,jf⟩:=Zl C.box;have dx:=Z5F C;clear F hr hf C))
        go_wp2_with (first|(go_at_call 226;have F:=dx.out;rw[<-df.out] at F;clear dx;refine(QG r c k g N cap _ ag r2 c1 c2 HN.out af ae).mono ?_;rintro e w4 ⟨q4,J,ct,rfl,O⟩;have C:=F.after O;have bu:=Wr (i:=q4+j) C.row (by omega);rw[J,JA Z k j (by omega),<-J] at bu;rw[<-bq.out] at bu;obtain⟨fw,ir,jc⟩:=Zl C.box;have S4:=Z5F C;have fj:=Z5F J;clear F O C J)|(go_at_call 252;refine(KU (nv X) (AE _) (AD _) _).mono ?_;rw[Wg];rintro e w5 ⟨rfl,rfl⟩))
      all_goals first
       |have U:=dm
        obtain⟨M2,aw⟩:=Z5I Z;have cz:Hid (Piv r c M' M2 j k/\M2 k j=1#8):=by rw[aw];exact Z5F ⟨dh.out,by rw[<-bq.out];exact NW (dm.out.trans Co.symm)⟩
        have SL:Hid (BD w g N [.int .i64 r,.int .i64 c,.slice (some ⟨g,0,none⟩) N cap] sp (tb c M2) w4):=by rw[aw];exact S4
        clear aw
       |have U:=dq
        have ek:=Ag (ivv X) 1#8;rw[Co] at ek;go_region_held3 (λw'=>w'.cell? ⟨w.heap.size,0,none⟩=some (.int .i64 r)/\w'.cell? ⟨w.heap.size,1,none⟩=some (.int .i64 c)/\w'.cell? ⟨w.heap.size,2,none⟩=some (.slice (some ⟨g,0,none⟩) N cap)) (first|exact⟨by assumption,by assumption,by assumption⟩)
         (first|(go_at_call 226;have F:=S4.out;clear S4;refine(QG r c k g N cap _ ag r2 c1 c2 HN.out af ae).mono ?_;rintro e kh ⟨jq,J,ew,rfl,O⟩;have C:=(F.after Z5E.drew).after O;obtain⟨ic,iy,jg⟩:=Zl C.box;have dy:=Z5F C;have bg:=Z5F J;clear F O C J)|(go_at_call 226;have F:=dy.out;clear dy;refine(QG r c k g N cap _ ag r2 c1 c2 HN.out af ae).mono ?_;rintro e kj ⟨ff,J,ey,rfl,O⟩;have C:=F.after O;obtain⟨ie,iz,jh⟩:=Zl C.box;have dz:=Z5F C;have bh:=Z5F J;clear F O C J)|(go_at_call 254;have F:=dz.out;clear dz;refine(KH g jq c _ g ff c _ N (tb c Z) (Z k) sp (nv (ivv X^^^1#8)) _ (AE _) (AD _) F.row (by omega) Z5D (by omega) (λi hi=>by rw[Wr (i:=ff+i) F.row (by omega),bh.out,JA _ _ _ hi]) (Or.inr (Or.inl (by rw[bg.out,bh.out];exact Z5D)))).mono ?_;rintro e js ⟨rfl,hr,hf⟩;rw[Wg,bg.out,G8 _ _ _ _ c1] at hr;have C:=F.add hr hf;obtain⟨ig,j7,ji⟩:=Zl C.box;have S5:=Z5F C;clear F hr hf C))
        clear ek;go_wp2;obtain⟨M2,aw⟩:=Z5I (Y8 Z k k (ivv X^^^1#8));have cz:Hid (Piv r c M' M2 j k/\M2 k j=1#8):=by rw[aw,bq.out];exact Z5F (VT dh.out ag)
        have SL:Hid (BD w g N [.int .i64 r,.int .i64 c,.slice (some ⟨g,0,none⟩) N cap] sp (tb c M2) js):=by rw[aw];exact S5
        clear aw
      all_goals
       go_loopw [78] (λii wr=>∃i:Nat,ii=.int .i64 i/\i<=r/\(∀x,Ker r c (Q7 M2 k j i) x↔Ker r c M x)/\BD w g N [.int .i64 r,.int .i64 c,.slice (some ⟨g,0,none⟩) N cap] sp (tb c (Q7 M2 k j i)) wr) (λii _=>r- (intOf ii).toNat)
       case atStart=>exact⟨0,rfl,by omega,λx=>by rw[Dz];exact(cz.out.1.ker x).trans (HK.out x),by rw[Dz];exact SL.out⟩
       case round=>
        clear SL;obtain⟨i,rfl,hi,aj,hs⟩:=hrel;obtain⟨x0,x1,x2⟩:=Zl hs.box;have cw:=Z5F aj;have S6:=Z5F hs;clear aj hs;by_cases cn:i<r
        .by_cases de:i=k
         .have fo:((i:Int) !=(k:Int))=false:=(by simp[de]);have az:=Z5F de;clear de;go_wp2_with (go_at_call 226;have F:=S6.out;clear S6;refine(QG r c i g N cap _ cn r2 c1 c2 HN.out af ae).mono ?_;rintro e w6 ⟨q6,J,ak,rfl,O⟩;have C:=F.after O;have aq:=Wr (i:=q6+j) C.row (by omega);rw[J,JA (Q7 M2 k j i) i j (by omega),<-J] at aq;have S7:=Z5F C;have dt:=Z5F J;clear F O C J x0 x1 x2);go_roundw
          case measure=>simp[intOf];omega
          case rel=>exact⟨i+1,by go_num,by omega,by rw[Jt M2 k j i (Or.inl az.out)];exact cw.out,by rw[Jt M2 k j i (Or.inl az.out)];exact S7.out⟩
         .have fo:((i:Int) !=(k:Int))=true:=by simp;omega
          have ah:Q7 M2 k j i i j=M2 i j:=Mq M2 k j i i j Z5D;obtain⟨Y,hY⟩:=Z5I (M2 i j);by_cases b8:nv Y=0
          .have cu:(nv Y !=0)=false:=(by simp[b8]);have dj:=Z5F b8;have al:=Z5F (ah.trans hY.symm);have HY:=Z5F hY;clear b8 ah hY;go_wp2_with (go_at_call 226;have F:=S6.out;clear S6;refine(QG r c i g N cap _ cn r2 c1 c2 HN.out af ae).mono ?_;rintro e w6 ⟨q6,J,ak,rfl,O⟩;have C:=F.after O;have aq:=Wr (i:=q6+j) C.row (by omega);rw[J,JA (Q7 M2 k j i) i j (by omega),<-J] at aq;rw[al.out] at aq;have S7:=Z5F C;have dt:=Z5F J;clear F O C J x0 x1 x2);go_roundw
           case measure=>simp[intOf];omega
           case rel=>exact⟨i+1,by go_num,by omega,by rw[Jt M2 k j i (Or.inr (HY.out.symm.trans ((YX _).1 dj.out)))];exact cw.out,by rw[Jt M2 k j i (Or.inr (HY.out.symm.trans ((YX _).1 dj.out)))];exact S7.out⟩
          .have cu:(nv Y !=0)=true:=(by simpa using b8);have dj:=Z5F b8;have al:=Z5F (ah.trans hY.symm);have HY:=Z5F hY;have az:=Z5F de;clear b8 ah hY;go_wp2_with (go_at_call 226;have F:=S6.out;clear S6;refine(QG r c i g N cap _ cn r2 c1 c2 HN.out af ae).mono ?_;rintro e w6 ⟨q6,J,ak,rfl,O⟩;have C:=F.after O;have aq:=Wr (i:=q6+j) C.row (by omega);rw[J,JA (Q7 M2 k j i) i j (by omega),<-J] at aq;rw[al.out] at aq;obtain⟨jx,jy,jz⟩:=Zl C.box;have S7:=Z5F C;have dt:=Z5F J;clear F O C J x0 x1 x2);go_region_held3 (λw'=>w'.cell? ⟨w.heap.size,0,none⟩=some (.int .i64 r)/\w'.cell? ⟨w.heap.size,1,none⟩=some (.int .i64 c)/\w'.cell? ⟨w.heap.size,2,none⟩=some (.slice (some ⟨g,0,none⟩) N cap)) (first|exact⟨by assumption,by assumption,by assumption⟩)
            (first|(go_at_call 226;have F:=S7.out;clear S7;refine(QG r c i g N cap _ cn r2 c1 c2 HN.out af ae).mono ?_;rintro e km ⟨jr,J,ez,rfl,O⟩;have C:=(F.after Z5E.drew).after O;obtain⟨ij,j8,jk⟩:=Zl C.box;have ee:=Z5F C;have bj:=Z5F J;clear F O C J)|(go_at_call 226;have F:=ee.out;clear ee;refine(QG r c k g N cap _ ag r2 c1 c2 HN.out af ae).mono ?_;rintro e kq ⟨fg,J,fa,rfl,O⟩;have C:=F.after O;obtain⟨ik,j9,jl⟩:=Zl C.box;have ef:=Z5F C;have bm:=Z5F J;clear F O C J)|(go_at_call 254;have F:=ef.out;clear ef;refine(KH g jr c _ g fg c _ N (tb c (Q7 M2 k j i)) ((Q7 M2 k j i) k) sp (nv Y) _ (AE _) (AD _) F.row (by omega) Z5D (by omega) (λi hi=>by rw[Wr (i:=fg+i) F.row (by omega),bm.out,JA _ _ _ hi]) (Or.inr (TZ az.out bj.out bm.out))).mono ?_;rintro e kt ⟨rfl,hr,hf⟩;rw[Wg,bj.out,G8 _ _ _ _ c1] at hr;have C:=F.add hr hf;obtain⟨im,ja,jm⟩:=Zl C.box;have S8:=Z5F C;clear F hr hf C))
           go_wp2;go_roundw
           case measure=>simp[intOf];omega
           case rel=>have fc:=KL M2 k j i az.out;exact⟨i+1,by go_num,by omega,λx=>by rw[<-fc,Ec ag cn (Or.inl (λh=>az.out h.symm))];exact cw.out x,by rw[<-fc,<-HY.out];exact S8.out⟩
        .obtain rfl:i=r:=(by omega);go_wp2;go_roundw
         case measure=>simp[intOf];omega
         case rel=>exact⟨k+1,j+1,Q7 M2 k j i,λt=>if t=k then j else p t,by go_num,by go_num,by omega,Z1T (M:=M') HG.out cz.out.1 ag cz.out.2,cw.out,S6.out⟩
    .obtain rfl:m=r:=(by omega);have e1:((m:Int)==(m:Int))=true:=(by simp);go_wp2;go_roundw
     case measure=>simp[intOf];omega
     case rel=>exact⟨k,j+1,M',p,rfl,by go_num,by omega,Vj HG.out HZ.out,HK.out,S2.out⟩
  .have hx:¬j<cols∨(j<cols/\¬k<r):=(by omega);clear eo;rcases hx with hx|⟨hx,jw⟩
   all_goals
    go_wp2;go_ret;exact⟨k,M',j,p,rfl,S1.out.row,S1.out.fr,HG.out,hj,by omega,HK.out⟩
section
variable{Q:Exit->Act->World->Prop}{a:Act}{o:Oper}{ops:Array Oper}{w:World}
def Xh(f:Nat->BitVec 8)(o n:Nat)(of:Nat->BitVec 8)(j:Nat):BitVec 8:=if o<=j/\j<o+n then of (j-o) else f j
theorem Tw(f of:Nat->BitVec 8)(o n N:Nat)(h:o+n<=N):(Zd (tab N f)).take o++(Zd (tab n of)++(Zd (tab N f)).drop (o+n))=Zd (tab N (Xh f o n of)):=by
 unfold Zd;rw[<-List.map_take,<-List.map_drop,<-Z5u,<-Z5u];congr 1;apply List.ext_getElem
 .simp[Zq];omega
 .intro i F C;have hi:i<N:=by rw[Zq] at C;exact C
  rw[Yk _ _ _ hi];unfold Xh;by_cases e1:i<o
  .rw[if_neg (by omega),List.getElem_append_left (by simp[Zq];omega),List.getElem_take,Yk _ _ _ hi]
  .rw[List.getElem_append_right (by grind)];simp[Zq,Nat.min_eq_left (show o<=N by omega)];by_cases e2:i<o+n
   .rw[if_pos ⟨by omega,e2⟩,List.getElem_append_left (by rw[Zq];omega),Yk _ _ _ (by omega)]
   .rw[if_neg (by omega),List.getElem_append_right (by rw[Zq];omega),List.getElem_drop,Yk _ _ _ (by rw[Zq];omega)];congr 1;rw[Zq];omega
section
variable{P:Program}
theorem FZ(w:World)(M sT ty elem:TypeId)(hu:P.underlying M=some (.slice elem))(ah:(P.info? elem).map (·.size)=some 1)(g o C O gs os F U n N:Nat)(t:TypeId)(f of:Nat->BitVec 8)(af:ZD w g t (Zd (tab N f)))(hn:n=Nat.min F C)(ae:o+n<=N)(ag:∀j,j<n->w.cell? ⟨gs,os+j,none⟩=some (.int .u8 (nv (of j)))):(Builtin.copy_ #[M,sT] ty #[.slice (some ⟨g,o,none⟩) C O,.slice (some ⟨gs,os,none⟩) F U]).run P w=.ok (goInt n) (w.setRow g (Zd (tab N (Xh f o n of))).toArray):=by
 have hl:(Zd (tab n of)).length=n:=by rw[Qe,Zq]
 have h:=run_copy_row (P:=P) w M sT ty elem g o C O ⟨gs,os,none⟩ F U (Zd (tab N f)).toArray t (Zd (tab n of)) hu ah af (by omega)
  (λj v Z=>by
   have J:j<n:=(by grind);rw[Xb _ _ (by rw[Zq];exact J),Yk _ _ _ J] at Z;have e1:(⟨gs,os,none⟩:Addr).add j=⟨gs,os+j,none⟩:=by unfold Addr.add;split<;>simp_all
   rw[e1,ag j J];exact Z)
  (by rw[hl];simp[Qe,Zq];omega)
  (λv hv=>by
   obtain⟨x,_,rfl⟩:=List.mem_map.1 hv
   rfl)
 rw[hl,List.toList_toArray,Z5g,Tw f of o n N ae] at h;omega
theorem KA{rest:List Oper}(ah:o.guard=none)(d s:Operand)(J Z:TypeId)(ho:o.op=.call {callee:=.builtin .copy,args:= #[d,s],argTypes:= #[J,Z]})(elem:TypeId)(hu:P.underlying J=some (.slice elem))(ai:(P.info? elem).map (·.size)=some 1)(g off C M gs os F U n N:Nat)(hd:a.eval d=.slice (some ⟨g,off,none⟩) C M)(hs:a.eval s=.slice (some ⟨gs,os,none⟩) F U)(t:TypeId)(f of:Nat->BitVec 8)(O:ZD w g t (Zd (tab N f)))(hn:n=Nat.min F C)(ae:off+n<=N)(ag:∀j,j<n->w.cell? ⟨gs,os+j,none⟩=some (.int .u8 (nv (of j))))(h:∀w',ZD w' g t (Zd (tab N (Xh f off n of)))->Fr [g] w w'->wpList P ops Q rest (a.put o.dst (goInt n)) w'):wpList P ops Q (o::rest) a w:=by refine wpList_plain ah λK hK=> ?_;have af:=FZ (P:=P) w J Z o.type elem hu ai g off C M gs os F U n N t f of O hn ae ag;unfold Oper.wp;simp[execOp,ho,resolve,invoke,builtin,hd,hs,af];exact hK _ _ (h _ (O.setRow _) ((Fr.refl _ _).setRow (Or.inl (by simp)) _))
theorem JR{K:Act->World->Prop}{E:Prop}(ah:o.guard=none)(d s:Operand)(J Z:TypeId)(ho:o.op=.call {callee:=.builtin .copy,args:= #[d,s],argTypes:= #[J,Z]})(elem:TypeId)(hu:P.underlying J=some (.slice elem))(ai:(P.info? elem).map (·.size)=some 1)(g off C M gs os F U n N:Nat)(hd:a.eval d=.slice (some ⟨g,off,none⟩) C M)(hs:a.eval s=.slice (some ⟨gs,os,none⟩) F U)(t:TypeId)(f of:Nat->BitVec 8)(O:ZD w g t (Zd (tab N f)))(hn:n=Nat.min F C)(ae:off+n<=N)(ag:∀j,j<n->w.cell? ⟨gs,os+j,none⟩=some (.int .u8 (nv (of j))))(h:∀w',ZD w' g t (Zd (tab N (Xh f off n of)))->Fr [g] w w'->K (a.put o.dst (goInt n)) w'):if Region.wanted o (yielded ops a.tmps)=true then Oper.wp P o a w K Q else E:=by
 have hw:Region.wanted o (yielded ops a.tmps)=true:=by simp[Region.wanted,ah]
 rw[if_pos hw];have af:=FZ (P:=P) w J Z o.type elem hu ai g off C M gs os F U n N t f of O hn ae ag;unfold Oper.wp;simp[execOp,ho,resolve,invoke,builtin,hd,hs,af];exact h _ (O.setRow _) ((Fr.refl _ _).setRow (Or.inl (by simp)) _)
end
theorem Qm.flat{g o r c:Nat}{M:Nat->Nat->BitVec 8}(h:Qm w g o r c M)(hc:1<=c)(j:Nat)(C:j<r*c):w.cell? ⟨g,o+j,none⟩=some (.int .u8 (nv (tb c M j))):=by have:=h (j / c) (j%c) (Cs C) (Nat.mod_lt _ (by omega));rw[Nat.add_assoc,Nat.mul_comm,Nat.div_add_mod] at this;exact this
end
theorem Sb(c:Nat)(M:Nat->Nat->BitVec 8)(k:Nat)(hc:1<=c):Xh (upF c M (k*c)) (k*c) c (M k)=upF c M ((k+1)*c):=by
 funext j
 unfold Xh upF;rw[Nat.add_mul,Nat.one_mul];by_cases h:k*c<=j/\j<k*c+c
 .rw[if_pos h,if_pos h.2];have C:=(FD hc).1 h;rw[C];congr 1;obtain⟨m,rfl⟩:∃m,j=k*c+m:=⟨j-k*c,by omega⟩;rw[Jw k m (by omega)];omega
 .grind
def Dd(n m:Nat)(A:Nat->Nat->BitVec 8)(k j:Nat):BitVec 8:=if j / m<k then aug n A (j / m) (j%m) else 0#8
theorem UJ(n m:Nat)(A:Nat->Nat->BitVec 8):(λ_=>0#8)=Dd n m A 0:=by rfl
theorem UI(n m:Nat)(A:Nat->Nat->BitVec 8)(k:Nat)(hm:m=n+n)(h:k<n):(λj=>if j=k*m+(n+k) then 1#8 else Xh (Dd n m A k) (k*m) n (A k) j)=Dd n m A (k+1):=by
 funext j
 have C:1<=m:=by omega
 by_cases F:j / m=k
 .obtain⟨O,U⟩:=(FD C).2 F;obtain⟨c,rfl⟩:∃c,j=k*m+c:=⟨j-k*m,by omega⟩;have hc:c<m:=by omega
  unfold Dd;rw[Jv k c hc,Jw k c hc,if_pos (Nat.lt_succ_self k)];unfold aug;by_cases e:c=n+k
  .rw[if_pos (by omega),if_neg (by omega)];unfold idm;rw[if_pos (by omega)]
  .rw[if_neg (by omega)];unfold Xh;by_cases J:c<n
   .simp_all
   .rw[if_neg (by omega),if_neg J];show(if(k*m+c) / m<k then _ else 0#8)=_;rw[Jv k c hc,if_neg (Nat.lt_irrefl k)];unfold idm;rw[if_neg (by omega)]
 .have M:¬ (k*m<=j/\j<k*m+m):=λh=>F ((FD C).1 h);unfold Xh;unfold Dd;grind
theorem UH(n m:Nat)(A:Nat->Nat->BitVec 8):tab (n*m) (Dd n m A n)=tab (n*m) (tb m (aug n A)):=Wf λj h=>by unfold Dd tb;rw[if_pos (Cs h)]
structure C5(w0:World)(b0 b2 bx g ga oa r c N:Nat)(A:Nat->Nat->BitVec 8)(LA LX:List Value)(f:Nat->BitVec 8)(w:World):Prop where
 one:Row w b0 250 LA
 res:Row w b2 250 [.int .i64 0,.int .i64 0,.slice none 0 0]
 box:Row w bx 250 LX
 row:ZD w g 5 (Zd (tab N f))
 src:Qm w ga oa r c A
 bel:Below w0.heap.size w0 w
section
variable{w0 w w':World}{b0 b2 bx g ga oa r c N:Nat}{A:Nat->Nat->BitVec 8}{LA LX:List Value}{f f':Nat->BitVec 8}
theorem C5.after(h:C5 w0 b0 b2 bx g ga oa r c N A LA LX f w)(C:Below w.heap.size w w'):C5 w0 b0 b2 bx g ga oa r c N A LA LX f w':=⟨h.one.after C,h.res.after C,h.box.after C,h.row.fr (Fr.of_below (L:=[]) C) (by simp),h.src.after C,h.bel.trans (C.mono h.bel.size)⟩
theorem C5.lay(h:C5 w0 b0 b2 bx g ga oa r c N A LA LX f w)(O:ZD w' g 5 (Zd (tab N f')))(C:Fr [g] w w')(U:w0.heap.size<=g)(ha:ga<w0.heap.size):C5 w0 b0 b2 bx g ga oa r c N A LA LX f' w':=by
 have F:b0∉[g]:=by simp;exact h.one.ne h.row.row (by simp)
 have J:b2∉[g]:=by simp;exact h.res.ne h.row.row (by simp)
 have M:bx∉[g]:=by simp;exact h.box.ne h.row.row (by simp)
 exact⟨h.one.fr C F,h.res.fr C J,h.box.fr C M,O,h.src.fr C (by grind),h.bel.trans (C.below h.bel.size (λi hi=>by simp at hi;omega))⟩
end
structure Ff(w0:World)(b2 bx by_ g g2 N N2:Nat)(LX LY:List Value)(f f2:Nat->BitVec 8)(w:World):Prop where
 res:Row w b2 250 [.int .i64 0,.int .i64 0,.slice none 0 0]
 box:Row w bx 250 LX
 boy:Row w by_ 250 LY
 src:Row w g 5 (Zd (tab N f)++[])
 row:ZD w g2 5 (Zd (tab N2 f2))
 bel:Below w0.heap.size w0 w
section
variable{w0 w w':World}{b2 bx by_ g g2 N N2:Nat}{LX LY:List Value}{f f2 f':Nat->BitVec 8}
theorem Ff.after(h:Ff w0 b2 bx by_ g g2 N N2 LX LY f f2 w)(C:Below w.heap.size w w'):Ff w0 b2 bx by_ g g2 N N2 LX LY f f2 w':=⟨h.res.after C,h.box.after C,h.boy.after C,h.src.after C,h.row.fr (Fr.of_below (L:=[]) C) (by simp),h.bel.trans (C.mono h.bel.size)⟩
theorem Ff.lay(h:Ff w0 b2 bx by_ g g2 N N2 LX LY f f2 w)(O:ZD w' g2 5 (Zd (tab N2 f')))(C:Fr [g2] w w')(Z:w0.heap.size<=g2)(U:g≠g2):Ff w0 b2 bx by_ g g2 N N2 LX LY f f' w':=by
 have F:b2∉[g2]:=by simp;exact h.res.ne h.row.row (by simp)
 have J:bx∉[g2]:=by simp;exact h.box.ne h.row.row (by simp)
 have M:by_∉[g2]:=by simp;exact h.boy.ne h.row.row (by simp)
 exact⟨h.res.fr C F,h.box.fr C J,h.boy.fr C M,h.src.fr C (by simp_all),O,h.bel.trans (C.below h.bel.size (λi hi=>by simp at hi;omega))⟩
end
theorem Z0h(w:World)(h C F:Value):Row ((w.alloc (.cells #[h,C,F] 250)).alloc (.cells #[.int .i64 0,.int .i64 0,.slice none 0 0] 250)) w.heap.size 250 [h,C,F]/\Row ((w.alloc (.cells #[h,C,F] 250)).alloc (.cells #[.int .i64 0,.int .i64 0,.slice none 0 0] 250)) (w.heap.size+1) 250 [.int .i64 0,.int .i64 0,.slice none 0 0]/\Below w.heap.size w ((w.alloc (.cells #[h,C,F] 250)).alloc (.cells #[.int .i64 0,.int .i64 0,.slice none 0 0] 250)):=by
 have hs:∀ (W:World) (o:Obj),(W.alloc o).heap.size=W.heap.size+1:=by simp
 have M:=(Row.new w 250 [h,C,F]).alloc (.cells #[.int .i64 0,.int .i64 0,.slice none 0 0] 250);have J:=Row.new (w.alloc (.cells #[h,C,F] 250)) 250 [.int .i64 0,.int .i64 0,.slice none 0 0];rw[hs] at J;exact⟨M,J,(Z5E.alloc Z5D _).alloc (by simp) _⟩
structure B2(w0:World)(b0 b1:Nat)(LA:List Value)(w:World):Prop where
 one:Row w b0 250 LA
 res:Row w b1 250 [.int .i64 0,.int .i64 0,.slice none 0 0]
 bel:Below w0.heap.size w0 w
 le:w0.heap.size<=b1
theorem B2.after{w0 w w':World}{b0 b1:Nat}{LA:List Value}(h:B2 w0 b0 b1 LA w)(C:Below w.heap.size w w'):B2 w0 b0 b1 LA w':=⟨h.one.after C,h.res.after C,h.bel.trans (C.mono h.bel.size),h.le⟩
theorem C9(w:World)(h C F:Value):B2 w w.heap.size (w.heap.size+1) [h,C,F] ((w.alloc (.cells #[h,C,F] 250)).alloc (.cells #[.int .i64 0,.int .i64 0,.slice none 0 0] 250)):=by obtain⟨J,M,O⟩:=Z0h w h C F;exact⟨J,M,O,by omega⟩
def Ux(w:World)(n:Nat)(A:Nat->Nat->BitVec 8)(e:Ending)(w':World):Prop:=
 ((¬Inj n A/\∃ev,e=.returned (.tuple #[JH,ev])/\Q9 w.heap.size w' ev 18)∨(Inj n A/\∃g B,BC n A B/\e=.returned (.tuple #[Xi n n g,.nilIface])/\w.heap.size<=g/\ZD w' g 5 (Zd (mat n n B).cells)))/\Below w.heap.size w w'
theorem Vr(n ga oa N cap:Nat)(A:Nat->Nat->BitVec 8)(w:World)(n1:1<=n)(n2:n<=255)(hN:N=n*n)(b9:N<=cap)(al:cap<=9223372036854775807)(ha:Qm w ga oa n n A):Calls prog 161 #[.agg #[.int .i64 n,.int .i64 n,.slice (some ⟨ga,oa,none⟩) N cap]] w λe w'=>Ux w n A e w':=by
 have hm:=Jq n1 n2 n1 n2 hN;have q1:N<=255*255:=by rw[hN];exact Nat.mul_le_mul n2 n2
 obtain⟨m,bg⟩:=Z5I (n+n);obtain⟨C,b8⟩:=Z5I (n*m);have q2:C<=255*510:=by rw[b8];exact Nat.mul_le_mul n2 (by omega)
 have e2:(2:Int)*(n:Int)=(m:Int):=by rw[bg];omega
 have m1:n<m:=by omega
 have m2:m<=510:=by omega
 have cu:m-n=n:=by omega
 have b7:ga<w.heap.size:=QB (ha 0 0 (by omega) (by omega));have S0:=Z5F (C9 w (.int .i64 n) (.int .i64 n) (.slice (some ⟨ga,oa,none⟩) N cap));have HX:=Z5F hm;have HN:=Z5F hN;have HM:=Z5F bg;have ak:=Z5F b8;have cz:=Z5F cu;have HA:=Z5F ha;clear hm hN bg b8 cu ha;go_enter func161,ntmps161;go_wp2_with (first|(go_at_call 223;have h:=S0.out;clear S0;refine(QO n n N _ cap _ (by unfold maxLen;omega)).mono ?_;rintro e w1 ⟨rfl,F⟩;rw[HX.out];have hm:=h.after F;obtain⟨x0,x1,x2⟩:=Zl hm.one;have S1:=Z5F hm;clear h F hm)|(go_at_call 225;have h:=S1.out;clear S1;refine(Ba n m _ (by omega) m2).mono ?_;rintro e w2 ⟨g,rfl,hg,Z,F⟩;unfold Xi;rw[<-ak.out] at Z⊢;have cn:w.heap.size<=g:=Z5w h.bel.size hg;have hm:=h.after F;have hz:=hm.bel.size;have S2:=Z5J hm Z;clear h F hm hg Z));have S3:Hid (C5 w w.heap.size (w.heap.size+1) w2.heap.size g ga oa n n C A [.int .i64 n,.int .i64 n,.slice (some ⟨ga,oa,none⟩) N cap] [.int .i64 n,.int .i64 m,.slice (some ⟨g,0,none⟩) C C] (Dd n m A 0) (w2.alloc (.cells #[.int .i64 n,.int .i64 m,.slice (some ⟨g,0,none⟩) C C] 250))):=by
  obtain⟨hm,Z⟩:=S2.out;have ai:Below w2.heap.size w2 (w2.alloc (.cells #[.int .i64 n,.int .i64 m,.slice (some ⟨g,0,none⟩) C C] 250)):=Z5E.alloc Z5D _;have hk:=hm.after ai;refine Z5F ⟨hk.one,hk.res,Row.new _ _ _,?_,λi j hi hj=> ?_,hk.bel⟩
  .rw[<-UJ];exact Z.fr (Fr.of_below (L:=[]) ai) (by simp)
  .exact(hk.bel.cell (p:=⟨ga,oa+i*n+j,none⟩) b7).trans (HA.out i j hi hj)
 clear S2 HA;go_loopw [27] (λi wr=>∃k:Nat,k<=n/\i=.int .i64 k/\C5 w w.heap.size (w.heap.size+1) w2.heap.size g ga oa n n C A [.int .i64 n,.int .i64 n,.slice (some ⟨ga,oa,none⟩) N cap] [.int .i64 n,.int .i64 m,.slice (some ⟨g,0,none⟩) C C] (Dd n m A k) wr) (λi _=>n- (intOf i).toNat)
 case atStart=>exact⟨0,by omega,rfl,S3.out⟩
 case round=>
  clear S3;obtain⟨k,hk,rfl,hs⟩:=hrel;by_cases aj:k<n
  .obtain⟨x0,x1,x2⟩:=Zl hs.box;obtain⟨u0,u1,u2⟩:=Zl hs.one;have S4:=Z5F hs;clear hs;go_wp2_with fail;go_region_held3 (λw'=>(w'.cell? ⟨w2.heap.size,0,none⟩=some (.int .i64 n)/\w'.cell? ⟨w2.heap.size,1,none⟩=some (.int .i64 m)/\w'.cell? ⟨w2.heap.size,2,none⟩=some (.slice (some ⟨g,0,none⟩) C C))/\(w'.cell? ⟨w.heap.size,0,none⟩=some (.int .i64 n)/\w'.cell? ⟨w.heap.size,1,none⟩=some (.int .i64 n)/\w'.cell? ⟨w.heap.size,2,none⟩=some (.slice (some ⟨ga,oa,none⟩) N cap))) (first|exact⟨by assumption,by assumption⟩|exact⟨⟨x0,x1,x2⟩,u0,u1,u2⟩)
    (first|(go_at_call 226;have h:=S4.out;clear S4;refine(QG n m k g C C _ aj (by omega) (by omega) m2 ak.out Z5D (by omega)).mono ?_;rintro e U ⟨q,J,dy,rfl,F⟩;have hm:=(h.after Z5E.drew).after F;have dh:=Zl hm.box;have dj:=Zl hm.one;have S5:=Z5F hm;have HQ:=Z5F J;clear h F hm J)|(go_at_call 226;have h:=S5.out;clear S5;refine(Gz n n k ga oa N cap _ aj (by omega) (by omega) (by omega) HN.out b9 al).mono ?_;rintro e w7 ⟨rfl,F⟩;have hm:=h.after F;have dm:=Zl hm.box;have dp:=Zl hm.one;have M:=Z5F hm;clear h F hm)|(refine JR (by rfl) (.tmp 32) (.tmp 35) 75 75 (by rfl) 5 underlying75 XR g q m (C-q) ga (oa+k*n) n (cap-k*n) n C (by rfl) (by rfl) 5 (Dd n m A k) (A k) M.out.row (Nat.min_eq_left (by omega)).symm (by omega) (λj hj=>M.out.src k j aj hj) ?_;intro w8 cw bz;have h:=M.out;clear M;have hm:=h.lay cw bz cn b7;have dq:=Zl hm.box;have dt:=Zl hm.one;have S7:=Z5F hm;clear h cw bz hm))
   go_wp2_with (go_at_call 226;have h:=S7.out;clear S7;refine(QG n m k g C C _ aj (by omega) (by omega) m2 ak.out Z5D (by omega)).mono ?_;rintro e w9 ⟨q5,J,ee,rfl,F⟩;have hm:=h.after F;have c0:=G6 (i:=q5+(n+k)) hm.row (by omega);have f0:=G7 (i:=q5+(n+k)) hm.row (by omega);have eo:=Zl hm.box;have O:=Z5F hm;have bu:=Z5F J;clear h F hm J);go_roundw
   case measure=>simp[intOf];omega
   case rel=>refine⟨k+1,by omega,by go_num,?_⟩;have hr:=EK (i:=q5+(n+k)) O.out.row 1#8;rw[HQ.out,bu.out,UI n m A k HM.out aj,Co] at hr;rw[bu.out];exact O.out.lay hr ((Fr.refl _ _).setCell (Or.inl (by simp)) _) cn b7
  .obtain rfl:k=n:=(by omega);have bq:C5 w w.heap.size (w.heap.size+1) w2.heap.size g ga oa k k C A [.int .i64 k,.int .i64 k,.slice (some ⟨ga,oa,none⟩) N cap] [.int .i64 k,.int .i64 m,.slice (some ⟨g,0,none⟩) C C] (tb m (aug k A)) wr:=⟨hs.one,hs.res,hs.box,by have h:=hs.row;rw[ak.out,UH,<-ak.out] at h;exact h,hs.src,hs.bel⟩;obtain⟨x0,x1,x2⟩:=Zl bq.box;have S4:=Z5F bq;clear hs bq;go_wp2_with fail;have h:=S4.out;clear S4;refine(Z0c k m k g C C (aug k A) [] _ n1 n2 (by omega) m2 ak.out Z5D (by omega) (by omega) (by rw[Z5C];exact h.row.row)).mono ?_;rintro e w5 ⟨l,M',j,p,rfl,hr,hf,ae,hj,aq,au⟩;have bh:=h.res.ne h.row.row (by decide);have bj:=h.box.ne h.row.row (by decide);have ag:=h.res.fr hf (by simp only[Z58];exact bh);have ah:=h.box.fr hf (by simp only[Z58];exact bj);have af:=h.bel.trans (hf.below h.bel.size (λi hi=>by simp only[Z58] at hi;omega));have ek:=hr.lt;have hle:=ae.le;have ef:w.heap.size+1<w5.heap.size:=ag.lt;have az:∀x,Ker k (k+k) M' x↔Ker k (k+k) (aug k A) x:=by rw[<-HM.out];exact au
   clear hf h au;by_cases bf:l<k
   .have ct:j=k:=(by omega);have hS:¬Inj k A:=by rw[ct] at ae;exact Mw ae bf az
    have HS:=Z5F hS;have S5:=Z5J ag af;have eh:=af.size;clear ag ah af hr ae aq az hS ct;go_wp2_with (go_at_call 224;have h:=S5.out;clear S5;refine(Yc 18 (by decide) _).mono ?_;rintro e U ⟨ev,rfl,he,F⟩;have hm:=h.1.after F;obtain⟨z0,z1,z2⟩:=Zl hm;obtain⟨f0,f1,f2⟩:=Xk hm;have M:=Z5K hm he (h.2.trans (F.mono h.2.size));clear h F hm he);have hy:=Qt (a:=.int .i64 0) (b:=.int .i64 0) (c:=.slice none 0 0) M.out.1;obtain⟨y0,y1,y2⟩:=Zl hy;exact bodyPost_ret (v:=.tuple #[.agg #[.int .i64 0,.int .i64 0,.slice none 0 0],ev]) (by simp[results,Tryz.results161,go_sem,y0,y1,y2]) rfl ⟨Or.inl ⟨HS.out,ev,rfl,(WP M.out.2.1 ef).mono (by omega)⟩,Qb M.out.2.2 (by omega)⟩
   .have hl:l=k:=(by omega);subst hl;have hI:=Nn ae (by omega) az;obtain⟨B,hB⟩:∃B,B=λi c=>M' i (l+c):=⟨_,rfl⟩;rw[<-hB] at hI;have HI:=Z5F hI;have HB:=Z5F hB;obtain⟨x0,x1,x2⟩:=Zl ah;have S5:=Z5L ag ah hr af;have eh:=af.size;clear ag ah af hr ae aq az hI hB hj;go_wp2_with (go_at_call 225;have h:=S5.out;clear S5;refine(Ba l l _ (by omega) (by omega)).mono ?_;rintro e U ⟨g2,rfl,df,Z,F⟩;unfold Xi;rw[<-HN.out] at Z⊢;have cr:w.heap.size<=g2:=(by omega);have du:g≠g2:=(by omega);have eu:=F.size;have M:=Z5M (h.1.after F) (h.2.1.after F) (h.2.2.1.after F) Z (h.2.2.2.trans (F.mono (by omega)));clear h F df Z);have S7:Hid (Ff w (w.heap.size+1) w2.heap.size U.heap.size g g2 C N [.int .i64 l,.int .i64 m,.slice (some ⟨g,0,none⟩) C C] [.int .i64 l,.int .i64 l,.slice (some ⟨g2,0,none⟩) N N] (tb m M') (upF l B (0*l)) (U.alloc (.cells #[.int .i64 l,.int .i64 l,.slice (some ⟨g2,0,none⟩) N N] 250))):=by obtain⟨k1,k2,k3,k4,k5⟩:=M.out;have ai:Below U.heap.size U (U.alloc (.cells #[.int .i64 l,.int .i64 l,.slice (some ⟨g2,0,none⟩) N N] 250)):=Z5E.alloc Z5D _;refine Z5F ⟨k1.after ai,k2.after ai,Row.new _ _ _,k3.after ai,?_,k5.trans (ai.mono k5.size)⟩;rw[Nat.zero_mul,<-Iu];exact k4.fr (Fr.of_below (L:=[]) ai) (by simp)
    clear M;go_loopw [56] (λi wr=>∃k:Nat,k<=l/\i=.int .i64 k/\Ff w (w.heap.size+1) w2.heap.size U.heap.size g g2 C N [.int .i64 l,.int .i64 m,.slice (some ⟨g,0,none⟩) C C] [.int .i64 l,.int .i64 l,.slice (some ⟨g2,0,none⟩) N N] (tb m M') (upF l B (k*l)) wr) (λi _=>l- (intOf i).toNat)
    case atStart=>exact⟨0,by omega,rfl,S7.out⟩
    case round=>
     clear S7;obtain⟨k,hk,rfl,hs⟩:=hrel;by_cases aj:k<l
     .obtain⟨x0,x1,x2⟩:=Zl hs.box;obtain⟨u0,u1,u2⟩:=Zl hs.boy;have O:=Z5F hs;clear hs;go_wp2_with fail;have ew:(0:Int)<=(l:Int):=(by omega);have ey:(l:Int)<=(m:Int):=(by omega);have ez:l<=m:=(by omega);go_region_held3 (λw'=>(w'.cell? ⟨w2.heap.size,0,none⟩=some (.int .i64 l)/\w'.cell? ⟨w2.heap.size,1,none⟩=some (.int .i64 m)/\w'.cell? ⟨w2.heap.size,2,none⟩=some (.slice (some ⟨g,0,none⟩) C C))/\(w'.cell? ⟨U.heap.size,0,none⟩=some (.int .i64 l)/\w'.cell? ⟨U.heap.size,1,none⟩=some (.int .i64 l)/\w'.cell? ⟨U.heap.size,2,none⟩=some (.slice (some ⟨g2,0,none⟩) N N))) (first|exact⟨by assumption,by assumption⟩|exact⟨⟨x0,x1,x2⟩,u0,u1,u2⟩)
       (first|(go_at_call 226;have h:=O.out;clear O;refine(QG l l k g2 N N _ aj (by omega) (by omega) (by omega) HN.out Z5D (by omega)).mono ?_;rintro e w7 ⟨q,J,dy,rfl,F⟩;have hm:=(h.after Z5E.drew).after F;have dh:=Zl hm.box;have dj:=Zl hm.boy;have S9:=Z5F hm;have HQ:=Z5F J;clear h F hm J)|(go_at_call 226;have h:=S9.out;clear S9;refine(QG l m k g C C _ aj (by omega) (by omega) m2 ak.out Z5D (by omega)).mono ?_;rintro e w8 ⟨q3,J,dz,rfl,F⟩;have hm:=h.after F;have dm:=Zl hm.box;have dp:=Zl hm.boy;have er:l<C-q3:=(by omega);have dw:m<=C-q3:=(by omega);have dx:¬C-q3=l:=(by omega);have aw:=Z5F hm;have dc:=Z5F J;clear h F hm J)|(refine JR (by rfl) (.tmp 61) (.tmp 66) 75 75 (by rfl) 5 underlying75 XR g2 q l (N-q) g (q3+l) (m-l) (C-q3-l) l N (by rfl) (by rfl) 5 (upF l B (k*l)) (B k) aw.out.row (by rw[cz.out];exact(Nat.min_self l).symm) (by omega) (λi hi=>by rw[Nat.add_assoc,Wr (i:=q3+(l+i)) aw.out.src (by omega),dc.out,JA _ _ _ (by omega),HB.out]) ?_;intro w9 bm cj;rw[HQ.out,Sb l B k n1] at bm;have h:=aw.out;clear aw;have hm:=h.lay bm cj cr du;have dq:=Zl hm.box;have dt:=Zl hm.boy;have de:=Z5F hm;clear h bm cj hm))
      go_wp2;go_roundw
      case measure=>simp[intOf];omega
      case rel=>exact⟨k+1,by omega,by go_num,de.out⟩
     .obtain rfl:k=l:=(by omega);obtain⟨x0,x1,x2⟩:=Zl hs.boy;obtain⟨t0,t1,t2⟩:=Zl hs.res;obtain⟨f0,f1,f2⟩:=Xk hs.res;have O:=Z5F hs;clear hs;go_wp2;have hy:=Qt (a:=.int .i64 k) (b:=.int .i64 k) (c:=.slice (some ⟨g2,0,none⟩) N N) O.out.res;obtain⟨y0,y1,y2⟩:=Zl hy
      exact bodyPost_ret (v:=.tuple #[.agg #[.int .i64 k,.int .i64 k,.slice (some ⟨g2,0,none⟩) N N],.nilIface]) (by simp[results,Tryz.results161,go_sem,y0,y1,y2]) rfl ⟨Or.inr ⟨HI.out.1,g2,B,HI.out.2,by unfold Xi;rw[<-HN.out],cr,by
       have h:=O.out.row;rw[HN.out,It] at h
       exact h.fr ((((Fr.refl [w.heap.size+1] _).setCell (Or.inl (by simp)) _).setCell (Or.inl (by simp)) _).setCell (Or.inl (by simp)) _) (by simp only[Z58];exact λe=>O.out.res.ne O.out.row.row (by decide) e.symm)⟩,Qb O.out.bel (by omega)⟩
theorem Z56(r c:Int)(n cap C U:Nat)(a la:Option Addr)(w:World)(hl:n<=maxLen)(ae:C<=maxLen)(h:Y2 r c n=false∨C<1∨255<C):Calls prog 160 #[.agg #[.int .i64 r,.int .i64 c,.slice a n cap],.slice la C U] w λe w'=>∃ev,e=.returned (.tuple #[JH,ev])/\Q9 w.heap.size w' ev 1/\Below w.heap.size w w':=by
 have O:=Z5F (C9 w (.int .i64 r) (.int .i64 c) (.slice a n cap));have hx:Y2 r c n=false∨(Y2 r c n=true/\(C:Int)<1)∨(Y2 r c n=true/\¬ (C:Int)<1/\255<(C:Int)):=by grind
 rcases hx with hx|⟨hx,Z⟩|⟨hx,Z,af⟩
 all_goals
  have HX:=Z5F hx;go_enter func160,ntmps160;go_wp2_with (first|(go_at_call 223;have F:=O.out;clear O;refine(QO r c n a cap _ hl).mono ?_;rintro e w1 ⟨rfl,M⟩;rw[HX.out];have S1:=Z5F (F.after M);clear F M)|(go_at_call 224;have F:=S1.out;clear S1;refine(Yc 1 (by omega) _).mono ?_;rintro e w2 ⟨ev,rfl,he,M⟩;have hm:=F.after M;obtain⟨z0,z1,z2⟩:=Zl hm.res;obtain⟨f0,f1,f2⟩:=Xk hm.res;have J:=Z5K hm he F.res.lt;clear F M hm he));have hy:=Qt (a:=.int .i64 0) (b:=.int .i64 0) (c:=.slice none 0 0) J.out.1.res;obtain⟨y0,y1,y2⟩:=Zl hy;exact bodyPost_ret (v:=.tuple #[.agg #[.int .i64 0,.int .i64 0,.slice none 0 0],ev]) (by simp[results,go_sem,y0,y1,y2]) rfl ⟨ev,rfl,(WP J.out.2.1 J.out.2.2).mono (by have:=J.out.2.2;omega),Qb J.out.1.bel (by omega)⟩
def RD(w:World)(r c:Nat)(A:Nat->Nat->BitVec 8)(L:List Int)(e:Ending)(w':World):Prop:=
 (((∃i,i<L.length/\¬ (0<=L.getD i 0/\L.getD i 0<r))/\∃ev,e=.returned (.tuple #[JH,ev])/\Q9 w.heap.size w' ev 1)∨((∀i,i<L.length->0<=L.getD i 0/\L.getD i 0<r)/\∃g,e=.returned (.tuple #[Xi L.length c g,.nilIface])/\w.heap.size<=g/\ZD w' g 5 (Zd (mat L.length c (λi j=>A (L.getD i 0).toNat j)).cells)))/\Below w.heap.size w w'
theorem Z3B(r c ga oa n cap lg lo b7:Nat)(A:Nat->Nat->BitVec 8)(L:List Int)(w:World)(r1:1<=r)(r2:r<=255)(c1:1<=c)(c2:c<=255)(hn:n=r*c)(au:n<=cap)(ah:cap<=9223372036854775807)(l1:1<=L.length)(l2:L.length<=255)(ha:Qm w ga oa r c A)(hL:∀j,j<L.length->w.cell? ⟨lg,lo+j,none⟩=some (.int .i64 (L.getD j 0))):Calls prog 160 #[.agg #[.int .i64 r,.int .i64 c,.slice (some ⟨ga,oa,none⟩) n cap],.slice (some ⟨lg,lo,none⟩) L.length b7] w λe w'=>RD w r c A L e w':=by
 have hm:=Jq r1 r2 c1 c2 hn;have q1:n<=255*255:=by rw[hn];exact Nat.mul_le_mul r2 c2
 obtain⟨K,hK⟩:=Z5I L.length;have ak:lg<w.heap.size:=QB (hL 0 (by omega));have b8:ga<w.heap.size:=QB (ha 0 0 (by omega) (by omega));rw[<-hK] at l1 l2 hL⊢;have i1:(1:Int)<=K:=by omega
 have i2:(K:Int)<=255:=by omega
 have i3:¬ (K:Int)<1:=by omega
 obtain⟨F,al⟩:=Z5I (K*c);have q2:F<=255*255:=by rw[al];exact Nat.mul_le_mul l2 c2
 have S0:=Z5F (C9 w (.int .i64 r) (.int .i64 c) (.slice (some ⟨ga,oa,none⟩) n cap));have HX:=Z5F hm;have HN:=Z5F hn;have HK:=Z5F hK;have ai:=Z5F al;have HA:=Z5F ha;have HL:=Z5F hL;obtain⟨P,hP⟩:∃P:Nat->Nat->BitVec 8,P=λi j=>A (L.getD i 0).toNat j:=⟨_,rfl⟩;have HP:=Z5F hP;clear hm hn hK al ha hL hP;go_enter func160,ntmps160;go_wp2_with (first|(go_at_call 223;have C:=S0.out;clear S0;refine(QO r c n _ cap _ (by unfold maxLen;omega)).mono ?_;rintro e w1 ⟨rfl,J⟩;rw[HX.out];have hm:=C.after J;obtain⟨x0,x1,x2⟩:=Zl hm.one;have S1:=Z5F hm;clear C J hm)|(go_at_call 225;have C:=S1.out;clear S1;refine(Ba K c _ (by omega) (by omega)).mono ?_;rintro e w2 ⟨g,rfl,hg,Z,J⟩;unfold Xi;rw[<-ai.out] at Z⊢;have bg:w.heap.size<=g:=Z5w C.bel.size hg;have hm:=C.after J;have hz:=hm.bel.size;have S2:=Z5J hm Z;clear C J hm hg Z));have S3:Hid (C5 w w.heap.size (w.heap.size+1) w2.heap.size g ga oa r c F A [.int .i64 r,.int .i64 c,.slice (some ⟨ga,oa,none⟩) n cap] [.int .i64 K,.int .i64 c,.slice (some ⟨g,0,none⟩) F F] (upF c P (0*c)) (w2.alloc (.cells #[.int .i64 K,.int .i64 c,.slice (some ⟨g,0,none⟩) F F] 250))):=by
  obtain⟨hm,Z⟩:=S2.out;have b9:Below w2.heap.size w2 (w2.alloc (.cells #[.int .i64 K,.int .i64 c,.slice (some ⟨g,0,none⟩) F F] 250)):=Z5E.alloc Z5D _;have hk:=hm.after b9;refine Z5F ⟨hk.one,hk.res,Row.new _ _ _,?_,λi j hi hj=> ?_,hk.bel⟩
  .rw[Nat.zero_mul,<-Iu];exact Z.fr (Fr.of_below (L:=[]) b9) (by simp)
  .exact(hk.bel.cell (p:=⟨ga,oa+i*c+j,none⟩) b8).trans (HA.out i j hi hj)
 clear S2 HA;go_loopw [31] (λi wr=>∃k:Nat,k<=K/\i=.int .i64 k/\(∀i,i<k->0<=L.getD i 0/\L.getD i 0<r)/\C5 w w.heap.size (w.heap.size+1) w2.heap.size g ga oa r c F A [.int .i64 r,.int .i64 c,.slice (some ⟨ga,oa,none⟩) n cap] [.int .i64 K,.int .i64 c,.slice (some ⟨g,0,none⟩) F F] (upF c P (k*c)) wr) (λi _=>K- (intOf i).toNat)
 case atStart=>exact⟨0,by omega,rfl,λi h=>by omega,S3.out⟩
 case round=>
  clear S3;obtain⟨k,hk,rfl,ag,hs⟩:=hrel;have af:=Z5F ag;clear ag;by_cases aw:k<K
  .have cl:World.cell? wr ⟨lg,lo+k,none⟩=some (.int .i64 (L.getD k 0)):=(hs.bel.cell (p:=⟨lg,lo+k,none⟩) ak).trans (HL.out k aw);obtain⟨x,hx⟩:=Z5I (L.getD k 0);rw[<-hx] at cl;obtain⟨u0,u1,u2⟩:=Zl hs.one;by_cases ae:0<=x/\x<r
   .obtain⟨y,rfl⟩:∃y:Nat,x=(y:Int):=⟨x.toNat,by omega⟩;have U:y<r:=(by omega);obtain⟨x0,x1,x2⟩:=Zl hs.box;have aj:=Z5F hx;have M:=Z5F hs;clear hs hx ae;go_wp2_with fail;go_region_held3 (λw'=>(w'.cell? ⟨w2.heap.size,0,none⟩=some (.int .i64 K)/\w'.cell? ⟨w2.heap.size,1,none⟩=some (.int .i64 c)/\w'.cell? ⟨w2.heap.size,2,none⟩=some (.slice (some ⟨g,0,none⟩) F F))/\(w'.cell? ⟨w.heap.size,0,none⟩=some (.int .i64 r)/\w'.cell? ⟨w.heap.size,1,none⟩=some (.int .i64 c)/\w'.cell? ⟨w.heap.size,2,none⟩=some (.slice (some ⟨ga,oa,none⟩) n cap))) (first|exact⟨by assumption,by assumption⟩|exact⟨⟨x0,x1,x2⟩,u0,u1,u2⟩)
     (first|(go_at_call 226;have C:=M.out;clear M;refine(QG K c k g F F _ aw (by omega) (by omega) (by omega) ai.out Z5D (by omega)).mono ?_;rintro e w6 ⟨q,bh,cn,rfl,J⟩;have hm:=(C.after Z5E.drew).after J;have bj:=Zl hm.box;have bm:=Zl hm.one;have O:=Z5F hm;have HQ:=Z5F bh;clear C J hm bh)|(go_at_call 226;have C:=O.out;clear O;refine(Gz r c y ga oa n cap _ U (by omega) (by omega) (by omega) HN.out au ah).mono ?_;rintro e w7 ⟨rfl,J⟩;have hm:=C.after J;have bq:=Zl hm.box;have bu:=Zl hm.one;have S6:=Z5F hm;clear C J hm)|(refine JR (by rfl) (.tmp 48) (.tmp 51) 75 75 (by rfl) 5 underlying75 XR g q c (F-q) ga (oa+y*c) c (cap-y*c) c F (by rfl) (by rfl) 5 (upF c P (k*c)) (P k) S6.out.row (Nat.min_self c).symm (by omega) (λj hj=>by rw[S6.out.src y j U hj,HP.out];simp only[<-aj.out,Int.toNat_natCast]) ?_;intro w8 az bf;rw[HQ.out,Sb c P k c1] at az;have C:=S6.out;clear S6;have hm:=C.lay az bf bg b8;have bz:=Zl hm.box;have cj:=Zl hm.one;have S7:=Z5F hm;clear C az bf hm))
    go_wp2;go_roundw
    case measure=>simp[intOf];omega
    case rel=>
     refine⟨k+1,by omega,by go_num,λi hi=> ?_,S7.out⟩;by_cases e:i=k
     .rw[e,<-aj.out];omega
     .exact af.out i (by omega)
   .have aq:x<0∨(¬x<0/\(r:Int)<=x):=(by omega);have aj:=Z5F hx;have HG:=Z5F ae;have M:=Z5F hs;clear hs hx ae;rcases aq with h5|⟨h5,h6⟩
    all_goals
     go_wp2_with (go_at_call 224;have C:=M.out;clear M;refine(Yc 1 (by omega) _).mono ?_;rintro e w6 ⟨ev,rfl,he,J⟩;have hm:=C.after J;obtain⟨z0,z1,z2⟩:=Zl hm.res;obtain⟨f0,f1,f2⟩:=Xk hm.res;have O:=Z5K hm he C.res.lt;clear C J hm he);have U:=Qt (a:=.int .i64 0) (b:=.int .i64 0) (c:=.slice none 0 0) O.out.1.res;obtain⟨y0,y1,y2⟩:=Zl U;exact bodyPost_ret (v:=.tuple #[.agg #[.int .i64 0,.int .i64 0,.slice none 0 0],ev]) (by simp[results,Tryz.results160,go_sem,y0,y1,y2]) rfl ⟨Or.inl ⟨⟨k,by rw[<-HK.out];exact aw,by rw[<-aj.out];exact HG.out⟩,ev,rfl,(WP O.out.2.1 O.out.2.2).mono (by have:=O.out.2.2;omega)⟩,Qb O.out.1.bel (by omega)⟩
  .obtain rfl:k=K:=(by omega);obtain⟨x0,x1,x2⟩:=Zl hs.box;obtain⟨t0,t1,t2⟩:=Zl hs.res;obtain⟨f0,f1,f2⟩:=Xk hs.res;have M:=Z5F hs;clear hs;go_wp2;have U:=Qt (a:=.int .i64 k) (b:=.int .i64 c) (c:=.slice (some ⟨g,0,none⟩) F F) M.out.res;obtain⟨y0,y1,y2⟩:=Zl U
   exact bodyPost_ret (v:=.tuple #[.agg #[.int .i64 k,.int .i64 c,.slice (some ⟨g,0,none⟩) F F],.nilIface]) (by simp[results,Tryz.results160,go_sem,y0,y1,y2]) rfl ⟨Or.inr ⟨by rw[<-HK.out];exact af.out,g,by unfold Xi;rw[<-HK.out,<-ai.out],bg,by
    have C:=M.out.row;rw[ai.out,It,HP.out,HK.out] at C
    exact C.fr ((((Fr.refl [w.heap.size+1] wr).setCell (Or.inl (by simp)) _).setCell (Or.inl (by simp)) _).setCell (Or.inl (by simp)) _) (by simp only[Z58];exact λe=>M.out.res.ne M.out.row.row (by simp) e.symm)⟩,Qb M.out.bel (by omega)⟩
def Li(r:Nat)(A B:Nat->Nat->BitVec 8)(i j:Nat):BitVec 8:=if i<r then A i j else B (i-r) j
theorem Z2q(r s c:Nat)(A B:Nat->Nat->BitVec 8)(hc:1<=c):tab ((r+s)*c) (Xh (Xh (λ_=>0#8) 0 (r*c) (tb c A)) (r*c) (s*c) (tb c B))=(mat (r+s) c (Li r A B)).cells:=by
 refine Wf λj F=> ?_;rw[Nat.add_mul] at F;unfold Xh tb Li;by_cases h:j<r*c
 .rw[if_neg (by omega),if_pos ⟨by omega,by omega⟩,Nat.sub_zero,if_pos (Cs h)]
 .rw[if_pos ⟨by omega,by omega⟩];obtain⟨m,rfl⟩:∃m,j=r*c+m:=⟨j-r*c,by omega⟩;have C:0<c:=by omega
  have e1:(r*c+m) / c=r+m / c:=by rw[Nat.mul_comm,Nat.mul_add_div C]
  have e2:(r*c+m)%c=m%c:=by simp
  grind
structure Sg(w0:World)(b0 b1 b2 bx g N:Nat)(LA LB LX:List Value)(f:Nat->BitVec 8)(w:World):Prop where
 m3:M3 w0 b0 b1 b2 LA LB w
 box:Row w bx 250 LX
 row:ZD w g 5 (Zd (tab N f))
theorem Sg.lay{w0 w w':World}{b0 b1 b2 bx g N:Nat}{LA LB LX:List Value}{f f':Nat->BitVec 8}(h:Sg w0 b0 b1 b2 bx g N LA LB LX f w)(U:ZD w' g 5 (Zd (tab N f')))(C:Fr [g] w w')(Z:w0.heap.size<=g):Sg w0 b0 b1 b2 bx g N LA LB LX f' w':=by
 have F:b0∉[g]:=by simp;exact h.m3.one.ne h.row.row (by simp)
 have J:b1∉[g]:=by simp;exact h.m3.two.ne h.row.row (by simp)
 have M:b2∉[g]:=by simp;exact h.m3.res.ne h.row.row (by simp)
 have O:bx∉[g]:=by simp;exact h.box.ne h.row.row (by simp)
 exact⟨⟨h.m3.one.fr C F,h.m3.two.fr C J,h.m3.res.fr C M,h.m3.bel.trans (C.below h.m3.bel.size (λi hi=>by simp at hi;omega)),h.m3.le⟩,h.box.fr C O,U⟩
theorem Z2r(r s c ga oa gb ob F bn M O:Nat)(A B:Nat->Nat->BitVec 8)(w:World)(a1:1<=r)(c1:1<=c)(c2:c<=255)(b1:1<=s)(bq:r+s<=255)(Z:F=r*c)(U:bn=s*c)(ha:Qm w ga oa r c A)(J:Qm w gb ob s c B):Calls prog 222 #[.agg #[.int .i64 r,.int .i64 c,.slice (some ⟨ga,oa,none⟩) F M],.agg #[.int .i64 s,.int .i64 c,.slice (some ⟨gb,ob,none⟩) bn O]] w λe w'=>∃g,e=.returned (.tuple #[Xi (r+s) c g,.nilIface])/\w.heap.size<=g/\ZD w' g 5 (Zd (mat (r+s) c (Li r A B)).cells)/\Below w.heap.size w w':=by
 have q1:F<=255*255:=by rw[Z];exact Nat.mul_le_mul (by omega) c2
 have q2:bn<=255*255:=by rw[U];exact Nat.mul_le_mul (by omega) c2
 have q3:0<bn:=by rw[U];exact Nat.mul_pos (by omega) (by omega)
 obtain⟨R,hR⟩:=Z5I (r+s);obtain⟨h,ag⟩:=Z5I (R*c);have af:h=F+bn:=by rw[ag,hR,Nat.add_mul,<-Z,<-U]
 have bf:ga<w.heap.size:=QB (ha 0 0 (by omega) (by omega));have bg:gb<w.heap.size:=QB (J 0 0 (by omega) (by omega));have S0:=Z5F (Ih w (.int .i64 r) (.int .i64 c) (.slice (some ⟨ga,oa,none⟩) F M) (.int .i64 s) (.int .i64 c) (.slice (some ⟨gb,ob,none⟩) bn O));have HX:=Z5F (Jq a1 (by omega) c1 c2 Z);have b9:=Z5F (Jq b1 (by omega) c1 c2 U);have i0:(r:Int)+(s:Int)<=255:=by omega
 have e0:(r:Int)+(s:Int)=(R:Int):=by rw[hR];omega
 have i1:(R:Int)<=255:=by omega
 unfold Xi;rw[<-hR];rw[<-ag];have au:h-F=bn:=by omega
 have HD:=Z5F au;have j1:F<h:=by omega
 have j3:F<=h:=by omega
 have j4:¬h=F:=by omega
 have j2:h<=255*255+255*255:=by omega
 have HR:=Z5F hR;have aq:=Z5F ag;have ah:=Z5F af;have ak:=Z5F Z;have al:=Z5F U;have HA:=Z5F ha;have HB:=Z5F J;clear hR ag af Z U ha J au;go_enter func222,ntmps222;go_wp2_with (first|(go_at_call 223;have C:=S0.out;clear S0;refine(QO _ _ F _ M _ (by unfold maxLen;omega)).mono ?_;rintro e w1 ⟨rfl,J⟩;rw[HX.out];have hm:=C.after J;obtain⟨x0,x1,x2⟩:=Zl hm.two;have S1:=Z5F hm;clear C J hm)|(go_at_call 223;have C:=S1.out;clear S1;refine(QO _ _ bn _ O _ (by unfold maxLen;omega)).mono ?_;rintro e w1 ⟨rfl,J⟩;rw[b9.out];have hm:=C.after J;obtain⟨u0,u1,u2⟩:=Zl hm.one;obtain⟨t0,t1,t2⟩:=Zl hm.two;have S2:=Z5F hm;clear C J hm)|(go_at_call 225;have C:=S2.out;clear S2;refine(Ba R c _ (by omega) (by omega)).mono ?_;rintro e w3 ⟨g,rfl,hg,ae,J⟩;unfold Xi;rw[<-aq.out] at ae⊢;have aj:w.heap.size<=g:=Z5w C.bel.size hg;have ai:Below w3.heap.size w3 (w3.alloc (.cells #[.int .i64 R,.int .i64 c,.slice (some ⟨g,0,none⟩) h h] 250)):=Z5E.alloc Z5D _;have hm:=(C.after J).after ai;obtain⟨v0,v1,v2⟩:=Zl hm.one;have S3:Hid (Sg w w.heap.size (w.heap.size+1) (w.heap.size+1+1) w3.heap.size g h [.int .i64 r,.int .i64 c,.slice (some ⟨ga,oa,none⟩) F M] [.int .i64 s,.int .i64 c,.slice (some ⟨gb,ob,none⟩) bn O] [.int .i64 R,.int .i64 c,.slice (some ⟨g,0,none⟩) h h] (λ_=>0#8) _):=Z5F ⟨hm,Row.new w3 _ [.int .i64 R,.int .i64 c,.slice (some ⟨g,0,none⟩) h h],ae.fr (Fr.of_below (L:=[]) ai) (by simp)⟩;clear C J hm hg ae ai)|(have C:=S3.out;clear S3;refine KA rfl (.tmp 41) (.tmp 43) 75 75 rfl 5 underlying75 XR g 0 h h ga oa F M F h rfl rfl 5 (λ_=>0#8) (tb c A) C.row (Nat.min_eq_left (by omega)).symm (by omega) (λj hj=>(C.m3.bel.cell (p:=⟨ga,oa+j,none⟩) bf).trans (HA.out.flat c1 j (by rw[<-ak.out];exact hj))) ?_;intro w4 b7 aw;have hm:=C.lay b7 aw aj;obtain⟨p0,p1,p2⟩:=Zl hm.box;obtain⟨n0,n1,n2⟩:=Zl hm.m3.one;obtain⟨o0,o1,o2⟩:=Zl hm.m3.two;have S4:=Z5F hm;clear C b7 aw hm));go_region_held3 (λw'=>w'.cell? ⟨w3.heap.size,2,none⟩=some (.slice (some ⟨g,0,none⟩) h h)/\w'.cell? ⟨w.heap.size,2,none⟩=some (.slice (some ⟨ga,oa,none⟩) F M)/\w'.cell? ⟨w.heap.size+1,2,none⟩=some (.slice (some ⟨gb,ob,none⟩) bn O)) (first|exact⟨p2,n2,o2⟩|exact⟨bh.2.2,bj.2.2,bm.2.2⟩)
  (first|(refine JR (by rfl) (.tmp 50) (.tmp 52) 75 75 (by rfl) 5 underlying75 XR g F (h-F) (h-F) gb ob bn O bn h (by rfl) (by rfl) 5 (Xh (λ_=>0#8) 0 F (tb c A)) (tb c B) (S4.out.row.fr ((Fr.refl [] _).drew) (by simp)) (by rw[HD.out];exact(Nat.min_self bn).symm) (by have:=ah.out;omega) (λj hj=>(S4.out.m3.bel.cell (p:=⟨gb,ob+j,none⟩) bg).trans (HB.out.flat c1 j (by rw[<-al.out];exact hj))) ?_;intro w5 b8 az;have C:=S4.out;clear S4;have hm:=C.lay b8 (((Fr.refl [g] w4).drew).trans az (λi hi _=>hi)) aj;have bh:=Zl hm.box;have bj:=Zl hm.m3.one;have bm:=Zl hm.m3.two;obtain⟨e3,e4,e5⟩:=Zl hm.m3.res;obtain⟨f0,f1,f2⟩:=Xk hm.m3.res;have S5:=Z5F hm;clear C b8 az hm))
 go_wp2;have hy:=Qt (a:=.int .i64 R) (b:=.int .i64 c) (c:=.slice (some ⟨g,0,none⟩) h h) S5.out.m3.res;obtain⟨y0,y1,y2⟩:=Zl hy
 exact bodyPost_ret (v:=.tuple #[.agg #[.int .i64 R,.int .i64 c,.slice (some ⟨g,0,none⟩) h h],.nilIface]) (by simp[results,Tryz.results222,go_sem,y0,y1,y2]) rfl ⟨g,rfl,aj,by
  have C:=S5.out.row;rw[aq.out,HR.out,ak.out,al.out,Z2q r s c A B c1,<-HR.out] at C
  exact C.fr ((((Fr.refl [w.heap.size+1+1] w5).setCell (Or.inl (by simp)) _).setCell (Or.inl (by simp)) _).setCell (Or.inl (by simp)) _) (by simp only[Z58];exact λe=>S5.out.m3.res.ne S5.out.row.row (by decide) e.symm),Qb S5.out.m3.bel (by omega)⟩
section
variable{v:Value}{w:World}{xs:List Value}
def YT(x:Nat->BitVec 8)(cols:List ByteArray)(len:Nat):Nat->List UInt8
 |0=>List.replicate len 0
 |k+1=>scl (x k) (YT x cols len k) (cols.getD k ⟨#[]⟩).data.toList
def Yy(x:Nat->BitVec 8)(cols:List ByteArray)(len k:Nat):ByteArray:=⟨(YT x cols len k).toArray⟩
theorem DG(x:Nat->BitVec 8)(cols:List ByteArray)(len:Nat)(h:∀i,i<cols.length->(cols.getD i ⟨#[]⟩).size=len)(k:Nat)(J:k<=cols.length):(YT x cols len k).length=len:=by
 induction k with
 |zero=>simp[YT]
 |succ k ih=>have C:=ih (by omega);have F:=h k (by omega);rw[YT,Ez _ _ _ (by simp_all),C]
theorem Bh(x:Nat->BitVec 8)(cols:List ByteArray)(len:Nat)(h:∀i,i<cols.length->(cols.getD i ⟨#[]⟩).size=len)(k:Nat)(C:k<=cols.length):(Yy x cols len k).size=len:=by show(YT x cols len k).toArray.size=len;rw[List.size_toArray,DG x cols len h k C]
def WI(A:Nat->Nat->BitVec 8)(cols:List ByteArray)(len c r:Nat):List Value:=(List.range r).map λi=>.string (Yy (A i) cols len c)
theorem Mm(A:Nat->Nat->BitVec 8)(cols:List ByteArray)(len c k:Nat):WI A cols len c (k+1)=WI A cols len c k++[.string (Yy (A k) cols len c)]:=by unfold WI;rw[List.range_succ,Z5u];rfl
theorem XK:(prog.info? 9).map (λi=>(i.zero,i.size,i.bytes))=some (some (.string ⟨#[]⟩),1,16):=by kernel_rfl
theorem Jj{base:Nat}{e:TypeId}{n:Nat}{s:Nat}(h:w.ownsRow base e s v n xs){g:Nat}(C:v.ownBlock=some g):base<=g:=by
 rcases h.2 with ⟨hv,_⟩|⟨F,cap,cur,hv,J,_⟩
 .rw[hv] at C;cases C
 .rw[hv] at C;simp[Value.ownBlock] at C;omega
theorem O2{wr h:World}{i:Nat}{o:Obj}{b:Nat}{T:TypeId}{L:List Value}(F:wr.ownsRow w.heap.size 9 1 v i xs)(J:Row wr b T L)(M:Below w.heap.size w wr)(O:(wr.alloc o).grownBy h v.ownBlock)(U:T≠9):Row h b T L/\Below w.heap.size w h:=by
 have Z:Fr [] wr (wr.alloc o):=(Fr.refl _ _).alloc _;have C:Fr (match v.ownBlock with|some g=>[g]|none=>[]) wr h:=(Z.mono (λi hi _=>by simp at hi)).grown O (λg O=>Or.inl (by simp_all));refine⟨J.fr C (λhm=> ?_),M.trans (C.below M.size (λg hm=> ?_))⟩
 .cases hv:v.ownBlock with
  |none=>rw[hv] at hm;simp at hm
  |some g=>exact Row.ne_own J F U (by simp_all)
 .cases hv:v.ownBlock with
  |none=>rw[hv] at hm;simp at hm
  |some g'=>rw[hv] at hm;simp at hm;rw[hm];exact Jj F hv
def Z4g(w:World)(r c:Nat)(A:Nat->Nat->BitVec 8)(cols:List ByteArray)(e:Ending)(w':World):Prop:=
 (((∃i,i<cols.length/\(cols.getD i ⟨#[]⟩).size≠(cols.getD 0 ⟨#[]⟩).size)/\∃ev,e=.returned (.tuple #[.slice none 0 0,ev])/\Q9 w.heap.size w' ev 19)∨((∀i,i<cols.length->(cols.getD i ⟨#[]⟩).size=(cols.getD 0 ⟨#[]⟩).size)/\∃v,e=.returned (.tuple #[v,.nilIface])/\w'.ownsRow w.heap.size 9 1 v r (WI A cols (cols.getD 0 ⟨#[]⟩).size c r)))/\Below w.heap.size w w'
theorem DT(r c ga oa n cap lg lo ct:Nat)(A:Nat->Nat->BitVec 8)(cols:List ByteArray)(w:World)(r1:1<=r)(r2:r<=255)(c1:1<=c)(c2:c<=255)(hn:n=r*c)(bu:n<=cap)(b7:cap<=9223372036854775807)(hlen:cols.length=c)(cn:∀i,i<cols.length->(cols.getD i ⟨#[]⟩).size<=100000)(ha:Qm w ga oa r c A)(hL:∀j,j<cols.length->w.cell? ⟨lg,lo+j,none⟩=some (.string (cols.getD j ⟨#[]⟩))):Calls prog 162 #[.agg #[.int .i64 r,.int .i64 c,.slice (some ⟨ga,oa,none⟩) n cap],.slice (some ⟨lg,lo,none⟩) c ct] w λe w'=>Z4g w r c A cols e w':=by
 have hm:=Jq r1 r2 c1 c2 hn;have q1:n<=255*255:=by rw[hn];exact Nat.mul_le_mul r2 c2
 have af:lg<w.heap.size:=QB (hL 0 (by omega));have dz:ga<w.heap.size:=QB (ha 0 0 (by omega) (by omega));have df:Below w.heap.size w (w.alloc (.cells #[.int .i64 r,.int .i64 c,.slice (some ⟨ga,oa,none⟩) n cap] 250)):=Z5E.alloc Z5D _;have S0:=Z5J (Row.new w 250 [.int .i64 r,.int .i64 c,.slice (some ⟨ga,oa,none⟩) n cap]) df;obtain⟨t0,cr⟩:=Z5I (cols.getD 0 ⟨#[]⟩);have HX:=Z5F hm;have HN:=Z5F hn;have HA:=Z5F ha;have HL:=Z5F hL;have M:=Z5F hlen;have au:=Z5F cr;have dy:=Z5F cn;have i1:(c:Int)<=255:=by omega
 have bj:t0.size<=100000:=by rw[cr];exact cn 0 (by omega)
 clear hm hn ha hL hlen cr df cn;go_enter func162,ntmps162;go_wp2_with (go_at_call 223;have C:=S0.out;clear S0;refine(QO r c n _ cap _ (by unfold maxLen;omega)).mono ?_;rintro e w1 ⟨rfl,F⟩;rw[HX.out];obtain⟨x0,x1,x2⟩:=Zl (C.1.after F);have S1:=Z5J (C.1.after F) (C.2.trans (F.mono (by simp)));clear C F);go_loop [25] (λi=>∃k:Nat,k<=c/\i=.int .i64 k/\∀i,i<k->(cols.getD i ⟨#[]⟩).size=t0.size) (λi=>c- (intOf i).toNat)
 case atStart=>exact⟨0,by omega,rfl,λi h=>by omega⟩
 case round=>
  obtain⟨k,hk,rfl,aw⟩:=hrel;have ai:=Z5F aw;clear aw;have bm:World.cell? w1 ⟨lg,lo,none⟩=some (.string t0):=(S1.out.2.cell (p:=⟨lg,lo,none⟩) af).trans (by have:=HL.out 0 (by rw[M.out];omega);rw[Nat.add_zero] at this;rw[this,au.out]);by_cases bz:k<c
  .obtain⟨t,ht⟩:=Z5I (cols.getD k ⟨#[]⟩);have cl:World.cell? w1 ⟨lg,lo+k,none⟩=some (.string t):=(S1.out.2.cell (p:=⟨lg,lo+k,none⟩) af).trans (by rw[HL.out k (by rw[M.out];exact bz),ht]);have eu:t.size<=100000:=by rw[ht];exact dy.out k (by rw[M.out];exact bz)
   have cz:=Z5F ht;clear ht;by_cases hs:t.size=t0.size
   .have F:((t.size:Int) !=(t0.size:Int))=false:=(by simp[hs]);have HS:=Z5F hs;clear hs;go_wp2;go_round
    case measure=>simp[intOf];omega
    case rel=>
     refine⟨k+1,by omega,by go_num,λi hi=> ?_⟩;by_cases e:i=k
     .rw[e,<-cz.out];exact HS.out
     .exact ai.out i (by omega)
   .have F:((t.size:Int) !=(t0.size:Int))=true:=by simp;omega
    have HS:=Z5F hs;clear hs;go_wp2_with (go_at_call 224;have C:=S1.out;clear S1;refine(Yc 19 (by omega) _).mono ?_;rintro e w2 ⟨ev,rfl,he,F⟩;have S2:=Z5J (C.2.trans (F.mono C.2.size)) (he.mono C.2.size);clear C F he);go_ret2;exact⟨Or.inl ⟨⟨k,by rw[M.out];exact bz,by rw[<-cz.out,<-au.out];exact HS.out⟩,ev,rfl,S2.out.2⟩,S2.out.1⟩
  .obtain rfl:k=c:=(by omega);obtain⟨i0,dh,dj,dm,dp⟩:=info_parts Xw;obtain⟨j0,ee,ef,eh,ek⟩:=info_parts XK;obtain⟨len,hlen⟩:=Z5I t0.size;rw[<-hlen] at bj;have al:=λW=>WF (P:=prog) 75 5 i0 underlying75 dh dj dm dp len (by omega) W;obtain⟨Z,hZ⟩:∃Z:List UInt8,Z=List.replicate len 0:=⟨_,rfl⟩;have de:Z.length=len:=by rw[hZ];simp
   rw[<-hZ] at al;have ag:∀i,i<cols.length->(cols.getD i ⟨#[]⟩).size=len:=λi hi=>by rw[hlen];exact ai.out i (by rw[<-M.out];exact hi)
   have ae:=Z5F ag;have HZ:=Z5F hZ;have dc:=Z5F de;have aq:=Z5F hlen;have dt:=Z5F al;have eo:len<=100000:=bj;clear dh dj dm dp ag hZ de hlen ai al;have S2:=Z5K S1.out.1 S1.out.2 (World.ownsRow_nil (w:=w1) (base:=w.heap.size) (e:=9) (size:=1));go_wp2;obtain⟨wo,rfl⟩:∃wo:World,wo=w1:=⟨_,rfl⟩;go_loopw [8,40] (λout ii wr=>∃ (i:Nat),i<=r/\ii=.int .i64 i/\wr.ownsRow w.heap.size 9 1 out i (WI A cols len k i)/\Row wr w.heap.size 250 [.int .i64 r,.int .i64 k,.slice (some ⟨ga,oa,none⟩) n cap]/\Below w.heap.size w wr) (λ_ ii _=>r- (intOf ii).toNat)
   case atStart=>exact⟨0,by omega,rfl,S2.out.2.2,S2.out.1,S2.out.2.1⟩
   case round=>
    clear S2 S1 bm x0 x1 x2;obtain⟨i,hi,rfl,O,U,J⟩:=hrel;by_cases bf:i<r
    .have er:=J.size;obtain⟨x0,x1,x2⟩:=Zl (U.alloc (.cells (Z3 Z).toArray 5));have bm:World.cell? wr ⟨lg,lo,none⟩=some (.string t0):=(J.cell (p:=⟨lg,lo,none⟩) af).trans (by have:=HL.out 0 (by rw[M.out];omega);rw[Nat.add_zero] at this;rw[this,au.out]);have al:=dt.out wr;rw[aq.out] at al;have hz:=ZD.new wr 5 (Z3 Z);have b8:=Qo (P:=prog) _ 75 9 5 underlying75 underlying5 underlying9 hz.row 0 t0.size t0.size Z (dc.out.trans aq.out) (by rw[List.drop_zero];exact Z5o (by rw[Zj,dc.out,aq.out];exact Z5D));have S3:=Z5K (Qa O ((Fr.refl [] wr).alloc (.cells (Z3 Z).toArray 5)) (by simp)) (U.alloc (.cells (Z3 Z).toArray 5)) (J.alloc (by omega) (.cells (Z3 Z).toArray 5));clear O U J hz;go_wp2_with (go_at_call 226;have C:=S3.out;clear S3;refine(Gz r k i ga oa n cap _ bf (by omega) (by omega) (by omega) HN.out bu b7).mono ?_;rintro e w5 ⟨rfl,F⟩;have S4:=Z5K (Qa C.1 (Fr.of_below (L:=[]) F) (by simp)) (C.2.1.after F) (C.2.2.trans (F.mono C.2.2.size));clear C F al b8 bm x0 x1 x2);obtain⟨qa,cj⟩:=Z5I (oa+i*k);rw[<-cj];have dw:=Z5F cj;clear cj;go_loopw [10,53] (λss jj wr=>∃ (j:Nat),j<=k/\jj=.int .i64 j/\ss=.string (Yy (A i) cols len j)/\Below w5.heap.size w5 wr) (λ_ jj _=>k- (intOf jj).toNat)
     case atStart=>exact⟨0,by omega,rfl,by rw[HZ.out];rfl,Z5E⟩
     case round=>
      obtain⟨j,hj,rfl,rfl,az⟩:=hrel;have O:=Qa S4.out.1 (Fr.of_below (L:=[]) az) (by simp);have U:=S4.out.2.1.after az;have J:=S4.out.2.2.trans (az.mono S4.out.2.2.size);have cu:=Z5F az;clear az;by_cases aj:j<k
      .obtain⟨t,ht⟩:=Z5I (cols.getD j ⟨#[]⟩);have cl:World.cell? wr ⟨lg,lo+j,none⟩=some (.string t):=(J.cell (p:=⟨lg,lo+j,none⟩) af).trans (by rw[HL.out j (by rw[M.out];exact aj),ht]);have ca:World.cell? wr ⟨ga,qa+j,none⟩=some (.int .u8 (nv (A i j))):=by rw[dw.out];exact(J.cell (p:=⟨ga,oa+i*k+j,none⟩) dz).trans (HA.out i j bf aj)
       have ak:=Bh (A i) cols len ae.out j (by rw[M.out];omega);have bh:t.size=len:=by rw[ht];exact ae.out j (by rw[M.out];exact aj)
       obtain⟨u,hu⟩:=Z5I (Yy (A i) cols len j);rw[<-hu] at ak⊢;have cw:=Z5F ak;have dx:=Z5F bh;have HU:=Z5F hu;have HT:=Z5F ht;have S5:=Z5K O U J;clear O U J ak bh hu ht;go_wp2_with (go_at_call 228;have C:=S5.out;clear S5;refine(Z02 u t (nv (A i j)) _ (by rw[cw.out,dx.out]) (by rw[cw.out];omega) (AE _) (AD _)).mono ?_;rw[Wg];rintro e w6 ⟨rfl,F⟩;have S6:=Z5F (cu.out.trans (F.mono cu.out.size));clear C F);go_roundw
       case measure=>simp[intOf];omega
       case rel=>refine⟨j+1,by omega,by go_num,?_,S6.out⟩;rw[HU.out,HT.out];rfl
      .obtain rfl:j=k:=(by omega);obtain⟨u,hu⟩:=Z5I (Yy (A i) cols len j);rw[<-hu];have HU:=Z5F hu;have bq:=J.size;have S5:=Z5K O U J;clear O U J hu;go_wp2_with (at_builtin;refine wpList_append_own _ rfl (.tmp 69) (.tmp 71) 96 rfl w.heap.size 9 j0 _ 1 16 underlying96 ee ef eh ek rfl (by omega) _ i (WI A cols len j i) rfl (S5.out.1.alloc _) ⟨wr.heap.size,0,none⟩ 1 1 [.string u] rfl rfl (World.news_of_block (cs:= #[.string u]) (t:=9) (fr:=(0,0)) (heap_alloc_new wr _)) (by simp[Value.oneCell']) (by unfold maxLen;omega) (by omega) (Z5w bq (by simp)) ?_;intro v' w7 ah b9 bg;clear bg;have du:=Z5F ah;have dq:=Z5F b9;clear ah b9);go_roundw
       case measure=>simp[intOf];omega
       case rel=>obtain⟨h1,h2,h3⟩:=S5.out;obtain⟨k1,k2⟩:=O2 h1 h2 h3 dq.out (by decide);exact⟨i+1,by omega,by go_num,by rw[Mm,<-HU.out];exact du.out,k1,k2⟩
    .obtain rfl:i=r:=(by omega);have S3:=Z5J O J;clear O U J;go_wp2;go_ret2;exact⟨Or.inr ⟨λi hi=>by rw[<-au.out,<-aq.out];exact ae.out i hi,_,rfl,by rw[<-au.out,<-aq.out];exact S3.out.1⟩,S3.out.2⟩
end
section
variable{w0 w w':World}{g N:Nat}{LX sp:List Value}{f f':Nat->BitVec 8}
end
theorem Qs{w:World}{base:Nat}{e:TypeId}{v:Value}{n:Nat}{xs:List Value}(h:w.ownsRow base e 1 v n xs)(Z:0<n):∃g cap sp,v=.slice (some ⟨g,0,none⟩) n cap/\base<=g/\n<=cap/\cap<=maxLen/\Row w g e (xs++sp):=by
 rcases h.2 with ⟨_,U⟩|⟨g,cap,cur,hv,M,hh,C,F,O,J⟩
 .omega
 .refine⟨g,cap,cur.toList.drop (n*1),hv,M,C,F,Row.mk ?_⟩;rw[<-J,Z5z];simpa using hh
section
variable{a:Option Addr}{base c n size:Nat}{e:TypeId}{w:World}{xs:List Value}
section
variable{P:Program}
end
theorem VP(h:w.ownsRow base e size (.slice a n c) n xs){j:Nat}{u:Value}(C:xs[j]? =some u):∃g,a=some ⟨g,0,none⟩/\base<=g/\w.cell? ⟨g,j,none⟩=some u:=by
 rcases h.2 with ⟨_,F⟩|⟨g,cap,cur,hv,J,_⟩
 .have:=h.1;rw[F,Nat.zero_mul] at this;have:=(List.getElem?_eq_some_iff.1 C).1;omega
 .simp only[Value.slice.injEq,true_and] at hv;obtain⟨rfl,rfl⟩:=hv;exact⟨g,rfl,J,XC h rfl C⟩
theorem O3(h:w.ownsRow base e size (.slice a n c) n xs):n<=c/\c<=maxLen/\(a=none->n=0/\c=0):=by
 rcases h.2 with ⟨hv,J⟩|⟨g,cap,cur,hv,M,_,C,F,_⟩
 .simp only[Value.slice.injEq] at hv;obtain⟨rfl,rfl,rfl⟩:=hv;exact⟨Z5D,Nat.zero_le _,λ_=>⟨rfl,rfl⟩⟩
 .simp only[Value.slice.injEq,true_and] at hv;obtain⟨rfl,rfl⟩:=hv;exact⟨C,F,λh=>by cases h⟩
end
section
variable{a:Option Addr}{ss:List ByteArray}{w:World}
def Zx(w:World)(a:Option Addr)(ss:List ByteArray):Prop:=∀j (h:j<ss.length),∃g o,a=some ⟨g,o,none⟩/\w.cell? ⟨g,o+j,none⟩=some (.string ss[j])
theorem Zx.after{w':World}(h:Zx w a ss)(C:Below w.heap.size w w'):Zx w' a ss:=λj F=>by obtain⟨g,o,ha,hc⟩:=h j F;exact⟨g,o,ha,(C.cell (p:=⟨g,o+j,none⟩) (QB hc)).trans hc⟩
theorem Zx.open(h:Zx w a ss)(M:0<ss.length):∃g o,a=some ⟨g,o,none⟩/\g<w.heap.size/\∀j,j<ss.length->w.cell? ⟨g,o+j,none⟩=some (.string (ss.getD j ⟨#[]⟩)):=by obtain⟨g,o,ha,hc⟩:=h 0 M;refine⟨g,o,ha,QB hc,λj F=> ?_⟩;obtain⟨O,o',C,J⟩:=h j F;rw[ha] at C;simp only[Z5e,Addr.mk.injEq] at C;rw[C.1,C.2.1,J,Z59,Z5a F,Option.getD_some]
def Z7(ss:List ByteArray):List Value:=ss.map .string
theorem Km(ss:List ByteArray)(j:Nat)(h:j<ss.length):(Z7 ss)[j]? =some (.string ss[j]):=by simp[Z7,h]
theorem F7(ss:List ByteArray):(Z7 ss).length=ss.length:=by simp[Z7]
theorem Zx.own{base n c:Nat}{e:TypeId}(h:w.ownsRow base e 1 (.slice a n c) n (Z7 ss)):Zx w a ss:=λj C=>by obtain⟨g,ha,_,hc⟩:=VP h (Km ss j C);exact⟨g,0,ha,by rw[Nat.zero_add];exact hc⟩
end
def ZV(ss:List ByteArray):List (List UInt8):=ss.map λs=>s.data.toList
theorem WJ(ss:List ByteArray):(ZV ss).length=ss.length:=by simp[ZV]
theorem SR(ss:List ByteArray)(k:Nat):ZV (ss.take k)=(ZV ss).take k:=by simp[ZV,List.map_take]
theorem SP(ss:List ByteArray)(s:ByteArray):ZV (ss++[s])=ZV ss++[s.data.toList]:=by simp[ZV]
theorem BN(ss:List ByteArray)(k:Nat)(h:k<ss.length):ZV (ss.take (k+1))=ZV (ss.take k)++[(ss.getD k ⟨#[]⟩).data.toList]:=by rw[Z5f h,SP,Z59,Z5a h];rfl
theorem Ck(l:List UInt8):Zy [l]=4+l.length:=by rfl
theorem LT(l:List UInt8):Wv [l]=Z4 l.length++l:=by simp[Wv]
theorem NV(n:Nat)(C:n<=4294967295)(w:World):Calls prog 125 #[.int .i64 (n:Int)] w λe w'=>e=.returned (.tuple #[.string (s32 n),.nilIface])/\Below w.heap.size w w':=by go_enter func125,ntmps125;go_wp2_with (go_at_call 181;refine(JB n (by omega) _).mono ?_;rintro e w' ⟨rfl,h⟩);go_ret2;simp_all
theorem Z3o(g o c:Nat)(ss:List ByteArray)(w:World)(hR:Zx w (some ⟨g,o,none⟩) ss)(af:4+Zy (ZV ss)<=60000):Calls prog 126 #[.slice (some ⟨g,o,none⟩) ss.length c] w λe w'=>e=.returned (.tuple #[.string ⟨(Zz (ZV ss)).toArray⟩,.nilIface])/\Below w.heap.size w w':=by
 have ae:∀j,j<ss.length->w.cell? ⟨g,o+j,none⟩=some (.string (ss.getD j ⟨#[]⟩)):=λj O=>by obtain⟨g',o',ha,hc⟩:=hR j O;simp_all
 have Z:∀j,j<ss.length->g<w.heap.size:=λj O=>by
  have:=ae j O;rcases Nat.lt_or_ge g w.heap.size with h|h
  .omega
  .simp[World.cell?,Array.getElem?_eq_none h] at this
 have bf:4*ss.length<=60000:=by have:=Wk (ZV ss);rw[WJ] at this;omega
 have hle:∀j,j<ss.length->4+Zy (ZV (ss.take j))+4+(ss.getD j ⟨#[]⟩).size<=60000:=λj O=>by have h1:=F0 (ZV ss) (j+1);rw[<-SR,BN ss j O,J9,Ck] at h1;simp at h1;grind
 have HC:=Z5F ae;have HG:=Z5F Z;have HL:=Z5F hle;have HZ:=Z5F af;clear ae Z hle hR af;go_enter func126,ntmps126;go_wp2;go_loop [4,6,12] (λz s i=>∃k:Nat,k<=ss.length/\i=.int .i64 k/\z=.int .i64 ((4+Zy (ZV (ss.take k)):Nat):Int)) (λ_ _ i=>ss.length- (intOf i).toNat)
 case atStart=>exact⟨0,by omega,rfl,rfl⟩
 case round=>
  obtain⟨k,hk,rfl,rfl⟩:=hrel;by_cases C:k<ss.length
  .have hc:=HC.out k C;have hl:=HL.out k C;have hs:=BN ss k C;obtain⟨t,F⟩:=Z5H (ss.getD k ⟨#[]⟩);obtain⟨z,hz⟩:=Z5H (4+Zy (ZV (ss.take k)));rw[F] at hc hl hs;rw[hz] at hl⊢;have HS:=Z5F hs;clear hs;have HT:=Z5F F;clear F;have aw:=Z5F hz;clear hz;go_wp2;go_round
   case measure=>simp[intOf];omega
   case rel=>exact⟨k+1,by omega,by go_num,Cw (by rw[HS.out,J9,Ck];have:=aw.out;simp;omega)⟩
  .obtain rfl:k=ss.length:=(by omega);have ak:=Bld.new w;have ag:=Z5F ak;clear ak;have bm:4*ss.length<=60000:=bf;go_wp2_with (first|(go_at_call 181;refine(JB ss.length (by omega) _).mono ?_;rintro e w1 ⟨rfl,U⟩;have ai:=ag.out.after U)|(go_at_call 164;refine(Aq w.heap.size _ [] (s32 ss.length) _ ai (by rw[Y3];simp) (by have:=U.size;simp at this;omega)).mono ?_;rintro e w2 ⟨rfl,aj,al⟩));have au:Below w.heap.size w w2:=(((Below.refl _ w).alloc Z5D _).trans (U.mono (by simp))).trans al;have ah:=Z5J aj au;clear ai aj U al au ag;go_loopw [9,31] (λs i wr=>∃k:Nat,k<=ss.length/\i=.int .i64 k/\Bld wr w.heap.size w.heap.size (Z4 ss.length++Wv (ZV (ss.take k)))/\Below w.heap.size w wr) (λ_ i _=>ss.length- (intOf i).toNat)
   case atStart=>exact⟨0,by omega,rfl,ah.out.1,ah.out.2⟩
   case round=>
    obtain⟨k,hk,rfl,hB,hw⟩:=hrel;have af:=hw.size;by_cases C:k<ss.length
    .have Z:=HG.out k C;have hc:=(hw.cell (p:=⟨g,o+k,none⟩) Z).trans (HC.out k C);have hl:=HL.out k C;have hs:=BN ss k C;obtain⟨t,F⟩:=Z5H (ss.getD k ⟨#[]⟩);obtain⟨q,hq⟩:=Z5H (Z4 ss.length++Wv (ZV (ss.take k)));have bg:q.length+4+t.size<=60004:=by rw[<-hq,<-F];simp only[Z5d,Zw,AA];omega
     rw[F] at hc hl hs;rw[hq] at hB;have HS:=Z5F hs;clear hs;have HT:=Z5F F;clear F;have HQ:=Z5F hq;clear hq;have J:=Z5J hB hw;clear hB hw;have tz:t.size<=60000:=(by omega);go_wp2_with (first|(go_at_call 181;refine(JB t.size (by omega) _).mono ?_;rintro e w3 ⟨rfl,M⟩;have az:=J.out.1.after M;have bh:=M.size;have T3:=Z5F True.intro)|(go_at_call 164;have t3:=T3.out;clear T3;refine(Aq w.heap.size _ q (s32 t.size) _ az (by rw[Y3];omega) (by omega)).mono ?_;rintro e w4 ⟨rfl,b7,aq⟩;have bj:=aq.size;have T4:=Z5F True.intro)|(go_at_call 164;have t4:=T4.out;clear T4;refine(Aq w.heap.size _ (q++(s32 t.size).data.toList) t _ b7 (by simp[Ey,Zw];omega) (by omega)).mono ?_;rintro e w5 ⟨rfl,b8,b9⟩));go_roundw
     case measure=>simp[intOf];omega
     case rel=>
      refine⟨k+1,by omega,by go_num,?_,?_⟩
      .rw[HS.out,Cl,LT,<-Z5g,HQ.out];simpa[Ey] using b8
      .exact((J.out.2.trans (M.mono (by omega))).trans aq).trans b9
    .obtain rfl:k=ss.length:=(by omega);rw[Z5A] at hB;have J:=Z5J hB hw;clear hB hw;go_wp2_with (go_at_call 165;refine(Df w.heap.size _ _ _ J.out.1 af).mono ?_;rintro e w3 ⟨rfl,M⟩);go_ret2;exact⟨by rw[Zz,WJ];rfl,J.out.2.trans M⟩
section
variable{s:ByteArray}
def ZS(s:ByteArray)(p:Nat):BitVec 8:=(s.data.toList.getD p 0).toBitVec
theorem SI(s:ByteArray)(p:Nat)(h:p<s.data.toList.length):s.data.toList[p].toBitVec=ZS s p:=by unfold ZS;rw[Z59,Z5a h,Option.getD_some]
theorem UP{t:ByteArray}(h:s.size=t.size)(J:∀p,p<s.size->ZS s p=ZS t p):s=t:=by
 have hs:s.data.toList.length=s.size:=by simp
 have M:t.data.toList.length=t.size:=by simp
 have:s.data.toList=t.data.toList:=by apply List.ext_getElem (by omega);intro i F C;have:=J i (by omega);unfold ZS at this;rw[Z59,Z59,Z5a F,Z5a C,Option.getD_some,Option.getD_some] at this;exact UInt8.toBitVec_inj.1 this
 have C:s.data=t.data:=Array.toList_inj.1 this;cases s;cases t;simp_all
theorem TW(x:Nat->BitVec 8)(cols:List ByteArray)(len:Nat)(h:∀i,i<cols.length->(cols.getD i ⟨#[]⟩).size=len)(k:Nat)(U:k<=cols.length):YT x cols len k=(List.range len).map λp=>UInt8.ofBitVec (sm k λj=>gm (x j) (ZS (cols.getD j ⟨#[]⟩) p)):=by
 induction k with
 |zero=>rw[YT];apply List.ext_getElem (by simp);intro i M F;simp[sm]
 |succ k ih=>
  have hl:=DG x cols len h k (by omega);have F:=h k (by omega);have C:(cols.getD k ⟨#[]⟩).data.toList.length=len:=by rw[<-F];simp
  rw[YT];apply List.ext_getElem
  .rw[Ez _ _ _ (by rw[hl,C]),hl];simp
  .intro i O J;have hi:i<len:=(by simpa using J);rw[RT _ _ _ _ (by rw[hl];exact hi) (by rw[C];exact hi)];have e1:(YT x cols len k)[i]'(by rw[hl];exact hi)=UInt8.ofBitVec (sm k λj=>gm (x j) (ZS (cols.getD j ⟨#[]⟩) i)):=by simp only[ih (by omega)];simp
   have e2:((cols.getD k ⟨#[]⟩).data.toList[i]'(by rw[C];exact hi)).toBitVec=ZS (cols.getD k ⟨#[]⟩) i:=SI _ _ (by rw[C];exact hi);rw[e1,e2];simp[sm]
theorem Js(x:Nat->BitVec 8)(cols:List ByteArray)(len:Nat)(h:∀i,i<cols.length->(cols.getD i ⟨#[]⟩).size=len)(k:Nat)(C:k<=cols.length)(p:Nat)(F:p<len):ZS (Yy x cols len k) p=sm k λj=>gm (x j) (ZS (cols.getD j ⟨#[]⟩) p):=by show((YT x cols len k).toArray.toList.getD p 0).toBitVec=_;rw[List.toList_toArray,TW x cols len h k C,Z59];simp[F]
def Qn(A:Nat->Nat->BitVec 8)(cols:List ByteArray)(len c r:Nat):List ByteArray:=(List.range r).map λi=>Yy (A i) cols len c
theorem QR(A:Nat->Nat->BitVec 8)(cols:List ByteArray)(len c r:Nat):(Qn A cols len c r).length=r:=by simp[Qn]
theorem XY(A:Nat->Nat->BitVec 8)(cols:List ByteArray)(len c r i:Nat)(h:i<r):(Qn A cols len c r).getD i ⟨#[]⟩=Yy (A i) cols len c:=by rw[Z59];simp[Qn,h]
theorem Cr(A:Nat->Nat->BitVec 8)(cols:List ByteArray)(len c r:Nat)(h:∀i,i<cols.length->(cols.getD i ⟨#[]⟩).size=len)(hc:c<=cols.length)(i:Nat)(hi:i<(Qn A cols len c r).length):((Qn A cols len c r).getD i ⟨#[]⟩).size=len:=by rw[QR] at hi;rw[XY _ _ _ _ _ _ hi,Bh _ _ _ h _ hc]
theorem Kh{x:Nat->BitVec 8}{cols:List ByteArray}{len k:Nat}(h:∀i,i<cols.length->(cols.getD i ⟨#[]⟩).size=len)(C:k<=cols.length)(hs:s.size=len)(F:∀p,p<len->ZS s p=sm k λj=>gm (x j) (ZS (cols.getD j ⟨#[]⟩) p)):s=Yy x cols len k:=by refine UP (by rw[hs,Bh x cols len h k C]) λp J=> ?_;rw[Js x cols len h k C p (by omega),F p (by omega)]
theorem Oh(A B:Nat->Nat->BitVec 8)(cols:List ByteArray)(len n m i:Nat)(h:∀i,i<cols.length->(cols.getD i ⟨#[]⟩).size=len)(hm:m<=cols.length):Yy (Yq n A B i) cols len m=Yy (A i) (Qn B cols len m n) len n:=by refine Kh (Cr B cols len m n h hm) (by rw[QR];exact Z5D) (Bh _ _ _ h _ hm) λp C=> ?_;rw[Js _ _ _ h _ hm p C];have e:=Em n m A B (λt p=>ZS (cols.getD t ⟨#[]⟩) p) i p;refine e.trans (Q4 λj F=> ?_);rw[XY _ _ _ _ _ _ F,Js _ _ _ h _ hm p C];rfl
theorem JT(A:Nat->Nat->BitVec 8)(cols:List ByteArray)(len c r:Nat):WI A cols len c r=(Qn A cols len c r).map .string:=by unfold WI Qn;rw[List.map_map];rfl
end
theorem Sq(r c ga oa n cap J len:Nat)(M:Option Addr)(A:Nat->Nat->BitVec 8)(cols:List ByteArray)(w:World)(r1:1<=r)(r2:r<=255)(c1:1<=c)(c2:c<=255)(hn:n=r*c)(ae:n<=cap)(O:cap<=9223372036854775807)(hlen:cols.length=c)(C:∀i,i<cols.length->(cols.getD i ⟨#[]⟩).size=len)(hl:len<=100000)(ha:Qm w ga oa r c A)(hL:Zx w M cols):Calls prog 162 #[.agg #[.int .i64 r,.int .i64 c,.slice (some ⟨ga,oa,none⟩) n cap],.slice M c J] w λe w'=>∃g Z,e=.returned (.tuple #[.slice (some ⟨g,0,none⟩) r Z,.nilIface])/\Zx w' (some ⟨g,0,none⟩) (Qn A cols len c r)/\Below w.heap.size w w':=by
 obtain⟨lg,lo,rfl,_,U⟩:=hL.open (by omega);refine(DT r c ga oa n cap lg lo J A cols w r1 r2 c1 c2 hn ae O hlen (λi hi=>by rw[C i hi];exact hl) ha U).mono ?_;rintro e w' ⟨h|h,hb⟩
 .obtain⟨⟨i,hi,ah⟩,_⟩:=h;exact absurd (by rw[C i hi,C 0 (by omega)]) ah
 .obtain⟨ag,v,rfl,F⟩:=h;rw[C 0 (by omega),JT] at F;rcases F.2 with ⟨_,h0⟩|⟨g2,af,cur,rfl,_⟩
  .omega
  .exact⟨_,_,rfl,Zx.own F,hb⟩
theorem Sp(r c ga oa n cap M len:Nat)(O:Option Addr)(A:Nat->Nat->BitVec 8)(cols:List ByteArray)(w:World)(r1:1<=r)(r2:r<=255)(c1:1<=c)(c2:c<=255)(hn:n=r*c)(ae:n<=cap)(U:cap<=9223372036854775807)(hlen:cols.length=c)(F:∀i,i<cols.length->(cols.getD i ⟨#[]⟩).size=len)(hl:len<=100000)(ha:Qm w ga oa r c A)(hL:Zx w O cols):Calls prog 162 #[.agg #[.int .i64 r,.int .i64 c,.slice (some ⟨ga,oa,none⟩) n cap],.slice O c M] w λe w'=>∃g J,e=.returned (.tuple #[.slice (some ⟨g,0,none⟩) r J,.nilIface])/\(Zx w' (some ⟨g,0,none⟩) (Qn A cols len c r)/\r<=J/\J<=9223372036854775807)/\Below w.heap.size w w':=by
 obtain⟨lg,lo,rfl,_,Z⟩:=hL.open (by omega);refine(DT r c ga oa n cap lg lo M A cols w r1 r2 c1 c2 hn ae U hlen (λi hi=>by rw[F i hi];exact hl) ha Z).mono ?_;rintro e w' ⟨h|h,hb⟩
 .obtain⟨⟨i,hi,ah⟩,_⟩:=h;exact absurd (by rw[F i hi,F 0 (by omega)]) ah
 .obtain⟨ag,v,rfl,C⟩:=h;rw[F 0 (by omega),JT] at C;rcases C.2 with ⟨_,h0⟩|⟨g2,af,cur,rfl,_⟩
  .omega
  .have hc:=O3 C;exact⟨_,_,rfl,⟨Zx.own C,hc.1,Z5w hc.2.1 (by decide)⟩,hb⟩
section
variable{L:List Nat}{base c g n o size:Nat}{e:TypeId}{w w':World}{xs:List Value}
theorem Xc{w0:World}{B e:Nat}{v:Value}(F:w.ownsRow B e size v n xs)(J:Below B w0 w)(hB:B<=w.heap.size)(C:w.grownBy w' v.ownBlock):Below B w0 w':=by
 have M:Fr (match v.ownBlock with|some g=>[g]|none=>[]) w w':=(Fr.refl _ _).grown C (λg C=>Or.inl (by rw[C];simp));refine J.trans (M.below hB (λg hm=> ?_));cases hv:v.ownBlock with
 |none=>rw[hv] at hm;simp at hm
 |some g'=>
  rw[hv] at hm;simp only[Z58] at hm;rcases F.2 with ⟨h,_⟩|⟨g2,cap,cur,h,O,_⟩
  .rw[h] at hv;cases hv
  .rw[h] at hv;simp only[Value.ownBlock,Z5e] at hv;omega
section
variable{P:Program}
end
def WL(L:List Nat):List Value:=L.map λ(x:Nat)=>.int .i64 (x:Int)
theorem Tt(L:List Nat)(j:Nat)(h:j<L.length):(WL L)[j]? =some (.int .i64 (L[j]:Int)):=by simp[WL,h]
theorem GZ(L:List Nat)(j:Nat)(h:j<L.length):(WL L)[j]? =some (.int .i64 (L.getD j 0:Int)):=by rw[Tt L j h,Z59,Z5a h,Option.getD_some]
theorem Mx(L M:List Nat):WL (L++M)=WL L++WL M:=by simp[WL]
def Yt(w:World)(g o:Nat)(L:List Nat):Prop:=∀j,j<L.length->w.cell? ⟨g,o+j,none⟩=some (.int .i64 (L.getD j 0:Int))
theorem Yt.fr(h:Yt w g o L){Ls:List Nat}(C:Fr Ls w w')(F:g∉Ls):Yt w' g o L:=λj J=>Gl C F (h j J)
theorem Yt.after(h:Yt w g o L)(C:Below w.heap.size w w'):Yt w' g o L:=h.fr (Fr.of_below (L:=[]) C) (by simp)
theorem Yt.own(h:w.ownsRow base e 1 (.slice (some ⟨g,0,none⟩) n c) n (WL L)):Yt w g 0 L:=λj C=>by obtain⟨F,ha,_,hc⟩:=VP h (GZ L j C);simp only[Z5e,Addr.mk.injEq] at ha;rw[Nat.zero_add,ha.1];exact hc
theorem O5{a:Option Addr}(h:w.ownsRow base e size (.slice a n c) n xs)(O:0<n):∃g,a=some ⟨g,0,none⟩/\base<=g/\n<=c/\c<=maxLen:=by
 rcases h.2 with ⟨_,M⟩|⟨g,cap,cur,hv,J,_,C,F,_⟩
 .omega
 .simp only[Value.slice.injEq,true_and] at hv;obtain⟨rfl,rfl⟩:=hv;exact⟨g,rfl,J,C,F⟩
end
def Wp(k m l:Int):Bool:=decide (1<=k)&&(decide (0<=m)&&(decide (0<=l)&&(decide (k<=255)&&decide (m<=255-k))))
theorem Z1x{k m l:Int}(h:Wp k m l=true):∃a b c:Nat,k=a/\m=b/\l=c/\1<=a/\a+b<=255:=by unfold Wp at h;simp at h;exact⟨k.toNat,m.toNat,l.toNat,by omega,by omega,by omega,by omega,by omega⟩
theorem AW{a b c:Nat}(h:1<=a)(C:a+b<=255):Wp a b c=true:=by unfold Wp;simp;omega
theorem Jx(k m l:Int)(w:World):Calls prog 119 #[.int .i64 k,.int .i64 m,.int .i64 l] w λe w'=>e=.returned (.bool (Wp k m l))/\w=w':=by
 have go:∀b,Wp k m l=b->Ending.returned (.bool b)=.returned (.bool (Wp k m l)):=by simp
 by_cases h:1<=k
 .by_cases C:0<=m
  .by_cases F:0<=l
   .by_cases J:k<=255
    .by_cases M:m<=255-k
     .have H:=Z5F (go true (by unfold Wp;rw[decide_eq_true h,decide_eq_true C,decide_eq_true F,decide_eq_true J,decide_eq_true M];rfl));go_enter func119,ntmps119;go_wp2;go_ret;exact⟨H.out,rfl⟩
     .have H:=Z5F (go false (by unfold Wp;rw[decide_eq_false M];simp));go_enter func119,ntmps119;go_wp2;go_ret;exact⟨H.out,rfl⟩
    .have H:=Z5F (go false (by unfold Wp;rw[decide_eq_false J];simp));go_enter func119,ntmps119;go_wp2;go_ret;exact⟨H.out,rfl⟩
   .have H:=Z5F (go false (by unfold Wp;rw[decide_eq_false F];simp));go_enter func119,ntmps119;go_wp2;go_ret;exact⟨H.out,rfl⟩
  .have H:=Z5F (go false (by unfold Wp;rw[decide_eq_false C];simp));go_enter func119,ntmps119;go_wp2;go_ret;exact⟨H.out,rfl⟩
 .have H:=Z5F (go false (by unfold Wp;rw[decide_eq_false h];simp));go_enter func119,ntmps119;go_wp2;go_ret;exact⟨H.out,rfl⟩
theorem X8(c:Int)(hc:c≠0)(w:World):Calls prog 114 #[.int .i64 c] w λe w'=>∃v,e=.returned v/\Q9 w.heap.size w' v c/\Below w.heap.size w w':=by have h:=Z5F hc;go_enter func114,ntmps114;go_wp2;go_ret;exact⟨_,rfl,Or.inr ⟨h.out,w.heap.size,rfl,Z5D,Row.new w _ [.int .i64 c,.int .i64 0,.nilIface]⟩,Z5E.alloc Z5D _⟩
def ZT(k l:Nat):Nat:=l / k+(if 0<l%k then 1 else 0)
theorem Z2f(k l:Int)(w:World)(h:Wp k 0 l=false):Calls prog 113 #[.int .i64 k,.int .i64 l] w λe w'=>∃ev,e=.returned (.tuple #[.int .i64 0,ev])/\Q9 w.heap.size w' ev 1/\Below w.heap.size w w':=by have H:=Z5F h;go_enter func113,ntmps113;go_wp2_with (first|(go_at_call 119;refine(Jx k 0 l _).mono ?_;rintro e w1 ⟨rfl,rfl⟩;rw[H.out])|(go_at_call 114;refine(X8 1 (by omega) _).mono ?_;rintro e w2 ⟨ev,rfl,he,F⟩;have C:=Z5J he F;clear he F));go_ret2;exact⟨ev,rfl,C.out.1,C.out.2⟩
theorem B4(k l:Nat)(w:World)(F:1<=k)(Z:k<=255)(J:l<=9223372036854775807):Calls prog 113 #[.int .i64 k,.int .i64 l] w λe w'=>e=.returned (.tuple #[.int .i64 (ZT k l),.nilIface])/\w=w':=by
 have H:=Z5F (AW (b:=0) (c:=l) F (by omega));obtain⟨d,h⟩:=Z5I (l / k);obtain⟨m,hm⟩:=Z5I (l%k);have U:Int.tdiv (l:Int) (k:Int)=(d:Int):=by simp_all
 have em:Int.tmod (l:Int) (k:Int)=(m:Int):=by grind
 have M:d<=9223372036854775807:=by rw[h];exact Z5w (Nat.div_le_self _ _) J
 by_cases C:0<m
 .have O:d<=9223372036854775806:=by have h4:l=k*(l / k)+l%k:=(Nat.div_add_mod l k).symm;have h5:l / k<=k*(l / k):=Nat.le_mul_of_pos_left _ (by omega);omega
  have hs:ZT k l=d+1:=by unfold ZT;rw[<-hm,if_pos C,<-h]
  rw[hs];clear h hm hs;go_enter func113,ntmps113;go_wp2_with (go_at_call 119;refine(Jx k 0 l _).mono ?_;rintro e w1 ⟨rfl,rfl⟩;rw[show Wp (k:Int) 0 (l:Int)=true from H.out]);go_ret2;simp
 .have hs:ZT k l=d:=by unfold ZT;rw[<-hm,if_neg C,<-h];omega
  rw[hs];clear h hm hs;go_enter func113,ntmps113;go_wp2_with (go_at_call 119;refine(Jx k 0 l _).mono ?_;rintro e w1 ⟨rfl,rfl⟩;rw[show Wp (k:Int) 0 (l:Int)=true from H.out]);go_ret2;simp
section
variable{F G:World->Prop}{w w0:World}
structure Bun(w0:World)(F:World->Prop)(w:World):Prop where
 all:∀w',Below w.heap.size w w'->F w'
 bel:Below w0.heap.size w0 w
theorem Bun.start(w:World):Bun w (λ_=>True) w:=⟨λ_ _=>trivial,Z5E⟩
theorem Bun.here(h:Bun w0 F w):F w:=h.all w Z5E
theorem Bun.after{w':World}(h:Bun w0 F w)(C:Below w.heap.size w w'):Bun w0 F w':=⟨λM J=>h.all M (C.trans (J.mono C.size)),h.bel.trans (C.mono h.bel.size)⟩
theorem Bun.add(h:Bun w0 F w)(J:∀w',Below w.heap.size w w'->G w'):Bun w0 (λx=>F x/\G x) w:=⟨λw' C=>⟨h.all w' C,J w' C⟩,h.bel⟩
theorem Bun.box(h:Bun w0 F w)(T:TypeId)(L:List Value):Bun w0 (λx=>F x/\Row x w.heap.size T L) (w.alloc (.cells L.toArray T)):=⟨λw' C=>⟨h.all w' ((Z5E.alloc Z5D _).trans (C.mono (by simp))),(Row.new w T L).after C⟩,h.bel.alloc h.bel.size _⟩
theorem Bun.map(h:Bun w0 F w)(C:∀x,F x->G x):Bun w0 G w:=⟨λw' J=>C _ (h.all w' J),h.bel⟩
theorem Bun.of(h:∀w',Below w.heap.size w w'->F w')(C:Below w0.heap.size w0 w):Bun w0 F w:=⟨h,C⟩
