/- Part 2: lemmas about what the program computes. -/
import Derived.Lib.Builder
import Derived.Lib.AppendStr
import Derived.Lib.MakeNoZero
import Derived.Laws.Externs
import Derived.RegionTactic
import Derived.BigRegion
import Derived.ChangeAlike
import Derived.Outline
import Derived.Laws.AppendOwnNone
import Derived.Maps.AppendAt
import Derived.Test.YthppfllkocphbaaGreatDoorV00
import Derived.Test.YthppfllkocphbaaGreatDoorVS
namespace Go.Proofs.YthppfllkocphbaaGreatDoor
set_option linter.all false
set_option maxHeartbeats 25600000
set_option maxRecDepth 100000
open Tryz
open Go renaming World->Qs,Value->Qt,TypeId->Qu,Ending->Qv
open Go.RowKit
variable{B b:Nat}{l:List UInt8}{w w':World}
def NM:(prog.info? 258).map (·.size)=some 2:=Qy
def VO:liesAt prog prog.depth 258 (2 / prog.cellsOf 258) 0 258 1=true:=Qy
def K5(b:Nat)(w:Qs)(C:w.cell? b=b):Calls prog 229 #[b] w λe w'=>e=.returned (.tuple #[])/\w'=w:=by have⟨j,h,_⟩:=ZeI.1 NM;go_enter func229,ntmps229;go_wp2;rw[Lib.run_neq_ptr_same w _ underlying256 h];go_wp2;go_end0;simp
def K4(b:Nat)(w:Qs)(M:w.cell? b=some (.pointer none))(h:w.shape? b=some (258,2))(F:w.frozen? ⟨b,0,none⟩=false):Calls prog 229 #[b] w λe w'=>e=.returned (.tuple #[])/\w'=w.setCell b (.pointer b):=by have⟨j,C,J⟩:=ZeI.1 NM;go_enter func229,ntmps229;go_wp2;rw[Lib.run_to_unsafe w ⟨b,0,none⟩ underlying256 underlying236 C Qw h (Nat.zero_lt_succ 1)];go_wp2;rw[run_callFunc_extern func256 Qy Qy Qy (e:=Extern.AbiNoEscape.same) Qy];rw[Lib.run_noEscape];go_wp2;rw[Lib.run_from_unsafe w ⟨b,0,none⟩ underlying236 underlying256 C h VO];go_wp2;go_end0;simp
def Vz(B b:Nat)(bs:Qk)(w:Qs)(h:Lib.IsBuilder 258 5 B b bs w):Calls prog 229 #[b] w λe w'=>e=.returned (.tuple #[])/\(Lib.BuilderAt 258 5 B b (.pointer b) bs w'/\Below B w w'):=by
 rcases h with h|h
 .go_fit (K4 b w h.cell0 h.shape h.frozen0);rintro e w' ⟨rfl,rfl⟩;exact⟨rfl,h.used _,(Zu B w).setCell (p:=⟨b,0,none⟩) h.1 _⟩
 .go_fit (K5 b w h.cell0);rintro e w' ⟨rfl,rfl⟩;exact⟨rfl,h,Zu B _⟩
def VY(B b:Nat)(bs:Qk)(s:Qq)(w:Qs)(h:Lib.IsBuilder 258 5 B b bs w)(hlen:bs.length+s.size<=140737488355328)(ak:B<=w):Calls prog 164 #[b,.string s] w λe w'=>e=.returned (.tuple #[(s.size:Int),.nilIface])/\(Lib.BuilderAt 258 5 B b (.pointer b) (bs++Lib.strCells s) w'/\Below B w w'):=by
 have⟨i0,hi,ah,ai,aj⟩:=ZE Be;go_enter func164,ntmps164;go_wp2_with (go_at_call 229;refine(Vz B b bs _ h).mono ?_);rintro e w1 ⟨rfl,h1,O⟩;have⟨hB,v,ae,M,ag⟩:=h1;have:w1.cell? ⟨b,1,none⟩=some v:=by rw[ZeQ ae];rfl
 go_wp2_with (at_builtin;refine ZeV _ rfl _ _ 75 9 rfl B 5 i0 underlying75 underlying9 hi ah ai aj _ _ _ rfl M s rfl ?c3 ?c4 ?c5 ?_)
 case c3=>unfold maxLen;omega
 case c4=>omega
 case c5=>have:=O.size;omega
 intro v' w2 J F _;have af:b<w1:=QA;have C:w2.heap[b]? =some (.cells #[b,v] 258 (0,0)):=by rw[F.block b af (λe=>ag e.symm)];omega
 have:w2.cell? ⟨b,1,none⟩=some v:=by rw[ZeQ C];rfl
 have:w2.frozen? ⟨b,1,none⟩=false:=Zgo C 1;obtain⟨U,Z,cap,rfl⟩:∃U Z cap,v'=.slice U Z cap:=by
  rcases J.2 with ⟨hv,_⟩|⟨g,cap,cur,hv,_⟩
  .simp_all
  .simp_all
 go_wp2;go_ret2;refine⟨rfl,?_,?_⟩
 .exact Zgx (T:=258) (e:=5) hB C (bs':=bs++Lib.strCells s) (by simpa[Zgi] using J) Qx
 .exact(O.grown F Qw (λk hk=>(M.lt k hk).1)).setCell (p:=⟨b,1,none⟩) hB _
def Bld(w:Qs)(B b:Nat)(l:Ql):Prop:=Lib.IsBuilder 258 5 B b (Lib.byteCells l) w
def Z9D(w:Qs):Bld (w.alloc (.cells #[.pointer none,()] 258)) w w []:=Lib.fresh_isBuilder 258 5 w
def Bld.fr(h:Bld w B b l){L:Qj}(J:Fr L w w')(F:∀i,i∈L->i<B):Bld w' B b l:=by
 have k:∀p,Lib.BuilderAt 258 5 B b p (Lib.byteCells l) w->Lib.BuilderAt 258 5 B b p (Lib.byteCells l) w':=by rintro p ⟨hB,v,hb,C,O⟩;have M:b<w:=QA;refine⟨hB,v,(J.block b M (λhm=>by have:=F b hm;omega)).trans hb,Xy C J (λg U hm=> ?_),O⟩;have:=F g hm;have:=(C.lt g U).1;omega
 exact h.imp (k _) (k _)
def Bld.after(h:Bld w B b l)(hb:Below w w w'):Bld w' B b l:=h.fr (Z1 (L:=[]) hb) Qx
def F8(B b:Nat)(l:Ql)(s:Qq)(w:Qs)(h:Bld w B b l)(hlen:l.length+s.size<=140737488355328)(C:B<=w):Calls prog 164 #[b,.string s] w λe w'=>e=.returned (.tuple #[(s.size:Int),.nilIface])/\Bld w' B b (l++s.data.toList)/\Below B w w':=by
 go_fit (VY B b _ s w h (by simpa[Lib.byteCells] using hlen) C);rintro e w' ⟨rfl,hw,hb⟩;refine⟨rfl,Zy ?_,hb⟩;have:Lib.byteCells l++Lib.strCells s=Lib.byteCells (l++s.data.toList):=by simp[Lib.byteCells,Lib.strCells]
 simp_all
def Ka(B b:Nat)(l:Ql)(w:Qs)(h:Bld w B b l)(C:B<=w):Calls prog 165 #[b] w λe w'=>e=.returned (.string ⟨l.toArray⟩)/\Below B w w':=Tryz.Builder_String_any B b l w h C
def xt(a:Qo):Qo:=(a<<<1)^^^(if a.msb then 29#8 else 0#8)
theorem Z8X(a b:Qo):xt (a^^^b)=xt a^^^xt b:=by unfold xt;grind
def Z8Y:xt 0#8=0#8:=by rfl
def xts:Nat->BitVec 8->BitVec 8
 |0,a=>a
 |n+1,a=>xts n (xt a)
def Uo(n:Nat)(a b:Qo):xts n (a^^^b)=xts n a^^^xts n b:=by
 induction n generalizing a b with
 |zero=>rfl
 |succ n ih=>simp[xts];rw[Z8X,ih]
def Up(n:Nat):xts n 0#8=0#8:=by
 induction n with
 |zero=>rfl
 |succ n ih=>simp[xts];rw[Z8Y,ih]
def IO(m n:Nat)(a:Qo):xts (m+n) a=xts m (xts n a):=by
 induction n generalizing a with
 |zero=>rfl
 |succ n ih=>rw[<-ZeS,xts,xts,ih]
def Z90(m n:Nat)(a:Qo):xts m (xts n a)=xts n (xts m a):=by rw[<-IO,<-IO,ZfD]
def tk(c:Bool)(a:Qo):Qo:=if c then a else 0#8
def gm(a b:Qo):Qo:=
 tk (b.getLsbD 0) a^^^tk (b.getLsbD 1) (xts 1 a)^^^tk (b.getLsbD 2) (xts 2 a)^^^tk (b.getLsbD 3) (xts 3 a)^^^
 tk (b.getLsbD 4) (xts 4 a)^^^tk (b.getLsbD 5) (xts 5 a)^^^tk (b.getLsbD 6) (xts 6 a)^^^tk (b.getLsbD 7) (xts 7 a)
def Z7J(c:Bool)(a b:Qo):tk c (a^^^b)=tk c a^^^tk c b:=by cases c<;>simp[tk]
def Z7I(c d:Bool)(a:Qo):tk (c^^d) a=tk c a^^^tk d a:=by cases c<;>cases d<;>simp[tk]
def Z91(n:Nat)(c:Bool)(a:Qo):xts n (tk c a)=tk c (xts n a):=by cases c<;>simp[tk,Up]
def Dn(a b c:Qo):gm a (b^^^c)=gm a b^^^gm a c:=by simp[gm,Z7I];ac_rfl
def Eh(a b c:Qo):gm (a^^^b) c=gm a c^^^gm b c:=by simp[gm,Uo,Z7J];ac_rfl
def OZ(n:Nat)(a b:Qo):gm (xts n a) b=xts n (gm a b):=by simp[gm,Uo,Z91,Z90 n]
def Jp(b:Qo):gm 0#8 b=0#8:=by simp[gm,Up];simp[tk]
def Wj(a:Qo):gm a 0#8=0#8:=by simp[gm,tk]
def Jc(b:Qo):gm 1#8 b=b:=by
 have h:∀n,n<256->gm 1#8 (BitVec.ofNat 8 n)=BitVec.ofNat 8 n:=by decide+kernel
 have:=h b.toNat b.isLt;simp_all
def Bv(a:Qo):gm a 1#8=a:=by simp[gm,tk]
def ex(n:Nat):Qo:=xts n 1#8
def Z1z:ex 255=1#8:=by decide+kernel
def Hc(n:Nat)(b:Qo):gm (ex n) b=xts n b:=by rw[ex,OZ,Jc]
def Fv(m n:Nat):gm (ex m) (ex n)=ex (m+n):=by rw[Hc,ex,ex,IO]
def Z8Z(a:Qo):xts 255 a=a:=by rw[<-Hc,Z1z,Jc]
def Z1A(n:Nat):ex (n+255)=ex n:=by rw[ex,IO,Z8Z];rfl
def Fo(n:Nat):ex (n%255)=ex n:=by
 have h:∀q r,ex (255*q+r)=ex r:=by
  intro q r
  induction q with
  |zero=>simp
  |succ q ih=>rw[show 255*(q+1)+r=(255*q+r)+255 by omega,Z1A,ih]
 conv=>rhs;rw[<-ZeM n 255]
 rw[h]
def PX:Nat->Nat->BitVec 8->BitVec 8->Nat
 |0,i,_,_=>i
 |f+1,i,x,a=>if x=a then i else PX f (i+1) (xt x) a
def lg(a:Qo):Nat:=PX 255 0 1#8 a
def OH:∀n,n<256->n≠0->(lg (BitVec.ofNat 8 n)<255/\ex (lg (BitVec.ofNat 8 n))=BitVec.ofNat 8 n):=by decide+kernel
def Dl(a:Qo)(h:a≠0#8):ex (lg a)=a:=by have:=(OH a.toNat a.isLt (by intro e;apply h;apply ZfU;simpa using e)).2;simp_all
def PY:∀n,n<255->(lg (ex n)=n/\ex n≠0#8):=by decide+kernel
def Z1B(n:Nat):ex n≠0#8:=by rw[<-Fo];exact(PY _ (Zg0 _ Qw)).2
def JT(a b:Qo):gm a b=gm b a:=by
 by_cases ha:a=0#8
 .subst ha;rw[Jp,Wj]
 by_cases hb:b=0#8
 .subst hb;rw[Jp,Wj]
 rw[<-Dl a ha,<-Dl b hb,Fv,Fv,ZfD]
def JD(a b c:Qo):gm (gm a b) c=gm a (gm b c):=by
 by_cases ha:a=0#8
 .subst ha;simp[Jp]
 rw[<-Dl a ha,Hc,OZ,Hc]
def Ef(a b:Qo):gm a b=0#8↔a=0#8∨b=0#8:=by
 constructor
 .intro h;by_cases ha:a=0#8
  .simp_all
  by_cases hb:b=0#8
  .simp_all
  rw[<-Dl a ha,<-Dl b hb,Fv] at h;exact absurd h (Z1B _)
 .rintro(rfl|rfl)
  .exact Jp _
  .exact Wj _
def pw(a:Qo):Nat->BitVec 8
 |0=>1#8
 |n+1=>gm (pw a n) a
def LW(m n:Nat):pw (ex m) n=ex (m*n):=by
 induction n with
 |zero=>rfl
 |succ n ih=>rw[pw,ih,Fv,Nat.mul_succ]
def Z5j(a:Qo)(h:a≠0#8):pw a 255=1#8:=by rw[<-Dl a h,LW,<-Fo,Nat.mul_mod_left];rfl
def iv(a:Qo):Qo:=pw a 254
def Bu(a:Qo)(h:a≠0#8):gm a (iv a)=1#8:=by rw[JT,iv,<-Z5j a h];rfl
def AL(c:Bool)(a:BitVec 16):BitVec 16:=if c then a else 0#16
def rs(k:Nat)(p:BitVec 16):BitVec 16:=p^^^AL (p.getLsbD (k+8)) (285#16<<<k)
def rd:Nat->BitVec 16->BitVec 16
 |0,p=>p
 |k+1,p=>rd k (rs k p)
theorem Z2e(a b:Qo):gm a b=tk (b.getLsbD 0) a^^^gm (xt a) (b>>>1):=by simp[gm,xts];simp[tk];grind
def Z5k(a:Qo)(n:Nat):pw (gm a a) n=pw a (2*n):=by
 induction n with
 |zero=>rfl
 |succ n ih=>rw[pw,ih,show 2*(n+1)=2*n+1+1 from rfl,pw,pw,JD]
def pwi(a:Qo)(n:Int):Qo:=if a=0#8 then(if n=0 then 1#8 else 0#8) else pw a (n%255).toNat
theorem Z5i(A P T:Qo)(k:Nat)(h:gm P (pw A k)=T)(b:Bool)(hb:(k%2==1)=b):gm (if b then gm P A else P) (pw (gm A A) (k / 2))=T:=by
 rw[Z5k];cases b
 .grind
 .have e:k=2*(k / 2)+1:=by simp at hb;omega
  rw[e,pw] at h;simp;rw[JD,JT A,h]
variable{n:Nat}
@[irreducible] def nv (x:Qo):Int:=(x.toNat:Int)
@[irreducible] def bv (a:Int):Qo:=BitVec.ofInt 8 a
@[irreducible] def nw (x:BitVec 16):Int:=(x.toNat:Int)
def WT(x:Qo):nv x=(x.toNat:Int):=by unfold nv;rfl
def AZ(x:Qo):0<=nv x:=by rw[WT];omega
def AY(x:Qo):nv x<256:=by rw[WT];have:=x.isLt;omega
def FJ{a:Int}(h:0<=a)(C:a<256):nv (bv a)=a:=by rw[WT];unfold bv;rw[BitVec.toNat_ofInt];omega
def Xu(x:Qo):bv (nv x)=x:=by rw[WT];unfold bv;simp
def LI{x y:Qo}(h:nv x=nv y):x=y:=by rw[<-Xu x,h,Xu]
def RK(h:n<256):nv (BitVec.ofNat 8 n)=(n:Int):=by rw[WT,BitVec.toNat_ofNat];omega
def Kb(h:n<256):bv (n:Int)=BitVec.ofNat 8 n:=by unfold bv;rw[BitVec.ofInt_natCast]
def LJ(u:UInt8):nv u.toBitVec=(u.toNat:Int):=by rw[WT];rfl
def EF(x y:Qo):bits .xor .u8 (nv x) (nv y)=nv (x^^^y):=by rw[WT,WT,WT,u8_xor_nat _ _ Qw Qw,BitVec.toNat_xor]
def CM:nv 0#8=0:=by rw[WT];rfl
def DB:nv 1#8=1:=by rw[WT];rfl
def BC(x:Qo):nv x=0↔x=0#8:=by
 constructor
 .intro h;apply LI;rw[h,CM]
 .rintro rfl;exact CM
theorem Z7V(x:Qo)(k:Nat):(bits .and .u8 (nv x / 2^k) 1==1)=x.getLsbD k:=by
 have e:nv x / 2^k=((x.toNat / 2^k:Nat):Int):=by rw[WT,Int.natCast_ediv,Int.natCast_pow];rfl
 have h:x.toNat / 2^k<256:=ZfK (Zge _ _) Qw;rw[e];have C:=u8_and_nat (x.toNat / 2^k) 1 h Qw;rw[show((1:Int))=((1:Nat):Int) from rfl,C,Nat.and_one_is_mod,BitVec.getLsbD,Nat.testBit_eq_decide_div_mod_eq,Zgd];grind
def Z4q(x:Qo)(k:Nat):nv x / 2^k=nv (x>>>k):=by rw[WT,WT,ZgB,Zgt,Int.natCast_ediv,Int.natCast_pow];rfl
def Z4r(x:Qo)(h:128<=nv x):bits .xor .u8 (nv x*2%256) 29=nv (xt x):=by
 rw[WT] at h;have e:nv x*(2:Int)%(256:Int)=nv (x<<<1):=by rw[WT,WT,ZfP,Zfk];omega
 have m:x.msb=true:=QA;rw[e,show(29:Int)=nv 29#8 from by rw[WT];rfl,EF,xt,m];rfl
def Z4s(x:Qo)(h:nv x<128):nv x*2=nv (xt x):=by
 rw[WT] at h;have e:nv x*(2:Int)=nv (x<<<1):=by rw[WT,WT,ZfP,Zfk];omega
 have m:x.msb=false:=QA;rw[e,xt,m];simp
def Pp(a b:Nat)(ha:a<9223372036854775808)(hb:b<9223372036854775808):bits .and .i64 (a:Int) (b:Int)=((a&&&b:Nat):Int):=by have h:(BitVec.ofInt 64 (a:Int)).toNat=a:=QA;have C:(BitVec.ofInt 64 (b:Int)).toNat=b:=QA;have:a&&&b<=a:=Nat.and_le_left;show IntKind.i64.wrap ((BitVec.ofInt 64 (a:Int)&&&BitVec.ofInt 64 (b:Int)).toNat:Int)=_;rw[BitVec.toNat_and,h,C];refine Zr _ ⟨?_,?_⟩<;>omega
theorem Z7L(n:Int):(n.tmod 255<0->n%255=n.tmod 255+255)/\(0<=n.tmod 255->n%255=n.tmod 255)/\n.tmod 255<255/\ -255<n.tmod 255:=by grind
theorem Z2S(k:Nat)(h:k<255):(bits .and .i64 (k:Int) 1==1)=(k%2==1):=by have:=Pp k 1 Qw Qw;grind
variable{a b:Int}{k:IntKind}
def MR(h:a=b):Value.int k a=.int k b:=by rw[h]
def Z7Q(a:Int)(C:0<=a)(F:a<256)(w:Qs):Calls prog 273 #[.int .u8 a] w λe w'=>e=.returned (.int .u8 (nv (xt (bv a))))/\w=w':=by
 obtain⟨A,rfl⟩:∃A,a=nv A:=⟨bv a,(FJ C F).symm⟩;rw[Xu];by_cases h:128<=nv A
 .go_enter func273,ntmps273;go_wp2;go_ret;exact⟨A7 (Z4r A h),rfl⟩
 .go_enter func273,ntmps273;go_wp2;go_ret;exact⟨A7 (Z4s A Qw),rfl⟩
def Z4b(A B P T:Qo)(h:P^^^gm A B=T)(b:Bool)(hb:B.getLsbD 0=b):(if b then P^^^A else P)^^^gm (xt A) (B>>>1)=T:=by
 rw[<-h,Z2e A B,hb];cases b
 .simp[tk]
 .simp[tk,Zg2]
def LC(a b:Int)(M:0<=a)(O:a<256)(U:0<=b)(Z:b<256)(w:Qs):Calls prog 255 #[.int .u8 a,.int .u8 b] w λe w'=>e=.returned (.int .u8 (nv (gm (bv a) (bv b))))/\w=w':=by
 obtain⟨h,rfl⟩:∃A,a=nv A:=⟨bv a,(FJ M O).symm⟩;obtain⟨C,rfl⟩:∃A,b=nv A:=⟨bv b,(FJ U Z).symm⟩;rw[Xu,Xu];go_enter func255,ntmps255;go_wp2;go_loop [0,1,5] (λa b p=>∃A B P:Qo,a=.int .u8 (nv A)/\b=.int .u8 (nv B)/\p=.int .u8 (nv P)/\P^^^gm A B=gm h C) (λ_ b _=>(intOf b).toNat)
 .exact⟨h,C,0#8,rfl,rfl,by rw[CM],Qx⟩
 obtain⟨A,B,P,rfl,rfl,rfl,hrel⟩:=hrel;have H:=ZI hrel;clear hrel;have:=AZ A;have:=AY A;have:=AZ B;have:=AY B;by_cases hz:0<nv B
 .cases hl:B.getLsbD 0
  all_goals
   have F:=Z7V B 0;rw[hl] at F;have J:=ZI hl;clear hl;simp[Int.pow_zero,Int.ediv_one] at F;go_wp2_with (go_at_call 273;go_fit (Z7Q _ Qw Qw _);rintro e w' ⟨rfl,rfl⟩);go_round
   .exact⟨xt A,B>>>1,_,by rw[Xu],MR (Z4q B 1),(by first|exact MR (EF P A)|rfl),Z4b A B P _ H.o _ J.o⟩
   simp[intOf];omega
 .go_wp2;go_ret;have hB:B=0#8:=(BC B).1 Qw;exact⟨A7 (by rw[<-H.o,hB,Wj];simp),rfl⟩
def Z5e(a n:Int)(h0:0<=a)(h1:a<256)(h2: -9223372036854775808<=n)(h3:n<=9223372036854775807)(w:Qs):Calls prog 272 #[.int .u8 a,n] w λe w'=>e=.returned (.int .u8 (nv (pwi (bv a) n)))/\w=w':=by
 obtain⟨h,rfl⟩:∃A,a=nv A:=⟨bv a,(FJ h0 h1).symm⟩;rw[Xu];by_cases C:nv h=0
 .have eA:h=0#8:=(BC h).1 C;subst eA;rw[CM];by_cases F:n=0
  .subst F;go_enter func272,ntmps272;go_wp2;go_ret;exact⟨A7 (by simp[pwi,DB]),rfl⟩
  .have:(n==0)=false:=(by simpa using F);have HN:=ZI F;clear F;go_enter func272,ntmps272;go_wp2;go_ret;exact⟨A7 (by simp[pwi,HN.o,CM]),rfl⟩
 .have:(nv h==0)=false:=by simpa using C
  have J:h≠0#8:=λe=>C ((BC h).2 e);have M:Qi (pwi h n=pw h (n%255).toNat):=by unfold Qi;simp[pwi,J]
  have:=ZI C;clear C J;have⟨t1,t2,t3,t4⟩:=Z7L n;generalize hT:pwi h n=T at*
  have T1:=ZI t1;have T2:=ZI t2;clear t1 t2;have HS:Qi (T=pw h (n%255).toNat):=M;clear M hT;by_cases ae:n.tmod 255<0
  all_goals
   go_enter func272,ntmps272;go_wp2;go_loop [0,1,5] (λa n p=>∃ (A P:Qo) (k:Nat),k<255/\a=.int .u8 (nv A)/\n=(k:Int)/\p=.int .u8 (nv P)/\gm P (pw A k)=T) (λ_ n _=>(intOf n).toNat)
   .exact⟨h,1#8,(n%255).toNat,Qw,rfl,MR (by first|(rw[T1.o Qw];omega)|(rw[T2.o Qw];omega)),by rw[DB],by rw[Jc,HS.o]⟩
   obtain⟨A,P,k,hk,rfl,rfl,rfl,hrel⟩:=hrel;have H:=ZI hrel;clear hrel;have:=AZ A;have:=AY A;have:=AZ P;have:=AY P;by_cases J:0<k
   .cases hl:(k%2==1)
    all_goals
     have U:=Z2S k hk;rw[hl] at U;have Z:=ZI hl;clear hl;go_wp2_with (go_at_call 255;go_fit (LC _ _ Qw Qw Qw Qw _);rintro e w' ⟨rfl,rfl⟩);go_round
     .exact⟨gm A A,_,k / 2,Qw,by rw[Xu],QC,(by first|(rw[Xu,Xu];rfl)|rfl),Z5i A P T k H.o _ Z.o⟩
     simp[intOf];omega
   .go_wp2;go_ret;have O:k=0:=Qw;exact⟨A7 (by rw[<-H.o,O,pw,Bv]),rfl⟩
def ivv(a:Qo):Qo:=if a=0#8 then 0#8 else iv a
def L8(a:Int)(O:0<=a)(U:a<256)(w:Qs):Calls prog 252 #[.int .u8 a] w λe w'=>e=.returned (.tuple #[.int .u8 (nv (ivv (bv a))),.bool (bv a !=0#8)])/\w=w':=by
 obtain⟨h,rfl⟩:∃A,a=nv A:=⟨bv a,(FJ O U).symm⟩;rw[Xu];by_cases C:nv h=0
 .have M:h=0#8:=(BC h).1 C;subst M;rw[CM];go_enter func252,ntmps252;go_wp2;go_ret2;exact⟨by simp[ivv,CM],rfl⟩
 .have:(nv h==0)=false:=by simpa using C
  have F:h≠0#8:=λe=>C ((BC h).2 e);have J:=ZI F;clear C F;go_enter func252,ntmps252;go_wp2_with (go_at_call 272;go_fit (Z5e _ _ Qw Qw Qw Qw _);rintro e w' ⟨rfl,rfl⟩);go_ret2;exact⟨by simp[ivv,J.o,pwi,iv,Xu],rfl⟩
def Px(a:Qo)(h:a≠0#8):iv a≠0#8:=by intro e;have:=Bu a h;rw[e,Wj] at this;exact absurd this Qz
def scl(t:Qo)(a b:Ql):Ql:=List.zipWith (λx y=>UInt8.ofBitVec (x.toBitVec^^^gm t y.toBitVec)) a b
def Mh(t:Qo)(a b:Ql)(h:a.length=b.length):(scl t a b).length=a.length:=by simp[scl,h]
def JX{α:Type}(k:Nat)(a a':List α):List α:=a'.take k++a.drop k
def Hx{α:Type}(k:Nat)(a C:List α)(h:C.length=a.length):(JX k a C).length=a.length:=by simp[JX,h];omega
def RF{α:Type}(a h:List α):JX 0 a h=a:=by simp[JX]
def RC{α:Type}(a C:List α)(k:Nat)(h:C.length=a.length)(F:a.length<=k):JX k a C=C:=by unfold JX;rw[Zi Qw,ZeH Qw,ZdJ]
def RE{α:Type}(k:Nat)(a C:List α)(h:C.length=a.length)(J:k<C.length):(JX k a C).set k C[k]=JX (k+1) a C:=by
 unfold JX;apply ZeB;intro j;rw[Zfb];have hl:k<(List.take k C++List.drop k a).length:=by simp;omega
 by_cases e:k=j
 .subst e;rw[Zx rfl,Zx hl,Za (by simp;omega),ZeR,Zx Qw];simp
 .rw[Zw e];by_cases F:j<k
  .rw[Za (by simp;omega),Za (by simp;omega),ZeR,ZeR,Zx F,Zx Qw]
  .rw[ZdD (by simp;omega),ZdD (by simp;omega),Zf2,Zf2];congr 1;simp;omega
def RD{α:Type}(k:Nat)(a C:List α)(h:C.length=a.length)(F:k<a.length):(JX k a C)[k]? =some a[k]:=by unfold JX;rw[ZdD (by simp;omega),Zf2];simp;rw[show k+(k-min k C.length)=k by omega];simp[F]
def Th(t:Qo)(a b:Ql)(k:Nat)(h:k<a.length)(C:k<b.length):(scl t a b)[k]'(by simp[scl];omega)=UInt8.ofBitVec (a[k].toBitVec^^^gm t b[k].toBitVec):=by simp[scl]
def CN(t:Qo):Qk:=(List.range 256).map λj=>.int .u8 (nv (gm t (BitVec.ofNat 8 j)))
def DF(t:Qo):(CN t).length=256:=by simp[CN]
def LU(t:Qo)(j:Nat)(h:j<256):(CN t)[j]'(by rw[DF];exact h)=.int .u8 (nv (gm t (BitVec.ofNat 8 j))):=by simp[CN]
def Dz:Qk:=List.replicate 256 (.int .u8 0)
def DA:Dz.length=256:=by unfold Dz;exact ZgZ
def Z93:Tryz.zeroCells327=Dz.toArray:=Qy
attribute [local irreducible] Dz CN JX
def Z6x(s t:Qq)(c:Int)(w:Qs)(h:s.size=t.size)(hs:s.size<=9223372036854775807)(h0:0<=c)(h1:c<256):Calls prog 228 #[.string s,.string t,.int .u8 c] w λe w'=>e=.returned (.tuple #[.string ⟨(scl (bv c) s.data.toList t.data.toList).toArray⟩,true])/\Below w w w':=by
 have ct:((s.size:Int) !=(t.size:Int))=false:=by simp[h]
 have hl:s.data.toList.length=s.size:=Qx;have F:t.data.toList.length=t.size:=Qx;have HL:=ZI hl;have HT:=ZI F;have H:=ZI h;clear h hl F;go_enter func228,ntmps228;go_wp2;go_loopw [17] (λi wr=>∃k:Nat,k<=256/\i=(k:Int)/\Row wr w 327 (JX k Dz (CN (bv c)))/\Below w w wr) (λi _=>256- (intOf i).toNat)
 .exact⟨0,Qw,rfl,by rw[RF,Z93];exact Z2 _ _ _,(Zu _ _).alloc (Zt _) _⟩
 obtain⟨k,hk,rfl,C,Z⟩:=hrel;by_cases F:k<256
 .have af:∃v,wr.cell? ⟨w.heap.size,k,none⟩=some v:=⟨_,C.cell (RD k Dz (CN (bv c)) (by rw[DF,DA]) (by rw[DA];exact F))⟩;have⟨v,af⟩:=af;have aj:wr.frozen? ⟨w.heap.size,k,none⟩=false:=C.free (by rw[Hx _ _ _ (by rw[DF,DA]),DA];exact F);have ag:=ZI C;clear C;go_wp2_with (go_at_call 255;go_fit (LC _ _ h0 h1 Qw Qw _);rintro e w' ⟨rfl,rfl⟩);go_roundw
  .refine⟨k+1,Qw,QC,?_,Z.setCell (Zt _) _⟩;have hm:=ag.o.set k (.int .u8 (nv (gm (bv c) (bv (k:Int)))));rw[Kb F,<-LU _ _ F,RE k _ _ (by rw[DF,DA]) (by rw[DF];exact F),LU _ _ F,<-Kb F] at hm;exact hm
  simp[intOf];omega
 .obtain rfl:k=256:=by omega
  rw[RC _ _ _ (by rw[DF,DA]) (by rw[DA];omega)] at C;have HP:=ZI C;have hB:=C.lt;clear C;go_wp2_with (refine MX rfl 9 75 5 _ rfl s rfl underlying9 underlying75 underlying5 ?_;intro g cap r w1 hg C cn ah);have⟨S,hS⟩:=ZL s.data.toList;have⟨T,hT⟩:=ZL t.data.toList;have⟨J,aw⟩:=ZL (scl (bv c) S T);rw[<-hS] at C;have bf:S.length=s.size:=by rw[hS];exact HL.o
  have bu:T.length=s.size:=by rw[hT,H.o];exact HT.o
  have au:J.length=s.size:=by rw[aw,Mh _ _ _ Qw,bf]
  have HS:=ZI hS;have bh:=ZI hT;have bg:=ZI aw;have U:=ZI bf;have cj:=ZI bu;have M:=ZI au;have HR:=ZI C;have bj:=HP.o.after ah;have bz:=ZI bj;have bm:=Z.trans (ah.mono Qw);clear hS hT aw bf bu au C bj Z ah;obtain⟨wo,rfl⟩:∃wo:Qs,wo=wr:=⟨_,rfl⟩;go_loopw [31] (λi wr=>∃k:Nat,k<=s.size/\i=(k:Int)/\Row wr w 327 (CN (bv c))/\Row wr g 5 (QJ (JX k S J)++r)/\Below w w wr) (λi _=>s.size- (intOf i).toNat)
  .exact⟨0,Qw,rfl,bz.o,by rw[RF];exact HR.o,bm⟩
  obtain⟨k,hk,rfl,ae,C,Z⟩:=hrel;by_cases F:k<s.size
  .have ak:k<S.length:=by rw[U.o];exact F
   have aq:k<T.length:=by rw[cj.o];exact F
   have O:k<t.size:=by rw[<-H.o];exact F
   have af:wr.cell? ⟨g,k,none⟩=some (.int .u8 (nv (S[k]'ak).toBitVec)):=by refine C.cell ?_;have hm:=Hx k S J (by rw[U.o,M.o]);rw[Za (by rw[Wd];omega),Bq _ _ Qw,LJ];have:=RD k S J (by rw[U.o,M.o]) ak;rw[Z8 Qw] at this;simp[ZdC] at this;rw[this]
   have aj:wr.frozen? ⟨g,k,none⟩=false:=C.free (by
    have hm:=Hx k S J (by rw[U.o,M.o])
    simp[Wd,hm];omega)
   have bm:((t[k]'O).toNat:Int)<256:=by have:=(t[k]'O).toNat_lt;omega
   have cu:wr.cell? ⟨w.heap.size,(t[k]'O).toNat,none⟩=some (.int .u8 (nv (gm (bv c) (T[k]'aq).toBitVec))):=by
    refine ae.cell ?_;have hx:(t[k]'O).toNat<256:=Qw;rw[Z8 (by rw[DF];exact hx),LU _ _ hx];have e:T[k]'aq=t[k]'O:=by simp[bh.o];exact Hb t k O _
    rw[e,show BitVec.ofNat 8 (t[k]'O).toNat=(t[k]'O).toBitVec from by
     apply ZfU;simp]
   have ag:=ZI C;have ai:=ZI ae;clear C ae;go_wp2;go_still_tail 11,Qy;change wpList _ _ _ _ _ wr.drew;go_wp2;go_roundw
   .refine⟨k+1,Qw,QC,(ai.o.other (by show w.heap.size≠g;omega) _).drew,?_,(Z.setCell (by show w.heap.size<=g;omega) _).drew⟩;rw[EF];have hm:=ag.o.set k (.int .u8 (nv ((S[k]'ak).toBitVec^^^gm (bv c) (T[k]'aq).toBitVec)));have cr:=Hx k S J (by rw[U.o,M.o]);have az:k<J.length:=by rw[M.o];exact F
    have ay:nv ((S[k]'ak).toBitVec^^^gm (bv c) (T[k]'aq).toBitVec)=((J[k]'az).toNat:Int):=by rw[<-LJ];congr 1;have e:=Th (bv c) S T k ak aq;have e2:J[k]'az=(scl (bv c) S T)[k]'(by simp[scl];omega):=(by simp[bg.o]);rw[e2,e]
    rw[ay] at hm⊢;rw[Zg9 _ _ (by rw[Wd];omega),K3,RE k S J (by rw[U.o,M.o]) az] at hm;exact hm.drew
   simp[intOf];omega
  .obtain rfl:k=s.size:=(by omega);rw[RC S J _ (by rw[U.o,M.o]) (by rw[U.o];omega)] at C;have bq:=BJ (P:=prog) wr 75 9 5 underlying75 underlying5 underlying9 C 0 s.size cap J M.o (by rw[Zey,<-M.o,List.take_left' (by rw[Wd])]);clear C ae;go_wp2;go_ret2;exact⟨by rw[bg.o,HS.o,bh.o];rfl,Z⟩
variable{A B M:Nat->Nat->BitVec 8}{a b:BitVec 8}{f:Nat->BitVec 8}{j k r:Nat}{l:List (BitVec 8×BitVec 8)}{p:Nat->Nat}
def sm:Nat->(Nat->BitVec 8)->BitVec 8
 |0,_=>0#8
 |n+1,f=>sm n f^^^f n
def WH{g:Nat->BitVec 8}(h:∀j,j<n->f j=g j):sm n f=sm n g:=by
 induction n with
 |zero=>rfl
 |succ n ih=>rw[sm,sm,ih (λj C=>h j Qw),h n Qw]
def EB(n:Nat)(f g:Nat->BitVec 8):sm n (λj=>f j^^^g j)=sm n f^^^sm n g:=by
 induction n with
 |zero=>simp[sm]
 |succ n ih=>simp[sm,ih];ac_rfl
def Ga(c:Qo)(n:Nat)(f:Nat->BitVec 8):sm n (λj=>gm c (f j))=gm c (sm n f):=by
 induction n with
 |zero=>rw[sm,sm,Wj]
 |succ n ih=>rw[sm,sm,ih,Dn]
def Gb(h:∀j,j<n->f j=0#8):sm n f=0#8:=by
 induction n with
 |zero=>rfl
 |succ n ih=>rw[sm,ih (λj C=>h j Qw),h n Qw];simp
theorem Ak(F:k<n)(h:∀j,j<n->j≠k->f j=0#8):sm n f=f k:=by
 induction n with
 |zero=>omega
 |succ n ih=>
  rw[sm];by_cases e:k=n
  .subst e;rw[Gb (λj C=>h j Qw Qw)];simp
  .grind
def TB(n m:Nat)(f:Nat->Nat->BitVec 8):sm n (λi=>sm m (f i))=sm m (λj=>sm n (λi=>f i j)):=by
 induction n with
 |zero=>rw[sm];exact(Gb λj _=>rfl).symm
 |succ n ih=>rw[sm,ih,<-EB];rfl
def Mq{m:Nat}(F:n<=m){f:Nat->BitVec 8}(h:∀j,n<=j->j<m->f j=0#8):sm m f=sm n f:=by
 induction m with
 |zero=>have:n=0:=by omega
        simp_all
 |succ m ih=>
  by_cases e:n=m+1
  .simp_all
  .rw[sm,ih Qw (λj C J=>h j C Qw),h m Qw Qw];simp
def Ker(r c:Nat)(M:Nat->Nat->BitVec 8)(x:Nat->BitVec 8):Prop:=∀i,i<r->sm c (λj=>gm (M i j) (x j))=0#8
def Xd(M:Nat->Nat->BitVec 8)(t s:Nat)(a:Qo):Nat->Nat->BitVec 8:=λi j=>if i=t then M t j^^^gm a (M s j) else M i j
def Z5Z(c:Nat)(u v x:Nat->BitVec 8)(a:Qo):sm c (λj=>gm (u j^^^gm a (v j)) (x j))=sm c (λj=>gm (u j) (x j))^^^gm a (sm c (λj=>gm (v j) (x j))):=by rw[<-Ga,<-EB];exact WH λj _=>by rw[Eh,JD]
def Lc{c:Nat}{t s:Nat}(hs:s<r)(Z:t<r)(h:s≠t∨a≠1#8)(x:Nat->BitVec 8):Ker r c (Xd M t s a) x↔Ker r c M x:=by
 have U:sm c (λj=>gm (Xd M t s a t j) (x j))=sm c (λj=>gm (M t j) (x j))^^^gm a (sm c (λj=>gm (M s j) (x j))):=by rw[<-Z5Z];exact WH λj _=>by simp[Xd]
 have O:∀i,i≠t->sm c (λj=>gm (Xd M t s a i j) (x j))=sm c (λj=>gm (M i j) (x j)):=λi hi=>WH λj _=>by simp[Xd,hi]
 constructor
 .intro C i hi;by_cases e:i=t
  .subst e;have J:=C i hi;rw[U] at J;by_cases es:s=i
   .subst es;have ha:a≠1#8:=QB;have F:gm (1#8^^^a) (sm c (λj=>gm (M s j) (x j)))=0#8:=by rw[Eh,Jc];exact J
    rcases(Ef _ _).1 F with h3|h3
    .exfalso;apply ha;have:(1#8^^^a)^^^a=0#8^^^a:=QA;rw[Zg2] at this;simpa using this.symm
    .omega
   .have F:=C s hs;rw[O s es] at F;rw[F,Wj] at J;simp_all
  .rw[<-O i e];exact C i hi
 .intro C i hi;by_cases e:i=t
  .subst e;rw[U,C i hi,C s hs,Wj];simp
  .rw[O i e];exact C i hi
structure Xa(r:Nat)(M:Nat->Nat->BitVec 8)(j k:Nat)(p:Nat->Nat):Prop where
 le:k<=r
 lt:∀t,t<k->p t<j
 inc:∀s t,s<t->t<k->p s<p t
 unit:∀t i,t<k->i<r->M i (p t)=if i=t then 1#8 else 0#8
 below:∀i c,k<=i->i<r->c<j->M i c=0#8
 left:∀t c,t<k->c<p t->M t c=0#8
def Z2l(r:Nat)(M:Nat->Nat->BitVec 8)(p:Nat->Nat):Xa r M 0 0 p:=⟨Qw,λt h=>Qw,λs t _ h=>Qw,λt i h=>Qw,λi c _ _ h=>Qw,λt c h=>Qw⟩
def Z2k(g:Xa r M j k p)(h:∀i,k<=i->i<r->M i j=0#8):Xa r M (j+1) k p:=
 ⟨g.le,λt J=>by have:=g.lt t J;omega,g.inc,g.unit,λi c C F O=>by
  by_cases e:c=j
  .subst e;exact h i C F
  .exact g.below i c C F Qw,g.left⟩
theorem Z2m{N M':Nat->Nat->BitVec 8}(g:Xa r M j k p)(J:k<r)(Z:∀i c,i<k->N i c=M i c)(C:∀i c,k<=i->i<r->c<j->N i c=0#8)(h3:N k j=1#8)(F:∀i c,i<r->M' i c=if i=k then N k c else N i c^^^gm (N i j) (N k c)):Xa r M' (j+1) (k+1) (λt=>if t=k then j else p t):=by
 refine⟨Qw,λt O=> ?_,λs t hs O=> ?_,λt i O hi=> ?_,λi c ae U hc=> ?_,λt c O hc=> ?_⟩
 .by_cases e:t=k
  .grind
  .have:=g.lt t Qw;simp[e];omega
 .by_cases e:t=k
  .have:=g.lt s Qw;grind
  .have e2:¬s=k:=(by omega);simp[e,e2];exact g.inc s t hs Qw
 .rw[F _ _ hi];by_cases e:t=k
  .subst e;by_cases e2:i=t
   .simp_all
   .simp[h3,Bv]
  .have h:t<k:=(by omega);have hp:=g.lt t h;simp[e];by_cases e2:i=k
   .grind
   .simp[e2];rw[C k _ Qw J hp,Wj];by_cases e3:i<k
    .rw[Z _ _ e3,g.unit t i h hi];simp
    .grind
 .rw[F _ _ U,Zw Qw];by_cases e:c=j
  .subst e;rw[h3,Bv];simp
  .rw[C i c Qw U Qw,C k c Qw J Qw,Wj];simp
 .by_cases e:t=k
  .simp_all
  .simp[e] at hc;have h:t<k:=Qw;have hp:=g.lt t h;rw[F _ _ Qw,Zw e,Z _ _ h,g.left t c h hc,C k c Qw J Qw,Wj];simp
def L7(h:∀s t,s<t->t<k->p s<p t):∀t,t<k->t<=p t:=by
 intro t
 induction t with
 |zero=>omega
 |succ t ih=>intro C;have:=ih Qw;have:=h t (t+1) Qw C;omega
def Pu(h:∀s t,s<t->t<k->p s<p t){s t:Nat}(F:s<=t)(C:t<k):p s<=p t:=by
 by_cases e:s=t
 .simp_all
 .have:=h s t Qw C;omega
def P7(g:Xa r M j r p)(U:j<=r):∀i c,i<r->c<r->M i c=if i=c then 1#8 else 0#8:=by
 have F:∀d t,t<r->r=t+1+d->p t=t:=by
  intro d
  induction d with
  |zero=>intro t C e;have:=g.lt t C;have:=L7 g.inc t C;omega
  |succ d ih=>intro t C e;have:=ih (t+1) Qw Qw;have:=g.inc t (t+1) Qw Qw;have:=L7 g.inc t C;omega
 intro i c hi hc;have h:=g.unit c i hc hi;rwa[F (r-c-1) c hc Qw] at h
def P6(g:Xa r M j k p)(U:j<=n){c:Nat}(hc:c<j)(Z:∀t,t<k->p t≠c):∃x:Nat->BitVec 8,x c=1#8/\(∀C,c<C->x C=0#8)/\Ker r n M x:=by
 let y:Nat->BitVec 8:=λC=>sm k (λt=>if p t=C then M t c else 0#8);have O:∀C,c<=C->y C=0#8:=λC h=>Gb λt F=>by
  by_cases e:p t=C
  .rw[Zx e];exact g.left t c F QA
  .simp_all
 refine⟨λC=>if C=c then 1#8 else y C,Qx,λC h=>by show(if C=c then 1#8 else y C)=0#8;rw[Zw Qw];exact O C Qw,λi hi=> ?_⟩;have e1:sm n (λC=>gm (M i C) (if C=c then 1#8 else y C))=sm n (λC=>(if C=c then M i c else 0#8)^^^gm (M i C) (y C)):=WH λC _=>by
  by_cases e:C=c
  .subst e;rw[Zx rfl,Zx rfl,O C Qw,Wj,Bv];simp
  .simp_all
 rw[e1,EB,Ak (k:=c) Qw (λC _ h=>by rw[Zw h]),Zx rfl];have e2:sm n (λC=>gm (M i C) (y C))=sm k (λt=>gm (M i (p t)) (M t c)):=by have:sm n (λC=>gm (M i C) (y C))=sm n (λC=>sm k (λt=>gm (M i C) (if p t=C then M t c else 0#8))):=WH λC _=>(Ga _ _ _).symm;rw[this,TB];refine WH λt F=> ?_;rw[Ak (k:=p t) (by have:=g.lt t F;omega) (λC _ h=>by rw[Zw (λe=>h e.symm),Wj]),Zx rfl]
 rw[e2];by_cases J:i<k
 .rw[Ak (k:=i) J (λt F h=>by rw[g.unit t i F hi,Zw (λe=>h e.symm),Jp]),g.unit i i J hi,Zx rfl,Jc];simp
 .rw[Gb (λt F=>by rw[g.unit t i F hi,Zw Qw,Jp]),g.below i c Qw hi hc];simp
theorem Pa(g:Xa r M n k p)(U:k<n):∃x:Nat->BitVec 8,(∃c,c<n/\x c≠0#8)/\Ker r n M x:=by
 have F:∃c,c<n/\∀t,t<k->p t≠c:=by
  by_cases h:∃t,t<k/\p t≠t
  .have⟨t,C,hp⟩:=h;have O:∃t,t<k/\p t≠t/\∀s,s<t->p s=s:=by
    induction t using Nat.strongRecOn with
    |ind t ih=>grind
   have⟨t,C,hp,ae⟩:=O;have:=L7 g.inc t C;refine⟨t,Qw,λs hs=> ?_⟩;by_cases e:s<t
   .grind
   .have:=Pu g.inc (s:=t) (t:=s) Qw hs;omega
  .refine⟨k,U,λt C=> ?_⟩;grind
 have⟨c,hc,Z⟩:=F;have⟨x,hx,_,J⟩:=P6 g (Zt n) hc Z;exact⟨x,⟨c,hc,by rw[hx];decide⟩,J⟩
def idm(i k:Nat):Qo:=if i=k then 1#8 else 0#8
def Wu(n:Nat)(A B:Nat->Nat->BitVec 8)(i k:Nat):Qo:=sm n (λj=>gm (A i j) (B j k))
def aug(n:Nat)(A:Nat->Nat->BitVec 8)(i j:Nat):Qo:=if j<n then A i j else idm i (j-n)
def Inj(n:Nat)(A:Nat->Nat->BitVec 8):Prop:=∀x,Ker n n A x->∀c,c<n->x c=0#8
def Aq(n:Nat)(A B:Nat->Nat->BitVec 8):Prop:=∀i k,i<n->k<n->Wu n A B i k=idm i k
def TA(a b:Nat)(f:Nat->BitVec 8):sm (a+b) f=sm a f^^^sm b (λj=>f (a+j)):=by
 induction b with
 |zero=>simp[sm]
 |succ b ih=>rw[<-ZeS,sm,ih,sm];ac_rfl
def Lx(n m:Nat)(A B C:Nat->Nat->BitVec 8)(i k:Nat):Wu m (Wu n A B) C i k=Wu n A (Wu m B C) i k:=by
 unfold Wu;have e1:sm m (λj=>gm (sm n (λl=>gm (A i l) (B l j))) (C j k))=sm m (λj=>sm n (λl=>gm (gm (A i l) (B l j)) (C j k))):=WH λj _=>by rw[JT,<-Ga];exact WH λl _=>JT _ _
 have e2:sm n (λl=>gm (A i l) (sm m (λj=>gm (B l j) (C j k))))=sm n (λl=>sm m (λj=>gm (gm (A i l) (B l j)) (C j k))):=WH λl _=>by rw[<-Ga];exact WH λj _=>(JD _ _ _).symm
 rw[e1,e2,TB]
def RH(n:Nat)(A:Nat->Nat->BitVec 8)(i k:Nat)(hi:i<n):Wu n idm A i k=A i k:=by unfold Wu;rw[Ak (k:=i) hi (λj _ h=>by unfold idm;rw[Zw (λe=>h e.symm),Jp])];unfold idm;rw[Zx rfl,Jc]
def Z4a(n:Nat)(A:Nat->Nat->BitVec 8)(i k:Nat)(C:k<n):Wu n A idm i k=A i k:=by unfold Wu;rw[Ak (k:=k) C (λj _ h=>by unfold idm;rw[Zw h,Wj])];unfold idm;rw[Zx rfl,Bv]
def RG{A':Nat->Nat->BitVec 8}{i:Nat}(h:∀j,j<n->A i j=A' i j):Wu n A B i k=Wu n A' B i k:=WH λj C=>by rw[h j C]
def Fl(h:a^^^b=0#8):a=b:=by simp_all
def U5{C:Nat->Nat->BitVec 8}(hi:Inj n A)(h:∀i k,i<n->k<n->Wu n A B i k=Wu n A C i k):∀i k,i<n->k<n->B i k=C i k:=by
 intro i k F J;apply Fl;refine hi (λj=>B j k^^^C j k) (λr O=> ?_) i F;have:sm n (λj=>gm (A r j) (B j k^^^C j k))=Wu n A B r k^^^Wu n A C r k:=by unfold Wu;rw[<-EB];exact WH λj _=>Dn _ _ _
 simp_all
def Z3A(hi:Inj n A)(h:Aq n A B):Aq n B A:=by
 have:=U5 (B:=Wu n B A) (C:=idm) hi (λi k F O=>by
  rw[<-Lx,Z4a n A i k O]
  rw[RG (A':=idm) (λj J=>h i j F J),RH n A i k F])
 exact this
def PL{x:Nat->BitVec 8}:Ker n (n+n) (aug n A) (λj=>if j<n then x j else 0#8)↔Ker n n A x:=by
 have e:∀i,sm (n+n) (λj=>gm (aug n A i j) (if j<n then x j else 0#8))=sm n (λj=>gm (A i j) (x j)):=by intro i;rw[Mq (n:=n) Qw (λj h _=>by rw[Zw Qw,Wj])];exact WH λj C=>by simp[aug,C]
 constructor
 .intro h i hi;rw[<-e];exact h i hi
 .intro h i hi;rw[e];exact h i hi
def Z2i(g:Xa n M j n p)(Z:j<=n)(O:∀x,Ker n (n+n) M x↔Ker n (n+n) (aug n A) x):Inj n A/\Aq n A (λi k=>M i (n+k)):=by
 have J:=P7 g Z;have:∀i (x:Nat->BitVec 8),i<n->sm n (λc=>gm (M i c) (x c))=x i:=λi x hi=>by rw[Ak (k:=i) hi (λc hc h=>by rw[J i c hi hc,Zw (λe=>h e.symm),Jp]),J i i hi hi,Zx rfl,Jc]
 constructor
 .intro x hx c hc;have C:=(O _).2 (PL.2 hx) c hc;rw[Mq (n:=n) Qw (λj h _=>by rw[Zw Qw,Wj])] at C;simp_all
 .intro i k hi F;have nl:∀c,¬n+c<n:=Qw;let x:Nat->BitVec 8:=λc=>if c<n then M c (n+k) else idm k (c-n)
  have C:Ker n (n+n) M x:=by
   intro r hr;rw[TA];have:sm n (λc=>gm (M r c) (x c))=M r (n+k):=by rw[WH (g:=λc=>gm (M r c) (M c (n+k))) (λc hc=>by simp[x,hc])];simp_all
   have:sm n (λc=>gm (M r (n+c)) (x (n+c)))=M r (n+k):=by rw[Ak (k:=k) F (λc _ h=>by simp[x,nl,idm,h.symm,Wj])];simp[x,nl,idm,Bv]
   simp_all
  have U:=(O x).1 C i hi;rw[TA] at U;have:sm n (λc=>gm (aug n A i c) (x c))=Wu n A (λi k=>M i (n+k)) i k:=WH λc hc=>by simp[aug,x,hc]
  have:sm n (λc=>gm (aug n A i (n+c)) (x (n+c)))=idm i k:=by rw[Ak (k:=k) F (λc _ h=>by simp[x,nl,idm,h.symm,Wj])];simp[aug,x,nl,idm,Bv]
  simp_all
def Z2j(g:Xa n M n k p)(F:k<n)(J:∀x,Ker n (n+n) M x↔Ker n (n+n) (aug n A) x):¬Inj n A:=by intro hi;obtain⟨x,⟨c,hc,hx⟩,hker⟩:=Pa g F;apply hx;refine hi x (PL.1 ((J _).1 λi C=> ?_)) c hc;rw[Mq (n:=n) Qw (λj h _=>by rw[Zw Qw,Wj])];rw[WH (g:=λc=>gm (M i c) (x c)) (λc hc=>by rw[Zx hc])];exact hker i C
def ls(f:BitVec 8->BitVec 8->BitVec 8):List (Qo×Qo)->BitVec 8
 |[]=>0#8
 |p::l=>f p.1 p.2^^^ls f l
def Lq{f g:BitVec 8->BitVec 8->BitVec 8}(h:∀p,p∈l->f p.1 p.2=g p.1 p.2):ls f l=ls g l:=by
 induction l with
 |nil=>rfl
 |cons p l ih=>rw[ls,ls,h p Qx,ih (λq C=>h q QA)]
def Rl(f g:BitVec 8->BitVec 8->BitVec 8)(l:List (Qo×Qo)):ls (λa b=>f a b^^^g a b) l=ls f l^^^ls g l:=by
 induction l with
 |nil=>simp[ls]
 |cons p l ih=>simp[ls,ih];ac_rfl
def Rj(c:Qo)(f:BitVec 8->BitVec 8->BitVec 8)(l:List (Qo×Qo)):ls (λa b=>gm c (f a b)) l=gm c (ls f l):=by
 induction l with
 |nil=>simp[ls,Wj]
 |cons p l ih=>simp[ls,ih,Dn]
def Rm{f:BitVec 8->BitVec 8->BitVec 8}(h:∀p,p∈l->f p.1 p.2=0#8):ls f l=0#8:=by
 rw[Lq (g:=λ_ _=>0#8) h]
 induction l with
 |nil=>rfl
 |cons p l ih=>rw[ls,ih (λq C=>h q QA)];simp
def Z3M(f:BitVec 8->BitVec 8->BitVec 8)(g:Qo×BitVec 8->BitVec 8×Qo)(l:List (Qo×Qo)):ls f (l.map g)=ls (λa b=>f (g (a,b)).1 (g (a,b)).2) l:=by
 induction l with
 |nil=>rfl
 |cons p l ih=>rw[Zn,ls,ls,ih]
def Z33(a:Qo)(h:a≠0#8):iv a≠0#8:=by intro e;have:=Bu a h;rw[e,Wj] at this;simp_all
def CZ(h:a≠b):a^^^b≠0#8:=λe=>h (Fl e)
def Z5l(z y C:Qo)(h:z≠y):gm (z^^^C) (iv (z^^^y))=1#8^^^gm (C^^^y) (iv (z^^^y)):=by
 have e:z^^^C=(z^^^y)^^^(C^^^y):=by have:(z^^^y)^^^(C^^^y)=(z^^^C)^^^(y^^^y):=QA;simp_all
 rw[e,Eh,Bu _ (CZ h)]
def Z5m(z z0 y:Qo)(h:z≠y)(C:z0≠y):iv (z^^^y)^^^iv (z0^^^y)=gm (z^^^z0) (gm (iv (z0^^^y)) (iv (z^^^y))):=by
 have e:z^^^z0=(z^^^y)^^^(z0^^^y):=by have:(z^^^y)^^^(z0^^^y)=(z^^^z0)^^^(y^^^y):=QA;simp_all
 rw[e,Eh];rw[JT (iv (z0^^^y)) (iv (z^^^y)),<-JD,Bu _ (CZ h),Jc,JT (iv (z^^^y)) (iv (z0^^^y)),<-JD,Bu _ (CZ C),Jc,BitVec.xor_comm]
def Z0f:∀ (n:Nat) (L:List (Qo×Qo)) (Z:List Qo),L.length=n->n<=Z.length->(L.map (·.1)).Nodup->Z.Nodup->(∀z,z∈Z->∀p,p∈L->z≠p.1)-> (∀z,z∈Z->ls (λy x=>gm x (iv (z^^^y))) L=0#8)->∀p,p∈L->p.2=0#8:=by
 intro n
 induction n with
 |zero=>intro L Z hl _ _ _ _ _ p F;have:L=[]:=ZdW.1 hl;subst this;simp at F
 |succ n ih=>
  intro L Z hl hz hL hZ J heq
  match L,hl,Z,hz with
  |(C,x0)::L,hl,z0::Z,hz=>
   have ay:L.length=n:=(by simpa using hl);have ak:n<=Z.length:=(by simpa using hz);have hy:∀p,p∈L->C≠p.1:=by intro p F e;have h:=(ZdR.1 (by simpa using hL:(C::L.map (·.1)).Nodup)).1;exact h QB
   have aw:(L.map (·.1)).Nodup:=(ZdR.1 (by simpa using hL:(C::L.map (·.1)).Nodup)).2;have ai:=ZdR.1 hZ
   -- each equation, times (z + C)
   have hmul:∀z,z∈z0::Z->(x0^^^ls (λ_ x=>x) L)^^^ls (λy x=>gm (gm x (C^^^y)) (iv (z^^^y))) L=0#8:=by
    intro z O;have h:=heq z O;have aq:z≠C:=J z O (C,x0) Qx;have U:gm (z^^^C) (ls (λy x=>gm x (iv (z^^^y))) ((C,x0)::L))=0#8:=(by rw[h,Wj]);rw[ls,Dn,<-Rj] at U;have e1:gm (z^^^C) (gm x0 (iv (z^^^C)))=x0:=(by rw[JT x0,<-JD,Bu _ (CZ aq),Jc]);have e2:ls (λy x=>gm (z^^^C) (gm x (iv (z^^^y)))) L=ls (λy x=>x^^^gm (gm x (C^^^y)) (iv (z^^^y))) L:=Lq λp F=>by have ah:=J z O p QA;rw[JT p.2 (iv _),<-JD,Z5l z p.1 C ah,Eh,Jc,JT (gm (C^^^p.1) (iv (z^^^p.1))) p.2,JD]
    simp only at U;rw[e1,e2,Rl] at U;rw[<-U];ac_rfl
   have h0:=hmul z0 Qx
   -- the equation of z0 taken away, divided by (z + z0)
   have af:∀z,z∈Z->ls (λy x=>gm x (iv (z^^^y))) (L.map λp=>(p.1,gm (gm p.2 (C^^^p.1)) (iv (z0^^^p.1))))=0#8:=by
    intro z O;have h:=hmul z QB;have au:z≠z0:=λe=>ai.1 (e▸O);have h2:ls (λy x=>gm (gm x (C^^^y)) (iv (z^^^y))) L=ls (λy x=>gm (gm x (C^^^y)) (iv (z0^^^y))) L:=by have a:=Fl h;have b:=Fl h0;rw[<-a,<-b]
    have h3:ls (λy x=>gm (gm x (C^^^y)) (iv (z^^^y))^^^gm (gm x (C^^^y)) (iv (z0^^^y))) L=0#8:=by rw[Rl,h2];simp
    have h4:ls (λy x=>gm (z^^^z0) (gm (gm (gm x (C^^^y)) (iv (z0^^^y))) (iv (z^^^y)))) L=0#8:=by rw[<-h3];refine Lq λp F=> ?_;have ah:=J z QB p QA;have ag:=J z0 Qx p QA;rw[<-Dn,Z5m z z0 p.1 ah ag,JD (gm p.2 (C^^^p.1)),<-JD (z^^^z0),JT (z^^^z0) (gm p.2 (C^^^p.1)),JD]
    rw[Rj] at h4;rcases(Ef _ _).1 h4 with h5|h5
    .exact absurd h5 (CZ au)
    .rw[Z3M];exact h5
   have aj:=ih (L.map λp=>(p.1,gm (gm p.2 (C^^^p.1)) (iv (z0^^^p.1)))) Z QB ak QA ai.2 (by
    intro z O p F;obtain⟨q,hq,rfl⟩:=Zz.1 F
    exact J z QB q QA) af
   have ae:∀p,p∈L->p.2=0#8:=by
    intro p F;have h:=aj _ (Zeq F);simp only at h;rcases(Ef _ _).1 h with h|h
    .rcases(Ef _ _).1 h with h|h
     .exact h
     .exact absurd h (CZ (hy p F))
    .exact absurd h (Z33 _ (CZ (J z0 Qx p QA)))
   intro p F;rcases Zk.1 F with rfl|F
   .rw[Rm (λp F=>ae p F),Rm (λp F=>by rw[ae p F,Jp,Jp])] at h0;simpa using h0
   .exact ae p F
def L9(a:Qo):Qo:=if a=0#8 then 0#8 else iv a
def cau(k i j:Nat):Qo:=L9 (BitVec.ofNat 8 (k+i)^^^BitVec.ofNat 8 j)
def gen(k i j:Nat):Qo:=if i<k then idm i j else cau k (i-k) j
theorem Hz{a b:Nat}(ha:a<256)(hb:b<256)(h:BitVec.ofNat 8 a=BitVec.ofNat 8 b):a=b:=by have:=ZF BitVec.toNat h;grind
def Z70(n:Nat)(f:Nat->BitVec 8)(g:BitVec 8->BitVec 8->BitVec 8)(x:Nat->BitVec 8)(q:Qr)(C:∀j,j<n->q j=false->f j=0#8)(F:∀j,j<n->q j=true->f j=g (BitVec.ofNat 8 j) (x j)):sm n f=ls g (((List.range n).filter q).map λj=>(BitVec.ofNat 8 j,x j)):=by
 induction n with
 |zero=>rfl
 |succ n ih=>
  have J:∀a b,ls g (a++b)=ls g a^^^ls g b:=by
   intro a b
   induction a with
   |nil=>simp[ls]
   |cons p a iha=>rw[Zef,ls,ls,iha];ac_rfl
  rw[sm,ih (λj O=>C j Qw) (λj O=>F j Qw),ZdX,Zeo,Zo,J];congr 1;cases h:q n with
  |false=>rw[C n Qw h];simp[h,ls]
  |true=>rw[F n Qw h];simp[h,ls]
def PW{α:Type}(p:α->Bool)(l:List α):(l.filter p).length+(l.filter λa=> !p a).length=l.length:=by
 induction l with
 |nil=>rfl
 |cons a l ih=>cases h:p a<;>simp[h]<;>omega
theorem RJ{α:Type}[DecidableEq α]:∀ (l l':List α),l.Nodup->(∀a,a∈l->a∈l')->l.length<=l'.length
 |[],_,_,_=>Qx
 |a::l,l',hn,hs=>by
  have C:=ZdR.1 hn
  have:=RJ l (l'.erase a) C.2 (λb hb=>by
   have h:b≠a:=QA
   exact(List.mem_erase_of_ne h).2 (hs b QA))
  grind
theorem Z2Y(k m:Nat)(aq:k+m<=256)(R:Qj)(hl:R.length=k)(hn:R.Nodup)(hr:∀a,a∈R->a<k+m):Inj k (λi j=>gen k (R.getD i 0) j):=by
 intro x hx;have ag:∀a,a∈R->sm k (λj=>gm (gen k a j) (x j))=0#8:=by intro a ha;obtain⟨i,hi,rfl⟩:=Zez ha;have:=hx i Qw;grind
 have ai:∀a,a∈R->a<k->x a=0#8:=by intro a ha U;have h:=ag a ha;rw[Ak (k:=a) U (λj _ aj=>by unfold gen idm;rw[Zx U,Zw (λe=>aj e.symm),Jp])] at h;unfold gen idm at h;rw[Zx U,Zx rfl,Jc] at h;omega
 let q:Qr:=λj=> !(R.contains j);let L:=((List.range k).filter q).map λj=>(BitVec.ofNat 8 j,x j);let H:=R.filter λa=> !(decide (a<k));let Z:=H.map λa=>BitVec.ofNat 8 a;have hH:∀a,a∈H->a∈R/\k<=a:=by grind
 have hq:∀j,q j=true↔j∉R:=by intro j;simp[q]
 have hlen:L.length<=Z.length:=by
  have C:=PW (λa=>decide (a<k)) R;have F:=PW (λj=>R.contains j) (List.range k);have J:(R.filter λa=>decide (a<k)).length<=((List.range k).filter λj=>R.contains j).length:=by refine RJ _ _ (Zgp Zer hn) (λa ha=> ?_);simp_all
  grind
 have af:L.map (·.1)=((List.range k).filter q).map λj=>BitVec.ofNat 8 j:=by simp[L,ZeW,Function.comp_def]
 have ae:∀ (l:Qj),l.Nodup->(∀a,a∈l->a<256)->(l.map λj=>BitVec.ofNat 8 j).Nodup:=by
  intro l
  induction l with
  |nil=>intro _ _;simp
  |cons a l ih=>intro C F;have J:=ZdR.1 C;rw[Zn];refine ZdR.2 ⟨λhm=> ?_,ih J.2 (λb hb=>F b QA)⟩;have⟨b,hb,e⟩:=Zz.1 hm;have:=Hz (F b QA) (F a Qx) e;exact J.1 (this▸hb)
 have ah:=Z0f L.length L Z rfl hlen (by
  rw[af]
  exact ae _ (Zgp Zer ZfE) (λa ha=>by have:=(ZdV.1 ha).1;simp at this;omega)) (ae _ (Zgp Zer hn) (λa ha=>by have:=hr a (hH a ha).1;omega)) (by
  intro z hz p hp e;obtain⟨a,ha,rfl⟩:=Zz.1 hz;obtain⟨j,O,rfl⟩:=Zz.1 hp;have C:=hH a ha;have F:=hr a C.1;have J:=(ZdV.1 O).1;simp at J;have:=Hz Qw Qw e
  omega) (by
  intro z hz;obtain⟨a,ha,rfl⟩:=Zz.1 hz;have C:=hH a ha;have F:=hr a C.1;rw[<-ag a C.1];refine(Z70 k _ _ x q (λj O ak=> ?_) (λj O _=> ?_)).symm
  .have:j∈R:=by
    by_cases hm:j∈R
    .exact hm
    .have:=(hq j).2 hm;rw[ak] at this;exact absurd this Qx
   rw[ai j this O,Wj]
  .unfold gen cau L9
   rw[Zw Qw,show k+(a-k)=a from Qw,Zw (CZ (λe=>by have:=Hz Qw Qw e;omega)),JT])
 intro c hc;by_cases hm:c∈R
 .simp_all
 .exact ah (BitVec.ofNat 8 c,x c) (Zz.2 ⟨c,ZdV.2 ⟨by simp;exact hc,(hq c).2 hm⟩,rfl⟩)
variable{N c g i:Nat}{sp:List Value}
def QZ(l:List Qo):Qk:=l.map λx=>.int .u8 (nv x)
def JG(l:List Qo):(QZ l).length=l.length:=by simp[QZ]
def CJ(l:List Qo)(j:Nat)(h:j<l.length):(QZ l)[j]? =some (.int .u8 (nv l[j])):=by simp[QZ,h]
def tab(n:Nat)(f:Nat->BitVec 8):List Qo:=(List.range n).map f
def YF(n:Nat)(f:Nat->BitVec 8):(tab n f).length=n:=by simp[tab]
def Ji(n:Nat)(f:Nat->BitVec 8)(j:Nat)(h:j<n):(tab n f)[j]'(by rw[YF];exact h)=f j:=by simp[tab]
def Bd{g:Nat->BitVec 8}(h:∀j,j<n->f j=g j):tab n f=tab n g:=by unfold tab;exact Zea λj C=>h j (ZdS.1 C)
theorem ME(f:Nat->BitVec 8)(k:Nat)(x:Qo):(tab n f).set k x=tab n (λj=>if j=k then x else f j):=by
 apply Zeu
 .simp[YF]
 .intro i C h;have hi:i<n:=by rw[YF] at h;exact h
  rw[ZgH,Ji _ _ _ hi,Ji _ _ _ hi];grind
def LE(l:List Qo)(k:Nat)(x:Qo):(QZ l).set k (.int .u8 (nv x))=QZ (l.set k x):=by simp[QZ,Zh6]
def Z7A(n:Nat):tab n (λ_=>0#8)=List.replicate n 0#8:=by simp[tab,List.map_const']
def Z4e(n:Nat):QZ (List.replicate n 0#8)=QJ (List.replicate n 0):=by simp[QZ,QJ,CM]
theorem Jf{p:Addr}{v:Qt}(h:w.cell? p=some v):p.block<w:=by unfold World.cell? at h;grind
def GF{Ls:Qj}(h:Fr Ls w w'){g o:Nat}{v:Qt}(C:g∉Ls)(hc:w.cell? ⟨g,o,none⟩=some v):w'.cell? ⟨g,o,none⟩=some v:=by have hl:=Jf hc;have:=h.block g hl C;unfold World.cell? at hc⊢;simp_all
structure Mt where
 rows:Int
 Zao:Int
 cells:List Qo
def Mt.val(m:Mt)(a:Qm)(cap:Nat):Qt:=.agg #[(m.rows:Int),(m.Zao:Int),.slice a m.cells.length cap]
def Mt.right(m:Mt):Bool:=decide (1<=m.rows/\m.rows<=255/\1<=m.Zao/\m.Zao<=255/\(m.cells.length:Int)=m.rows*m.Zao)
def mat(r c:Nat)(M:Nat->Nat->BitVec 8):Mt:=⟨r,c,tab (r*c) (λj=>M (j / c) (j%c))⟩
def C2(i j:Nat)(h:j<c):(i*c+j) / c=i:=by rw[Ze0,Zgf Qw,ZgI h];omega
def C3(i j:Nat)(h:j<c):(i*c+j)%c=j:=by rw[Ze0,Nat.mul_add_mod,ZeY h]
theorem Hj(hi:i<r)(h:j<c):i*c+j<r*c:=by have:(i+1)*c<=r*c:=Zed c hi;grind
def DK(h:k<r*c):k / c<r:=Nat.div_lt_of_lt_mul QA
theorem Z3U{N:Nat->Nat->BitVec 8}(h:∀i j,i<r->j<c->M i j=N i j):mat r c M=mat r c N:=by unfold mat;congr 1;refine Bd λj C=>h _ _ (DK C) (Zg0 _ ?_);grind
def AK(h:Row w g 5 (QZ (tab N f)++sp))(hi:i<N):w.cell? ⟨g,i,none⟩=some (.int .u8 (nv (f i))):=h.cell (by rw[Za (by rw[JG,YF];exact hi),CJ _ _ (by rw[YF];exact hi),Ji _ _ _ hi])
def MB(h:Y2 w g 5 (QZ (tab N f)))(hi:i<N):w.cell? ⟨g,i,none⟩=some (.int .u8 (nv (f i))):=h.row.cell (by rw[CJ _ _ (by rw[YF];exact hi),Ji _ _ _ hi])
def MC(h:Y2 w g 5 (QZ (tab N f)))(hi:i<N):w.frozen? ⟨g,i,none⟩=false:=h.row.free (by rw[JG,YF];exact hi)
def MD(h:Y2 w g 5 (QZ (tab N f)))(x:Qo):Y2 (w.setCell ⟨g,i,none⟩ (.int .u8 (nv x))) g 5 (QZ (tab N (λj=>if j=i then x else f j))):=by have hm:=h.set i (.int .u8 (nv x));rw[LE,ME] at hm;omega
def Fy(n:Int)(w:Qs):Calls prog 253 #[n] w λe w'=>e=.returned (.bool (decide (1<=n/\n<=255)))/\w=w':=by
 by_cases h:1<=n
 .by_cases C:n<=255
  .go_enter func253,ntmps253;go_wp2;go_ret;simp_all
  .go_enter func253,ntmps253;go_wp2;go_ret;simp_all
 .go_enter func253,ntmps253;go_wp2;go_ret;exact⟨by simp;omega,rfl⟩
def Z5L(m:Mt)(a:Qm)(cap:Nat)(w:Qs)(hl:m.cells.length<=maxLen):Calls prog 223 #[m.val a cap] w λe w'=>e=.returned m.right/\Below w w w':=by
 have⟨r,c,l⟩:=m;show Calls prog 223 #[.agg #[(r:Int),(c:Int),.slice a l.length cap]] w _;simp only at hl;unfold maxLen at hl;have Z:(⟨r,c,l⟩:Mt).right=(decide (1<=r/\r<=255)&&(decide (1<=c/\c<=255)&&decide ((l.length:Int)=r*c))):=by unfold Mt.right;simp only;rw[Zgd];simp[Zgy,ZeZ];exact⟨λ⟨a,b,c,d,e⟩=>⟨⟨a,b⟩,⟨c,d⟩,e⟩,λ⟨⟨a,b⟩,⟨c,d⟩,e⟩=>⟨a,b,c,d,e⟩⟩
 rw[Z];have:=ZI Z;clear Z;have⟨b1,J⟩:=ZL (decide (1<=r/\r<=255));have⟨b2,O⟩:=ZL (decide (1<=c/\c<=255));rw[<-J,<-O];have C:=ZI J;have F:=ZI O;have U:b1=true->b2=true->0<=r*c/\r*c<=65025:=by intro e1 e2;rw[J,Zgy] at e1;rw[O,Zgy] at e2;exact⟨Int.mul_nonneg Qw Qw,Int.le_trans (Int.mul_le_mul e1.2 e2.2 Qw Qw) Qw⟩
 clear J O;cases b1
 .clear U;go_enter func223,ntmps223;go_wp2_with (go_at_call 253;go_fit (Fy _ _);rintro e w' ⟨he,rfl⟩;have h:=C.o;clear C;rw[<-h] at he;subst he;clear h);go_ret;exact⟨rfl,(Zu _ _).alloc (Zt _) _⟩
 .cases b2
  .clear U;go_enter func223,ntmps223;go_wp2_with (first|(go_at_call 253;have h:=C.o;clear C;go_fit (Fy r _);rintro e w' ⟨he,rfl⟩;rw[<-h] at he;subst he;clear h)|(go_at_call 253;have h:=F.o;clear F;go_fit (Fy c _);rintro e w' ⟨he,rfl⟩;rw[<-h] at he;subst he;clear h));go_ret;exact⟨rfl,(Zu _ _).alloc (Zt _) _⟩
  .have⟨p0,p1⟩:=U rfl rfl;clear U;go_enter func223,ntmps223;go_wp2_with (first|(go_at_call 253;have h:=C.o;clear C;go_fit (Fy r _);rintro e w' ⟨he,rfl⟩;rw[<-h] at he;subst he;clear h)|(go_at_call 253;have h:=F.o;clear F;go_fit (Fy c _);rintro e w' ⟨he,rfl⟩;rw[<-h] at he;subst he;clear h));go_ret;refine⟨?_,(Zu _ _).alloc (Zt _) _⟩;congr 2
theorem Ie(r c i g o n cap:Nat)(w:Qs)(hi:i<r)(Z:r<=255)(hc:1<=c)(U:c<=510)(F:n=r*c)(O:n<=cap)(J:cap<=9223372036854775807):Calls prog 226 #[.agg #[(r:Int),(c:Int),.slice (some ⟨g,o,none⟩) n cap],(i:Int)] w λe w'=>e=.returned (.slice (some ⟨g,o+i*c,none⟩) c (cap-i*c))/\Below w w w':=by
 have C:i*c+c<=n:=by have:(i+1)*c<=r*c:=Zed c hi;grind
 obtain⟨q,h⟩:∃q:Nat,q=i*c:=⟨_,rfl⟩;have:(i:Int)*(c:Int)=(q:Int):=Qw;have:((i:Int)+1)*(c:Int)=((q+c:Nat):Int):=QA;rw[<-h] at C⊢;clear F h;go_enter func226,ntmps226;go_wp2;go_ret;exact⟨by rw[show q+c-q=c from Qw];rfl,(Zu _ _).alloc (Zt _) _⟩
theorem Xq(r c i g n cap:Nat)(w:Qs)(hi:i<r)(O:r<=255)(hc:1<=c)(F:c<=510)(J:n=r*c)(C:n<=cap)(h:cap<=9223372036854775807):Calls prog 226 #[.agg #[(r:Int),(c:Int),.slice g n cap],(i:Int)] w λe w'=>∃q,q=i*c/\q+c<=n/\e=.returned (.slice (some ⟨g,q,none⟩) c (cap-q))/\Below w w w':=by go_fit (Ie r c i g 0 n cap w hi O hc F J C h);rintro e w' ⟨rfl,hb⟩;refine⟨i*c,rfl,?_,by rw[Ze5],hb⟩;have:(i+1)*c<=r*c:=Zed c hi;grind
def Xp(r c g:Nat):Qt:=.agg #[(r:Int),(c:Int),.slice g (r*c) (r*c)]
def EP(r c:Nat)(w:Qs)(h1:r<=510)(h2:c<=510):Calls prog 225 #[(r:Int),(c:Int)] w λe w'=>∃g,e=.returned (Xp r c g)/\w.heap.size<=g/\Y2 w' g 5 (QZ (tab (r*c) λ_=>0#8))/\Below w w w':=by have⟨i0,hi,F,J,O⟩:=ZE Be;have h3:r*c<=510*510:=Ze2 h1 h2;obtain⟨q,hq⟩:∃q:Nat,q=r*c:=⟨_,rfl⟩;have:(r:Int)*(c:Int)=(q:Int):=Qw;unfold Xp;rw[<-hq] at h3⊢;have C:=λW=>EA (P:=prog) 75 5 i0 underlying75 hi F J O q Qw W;rw[<-Z4e,<-Z7A] at C;have⟨Z,U⟩:=ZL (QZ (tab q λ_=>0#8));rw[<-U] at C⊢;clear hi F J O hq U;go_enter func225,ntmps225;go_wp2;exact ZD (v:=.agg #[(r:Int),(c:Int),.slice (some ⟨w.heap.size+1,0,none⟩) q q]) (by simp[results,go_sem]) rfl ⟨_,rfl,Qw,by have h:=Z9u (w.alloc (.cells #[(r:Int),(c:Int),.slice (some ⟨w.heap.size+1,0,none⟩) q q] 250)) 5 Z;rw[show(w.alloc (.cells #[(r:Int),(c:Int),.slice (some ⟨w.heap.size+1,0,none⟩) q q] 250)).heap.size=w.heap.size+1 from Qx] at h;exact h,((Zu _ _).alloc (Zt _) _).alloc Qx _⟩
def Us(w:Qs)(b:Nat)(c:Int):Prop:=Row w b 141 [(c:Int),(0:Int),.nilIface]
def YB(B:Nat)(w:Qs)(v:Qt)(c:Int):Prop:=(v=.nilIface/\c=0)∨(c≠0/\∃b,v=.iface 139 (b:Nat)/\B<=b/\Us w b c)
def Z9J(B:Nat)(w:Qs):YB B w .nilIface 0:=Zv ⟨rfl,rfl⟩
def YB.mono{B B':Nat}{v:Qt}{c:Int}(h:YB B w v c)(hB:B'<=B):YB B' w v c:=by
 rcases h with h|⟨hc,b,C,J,F⟩
 .exact Zv h
 .exact Zy ⟨hc,b,C,Qw,F⟩
def JR(c:Int)(hc:c≠0)(w:Qs):Calls prog 224 #[c] w λe w'=>∃v,e=.returned v/\YB w w' v c/\Below w w w':=by have h:=ZI hc;go_enter func224,ntmps224;go_wp2;go_ret;exact⟨_,rfl,Zy ⟨h.o,w.heap.size,rfl,Zt _,Z2 w _ [.int .i64 c,.int .i64 0,.nilIface]⟩,(Zu _ _).alloc (Zt _) _⟩
def Ae(f:Nat->BitVec 8)(o n:Nat)(t:Qo)(of:Nat->BitVec 8)(j:Nat):Qo:=if o<=j/\j<o+n then f j^^^gm t (of (j-o)) else f j
def UG(f:Nat->BitVec 8)(o:Nat)(t:Qo)(of:Nat->BitVec 8):Ae f o 0 t of=f:=by funext j;unfold Ae;rw[Zw Qw]
theorem UF(f:Nat->BitVec 8)(o k:Nat)(t:Qo)(of:Nat->BitVec 8):(λj=>if j=o+k then f (o+k)^^^gm t (of k) else Ae f o k t of j)=Ae f o (k+1) t of:=by
 funext j;unfold Ae
 grind
def IU(g o n cap g2 o2 n2 ae N:Nat)(f of:Nat->BitVec 8)(sp:Qk)(t:Int)(w:Qs)(h0:0<=t)(h1:t<256)(h:Row w g 5 (QZ (tab N f)++sp))(hN:o+n<=N)(hn:n<=n2)(ai:n<=100000)(ah:∀j,j<n->w.cell? ⟨g2,o2+j,none⟩=some (.int .u8 (nv (of j))))(hd:g2≠g∨o<=o2∨o2+n<=o):Calls prog 254 #[.slice (some ⟨g,o,none⟩) n cap,.slice (some ⟨g2,o2,none⟩) n2 ae,.int .u8 t] w λe w'=>e=.returned (.tuple #[])/\Row w' g 5 (QZ (tab N (Ae f o n (bv t) of))++sp)/\Fr [g] w w':=by
 have U:=ZI h;have af:=ZI ah;clear h ah;go_enter func254,ntmps254;go_wp2;go_loopw [9] (λi wr=>∃k:Nat,k<=n/\i=(k:Int)/\Row wr g 5 (QZ (tab N (Ae f o k (bv t) of))++sp)/\Fr [g] w wr) (λi _=>n- (intOf i).toNat)
 .exact⟨0,Qw,rfl,by rw[UG];exact U.o,Fr.refl _ _⟩
 obtain⟨k,hk,rfl,h,C⟩:=hrel;by_cases ag:k<n
 .have J:∀i,i<N->wr.cell? ⟨g,i,none⟩=some (.int .u8 (nv (Ae f o k (bv t) of i))):=λi hi=>h.cell (by rw[Za (by rw[JG,YF];exact hi),CJ _ _ (by rw[YF];exact hi),Ji _ _ _ hi]);have:wr.cell? ⟨g,o+k,none⟩=some (.int .u8 (nv (f (o+k)))):=by rw[J (o+k) Qw];unfold Ae;rw[Zw Qw]
  have:wr.cell? ⟨g2,o2+k,none⟩=some (.int .u8 (nv (of k))):=by
   by_cases e:g2=g
   .subst e;have hl:o2+k<N∨¬o2+k<N:=Qw;have Z:=af.o k ag;by_cases hl:o2+k<N
    .rw[J _ hl];have h8:w.cell? ⟨g2,o2+k,none⟩=some (.int .u8 (nv (f (o2+k)))):=U.o.cell (by rw[Za (by rw[JG,YF];exact hl),CJ _ _ (by rw[YF];exact hl),Ji _ _ _ hl]);rw[<-Z,h8];unfold Ae;rw[Zw Qw]
    .have hx:=U.o;have⟨fz,hh,_⟩:=hx;have⟨ak,aj,_⟩:=h;rw[Zh0 _ _ _ _ _ _ hh] at Z;rw[Zh0 _ _ _ _ _ _ aj];rw[<-Z];simp[ZfV];rw[ZdD (by rw[JG,YF];omega),ZdD (by rw[JG,YF];omega)];simp[JG,YF]
   .exact GF C QB (af.o k ag)
  have:wr.frozen? ⟨g,o+k,none⟩=false:=h.free (by rw[Zb,JG,YF];omega);have F:=ZI h;have O:=ZI C;have:k<n2:=Qw;clear h C J hd;go_wp2;go_still_tail 12,Qy
  still_call (BN (LC _ _ h0 h1 (AZ _) (AY _) _))
  repeat still_step
  refine Zfw ?_;change wpList _ _ _ _ _ wr.drew;go_wp2;go_roundw
  .refine⟨k+1,Qw,QC,?_,(O.o.setCell (Zv Qx) _).drew⟩;rw[Xu,EF];have hm:=F.o.set (o+k) (.int .u8 (nv (f (o+k)^^^gm (bv t) (of k))));rw[Zg9 _ _ (by rw[JG,YF];omega),LE,ME,UF] at hm;exact hm.drew
  simp[intOf];omega
 .obtain rfl:k=n:=by omega
  have F:=ZI h;have O:=ZI C;clear h C hd;go_wp2;go_end0;exact⟨rfl,F.o,O.o⟩
variable{B:Nat}{T:TypeId}{a b c v x y z:Value}{k:Int}{w0:World}
def BA:Qt:=.agg #[(0:Int),(0:Int),()]
def Xh(h:Row w g T [x,y,z]):Row (((w.setCell g a).setCell ⟨g,1,none⟩ b).setCell ⟨g,2,none⟩ c) g T [a,b,c]:=((h.set 0 a).set 1 b).set 2 c
def Xz(h:Below B w0 w)(hB:B<=g):Below B w0 (((w.setCell g a).setCell ⟨g,1,none⟩ b).setCell ⟨g,2,none⟩ c):=((h.setCell hB a).setCell hB b).setCell hB c
def YB.setCell(h:YB B w v k)(O:g<B)(j:Nat):YB B (w.setCell ⟨g,j,none⟩ a) v k:=by
 rcases h with h|⟨hc,f,C,F,J⟩
 .exact Zv h
 .exact Zy ⟨hc,f,C,F,Row.other J QA _⟩
def B7(h:YB B w v k)(C:g<B):YB B (((w.setCell g a).setCell ⟨g,1,none⟩ b).setCell ⟨g,2,none⟩ c) v k:=((h.setCell C 0).setCell C 1).setCell C 2
def Z97(n:Int)(w:Qs)(h:n<1∨255<n):Calls prog 220 #[n] w λe w'=>∃ev,e=.returned (.tuple #[BA,ev])/\YB w w' ev 1/\Below w w w':=by
 have hx:(n<1)∨(¬n<1/\255<n):=Qw;have J:=Z2 w 250 [.int .i64 0,.int .i64 0,.slice none 0 0];have F:=ZI J;rcases hx with hx|⟨hx,ae⟩
 all_goals
  go_enter func220,ntmps220;go_wp2_with (go_at_call 224;go_fit (JR 1 Qw _);rintro e w1 ⟨ev,rfl,he,hb⟩;have hB:=F.o.after hb;have:=hB.c0;have:=hB.c1;have:=hB.c2;have:=hB.free (j:=0) Qx;have:=hB.free (j:=1) Qx;have:=hB.free (j:=2) Qx;have O:=ZI he;have C:=ZI hb;clear he hb hB);have U:=(Xh (a:=.int .i64 0) (b:=.int .i64 0) (c:=.slice none 0 0) (F.o.after C.o)).c0;have Z:=(Xh (a:=.int .i64 0) (b:=.int .i64 0) (c:=.slice none 0 0) (F.o.after C.o)).c1;have y2:=(Xh (a:=.int .i64 0) (b:=.int .i64 0) (c:=.slice none 0 0) (F.o.after C.o)).c2;exact ZD (v:=.tuple #[.agg #[(0:Int),(0:Int),()],ev]) (by simp[results,go_sem,U,Z,y2]) rfl ⟨ev,rfl,(B7 O.o Qx).mono Qx,Xz (((Zu _ _).alloc (Zt _) _).trans (C.o.mono Qx)) (Zt _)⟩
def idF(n k j:Nat):Qo:=if j / n=j%n/\j / n<k then 1#8 else 0#8
def Z2X(n:Nat):(λ_=>0#8)=idF n 0:=by funext j;unfold idF;rw[Zw Qw]
theorem Z2W(n k:Nat)(h:k<n):(λj=>if j=k*n+k then 1#8 else idF n k j)=idF n (k+1):=by
 funext j
 unfold idF;by_cases e:j=k*n+k
 .subst e;rw[Zx rfl,C2 k k h,C3 k k h,Zx ⟨rfl,Qw⟩]
 .rw[Zw e];by_cases C:j / n=j%n/\j / n<k
  .grind
  .rw[Zw C,Zw];rintro⟨F,J⟩;apply e;have:=ZeM j n;grind
def Z2V(n:Nat):tab (n*n) (idF n n)=(mat n n idm).cells:=by refine Bd λj h=> ?_;unfold idF idm;have:=DK h;simp_all
def Pt(n:Nat)(w:Qs)(n1:1<=n)(n2:n<=255):Calls prog 220 #[(n:Int)] w λe w'=>∃g,e=.returned (.tuple #[Xp n n g,.nilIface])/\w.heap.size<=g/\Y2 w' g 5 (QZ (mat n n idm).cells)/\Below w w w':=by
 have af:=Z2 w 250 [.int .i64 0,.int .i64 0,.slice none 0 0];have HB:=ZI af;go_enter func220,ntmps220;go_wp2_with (go_at_call 225;go_fit (EP n n _ Qw Qw);rintro e w1 ⟨g,rfl,hg,C,hb⟩;unfold Xp;have ai:=ZI (HB.o.after hb);have Z:=ZI C;have aj:=ZI (((Zu w w).alloc (Zt _) (.cells #[(0:Int),(0:Int),()] 250)).trans (hb.mono Qx));clear C hb HB);have ak:=ZI (Z2 w1 250 [.int .i64 n,.int .i64 n,.slice (g:Nat) (n*n) (n*n)]);have:w.heap.size<g:=by simp at hg;omega
 have:=Z.o.row.lt;have:n*n<=255*255:=Ze2 n2 n2;go_loopw [18] (λi wr=>∃k:Nat,k<=n/\i=(k:Int)/\Y2 wr g 5 (QZ (tab (n*n) (idF n k)))/\Row wr w1 250 [(n:Int),(n:Int),.slice (g:Nat) (n*n) (n*n)]/\Row wr w 250 [(0:Int),(0:Int),()]/\Below w w wr/\w1<wr.heap.size) (λi _=>n- (intOf i).toNat)
 .exact⟨0,Qw,rfl,by rw[<-Z2X];exact Z.o.fr ((Fr.refl [] _).alloc _) Qx,ak.o,ai.o.alloc _,aj.o.alloc Qw _,Qx⟩
 obtain⟨k,hk,rfl,C,F,az,ae,bm⟩:=hrel;have x0:=F.c0;have x1:=F.c1;have x2:=F.c2;have HR:=ZI C;have HX:=ZI F;have h:=ZI az;have O:=ZI ae;by_cases ag:k<n
 .go_wp2_with (go_at_call 226;go_fit (Xq n n k g (n*n) (n*n) _ ag Qw Qw Qw rfl (Zt _) Qw);rintro e w2 ⟨q,ah,bj,rfl,hb⟩;have J:=HR.o.fr (Z1 (L:=[]) hb) Qx;have c0:=MB (i:=q+k) J Qw;have f0:=MC (i:=q+k) J Qw;have aw:=ZI J;have ay:=ZI (HX.o.after hb);have aq:=ZI (h.o.after hb);have au:=ZI (O.o.trans (hb.mono O.o.size));have:=hb.size;have HQ:=ZI ah;clear J hb ah x0 x1 x2);go_roundw
  .refine⟨k+1,Qw,QC,?_,ay.o.other QA _,aq.o.other QA _,au.o.setCell QA _,by simp;omega⟩;have hm:=MD (i:=q+k) aw.o 1#8;rw[HQ.o,Z2W n k ag,DB] at hm;rw[HQ.o];omega
  simp[intOf];omega
 .obtain rfl:k=n:=by omega
  have:=h.o.c0;have:=h.o.c1;have:=h.o.c2;have f0:=h.o.free (j:=0) Qx;have:=h.o.free (j:=1) Qx;have:=h.o.free (j:=2) Qx;go_wp2;have U:=Xh (a:=.int .i64 k) (b:=.int .i64 k) (c:=.slice (g:Nat) (k*k) (k*k)) h.o;have y0:=U.c0;have y1:=U.c1;have y2:=U.c2
  exact ZD (v:=.tuple #[.agg #[(k:Int),(k:Int),.slice (g:Nat) (k*k) (k*k)],.nilIface]) (by simp[results,go_sem,y0,y1,y2]) rfl ⟨g,rfl,Qw,by
   have h9:=HR.o;rw[Z2V] at h9
   exact h9.fr ((((Fr.refl [w.heap.size] wr).setCell (Zv Qx) _).setCell (Zv Qx) _).setCell (Zv Qx) _) QA,Xz O.o (Zt _)⟩
def Z96(r c:Int)(w:Qs)(h:r<1∨255<r∨c<1∨255<c∨256<r+c):Calls prog 221 #[r,c] w λe w'=>∃ev,e=.returned (.tuple #[BA,ev])/\YB w w' ev 1/\Below w w w':=by
 have hx:(r<1)∨(¬r<1/\c<1)∨(¬r<1/\¬c<1/\255<r)∨(¬r<1/\¬c<1/\¬255<r/\255<c)∨(¬r<1/\¬c<1/\¬255<r/\¬255<c/\256<r+c):=Qw;have ae:=Z2 w 250 [.int .i64 0,.int .i64 0,.slice none 0 0];have U:=ZI ae;rcases hx with C|⟨C,F⟩|⟨C,F,Z⟩|⟨C,F,Z,h4⟩|⟨C,F,Z,h4,h5⟩
 all_goals
  go_enter func221,ntmps221;go_wp2_with (go_at_call 224;go_fit (JR 1 Qw _);rintro e w1 ⟨ev,rfl,he,hb⟩;have hB:=U.o.after hb;have:=hB.c0;have:=hB.c1;have:=hB.c2;have:=hB.free (j:=0) Qx;have:=hB.free (j:=1) Qx;have:=hB.free (j:=2) Qx;have HE:=ZI he;have O:=ZI hb;clear he hb hB);have J:=Xh (a:=.int .i64 0) (b:=.int .i64 0) (c:=.slice none 0 0) (U.o.after O.o);have y0:=J.c0;have y1:=J.c1;have y2:=J.c2;exact ZD (v:=.tuple #[.agg #[(0:Int),(0:Int),()],ev]) (by simp[results,go_sem,y0,y1,y2]) rfl ⟨ev,rfl,(B7 HE.o Qx).mono Qx,Xz (((Zu _ _).alloc (Zt _) _).trans (O.o.mono Qx)) (Zt _)⟩
def upF(c:Nat)(M:Nat->Nat->BitVec 8)(t j:Nat):Qo:=if j<t then M (j / c) (j%c) else 0#8
def MO(c:Nat)(M:Nat->Nat->BitVec 8):(λ_=>0#8)=upF c M 0:=by rfl
theorem Z80(c:Nat)(M:Nat->Nat->BitVec 8)(k l:Nat)(h:l<c):(λj=>if j=k*c+l then M k l else upF c M (k*c+l) j)=upF c M (k*c+l+1):=by
 funext j
 unfold upF;by_cases e:j=k*c+l
 .subst e;rw[Zx rfl,Zx Qw,C2 k l h,C3 k l h]
 .grind
def MN(r c:Nat)(M:Nat->Nat->BitVec 8):tab (r*c) (upF c M (r*c))=(mat r c M).cells:=by exact Bd λj h=>by unfold upF;rw[Zx h]
def Z0d(c k l:Nat)(h:c+k<256)(C:l<256):bits .xor .u8 ((c:Int)+(k:Int)) (l:Int)=nv (BitVec.ofNat 8 (c+k)^^^BitVec.ofNat 8 l):=by
 have e:((c:Int)+(k:Int))=nv (BitVec.ofNat 8 (c+k)):=by rw[RK h];omega
 rw[e,<-RK C,EF]
def Z0e(c k l:Nat):ivv (BitVec.ofNat 8 (c+k)^^^BitVec.ofNat 8 l)=cau c k l:=rfl
def Z0g(r c:Nat)(w:Qs)(r1:1<=r)(r2:r<=255)(c1:1<=c)(c2:c<=255)(cn:r+c<=256):Calls prog 221 #[(r:Int),(c:Int)] w λe w'=>∃g,e=.returned (.tuple #[Xp r c g,.nilIface])/\w.heap.size<=g/\Y2 w' g 5 (QZ (mat r c (cau c)).cells)/\Below w w w':=by
 have ag:=Z2 w 250 [.int .i64 0,.int .i64 0,.slice none 0 0];have HB:=ZI ag;have:(1:Int)<=r:=Qw;have:(r:Int)<=255:=Qw;have:(1:Int)<=c:=Qw;have:(c:Int)<=255:=Qw;have:(r:Int)+(c:Int)<=256:=Qw;clear ag;have hq:r*c<=255*255:=Ze2 r2 c2;have⟨N,hN⟩:=ZL (r*c);unfold Xp;rw[<-hN] at hq⊢;have HN:=ZI hN;clear hN;go_enter func221,ntmps221;go_wp2_with (go_at_call 225;go_fit (EP r c _ Qw Qw);rintro e w1 ⟨g,rfl,hg,C,hb⟩;unfold Xp;rw[<-HN.o] at C⊢;have ai:=ZI (HB.o.after hb);have af:=ZI C;have aq:=ZI (((Zu w w).alloc (Zt _) (.cells #[(0:Int),(0:Int),()] 250)).trans (hb.mono Qx));clear C hb HB);have au:=ZI (Z2 w1 250 [.int .i64 r,.int .i64 c,.slice (g:Nat) N N]);have:w.heap.size<g:=by simp at hg;omega
 have:=af.o.row.lt;have:w<w1.heap.size:=ai.o.lt;clear hg;go_loopw [35] (λi wr=>∃k:Nat,k<=r/\i=(k:Int)/\Y2 wr g 5 (QZ (tab N (upF c (cau c) (k*c))))/\Row wr w1 250 [(r:Int),(c:Int),.slice (g:Nat) N N]/\Row wr w 250 [(0:Int),(0:Int),()]/\Below w w wr/\w1<wr.heap.size) (λi _=>r- (intOf i).toNat)
 .exact⟨0,Qw,rfl,by rw[ZfC,<-MO];exact af.o.fr ((Fr.refl [] _).alloc _) Qx,au.o,ai.o.alloc _,aq.o.alloc Qw _,Qx⟩
 obtain⟨k,hk,rfl,C,F,ae,Z,ak⟩:=hrel;have U:=ZI C;have J:=ZI F;have h:=ZI ae;have O:=ZI Z;clear C F ae Z af au ai aq;by_cases bm:k<r
 .go_wp2;obtain⟨wo,rfl⟩:∃wo:Qs,wo=wr:=⟨_,rfl⟩;go_loopw [39] (λi wr=>∃l:Nat,l<=c/\i=(l:Int)/\Y2 wr g 5 (QZ (tab N (upF c (cau c) (k*c+l))))/\Row wr w1 250 [(r:Int),(c:Int),.slice (g:Nat) N N]/\Row wr w 250 [(0:Int),(0:Int),()]/\Below w w wr/\w1<wr.heap.size) (λi _=>c- (intOf i).toNat)
  .exact⟨0,Qw,rfl,U.o,J.o,h.o,O.o,ak⟩
  clear U J h O;obtain⟨l,hl,rfl,C,F,ae,Z,ak⟩:=hrel;have x0:=F.c0;have x1:=F.c1;have x2:=F.c2;have U:=ZI C;have J:=ZI F;have h:=ZI ae;have O:=ZI Z;clear C F ae Z;by_cases aj:l<c
  .have bj:=Z0d c k l Qw Qw;have⟨X,hX⟩:=ZL (BitVec.ofNat 8 (c+k)^^^BitVec.ofNat 8 l);rw[<-hX] at bj;have bh:=ZI hX;clear hX;go_wp2_with (first|(go_at_call 226;go_fit (Xq r c k g N N _ bm Qw Qw Qw HN.o (Zt _) Qw);rintro e w2 ⟨q,aw,cj,rfl,hb⟩;have ah:=U.o.fr (Z1 (L:=[]) hb) Qx;have c0:=MB (i:=q+l) ah Qw;have f0:=MC (i:=q+l) ah Qw;have bf:=ZI ah;have bg:=ZI (J.o.after hb);have ay:=ZI (h.o.after hb);have az:=ZI (O.o.trans (hb.mono O.o.size));have:=hb.size;have HQ:=ZI aw;clear ah hb aw x0 x1 x2)|(go_at_call 252;refine(L8 (nv X) (AZ _) (AY _) _).mono ?_;rw[Xu];rintro e w3 ⟨rfl,rfl⟩));go_roundw
   .refine⟨l+1,Qw,QC,?_,bg.o.other QA _,ay.o.other QA _,az.o.setCell QA _,by simp;omega⟩;have hm:=MD (i:=q+l) bf.o (cau c k l);rw[HQ.o,Z80 c _ k l aj,<-Z0e,<-bh.o] at hm;rw[HQ.o];exact hm
   simp[intOf];omega
  .obtain rfl:l=c:=(by omega);go_wp2;go_roundw
   .exact⟨k+1,Qw,QC,by rw[Zfp,ZfM];exact U.o,J.o,h.o,O.o,ak⟩
   simp[intOf];omega
 .obtain rfl:k=r:=by omega
  have x0:=J.o.c0;have x1:=J.o.c1;have x2:=J.o.c2;have:=h.o.c0;have r1:=h.o.c1;have r2:=h.o.c2;have f0:=h.o.free (j:=0) Qx;have:=h.o.free (j:=1) Qx;have:=h.o.free (j:=2) Qx;go_wp2;have hy:=Xh (a:=.int .i64 k) (b:=.int .i64 c) (c:=.slice (g:Nat) N N) h.o;have y0:=hy.c0;have y1:=hy.c1;have y2:=hy.c2
  exact ZD (v:=.tuple #[.agg #[(k:Int),(c:Int),.slice (g:Nat) N N],.nilIface]) (by simp[results,Tryz.results221,go_sem,y0,y1,y2]) rfl ⟨g,rfl,Qw,by
   have h9:=U.o;rw[HN.o,MN] at h9
   exact h9.fr ((((Fr.refl [w.heap.size] wr).setCell (Zv Qx) _).setCell (Zv Qx) _).setCell (Zv Qx) _) (by simp;omega),Xz O.o (Zt _)⟩
variable{B:Nat->Nat->BitVec 8}{LA LB LX:List Value}{b0 b1 b2 bx c ga gb o oa ob:Nat}{f':Nat->BitVec 8}
def X0(r c:Int)(n:Nat):Bool:=decide (1<=r/\r<=255/\1<=c/\c<=255/\(n:Int)=r*c)
def Jg(r c:Int)(n:Nat)(a:Qm)(cap:Nat)(w:Qs)(hl:n<=maxLen):Calls prog 223 #[.agg #[r,c,.slice a n cap]] w λe w'=>e=.returned (.bool (X0 r c n))/\Below w w w':=by have h:=Z5L ⟨r,c,List.replicate n 0#8⟩ a cap w QB;simpa[Mt.val,Mt.right,X0] using h
theorem DJ(C:1<=r)(F:r<=255)(J:1<=c)(O:c<=255){n:Nat}(h:n=r*c):X0 r c n=true:=by unfold X0;grind
def YL(w:Qs)(g o r c:Nat)(M:Nat->Nat->BitVec 8):Prop:=∀i j,i<r->j<c->w.cell? ⟨g,o+i*c+j,none⟩=some (.int .u8 (nv (M i j)))
def YL.after(h:YL w g o r c M)(hb:Below w w w'):YL w' g o r c M:=λi j hi C=>(hb.cell (p:=⟨g,o+i*c+j,none⟩) (Jf (h i j hi C))).trans (h i j hi C)
def YL.fr(h:YL w g o r c M){L:Qj}(C:Fr L w w')(F:g∉L):YL w' g o r c M:=λi j hi J=>GF C F (h i j hi J)
def QN{c:Qt}(h:Row w g T [a,b,c]):w.cell? g=some a/\w.cell? ⟨g,1,none⟩=some b/\w.cell? ⟨g,2,none⟩=some c:=⟨h.cell rfl,h.cell rfl,h.cell rfl⟩
def Jm{c:Qt}(h:Row w g T [a,b,c]):w.frozen? ⟨g,0,none⟩=false/\w.frozen? ⟨g,1,none⟩=false/\w.frozen? ⟨g,2,none⟩=false:=⟨h.free Qx,h.free Qx,h.free Qx⟩
def Z7H(w:Qs)(h C F v0 v1 v2:Qt):Row (((w.alloc (.cells #[h,C,F] 250)).alloc (.cells #[v0,v1,v2] 250)).alloc (.cells #[(0:Int),(0:Int),()] 250)) w 250 [h,C,F]/\Row (((w.alloc (.cells #[h,C,F] 250)).alloc (.cells #[v0,v1,v2] 250)).alloc (.cells #[(0:Int),(0:Int),()] 250)) (w.heap.size+1) 250 [v0,v1,v2]/\Row (((w.alloc (.cells #[h,C,F] 250)).alloc (.cells #[v0,v1,v2] 250)).alloc (.cells #[(0:Int),(0:Int),()] 250)) (w.heap.size+1+1) 250 [.int .i64 0,.int .i64 0,.slice none 0 0]/\Below w w (((w.alloc (.cells #[h,C,F] 250)).alloc (.cells #[v0,v1,v2] 250)).alloc (.cells #[(0:Int),(0:Int),()] 250)):=by have hs:∀ (W:Qs) (o:Obj),(W.alloc o).heap.size=W.heap.size+1:=Qx;have U:=((Z2 w 250 [h,C,F]).alloc (.cells #[v0,v1,v2] 250)).alloc (.cells #[(0:Int),(0:Int),()] 250);have J:=(Z2 (w.alloc (.cells #[h,C,F] 250)) 250 [v0,v1,v2]).alloc (.cells #[(0:Int),(0:Int),()] 250);have O:=Z2 ((w.alloc (.cells #[h,C,F] 250)).alloc (.cells #[v0,v1,v2] 250)) 250 [.int .i64 0,.int .i64 0,.slice none 0 0];rw[hs] at J;rw[hs,hs] at O;exact⟨U,J,O,(((Zu _ _).alloc (Zt _) _).alloc Qx _).alloc QA _⟩
structure M3(w0:Qs)(b0 b1 b2:Nat)(A B:Qk)(w:Qs):Prop where
 one:Row w b0 250 A
 two:Row w b1 250 B
 res:Row w b2 250 [(0:Int),(0:Int),()]
 bel:Below w0 w0 w
 le:w0<=b2
def M3.after{A B:Qk}(h:M3 w0 b0 b1 b2 A B w)(hb:Below w w w'):M3 w0 b0 b1 b2 A B w':=⟨h.one.after hb,h.two.after hb,h.res.after hb,h.bel.trans (hb.mono h.bel.size),h.le⟩
def Lt(w:Qs)(h C F v0 v1 v2:Qt):M3 w w (w.heap.size+1) (w.heap.size+1+1) [h,C,F] [v0,v1,v2] (((w.alloc (.cells #[h,C,F] 250)).alloc (.cells #[v0,v1,v2] 250)).alloc (.cells #[(0:Int),(0:Int),()] 250)):=by have⟨J,O,U,Z⟩:=Z7H w h C F v0 v1 v2;exact⟨J,O,U,Z,Qw⟩
open Go.RowKit
variable{M':Nat->Nat->BitVec 8}{k:Nat}
def tb(c:Nat)(M:Nat->Nat->BitVec 8)(j:Nat):Qo:=M (j / c) (j%c)
def An(M:Nat->Nat->BitVec 8)(i j:Nat)(h:j<c):tb c M (i*c+j)=M i j:=by unfold tb;rw[C2 i j h,C3 i j h]
def IA(r c:Nat)(M:Nat->Nat->BitVec 8):(mat r c M).cells=tab (r*c) (tb c M):=rfl
theorem Fz(hc:1<=c):(i*c<=j/\j<i*c+c)↔j / c=i:=by
 constructor
 .rintro⟨h,C⟩;obtain⟨m,rfl⟩:∃m,j=i*c+m:=⟨j-i*c,Qw⟩;exact C2 i m Qw
 .rintro rfl;have h:=ZeM j c;have C:=Zg0 j (show 0<c by omega);grind
def MF(M:Nat->Nat->BitVec 8)(t s:Nat)(a:Qo)(hc:1<=c):Ae (tb c M) (t*c) c a (M s)=tb c (Xd M t s a):=by
 funext j
 show(if t*c<=j/\j<t*c+c then M (j / c) (j%c)^^^gm a (M s (j-t*c)) else M (j / c) (j%c))=(if j / c=t then M t (j%c)^^^gm a (M s (j%c)) else M (j / c) (j%c));by_cases h:j / c=t
 .have C:=(Fz hc).2 h;rw[Zx C,Zx h,h];obtain⟨m,rfl⟩:∃m,j=t*c+m:=⟨j-t*c,Qw⟩;rw[C3 t m Qw,show t*c+m-t*c=m from Qw]
 .rw[Zw (λC=>h ((Fz hc).1 C)),Zw h]
def VX:bv 1=1#8:=by rw[show(1:Int)=nv 1#8 from DB.symm,Xu]
def Z3l:∀x,Ker r c M x↔Ker r c M x:=λ_=>Iff.rfl
def WX(M:Nat->Nat->BitVec 8)(k j i:Nat)(a c:Nat):Qo:=if a<i/\a≠k then M a c^^^gm (M a j) (M k c) else M a c
def O4(M:Nat->Nat->BitVec 8)(k j:Nat):WX M k j 0=M:=by rfl
theorem GJ(M:Nat->Nat->BitVec 8)(k j i:Nat)(h:i=k∨M i j=0#8):WX M k j (i+1)=WX M k j i:=by
 funext a c
 unfold WX;by_cases e:a=i
 .subst e;by_cases e2:a=k
  .simp_all
  .rw[Zx ⟨ZgJ a,e2⟩,h.resolve_left e2,Jp];simp
 .grind
def Z0r(M:Nat->Nat->BitVec 8)(k j i a c:Nat)(h:i<=a):WX M k j i a c=M a c:=by unfold WX;rw[Zw Qw]
theorem Z0s(M:Nat->Nat->BitVec 8)(k j i:Nat)(h:i≠k):Xd (WX M k j i) i k (M i j)=WX M k j (i+1):=by
 funext a c
 unfold Xd;by_cases e:a=i
 .subst e;unfold WX;simp_all
 .rw[Zw e];unfold WX;grind
structure Piv(r c:Nat)(M' M1:Nat->Nat->BitVec 8)(j k:Nat):Prop where
 up:∀i x,i<k->M1 i x=M' i x
 low:∀i x,k<=i->i<r->x<j->M1 i x=0#8
 ne:M1 k j≠0#8
 ker:∀x,Ker r c M1 x↔Ker r c M' x
def Z58(g:Xa r M' j k p)(J:M' k j≠0#8):Piv r c M' M' j k:=⟨λ_ _ _=>rfl,λi x h C F=>g.below i x h C F,J,λ_=>Iff.rfl⟩
def Z56{m:Nat}(g:Xa r M' j k p)(F:k<r)(hm:m<r)(ae:k<m)(Z:M' k j=0#8)(U:M' m j≠0#8):Piv r c M' (Xd M' k m 1#8) j k:=by
 refine⟨λi x h=> ?_,λi x J O C=> ?_,?_,λx=> ?_⟩
 .unfold Xd;rw[Zw Qw]
 .unfold Xd;by_cases e:i=k
  .rw[Zx e,g.below k x (Zt _) F C,g.below m x Qw hm C,Wj];simp
  .rw[Zw e,g.below i x J O C]
 .unfold Xd;rw[Zx rfl,Z,Jc];simpa using U
 .exact Lc hm F (Zv Qw) x
theorem Z59{C:Nat->Nat->BitVec 8}(h:Piv r c M' C j k)(F:k<r):Piv r c M' (Xd C k k (ivv (C k j)^^^1#8)) j k/\Xd C k k (ivv (C k j)^^^1#8) k j=1#8:=by
 have J:ivv (C k j)=iv (C k j):=by unfold ivv;rw[Zw h.ne]
 have O:Xd C k k (ivv (C k j)^^^1#8) k j=1#8:=by unfold Xd;rw[Zx rfl,Eh,Jc,J,JT,Bu _ h.ne,<-Zg2,BitVec.xor_comm (C k j),Zg2,BitVec.xor_self,BitVec.xor_zero]
 refine⟨⟨λi x hi=> ?_,λi x h2 h3 U=> ?_,by rw[O];decide,λx=> ?_⟩,O⟩
 .rw[<-h.up i x hi];unfold Xd;rw[Zw Qw]
 .unfold Xd;by_cases e:i=k
  .rw[Zx e,h.low k x (Zt _) F U,Wj];simp
  .rw[Zw e,h.low i x h2 h3 U]
 .rw[Lc F F (Zy ?_) x,h.ker x];intro e;have Z:ivv (C k j)=0#8:=by have:=ZF (λy=>y^^^1#8) e;grind
  rw[J] at Z;exact Px _ h.ne Z
theorem Z57{M M2:Nat->Nat->BitVec 8}(g:Xa r M' j k p)(h:Piv r c M' M2 j k)(F:k<r)(C:M2 k j=1#8):Xa r (WX M2 k j r) (j+1) (k+1) (λt=>if t=k then j else p t):=by refine Z2m g F h.up h.low C (λi x hi=> ?_);unfold WX;simp_all
theorem Z62{C F:Nat}(h:i≠k)(J:C=i*c)(O:F=k*c):C<=F∨F+c<=C:=by
 rcases Nat.lt_or_gt_of_ne h with h8|h8
 .left;rw[J,O];exact Zed c Qw
 .right;have:=Zed c (show k+1<=i by omega);grind
structure Ar(w0:Qs)(g N:Nat)(LX:Qk)(sp:Qk)(f:Nat->BitVec 8)(w:Qs):Prop where
 box:Row w w0 250 LX
 row:Row w g 5 (QZ (tab N f)++sp)
 fr:Fr [g] w0 w
def Ar.after(h:Ar w0 g N LX sp f w)(hb:Below w w w'):Ar w0 g N LX sp f w':=⟨h.box.after hb,h.row.after hb,h.fr.trans (Z1 (L:=[]) hb) Qx⟩
def Ar.add(h:Ar w0 g N LX sp f w)(F:Row w' g 5 (QZ (tab N f')++sp))(C:Fr [g] w w'):Ar w0 g N LX sp f' w':=⟨h.box.fr C (by simp;exact h.box.ne h.row Qx),F,h.fr.trans C (λi hi _=>hi)⟩
def Z7n(r c Zao g cap N:Nat)(M:Nat->Nat->BitVec 8)(sp:Qk)(w:Qs)(r1:1<=r)(Z:r<=255)(c1:1<=c)(c2:c<=510)(hN:N=r*c)(af:N<=cap)(ae:cap<=9223372036854775807)(er:Zao<=c)(ah:Row w g 5 (QZ (tab N (tb c M))++sp)):Calls prog 227 #[.agg #[(r:Int),(c:Int),.slice g N cap],(Zao:Int)] w λe w'=>∃k M' j p,e=.returned (.int .i64 (k:Nat))/\Row w' g 5 (QZ (tab N (tb c M'))++sp)/\Fr [g] w w'/\Xa r M' j k p/\j<=Zao/\(j=Zao∨k=r)/\(∀x,Ker r c M' x↔Ker r c M x):=by
 have:N<=255*510:=by rw[hN];exact Ze2 Z c2
 have S0:Qi (Ar w g N [.int .i64 r,.int .i64 c,.slice g N cap] sp (tb c M) (w.alloc (.cells #[(r:Int),(c:Int),.slice g N cap] 250))):=
  ZI ⟨Z2 _ _ _,ah.alloc _,(Fr.refl _ _).alloc _⟩
 have:=ah.lt;have HN:=ZI hN;clear hN ah;go_enter func227,ntmps227;go_wp2;go_loopw [5,6] (λat_ jj wr=>∃ (k j:Nat) (M':Nat->Nat->BitVec 8) (p:Nat->Nat),at_=(k:Int)/\jj=(j:Int)/\j<=Zao/\Xa r M' j k p/\(∀x,Ker r c M' x↔Ker r c M x)/\Ar w g N [.int .i64 r,.int .i64 c,.slice g N cap] sp (tb c M') wr) (λ_ jj _=>Zao- (intOf jj).toNat)
 .exact⟨0,0,M,λ_=>0,rfl,rfl,Qw,Z2l r M _,Z3l,S0.o⟩
 clear S0;obtain⟨k,j,M',p,rfl,rfl,hj,ai,aj,hs⟩:=hrel;have fx:=ai.le;have HG:=ZI ai;have HK:=ZI aj;have⟨x0,x1,x2⟩:=QN hs.box;have S1:=ZI hs;clear ai aj hs;by_cases ew:j<Zao/\k<r
 .have⟨fy,ag⟩:=ew;go_wp2;obtain⟨wo,rfl⟩:∃wo:Qs,wo=wr:=⟨_,rfl⟩;go_loopw [7] (λrr wr=>∃m:Nat,rr=(m:Int)/\k<=m/\m<=r/\(∀i,k<=i->i<m->M' i j=0#8)/\Ar w g N [.int .i64 r,.int .i64 c,.slice g N cap] sp (tb c M') wr) (λrr _=>r- (intOf rr).toNat)
  .exact⟨k,rfl,Zt _,fx,λi h1 h2=>Qw,S1.o⟩
  clear S1 x0 x1 x2;obtain⟨m,rfl,fw,ju,hz,hs⟩:=hrel;have⟨x0,x1,x2⟩:=QN hs.box;have HZ:=ZI hz;have S2:=ZI hs;clear hz hs;by_cases hm:m<r
  .by_cases bf:nv (M' m j)=0
   .have ft:(nv (M' m j)==0)=true:=(by simpa using bf);have dh:=ZI bf;clear bf;go_wp2_with (go_at_call 226;have F:=S2.o;clear S2;go_fit (Xq r c m g N cap _ hm Z c1 c2 HN.o af ae);rintro e w2 ⟨q,J,jw,rfl,hb⟩;have C:=F.after hb;have c0:=AK (i:=q+j) C.row Qw;rw[J,An M' m j Qw,<-J] at c0;have S3:=ZI C;have:=ZI J;clear F hb C J x0 x1 x2);go_roundw
    case measure=>simp[intOf];omega
    case rel=>exact⟨m+1,QC,Qw,Qw,λi h1 h2=>by
     by_cases e:i=m
     .rw[e];exact(BC _).1 dh.o
     .exact HZ.o i h1 Qw,S3.o⟩
   .have ft:(nv (M' m j)==0)=false:=(by simpa using bf);have dh:=ZI bf;clear bf;refine if hmk:m=k then ?same else ?other
    case' same=>
     have e1:((m:Int)==(r:Int))=false:=by simp;omega
     have e2:((m:Int) !=(k:Int))=false:=(by simp[hmk]);have cr:=Z58 (c:=c) HG.o (by rw[<-hmk];exact λe=>dh.o ((BC _).2 e));have⟨U,aw⟩:=ZL M';have ct:Piv r c M' U j k:=by rw[aw];exact cr
     clear cr;have⟨X,hX⟩:=ZL (U k j);have dm:=ZI aw;have dp:=ZI ct;have cj:=ZI hX;have fo:=ZI hmk;clear aw ct hX hmk;by_cases O:nv X=1
     case' pos=>have cz:(nv X !=1)=false:=(by simp[O]);have dt:=ZI O;clear O
     case' neg=>have cz:(nv X !=1)=true:=(by simpa using O);have dw:=ZI O;clear O
     all_goals
      go_wp2_with (first|(go_at_call 226;have F:=S2.o;clear S2;go_fit (Xq r c m g N cap _ hm Z c1 c2 HN.o af ae);rintro e w2 ⟨q2,J,cw,rfl,hb⟩;have C:=F.after hb;have du:=AK (i:=q2+j) C.row Qw;rw[J,An M' m j Qw,<-J] at du;have⟨gj,ir,jc⟩:=QN C.box;have S3:=ZI C;have fp:=ZI J;clear F hb C J x0 x1 x2)|(go_at_call 226;have F:=S3.o;rw[<-dm.o] at F;clear S3;go_fit (Xq r c k g N cap _ ag Z c1 c2 HN.o af ae);rintro e w4 ⟨q4,J,cy,rfl,hb⟩;have C:=F.after hb;have cn:=AK (i:=q4+j) C.row Qw;rw[J,An U k j Qw,<-J] at cn;rw[<-cj.o] at cn;have⟨gy,iu,jd⟩:=QN C.box;have S4:=ZI C;have fq:=ZI J;clear F hb C J)|(go_at_call 252;refine(L8 (nv X) (AZ _) (AY _) _).mono ?_;rw[Xu];rintro e w5 ⟨rfl,rfl⟩))
    case' other=>
     have e1:((m:Int)==(r:Int))=false:=by simp;omega
     have e2:((m:Int) !=(k:Int))=true:=by simp;omega
     have cr:=Z56 (c:=c) HG.o ag hm Qw (HZ.o k (Zt _) Qw) (λe=>dh.o ((BC _).2 e));have⟨U,aw⟩:=ZL (Xd M' k m 1#8);have ct:Piv r c M' U j k:=by rw[aw];exact cr
     clear cr;have⟨X,hX⟩:=ZL (U k j);have dm:=ZI aw;have dp:=ZI ct;have cj:=ZI hX;have fo:=ZI hmk;clear aw ct hX hmk;by_cases O:nv X=1
     case' pos=>have cz:(nv X !=1)=false:=(by simp[O]);have dt:=ZI O;clear O
     case' neg=>have cz:(nv X !=1)=true:=(by simpa using O);have dw:=ZI O;clear O
     all_goals
      go_wp2_with (go_at_call 226;have F:=S2.o;clear S2;go_fit (Xq r c m g N cap _ hm Z c1 c2 HN.o af ae);rintro e w2 ⟨q2,J,cw,rfl,hb⟩;have C:=F.after hb;have du:=AK (i:=q2+j) C.row Qw;rw[J,An M' m j Qw,<-J] at du;have⟨gj,ir,jc⟩:=QN C.box;have S3:=ZI C;have fp:=ZI J;clear F hb C J x0 x1 x2);go_region_held3 (λw'=>w'.cell? ⟨w,0,none⟩=(r:Int)/\w'.cell? ⟨w.heap.size,1,none⟩=(c:Int)/\w'.cell? ⟨w.heap.size,2,none⟩=some (.slice g N cap)) (first|exact⟨by assumption,by assumption,by assumption⟩)
       (first|(go_at_call 226;have F:=S3.o;clear S3;go_fit (Xq r c k g N cap _ ag Z c1 c2 HN.o af ae);rintro e kf ⟨jq,J,ey,rfl,hb⟩;have C:=(F.after (Zu _ _).drew).after hb;have⟨ia,iw,je⟩:=QN C.box;have dy:=ZI C;have bh:=ZI J;clear F hb C J)|(go_at_call 226;have F:=dy.o;clear dy;go_fit (Xq r c m g N cap _ hm Z c1 c2 HN.o af ae);rintro e kg ⟨fi,J,ez,rfl,hb⟩;have C:=F.after hb;have⟨ib,ix,jf⟩:=QN C.box;have dz:=ZI C;have bj:=ZI J;clear F hb C J)|(go_at_call 254;have F:=dz.o;clear dz;refine(IU g jq c _ g fi c _ N (tb c M') (M' m) sp 1 _ Qw Qw F.row Qw (Zt _) Qw (λi hi=>by rw[AK (i:=fi+i) F.row Qw,bj.o,An _ _ _ hi]) (Zy (Zv (by rw[bh.o,bj.o];exact Zed c fw)))).mono ?_;rintro e kh ⟨rfl,hr,hf⟩;rw[VX,bh.o,MF _ _ _ _ c1] at hr;have C:=F.add hr hf;have⟨ic,iy,jg⟩:=QN C.box;have ee:=ZI C;clear F hr hf C))
      go_wp2_with (first|(go_at_call 226;have F:=ee.o;rw[<-dm.o] at F;clear ee;go_fit (Xq r c k g N cap _ ag Z c1 c2 HN.o af ae);rintro e w4 ⟨q4,J,cy,rfl,hb⟩;have C:=F.after hb;have cn:=AK (i:=q4+j) C.row Qw;rw[J,An U k j Qw,<-J] at cn;rw[<-cj.o] at cn;have⟨gy,iu,jd⟩:=QN C.box;have S4:=ZI C;have fq:=ZI J;clear F hb C J)|(go_at_call 252;refine(L8 (nv X) (AZ _) (AY _) _).mono ?_;rw[Xu];rintro e w5 ⟨rfl,rfl⟩))
    all_goals first
     |have O:=dt
      have⟨M2,ay⟩:=ZL U;have df:Qi (Piv r c M' M2 j k/\M2 k j=1#8):=by rw[ay];exact ZI ⟨dp.o,by rw[<-cj.o];exact LI (dt.o.trans DB.symm)⟩
      have SL:Qi (Ar w g N [.int .i64 r,.int .i64 c,.slice g N cap] sp (tb c M2) w4):=by rw[ay];exact S4
      clear ay
     |have O:=dw
      have eu:=EF (ivv X) 1#8;rw[DB] at eu;go_region_held3 (λw'=>w'.cell? ⟨w,0,none⟩=(r:Int)/\w'.cell? ⟨w.heap.size,1,none⟩=(c:Int)/\w'.cell? ⟨w.heap.size,2,none⟩=some (.slice g N cap)) (first|exact⟨by assumption,by assumption,by assumption⟩)
       (first|(go_at_call 226;have F:=S4.o;clear S4;go_fit (Xq r c k g N cap _ ag Z c1 c2 HN.o af ae);rintro e kj ⟨jr,J,fa,rfl,hb⟩;have C:=(F.after (Zu _ _).drew).after hb;have⟨ie,iz,jh⟩:=QN C.box;have ef:=ZI C;have bm:=ZI J;clear F hb C J)|(go_at_call 226;have F:=ef.o;clear ef;go_fit (Xq r c k g N cap _ ag Z c1 c2 HN.o af ae);rintro e kq ⟨fj,J,fc,rfl,hb⟩;have C:=F.after hb;have⟨ig,j7,ji⟩:=QN C.box;have eh:=ZI C;have bq:=ZI J;clear F hb C J)|(go_at_call 254;have F:=eh.o;clear eh;refine(IU g jr c _ g fj c _ N (tb c U) (U k) sp (nv (ivv X^^^1#8)) _ (AZ _) (AY _) F.row Qw (Zt _) Qw (λi hi=>by rw[AK (i:=fj+i) F.row Qw,bq.o,An _ _ _ hi]) (Zy (Zv (by rw[bm.o,bq.o];exact Zt _)))).mono ?_;rintro e jt ⟨rfl,hr,hf⟩;rw[Xu,bm.o,MF _ _ _ _ c1] at hr;have C:=F.add hr hf;have⟨ij,j8,jk⟩:=QN C.box;have S5:=ZI C;clear F hr hf C))
      clear eu;go_wp2;have⟨M2,ay⟩:=ZL (Xd U k k (ivv X^^^1#8));have df:Qi (Piv r c M' M2 j k/\M2 k j=1#8):=by rw[ay,cj.o];exact ZI (Z59 dp.o ag)
      have SL:Qi (Ar w g N [.int .i64 r,.int .i64 c,.slice g N cap] sp (tb c M2) jt):=by rw[ay];exact S5
      clear ay
    all_goals
     go_loopw [78] (λii wr=>∃i:Nat,ii=(i:Int)/\i<=r/\(∀x,Ker r c (WX M2 k j i) x↔Ker r c M x)/\Ar w g N [.int .i64 r,.int .i64 c,.slice g N cap] sp (tb c (WX M2 k j i)) wr) (λii _=>r- (intOf ii).toNat)
     .exact⟨0,rfl,Qw,λx=>by rw[O4];exact(df.1.ker x).trans (HK.o x),by rw[O4];exact SL.o⟩
     clear SL;obtain⟨i,rfl,hi,aj,hs⟩:=hrel;have⟨x0,x1,x2⟩:=QN hs.box;have de:=ZI aj;have S6:=ZI hs;clear aj hs;by_cases cu:i<r
     .by_cases dj:i=k
      .have fu:((i:Int) !=(k:Int))=false:=(by simp[dj]);have az:=ZI dj;clear dj;go_wp2_with (go_at_call 226;have F:=S6.o;clear S6;go_fit (Xq r c i g N cap _ cu Z c1 c2 HN.o af ae);rintro e w6 ⟨q6,J,ak,rfl,hb⟩;have C:=F.after hb;have au:=AK (i:=q6+j) C.row Qw;rw[J,An (WX M2 k j i) i j Qw,<-J] at au;have S7:=ZI C;have dx:=ZI J;clear F hb C J x0 x1 x2);go_roundw
       .exact⟨i+1,QC,Qw,by rw[GJ M2 k j i (Zv az.o)];exact de.o,by rw[GJ M2 k j i (Zv az.o)];exact S7.o⟩
       simp[intOf];omega
      .have fu:((i:Int) !=(k:Int))=true:=by simp;omega
       have ah:WX M2 k j i i j=M2 i j:=Z0r M2 k j i i j (Zt _);have⟨Y,hY⟩:=ZL (M2 i j);by_cases bg:nv Y=0
       .have cz:(nv Y !=0)=false:=(by simp[bg]);have dq:=ZI bg;have aq:=ZI (ah.trans hY.symm);have HY:=ZI hY;clear bg ah hY;go_wp2_with (go_at_call 226;have F:=S6.o;clear S6;go_fit (Xq r c i g N cap _ cu Z c1 c2 HN.o af ae);rintro e w6 ⟨q6,J,ak,rfl,hb⟩;have C:=F.after hb;have au:=AK (i:=q6+j) C.row Qw;rw[J,An (WX M2 k j i) i j Qw,<-J] at au;rw[aq.o] at au;have S7:=ZI C;have dx:=ZI J;clear F hb C J x0 x1 x2);go_roundw
        .exact⟨i+1,QC,Qw,by rw[GJ M2 k j i (Zy (HY.o.symm.trans ((BC _).1 dq.o)))];exact de.o,by rw[GJ M2 k j i (Zy (HY.o.symm.trans ((BC _).1 dq.o)))];exact S7.o⟩
        simp[intOf];omega
       .have cz:(nv Y !=0)=true:=(by simpa using bg);have dq:=ZI bg;have aq:=ZI (ah.trans hY.symm);have HY:=ZI hY;have az:=ZI dj;clear bg ah hY;go_wp2_with (go_at_call 226;have F:=S6.o;clear S6;go_fit (Xq r c i g N cap _ cu Z c1 c2 HN.o af ae);rintro e w6 ⟨q6,J,ak,rfl,hb⟩;have C:=F.after hb;have au:=AK (i:=q6+j) C.row Qw;rw[J,An (WX M2 k j i) i j Qw,<-J] at au;rw[aq.o] at au;have⟨jy,jz,ke⟩:=QN C.box;have S7:=ZI C;have dx:=ZI J;clear F hb C J x0 x1 x2);go_region_held3 (λw'=>w'.cell? ⟨w,0,none⟩=(r:Int)/\w'.cell? ⟨w.heap.size,1,none⟩=(c:Int)/\w'.cell? ⟨w.heap.size,2,none⟩=some (.slice g N cap)) (first|exact⟨by assumption,by assumption,by assumption⟩)
         (first|(go_at_call 226;have F:=S7.o;clear S7;go_fit (Xq r c i g N cap _ cu Z c1 c2 HN.o af ae);rintro e kt ⟨js,J,fe,rfl,hb⟩;have C:=(F.after (Zu _ _).drew).after hb;have⟨ik,j9,jl⟩:=QN C.box;have ek:=ZI C;have bu:=ZI J;clear F hb C J)|(go_at_call 226;have F:=ek.o;clear ek;go_fit (Xq r c k g N cap _ ag Z c1 c2 HN.o af ae);rintro e ku ⟨fm,J,fg,rfl,hb⟩;have C:=F.after hb;have⟨im,ja,jm⟩:=QN C.box;have eo:=ZI C;have bz:=ZI J;clear F hb C J)|(go_at_call 254;have F:=eo.o;clear eo;go_fit (IU g js c _ g fm c _ N (tb c (WX M2 k j i)) ((WX M2 k j i) k) sp (nv Y) _ (AZ _) (AY _) F.row Qw (Zt _) Qw (λi hi=>by rw[AK (i:=fm+i) F.row Qw,bz.o,An _ _ _ hi]) (Zy (Z62 az.o bu.o bz.o)));rintro e kx ⟨rfl,hr,hf⟩;rw[Xu,bu.o,MF _ _ _ _ c1] at hr;have C:=F.add hr hf;have⟨iq,jb,jo⟩:=QN C.box;have S8:=ZI C;clear F hr hf C))
        go_wp2;go_roundw
        .have fh:=Z0s M2 k j i az.o;exact⟨i+1,QC,Qw,λx=>by rw[<-fh,Lc ag cu (Zv (λh=>az.o h.symm))];exact de.o x,by rw[<-fh,<-HY.o];exact S8.o⟩
        simp[intOf];omega
     .obtain rfl:i=r:=(by omega);go_wp2;go_roundw
      .exact⟨k+1,j+1,WX M2 k j i,λt=>if t=k then j else p t,QC,QC,Qw,Z57 (M:=M') HG.o df.1 ag df.2,de.o,S6.o⟩
      simp[intOf];omega
  .obtain rfl:m=r:=(by omega);have e1:((m:Int)==(m:Int))=true:=Qx;go_wp2;go_roundw
   .exact⟨k,j+1,M',p,rfl,QC,Qw,Z2k HG.o HZ.o,HK.o,S2.o⟩
   simp[intOf];omega
 .have hx:¬j<Zao∨(j<Zao/\¬k<r):=by omega
  clear ew;rcases hx with hx|⟨hx,jx⟩
  all_goals
   go_wp2;go_ret;exact⟨k,M',j,p,rfl,S1.o.row,S1.o.fr,HG.o,hj,Qw,HK.o⟩
variable{P:Program}{Q:Exit->Act->World->Prop}{a:Act}{ops:Array Oper}
def Xn(f:Nat->BitVec 8)(o n:Nat)(of:Nat->BitVec 8)(j:Nat):Qo:=if o<=j/\j<o+n then of (j-o) else f j
def Z3y(f of:Nat->BitVec 8)(o n N:Nat)(h:o+n<=N):(QZ (tab N f)).take o++(QZ (tab n of)++(QZ (tab N f)).drop (o+n))=QZ (tab N (Xn f o n of)):=by
 unfold QZ;rw[<-ZfH,<-List.map_drop,<-Zo,<-Zo];congr 1;apply Zeu
 .simp[YF];omega
 .intro i F C;have hi:i<N:=by rw[YF] at C;exact C
  rw[Ji _ _ _ hi];unfold Xn;by_cases e1:i<o
  .rw[Zw Qw,ZgC (by simp[YF];omega),List.getElem_take,Ji _ _ _ hi]
  .rw[Zgu QA];simp[YF,ZeN (show o<=N by omega)];by_cases e2:i<o+n
   .rw[Zx ⟨Qw,e2⟩,ZgC (by rw[YF];omega),Ji _ _ _ Qw]
   .rw[Zw Qw,Zgu (by rw[YF];omega),List.getElem_drop,Ji _ _ _ (by rw[YF];omega)];congr 1;rw[YF];omega
def SS(w:Qs)(O sT ty elem:Qu)(hu:P.underlying O=some (.slice elem))(ah:(P.info? elem).map (·.size)=some 1)(g o C U gs os F Z n N:Nat)(t:Qu)(f of:Nat->BitVec 8)(af:Y2 w g t (QZ (tab N f)))(hn:n=Nat.min F C)(ae:o+n<=N)(ag:∀j,j<n->w.cell? ⟨gs,os+j,none⟩=some (.int .u8 (nv (of j)))):(Builtin.copy_ #[O,sT] ty #[.slice (some ⟨g,o,none⟩) C U,.slice (some ⟨gs,os,none⟩) F Z]).run P w=.ok (goInt n) (w.setRow g (QZ (tab N (Xn f o n of))).toArray):=by
 have hl:(QZ (tab n of)).length=n:=by rw[JG,YF]
 have h:=run_copy_row (P:=P) w O sT ty elem g o C U ⟨gs,os,none⟩ F Z (QZ (tab N f)).toArray t (QZ (tab n of)) hu ah af Qw
  (λj v hj=>by
   have J:j<n:=QA;rw[CJ _ _ (by rw[YF];exact J),Ji _ _ _ J] at hj;have e1:(⟨gs,os,none⟩:Addr).add j=⟨gs,os+j,none⟩:=by unfold Addr.add;split<;>simp_all
   rw[e1,ag j J];exact hj)
  (by rw[hl];simp[JG,YF];omega)
  (λv hv=>by
   obtain⟨x,_,rfl⟩:=Zz.1 hv
   rfl)
 rw[hl,Zfh,Zd,Z3y f of o n N ae] at h;omega
def Z8F{rest:List Oper}{o:Oper}(ah:o.guard=none)(d s:Operand)(J sT:Qu)(ho:o.op=.call {callee:=.builtin .copy,args:= #[d,s],argTypes:= #[J,sT]})(elem:Qu)(hu:P.underlying J=some (.slice elem))(ai:(P.info? elem).map (·.size)=some 1)(g off C O gs os F Z n N:Nat)(hd:a.eval d=.slice (some ⟨g,off,none⟩) C O)(hs:a.eval s=.slice (some ⟨gs,os,none⟩) F Z)(t:Qu)(f of:Nat->BitVec 8)(U:Y2 w g t (QZ (tab N f)))(hn:n=Nat.min F C)(ae:off+n<=N)(ag:∀j,j<n->w.cell? ⟨gs,os+j,none⟩=some (.int .u8 (nv (of j))))(h:∀w',Y2 w' g t (QZ (tab N (Xn f off n of)))->Fr [g] w w'->wpList P ops Q rest (a.put o.dst (goInt n)) w'):wpList P ops Q (o::rest) a w:=by refine Zgl ah λK hK=> ?_;have af:=SS (P:=P) w J sT o.type elem hu ai g off C O gs os F Z n N t f of U hn ae ag;unfold Oper.wp;simp[execOp,ho,resolve,invoke,builtin,hd,hs,af];exact hK _ _ (h _ (U.setRow _) ((Fr.refl _ _).setRow (Zv Qx) _))
def It{o:Oper}{K:Act->Qs->Prop}{E:Prop}(ah:o.guard=none)(d s:Operand)(J sT:Qu)(ho:o.op=.call {callee:=.builtin .copy,args:= #[d,s],argTypes:= #[J,sT]})(elem:Qu)(hu:P.underlying J=some (.slice elem))(ai:(P.info? elem).map (·.size)=some 1)(g off C O gs os F Z n N:Nat)(hd:a.eval d=.slice (some ⟨g,off,none⟩) C O)(hs:a.eval s=.slice (some ⟨gs,os,none⟩) F Z)(t:Qu)(f of:Nat->BitVec 8)(U:Y2 w g t (QZ (tab N f)))(hn:n=Nat.min F C)(ae:off+n<=N)(ag:∀j,j<n->w.cell? ⟨gs,os+j,none⟩=some (.int .u8 (nv (of j))))(h:∀w',Y2 w' g t (QZ (tab N (Xn f off n of)))->Fr [g] w w'->K (a.put o.dst (goInt n)) w'):if Region.wanted o (yielded ops a.tmps)=true then Oper.wp P o a w K Q else E:=by
 have hw:Region.wanted o (yielded ops a.tmps)=true:=by simp[Region.wanted,ah]
 rw[Zx hw];have af:=SS (P:=P) w J sT o.type elem hu ai g off C O gs os F Z n N t f of U hn ae ag;unfold Oper.wp;simp[execOp,ho,resolve,invoke,builtin,hd,hs,af];exact h _ (U.setRow _) ((Fr.refl _ _).setRow (Zv Qx) _)
def YL.flat(h:YL w g o r c M)(hc:1<=c)(j:Nat)(C:j<r*c):w.cell? ⟨g,o+j,none⟩=some (.int .u8 (nv (tb c M j))):=by have:=h (j / c) (j%c) (DK C) (Zg0 _ Qw);rw[ZeS,Ze0,ZeM] at this;exact this
variable{LY:List Value}{N2 by_ g2:Nat}{f2:Nat->BitVec 8}
theorem Ua(c:Nat)(M:Nat->Nat->BitVec 8)(k:Nat)(hc:1<=c):Xn (upF c M (k*c)) (k*c) c (M k)=upF c M ((k+1)*c):=by
 funext j
 unfold Xn upF;rw[Zfp,ZfM];by_cases h:k*c<=j/\j<k*c+c
 .rw[Zx h,Zx h.2];have C:=(Fz hc).1 h;rw[C];congr 1;obtain⟨m,rfl⟩:∃m,j=k*c+m:=⟨j-k*c,Qw⟩;rw[C3 k m Qw];omega
 .grind
def Bp(n m:Nat)(A:Nat->Nat->BitVec 8)(k j:Nat):Qo:=if j / m<k then aug n A (j / m) (j%m) else 0#8
def Vx(n m:Nat)(A:Nat->Nat->BitVec 8):(λ_=>0#8)=Bp n m A 0:=by rfl
theorem Vw(n m:Nat)(A:Nat->Nat->BitVec 8)(k:Nat)(hm:m=n+n)(h:k<n):(λj=>if j=k*m+(n+k) then 1#8 else Xn (Bp n m A k) (k*m) n (A k) j)=Bp n m A (k+1):=by
 funext j
 have C:1<=m:=Qw;by_cases F:j / m=k
 .have⟨U,Z⟩:=(Fz C).2 F;obtain⟨c,rfl⟩:∃c,j=k*m+c:=⟨j-k*m,Qw⟩;have hc:c<m:=Qw;unfold Bp;rw[C2 k c hc,C3 k c hc,Zx (ZgJ k)];unfold aug;by_cases e:c=n+k
  .rw[Zx Qw,Zw Qw];unfold idm;rw[Zx Qw]
  .rw[Zw Qw];unfold Xn;by_cases J:c<n
   .simp_all
   .rw[Zw Qw,Zw J];show(if(k*m+c) / m<k then _ else 0#8)=_;rw[C2 k c hc,Zw (ZgD k)];unfold idm;rw[Zw Qw]
 .have:¬ (k*m<=j/\j<k*m+m):=λh=>F ((Fz C).1 h);unfold Xn;unfold Bp;grind
def Vu(n m:Nat)(A:Nat->Nat->BitVec 8):tab (n*m) (Bp n m A n)=tab (n*m) (tb m (aug n A)):=Bd λj h=>by unfold Bp tb;rw[Zx (DK h)]
structure AS(w0:Qs)(b0 b2 bx g ga oa r c N:Nat)(A:Nat->Nat->BitVec 8)(LA LX:Qk)(f:Nat->BitVec 8)(w:Qs):Prop where
 one:Row w b0 250 LA
 res:Row w b2 250 [(0:Int),(0:Int),()]
 box:Row w bx 250 LX
 row:Y2 w g 5 (QZ (tab N f))
 src:YL w ga oa r c A
 bel:Below w0 w0 w
def AS.after(h:AS w0 b0 b2 bx g ga oa r c N A LA LX f w)(hb:Below w w w'):AS w0 b0 b2 bx g ga oa r c N A LA LX f w':=⟨h.one.after hb,h.res.after hb,h.box.after hb,h.row.fr (Z1 (L:=[]) hb) Qx,h.src.after hb,h.bel.trans (hb.mono h.bel.size)⟩
def AS.lay(h:AS w0 b0 b2 bx g ga oa r c N A LA LX f w)(U:Y2 w' g 5 (QZ (tab N f')))(C:Fr [g] w w')(Z:w0<=g)(ha:ga<w0):AS w0 b0 b2 bx g ga oa r c N A LA LX f' w':=by
 have F:b0∉[g]:=by simp;exact h.one.ne h.row.row Qx
 have J:b2∉[g]:=by simp;exact h.res.ne h.row.row Qx
 have O:bx∉[g]:=by simp;exact h.box.ne h.row.row Qx
 exact⟨h.one.fr C F,h.res.fr C J,h.box.fr C O,U,h.src.fr C QA,h.bel.trans (C.below h.bel.size (λi hi=>by simp at hi;omega))⟩
structure Cr(w0:Qs)(b2 bx by_ g g2 N N2:Nat)(LX LY:Qk)(f f2:Nat->BitVec 8)(w:Qs):Prop where
 res:Row w b2 250 [(0:Int),(0:Int),()]
 box:Row w bx 250 LX
 boy:Row w by_ 250 LY
 src:Row w g 5 (QZ (tab N f)++[])
 row:Y2 w g2 5 (QZ (tab N2 f2))
 bel:Below w0 w0 w
def Cr.after(h:Cr w0 b2 bx by_ g g2 N N2 LX LY f f2 w)(hb:Below w w w'):Cr w0 b2 bx by_ g g2 N N2 LX LY f f2 w':=⟨h.res.after hb,h.box.after hb,h.boy.after hb,h.src.after hb,h.row.fr (Z1 (L:=[]) hb) Qx,h.bel.trans (hb.mono h.bel.size)⟩
def Cr.lay(h:Cr w0 b2 bx by_ g g2 N N2 LX LY f f2 w)(U:Y2 w' g2 5 (QZ (tab N2 f')))(C:Fr [g2] w w')(hg:w0<=g2)(Z:g≠g2):Cr w0 b2 bx by_ g g2 N N2 LX LY f f' w':=by
 have F:b2∉[g2]:=by simp;exact h.res.ne h.row.row Qx
 have J:bx∉[g2]:=by simp;exact h.box.ne h.row.row Qx
 have O:by_∉[g2]:=by simp;exact h.boy.ne h.row.row Qx
 exact⟨h.res.fr C F,h.box.fr C J,h.boy.fr C O,h.src.fr C QB,U,h.bel.trans (C.below h.bel.size (λi hi=>by simp at hi;omega))⟩
def Z7R(w:Qs)(h C F:Qt):Row ((w.alloc (.cells #[h,C,F] 250)).alloc (.cells #[(0:Int),(0:Int),()] 250)) w 250 [h,C,F]/\Row ((w.alloc (.cells #[h,C,F] 250)).alloc (.cells #[(0:Int),(0:Int),()] 250)) (w.heap.size+1) 250 [.int .i64 0,.int .i64 0,.slice none 0 0]/\Below w w ((w.alloc (.cells #[h,C,F] 250)).alloc (.cells #[(0:Int),(0:Int),()] 250)):=by have hs:∀ (W:Qs) (o:Obj),(W.alloc o).heap.size=W.heap.size+1:=Qx;have O:=(Z2 w 250 [h,C,F]).alloc (.cells #[(0:Int),(0:Int),()] 250);have J:=Z2 (w.alloc (.cells #[h,C,F] 250)) 250 [.int .i64 0,.int .i64 0,.slice none 0 0];rw[hs] at J;exact⟨O,J,((Zu _ _).alloc (Zt _) _).alloc Qx _⟩
structure B2(w0:Qs)(b0 b1:Nat)(LA:Qk)(w:Qs):Prop where
 one:Row w b0 250 LA
 res:Row w b1 250 [(0:Int),(0:Int),()]
 bel:Below w0 w0 w
 le:w0<=b1
def B2.after(h:B2 w0 b0 b1 LA w)(hb:Below w w w'):B2 w0 b0 b1 LA w':=⟨h.one.after hb,h.res.after hb,h.bel.trans (hb.mono h.bel.size),h.le⟩
def F2(w:Qs)(h C F:Qt):B2 w w (w.heap.size+1) [h,C,F] ((w.alloc (.cells #[h,C,F] 250)).alloc (.cells #[(0:Int),(0:Int),()] 250)):=by have⟨J,O,U⟩:=Z7R w h C F;exact⟨J,O,U,Qw⟩
def Nd(w:Qs)(n:Nat)(A:Nat->Nat->BitVec 8)(e:Qv)(w':Qs):Prop:=
 ((¬Inj n A/\∃ev,e=.returned (.tuple #[BA,ev])/\YB w w' ev 18)∨(Inj n A/\∃g B,Aq n A B/\e=.returned (.tuple #[Xp n n g,.nilIface])/\w.heap.size<=g/\Y2 w' g 5 (QZ (mat n n B).cells)))/\Below w w w'
def Z34(n ga oa N cap:Nat)(A:Nat->Nat->BitVec 8)(w:Qs)(n1:1<=n)(n2:n<=255)(hN:N=n*n)(bh:N<=cap)(aq:cap<=9223372036854775807)(ha:YL w ga oa n n A):Calls prog 161 #[.agg #[(n:Int),(n:Int),.slice (some ⟨ga,oa,none⟩) N cap]] w λe w'=>Nd w n A e w':=by
 have hm:=DJ n1 n2 n1 n2 hN;have q1:N<=255*255:=by rw[hN];exact Ze2 n2 n2
 obtain⟨m,bm⟩:=ZL (n+n);obtain⟨C,bg⟩:=ZL (n*m);have q2:C<=255*510:=by rw[bg];exact Ze2 n2 Qw
 have e2:(2:Int)*(n:Int)=(m:Int):=by rw[bm];omega
 have m1:n<m:=Qw;have m2:m<=510:=Qw;have cz:m-n=n:=Qw;have bf:ga<w:=Jf (ha 0 0 Qw Qw);have S0:=ZI (F2 w (.int .i64 n) (.int .i64 n) (.slice (some ⟨ga,oa,none⟩) N cap));have HX:=ZI hm;have HN:=ZI hN;have HM:=ZI bm;have ak:=ZI bg;have df:=ZI cz;have HA:=ZI ha;clear hm hN bm bg cz ha;go_enter func161,ntmps161;go_wp2_with (first|(go_at_call 223;have h:=S0.o;clear S0;refine(Jg n n N _ cap _ (by unfold maxLen;omega)).mono ?_;rintro e w1 ⟨rfl,hb⟩;rw[HX.o];have hm:=h.after hb;obtain⟨x0,x1,x2⟩:=QN hm.one;have S1:=ZI hm;clear h hb hm)|(go_at_call 225;have h:=S1.o;clear S1;refine(EP n m _ Qw m2).mono ?_;rintro e w2 ⟨g,rfl,hg,Z,hb⟩;unfold Xp;rw[<-ak.o] at Z⊢;have cu:w<=g:=Zq h.bel.size hg;have hm:=h.after hb;have hz:=hm.bel.size;have S2:=ZM hm Z;clear h hb hm hg Z));have S3:Qi (AS w w (w.heap.size+1) w2 g ga oa n n C A [.int .i64 n,.int .i64 n,.slice (some ⟨ga,oa,none⟩) N cap] [.int .i64 n,.int .i64 m,.slice g C C] (Bp n m A 0) (w2.alloc (.cells #[(n:Int),(m:Int),.slice g C C] 250))):=by
  obtain⟨hm,Z⟩:=S2.o;have ai:Below w2 w2 (w2.alloc (.cells #[(n:Int),(m:Int),.slice g C C] 250)):=(Zu _ _).alloc (Zt _) _;have hk:=hm.after ai;refine ZI ⟨hk.one,hk.res,Z2 _ _ _,?_,λi j hi hj=> ?_,hk.bel⟩
  .rw[<-Vx];exact Z.fr (Z1 (L:=[]) ai) Qx
  .exact(hk.bel.cell (p:=⟨ga,oa+i*n+j,none⟩) bf).trans (HA.o i j hi hj)
 clear S2 HA;go_loopw [27] (λi wr=>∃k:Nat,k<=n/\i=(k:Int)/\AS w w (w.heap.size+1) w2 g ga oa n n C A [.int .i64 n,.int .i64 n,.slice (some ⟨ga,oa,none⟩) N cap] [.int .i64 n,.int .i64 m,.slice g C C] (Bp n m A k) wr) (λi _=>n- (intOf i).toNat)
 .exact⟨0,Qw,rfl,S3.o⟩
 clear S3;obtain⟨k,hk,rfl,hs⟩:=hrel;by_cases aj:k<n
 .obtain⟨x0,x1,x2⟩:=QN hs.box;obtain⟨u0,u1,u2⟩:=QN hs.one;have S4:=ZI hs;clear hs;go_wp2_with fail;go_region_held3 (λw'=>(w'.cell? ⟨w2,0,none⟩=(n:Int)/\w'.cell? ⟨w2.heap.size,1,none⟩=(m:Int)/\w'.cell? ⟨w2.heap.size,2,none⟩=some (.slice g C C))/\(w'.cell? ⟨w,0,none⟩=(n:Int)/\w'.cell? ⟨w.heap.size,1,none⟩=(n:Int)/\w'.cell? ⟨w.heap.size,2,none⟩=some (.slice (some ⟨ga,oa,none⟩) N cap))) (first|exact⟨by assumption,by assumption⟩|exact⟨⟨x0,x1,x2⟩,u0,u1,u2⟩)
   (first|(go_at_call 226;have h:=S4.o;clear S4;refine(Xq n m k g C C _ aj Qw Qw m2 ak.o (Zt _) Qw).mono ?_;rintro e U ⟨q,F,ef,rfl,hb⟩;have hm:=(h.after (Zu _ _).drew).after hb;have dp:=QN hm.box;have dq:=QN hm.one;have S5:=ZI hm;have HQ:=ZI F;clear h hb hm F)|(go_at_call 226;have h:=S5.o;clear S5;refine(Ie n n k ga oa N cap _ aj Qw Qw Qw HN.o bh aq).mono ?_;rintro e w7 ⟨rfl,hb⟩;have hm:=h.after hb;have dt:=QN hm.box;have du:=QN hm.one;have J:=ZI hm;clear h hb hm)|(refine It (by rfl) (.tmp 32) (.tmp 35) 75 75 (by rfl) 5 underlying75 AM g q m (C-q) ga (oa+k*n) n (cap-k*n) n C (by rfl) (by rfl) 5 (Bp n m A k) (A k) J.o.row (ZeN Qw).symm Qw (λj hj=>J.o.src k j aj hj) ?_;intro w8 de cr;have h:=J.o;clear J;have hm:=h.lay de cr cu bf;have dw:=QN hm.box;have dx:=QN hm.one;have S7:=ZI hm;clear h de cr hm))
  go_wp2_with (go_at_call 226;have h:=S7.o;clear S7;refine(Xq n m k g C C _ aj Qw Qw m2 ak.o (Zt _) Qw).mono ?_;rintro e w9 ⟨q5,F,ek,rfl,hb⟩;have hm:=h.after hb;have c0:=MB (i:=q5+(n+k)) hm.row Qw;have f0:=MC (i:=q5+(n+k)) hm.row Qw;have ew:=QN hm.box;have O:=ZI hm;have cn:=ZI F;clear h hb hm F);go_roundw
  .refine⟨k+1,Qw,QC,?_⟩;have hr:=MD (i:=q5+(n+k)) O.o.row 1#8;rw[HQ.o,cn.o,Vw n m A k HM.o aj,DB] at hr;rw[cn.o];exact O.o.lay hr ((Fr.refl _ _).setCell (Zv Qx) _) cu bf
  simp[intOf];omega
 .obtain rfl:k=n:=by omega
  have cj:AS w w (w.heap.size+1) w2 g ga oa k k C A [.int .i64 k,.int .i64 k,.slice (some ⟨ga,oa,none⟩) N cap] [.int .i64 k,.int .i64 m,.slice g C C] (tb m (aug k A)) wr:=⟨hs.one,hs.res,hs.box,by have h:=hs.row;rw[ak.o,Vu,<-ak.o] at h;exact h,hs.src,hs.bel⟩;obtain⟨x0,x1,x2⟩:=QN cj.box;have S4:=ZI cj;clear hs cj;go_wp2_with fail;have h:=S4.o;clear S4;refine(Z7n k m k g C C (aug k A) [] _ n1 n2 Qw m2 ak.o (Zt _) Qw Qw (by rw[ZdJ];exact h.row.row)).mono ?_;rintro e w5 ⟨l,M',j,p,rfl,hr,hf,ae,hj,au,aw⟩;have bq:=h.res.ne h.row.row Qz;have bu:=h.box.ne h.row.row Qz;have ag:=h.res.fr hf (by simp only[Z6];exact bq);have ah:=h.box.fr hf (by simp only[Z6];exact bu);have af:=h.bel.trans (hf.below h.bel.size (λi hi=>by simp only[Z6] at hi;omega));have eu:=hr.lt;have hle:=ae.le;have eo:w.heap.size+1<w5.heap.size:=ag.lt;have az:∀x,Ker k (k+k) M' x↔Ker k (k+k) (aug k A) x:=by rw[<-HM.o];exact aw
  clear hf h aw;by_cases bj:l<k
  .have cy:j=k:=(by omega);have hS:¬Inj k A:=by rw[cy] at ae;exact Z2j ae bj az
   have HS:=ZI hS;have S5:=ZM ag af;have er:=af.size;clear ag ah af hr ae au az hS cy;go_wp2_with (go_at_call 224;have h:=S5.o;clear S5;refine(JR 18 Qz _).mono ?_;rintro e U ⟨ev,rfl,he,hb⟩;have hm:=h.1.after hb;obtain⟨z0,z1,z2⟩:=QN hm;obtain⟨f0,f1,f2⟩:=Jm hm;have J:=ZN hm he (h.2.trans (hb.mono h.2.size));clear h hb hm he);have hy:=Xh (a:=.int .i64 0) (b:=.int .i64 0) (c:=.slice none 0 0) J.1;obtain⟨y0,y1,y2⟩:=QN hy;exact ZD (v:=.tuple #[.agg #[(0:Int),(0:Int),()],ev]) (by simp[results,Tryz.results161,go_sem,y0,y1,y2]) rfl ⟨Zv ⟨HS.o,ev,rfl,(B7 J.2.1 eo).mono Qw⟩,Xz J.2.2 Qw⟩
  .have hl:l=k:=(by omega);subst hl;have hI:=Z2i ae Qw az;obtain⟨B,hB⟩:∃B,B=λi c=>M' i (l+c):=⟨_,rfl⟩;rw[<-hB] at hI;have HI:=ZI hI;have HB:=ZI hB;obtain⟨x0,x1,x2⟩:=QN ah;have S5:=ZO ag ah hr af;have er:=af.size;clear ag ah af hr ae au az hI hB hj;go_wp2_with (go_at_call 225;have h:=S5.o;clear S5;refine(EP l l _ Qw Qw).mono ?_;rintro e U ⟨g2,rfl,dm,Z,hb⟩;unfold Xp;rw[<-HN.o] at Z⊢;have cw:w<=g2:=Qw;have dy:g≠g2:=Qw;have ez:=hb.size;have J:=ZP (h.1.after hb) (h.2.1.after hb) (h.2.2.1.after hb) Z (h.2.2.2.trans (hb.mono Qw));clear h hb dm Z);have S7:Qi (Cr w (w.heap.size+1) w2 U g g2 C N [.int .i64 l,.int .i64 m,.slice g C C] [.int .i64 l,.int .i64 l,.slice g2 N N] (tb m M') (upF l B (0*l)) (U.alloc (.cells #[(l:Int),(l:Int),.slice g2 N N] 250))):=by obtain⟨k1,k2,k3,k4,k5⟩:=J.o;have ai:Below U U (U.alloc (.cells #[(l:Int),(l:Int),.slice g2 N N] 250)):=(Zu _ _).alloc (Zt _) _;refine ZI ⟨k1.after ai,k2.after ai,Z2 _ _ _,k3.after ai,?_,k5.trans (ai.mono k5.size)⟩;rw[ZfC,<-MO];exact k4.fr (Z1 (L:=[]) ai) Qx
   clear J;go_loopw [56] (λi wr=>∃k:Nat,k<=l/\i=(k:Int)/\Cr w (w.heap.size+1) w2 U g g2 C N [.int .i64 l,.int .i64 m,.slice g C C] [.int .i64 l,.int .i64 l,.slice g2 N N] (tb m M') (upF l B (k*l)) wr) (λi _=>l- (intOf i).toNat)
   .exact⟨0,Qw,rfl,S7.o⟩
   clear S7;obtain⟨k,hk,rfl,hs⟩:=hrel;by_cases aj:k<l
   .obtain⟨x0,x1,x2⟩:=QN hs.box;obtain⟨u0,u1,u2⟩:=QN hs.boy;have O:=ZI hs;clear hs;go_wp2_with fail;have fa:(0:Int)<=(l:Int):=Qw;have fc:(l:Int)<=(m:Int):=Qw;have fe:l<=m:=Qw;go_region_held3 (λw'=>(w'.cell? ⟨w2,0,none⟩=(l:Int)/\w'.cell? ⟨w2.heap.size,1,none⟩=(m:Int)/\w'.cell? ⟨w2.heap.size,2,none⟩=some (.slice g C C))/\(w'.cell? ⟨U,0,none⟩=(l:Int)/\w'.cell? ⟨U.heap.size,1,none⟩=(l:Int)/\w'.cell? ⟨U.heap.size,2,none⟩=some (.slice g2 N N))) (first|exact⟨by assumption,by assumption⟩|exact⟨⟨x0,x1,x2⟩,u0,u1,u2⟩)
     (first|(go_at_call 226;have h:=O.o;clear O;refine(Xq l l k g2 N N _ aj Qw Qw Qw HN.o (Zt _) Qw).mono ?_;rintro e w7 ⟨q,F,ef,rfl,hb⟩;have hm:=(h.after (Zu _ _).drew).after hb;have dp:=QN hm.box;have dq:=QN hm.boy;have S9:=ZI hm;have HQ:=ZI F;clear h hb hm F)|(go_at_call 226;have h:=S9.o;clear S9;refine(Xq l m k g C C _ aj Qw Qw m2 ak.o (Zt _) Qw).mono ?_;rintro e w8 ⟨q3,F,eh,rfl,hb⟩;have hm:=h.after hb;have dt:=QN hm.box;have du:=QN hm.boy;have ey:l<C-q3:=Qw;have dz:m<=C-q3:=Qw;have ee:¬C-q3=l:=Qw;have ay:=ZI hm;have dh:=ZI F;clear h hb hm F)|(refine It (by rfl) (.tmp 61) (.tmp 66) 75 75 (by rfl) 5 underlying75 AM g2 q l (N-q) g (q3+l) (m-l) (C-q3-l) l N (by rfl) (by rfl) 5 (upF l B (k*l)) (B k) ay.o.row (by rw[df.o];exact(Zh7 l).symm) Qw (λi hi=>by rw[ZeS,AK (i:=q3+(l+i)) ay.o.src Qw,dh.o,An _ _ _ Qw,HB.o]) ?_;intro w9 bz ct;rw[HQ.o,Ua l B k n1] at bz;have h:=ay.o;clear ay;have hm:=h.lay bz ct cw dy;have dw:=QN hm.box;have dx:=QN hm.boy;have dj:=ZI hm;clear h bz ct hm))
    go_wp2;go_roundw
    .exact⟨k+1,Qw,QC,dj.o⟩
    simp[intOf];omega
   .obtain rfl:k=l:=(by omega);obtain⟨x0,x1,x2⟩:=QN hs.boy;obtain⟨t0,t1,t2⟩:=QN hs.res;obtain⟨f0,f1,f2⟩:=Jm hs.res;have O:=ZI hs;clear hs;go_wp2;have hy:=Xh (a:=.int .i64 k) (b:=.int .i64 k) (c:=.slice g2 N N) O.o.res;obtain⟨y0,y1,y2⟩:=QN hy
    exact ZD (v:=.tuple #[.agg #[(k:Int),(k:Int),.slice g2 N N],.nilIface]) (by simp[results,Tryz.results161,go_sem,y0,y1,y2]) rfl ⟨Zy ⟨HI.1,g2,B,HI.2,by unfold Xp;rw[<-HN.o],cw,by
     have h:=O.o.row;rw[HN.o,MN] at h
     exact h.fr ((((Fr.refl [w.heap.size+1] _).setCell (Zv Qx) _).setCell (Zv Qx) _).setCell (Zv Qx) _) (by simp only[Z6];exact λe=>O.o.res.ne O.o.row.row Qz e.symm)⟩,Xz O.o.bel Qw⟩
def Z98(r c:Int)(n cap C U:Nat)(a la:Qm)(w:Qs)(hl:n<=maxLen)(ae:C<=maxLen)(h:X0 r c n=false∨C<1∨255<C):Calls prog 160 #[.agg #[r,c,.slice a n cap],.slice la C U] w λe w'=>∃ev,e=.returned (.tuple #[BA,ev])/\YB w w' ev 1/\Below w w w':=by
 have O:=ZI (F2 w (.int .i64 r) (.int .i64 c) (.slice a n cap));have hx:X0 r c n=false∨(X0 r c n=true/\(C:Int)<1)∨(X0 r c n=true/\¬ (C:Int)<1/\255<(C:Int)):=QA;rcases hx with hx|⟨hx,Z⟩|⟨hx,Z,af⟩
 all_goals
  have HX:=ZI hx;go_enter func160,ntmps160;go_wp2_with (first|(go_at_call 223;have F:=O.o;clear O;go_fit (Jg r c n a cap _ hl);rintro e w1 ⟨rfl,hb⟩;rw[HX.o];have S1:=ZI (F.after hb);clear F hb)|(go_at_call 224;have F:=S1.o;clear S1;go_fit (JR 1 Qw _);rintro e w2 ⟨ev,rfl,he,hb⟩;have hm:=F.after hb;have⟨z0,z1,z2⟩:=QN hm.res;have⟨f0,f1,f2⟩:=Jm hm.res;have J:=ZX hm he F.res.lt;clear F hb hm he));have hy:=Xh (a:=.int .i64 0) (b:=.int .i64 0) (c:=.slice none 0 0) J.1.res;have⟨y0,y1,y2⟩:=QN hy;exact ZD (v:=.tuple #[.agg #[(0:Int),(0:Int),()],ev]) (by simp[results,go_sem,y0,y1,y2]) rfl ⟨ev,rfl,(B7 J.2 J.3).mono (by have:=J.3;omega),Xz J.1.bel Qw⟩
def Nj(w:Qs)(r c:Nat)(A:Nat->Nat->BitVec 8)(L:List Int)(e:Qv)(w':Qs):Prop:=
 (((∃i,i<L.length/\¬ (0<=L.getD i 0/\L.getD i 0<r))/\∃ev,e=.returned (.tuple #[BA,ev])/\YB w w' ev 1)∨((∀i,i<L.length->0<=L.getD i 0/\L.getD i 0<r)/\∃g,e=.returned (.tuple #[Xp L.length c g,.nilIface])/\w.heap.size<=g/\Y2 w' g 5 (QZ (mat L.length c (λi j=>A (L.getD i 0).toNat j)).cells)))/\Below w w w'
def Z54(r c ga oa n cap lg lo az:Nat)(A:Nat->Nat->BitVec 8)(L:List Int)(w:Qs)(r1:1<=r)(r2:r<=255)(c1:1<=c)(c2:c<=255)(hn:n=r*c)(au:n<=cap)(ah:cap<=9223372036854775807)(l1:1<=L.length)(l2:L.length<=255)(ha:YL w ga oa r c A)(hL:∀j,j<L.length->w.cell? ⟨lg,lo+j,none⟩=(L.getD j 0:Int)):Calls prog 160 #[.agg #[(r:Int),(c:Int),.slice (some ⟨ga,oa,none⟩) n cap],.slice (some ⟨lg,lo,none⟩) L.length az] w λe w'=>Nj w r c A L e w':=by
 have hm:=DJ r1 r2 c1 c2 hn;have q1:n<=255*255:=by rw[hn];exact Ze2 r2 c2
 obtain⟨K,hK⟩:=ZL L.length;have ak:lg<w:=Jf (hL 0 Qw);have bf:ga<w:=Jf (ha 0 0 Qw Qw);rw[<-hK] at l1 l2 hL⊢;have i1:(1:Int)<=K:=Qw;have i2:(K:Int)<=255:=Qw;have i3:¬ (K:Int)<1:=Qw;obtain⟨F,aq⟩:=ZL (K*c);have q2:F<=255*255:=by rw[aq];exact Ze2 l2 c2
 have S0:=ZI (F2 w (.int .i64 r) (.int .i64 c) (.slice (some ⟨ga,oa,none⟩) n cap));have HX:=ZI hm;have HN:=ZI hn;have HK:=ZI hK;have ai:=ZI aq;have HA:=ZI ha;have HL:=ZI hL;obtain⟨P,hP⟩:∃P:Nat->Nat->BitVec 8,P=λi j=>A (L.getD i 0).toNat j:=⟨_,rfl⟩;have HP:=ZI hP;clear hm hn hK aq ha hL hP;go_enter func160,ntmps160;go_wp2_with (first|(go_at_call 223;have C:=S0.o;clear S0;refine(Jg r c n _ cap _ (by unfold maxLen;omega)).mono ?_;rintro e w1 ⟨rfl,hb⟩;rw[HX.o];have hm:=C.after hb;obtain⟨x0,x1,x2⟩:=QN hm.one;have S1:=ZI hm;clear C hb hm)|(go_at_call 225;have C:=S1.o;clear S1;refine(EP K c _ Qw Qw).mono ?_;rintro e w2 ⟨g,rfl,hg,Z,hb⟩;unfold Xp;rw[<-ai.o] at Z⊢;have bj:w<=g:=Zq C.bel.size hg;have hm:=C.after hb;have hz:=hm.bel.size;have S2:=ZM hm Z;clear C hb hm hg Z));have S3:Qi (AS w w (w.heap.size+1) w2 g ga oa r c F A [.int .i64 r,.int .i64 c,.slice (some ⟨ga,oa,none⟩) n cap] [.int .i64 K,.int .i64 c,.slice g F F] (upF c P (0*c)) (w2.alloc (.cells #[(K:Int),(c:Int),.slice g F F] 250))):=by
  obtain⟨hm,Z⟩:=S2.o;have bg:Below w2 w2 (w2.alloc (.cells #[(K:Int),(c:Int),.slice g F F] 250)):=(Zu _ _).alloc (Zt _) _;have hk:=hm.after bg;refine ZI ⟨hk.one,hk.res,Z2 _ _ _,?_,λi j hi hj=> ?_,hk.bel⟩
  .rw[ZfC,<-MO];exact Z.fr (Z1 (L:=[]) bg) Qx
  .exact(hk.bel.cell (p:=⟨ga,oa+i*c+j,none⟩) bf).trans (HA.o i j hi hj)
 clear S2 HA;go_loopw [31] (λi wr=>∃k:Nat,k<=K/\i=(k:Int)/\(∀i,i<k->0<=L.getD i 0/\L.getD i 0<r)/\AS w w (w.heap.size+1) w2 g ga oa r c F A [.int .i64 r,.int .i64 c,.slice (some ⟨ga,oa,none⟩) n cap] [.int .i64 K,.int .i64 c,.slice g F F] (upF c P (k*c)) wr) (λi _=>K- (intOf i).toNat)
 .exact⟨0,Qw,rfl,λi h=>Qw,S3.o⟩
 clear S3;obtain⟨k,hk,rfl,ag,hs⟩:=hrel;have af:=ZI ag;clear ag;by_cases aw:k<K
 .have cl:World.cell? wr ⟨lg,lo+k,none⟩=some (.int .i64 (L.getD k 0)):=(hs.bel.cell (p:=⟨lg,lo+k,none⟩) ak).trans (HL.o k aw);obtain⟨x,hx⟩:=ZL (L.getD k 0);rw[<-hx] at cl;obtain⟨u0,u1,u2⟩:=QN hs.one;by_cases ae:0<=x/\x<r
  .obtain⟨y,rfl⟩:∃y:Nat,x=(y:Int):=⟨x.toNat,Qw⟩;have U:y<r:=Qw;obtain⟨x0,x1,x2⟩:=QN hs.box;have aj:=ZI hx;have J:=ZI hs;clear hs hx ae;go_wp2_with fail;go_region_held3 (λw'=>(w'.cell? ⟨w2,0,none⟩=(K:Int)/\w'.cell? ⟨w2.heap.size,1,none⟩=(c:Int)/\w'.cell? ⟨w2.heap.size,2,none⟩=some (.slice g F F))/\(w'.cell? ⟨w,0,none⟩=(r:Int)/\w'.cell? ⟨w.heap.size,1,none⟩=(c:Int)/\w'.cell? ⟨w.heap.size,2,none⟩=some (.slice (some ⟨ga,oa,none⟩) n cap))) (first|exact⟨by assumption,by assumption⟩|exact⟨⟨x0,x1,x2⟩,u0,u1,u2⟩)
    (first|(go_at_call 226;have C:=J.o;clear J;refine(Xq K c k g F F _ aw Qw Qw Qw ai.o (Zt _) Qw).mono ?_;rintro e w6 ⟨q,bm,ct,rfl,hb⟩;have hm:=(C.after (Zu _ _).drew).after hb;have bq:=QN hm.box;have bu:=QN hm.one;have O:=ZI hm;have HQ:=ZI bm;clear C hb hm bm)|(go_at_call 226;have C:=O.o;clear O;refine(Ie r c y ga oa n cap _ U Qw Qw Qw HN.o au ah).mono ?_;rintro e w7 ⟨rfl,hb⟩;have hm:=C.after hb;have bz:=QN hm.box;have cj:=QN hm.one;have S6:=ZI hm;clear C hb hm)|(refine It (by rfl) (.tmp 48) (.tmp 51) 75 75 (by rfl) 5 underlying75 AM g q c (F-q) ga (oa+y*c) c (cap-y*c) c F (by rfl) (by rfl) 5 (upF c P (k*c)) (P k) S6.o.row (Zh7 c).symm Qw (λj hj=>by rw[S6.o.src y j U hj,HP.o];simp only[<-aj.o,ZeA]) ?_;intro w8 ay bh;rw[HQ.o,Ua c P k c1] at ay;have C:=S6.o;clear S6;have hm:=C.lay ay bh bj bf;have cn:=QN hm.box;have cr:=QN hm.one;have S7:=ZI hm;clear C ay bh hm))
   go_wp2;go_roundw
   .refine⟨k+1,Qw,QC,λi hi=> ?_,S7.o⟩;by_cases e:i=k
    .rw[e,<-aj.o];omega
    .exact af.o i Qw
   simp[intOf];omega
  .have Zbo:x<0∨(¬x<0/\(r:Int)<=x):=(by omega);have aj:=ZI hx;have HG:=ZI ae;have J:=ZI hs;clear hs hx ae;rcases Zbo with h5|⟨h5,h6⟩
   all_goals
    go_wp2_with (go_at_call 224;have C:=J.o;clear J;refine(JR 1 Qw _).mono ?_;rintro e w6 ⟨ev,rfl,he,hb⟩;have hm:=C.after hb;obtain⟨z0,z1,z2⟩:=QN hm.res;obtain⟨f0,f1,f2⟩:=Jm hm.res;have O:=ZN hm he C.res.lt;clear C hb hm he);have U:=Xh (a:=.int .i64 0) (b:=.int .i64 0) (c:=.slice none 0 0) O.1.res;obtain⟨y0,y1,y2⟩:=QN U;exact ZD (v:=.tuple #[.agg #[(0:Int),(0:Int),()],ev]) (by simp[results,Tryz.results160,go_sem,y0,y1,y2]) rfl ⟨Zv ⟨⟨k,by rw[<-HK.o];exact aw,by rw[<-aj.o];exact HG.o⟩,ev,rfl,(B7 O.2.1 O.2.2).mono (by have:=O.2.2;omega)⟩,Xz O.1.bel Qw⟩
 .obtain rfl:k=K:=by omega
  obtain⟨x0,x1,x2⟩:=QN hs.box;obtain⟨t0,t1,t2⟩:=QN hs.res;obtain⟨f0,f1,f2⟩:=Jm hs.res;have J:=ZI hs;clear hs;go_wp2;have U:=Xh (a:=.int .i64 k) (b:=.int .i64 c) (c:=.slice g F F) J.o.res;obtain⟨y0,y1,y2⟩:=QN U
  exact ZD (v:=.tuple #[.agg #[(k:Int),(c:Int),.slice g F F],.nilIface]) (by simp[results,Tryz.results160,go_sem,y0,y1,y2]) rfl ⟨Zy ⟨by rw[<-HK.o];exact af.o,g,by unfold Xp;rw[<-HK.o,<-ai.o],bj,by
   have C:=J.o.row;rw[ai.o,MN,HP.o,HK.o] at C
   exact C.fr ((((Fr.refl [w.heap.size+1] wr).setCell (Zv Qx) _).setCell (Zv Qx) _).setCell (Zv Qx) _) (by simp only[Z6];exact λe=>J.o.res.ne J.o.row.row Qx e.symm)⟩,Xz J.o.bel Qw⟩
def EG(r:Nat)(A B:Nat->Nat->BitVec 8)(i j:Nat):Qo:=if i<r then A i j else B (i-r) j
theorem Z7X(r s c:Nat)(A B:Nat->Nat->BitVec 8)(hc:1<=c):tab ((r+s)*c) (Xn (Xn (λ_=>0#8) 0 (r*c) (tb c A)) (r*c) (s*c) (tb c B))=(mat (r+s) c (EG r A B)).cells:=by
 refine Bd λj F=> ?_;rw[Zfp] at F;unfold Xn tb EG;by_cases h:j<r*c
 .rw[Zw Qw,Zx ⟨Qw,Qw⟩,Nat.sub_zero,Zx (DK h)]
 .rw[Zx ⟨Qw,Qw⟩];obtain⟨m,rfl⟩:∃m,j=r*c+m:=⟨j-r*c,Qw⟩;have C:0<c:=Qw;have:(r*c+m) / c=r+m / c:=by rw[Ze0,Zgf C]
  have:(r*c+m)%c=m%c:=Qx;grind
structure Gv(w0:Qs)(b0 b1 b2 bx g N:Nat)(LA LB LX:Qk)(f:Nat->BitVec 8)(w:Qs):Prop where
 m3:M3 w0 b0 b1 b2 LA LB w
 box:Row w bx 250 LX
 row:Y2 w g 5 (QZ (tab N f))
def Gv.lay(h:Gv w0 b0 b1 b2 bx g N LA LB LX f w)(Z:Y2 w' g 5 (QZ (tab N f')))(C:Fr [g] w w')(hg:w0<=g):Gv w0 b0 b1 b2 bx g N LA LB LX f' w':=by
 have F:b0∉[g]:=by simp;exact h.m3.one.ne h.row.row Qx
 have J:b1∉[g]:=by simp;exact h.m3.two.ne h.row.row Qx
 have O:b2∉[g]:=by simp;exact h.m3.res.ne h.row.row Qx
 have U:bx∉[g]:=by simp;exact h.box.ne h.row.row Qx
 exact⟨⟨h.m3.one.fr C F,h.m3.two.fr C J,h.m3.res.fr C O,h.m3.bel.trans (C.below h.m3.bel.size (λi hi=>by simp at hi;omega)),h.m3.le⟩,h.box.fr C U,Z⟩
def Z7Y(r s c ga oa gb ob F bn J O:Nat)(A B:Nat->Nat->BitVec 8)(w:Qs)(a1:1<=r)(c1:1<=c)(c2:c<=255)(b1:1<=s)(cj:r+s<=255)(Z:F=r*c)(U:bn=s*c)(ha:YL w ga oa r c A)(hb:YL w gb ob s c B):Calls prog 222 #[.agg #[(r:Int),(c:Int),.slice (some ⟨ga,oa,none⟩) F J],.agg #[(s:Int),(c:Int),.slice (some ⟨gb,ob,none⟩) bn O]] w λe w'=>∃g,e=.returned (.tuple #[Xp (r+s) c g,.nilIface])/\w.heap.size<=g/\Y2 w' g 5 (QZ (mat (r+s) c (EG r A B)).cells)/\Below w w w':=by
 have:F<=255*255:=by rw[Z];exact Ze2 Qw c2
 have:bn<=255*255:=by rw[U];exact Ze2 Qw c2
 have:0<bn:=by rw[U];exact Nat.mul_pos Qw Qw
 have⟨R,hR⟩:=ZL (r+s);have⟨h,ag⟩:=ZL (R*c);have af:h=F+bn:=by rw[ag,hR,Zfp,<-Z,<-U]
 have bj:ga<w:=Jf (ha 0 0 Qw Qw);have bm:gb<w:=Jf (hb 0 0 Qw Qw);have S0:=ZI (Lt w (.int .i64 r) (.int .i64 c) (.slice (some ⟨ga,oa,none⟩) F J) (.int .i64 s) (.int .i64 c) (.slice (some ⟨gb,ob,none⟩) bn O));have HX:=ZI (DJ a1 Qw c1 c2 Z);have bh:=ZI (DJ b1 Qw c1 c2 U);have:(r:Int)+(s:Int)<=255:=Qw;have:(r:Int)+(s:Int)=(R:Int):=by rw[hR];omega
 have:(R:Int)<=255:=Qw;unfold Xp;rw[<-hR];rw[<-ag];have aw:h-F=bn:=Qw;have HD:=ZI aw;have:F<h:=Qw;have:F<=h:=Qw;have:¬h=F:=Qw;have:h<=255*255+255*255:=Qw;have HR:=ZI hR;have au:=ZI ag;have ah:=ZI af;have ak:=ZI Z;have aq:=ZI U;have HA:=ZI ha;have HB:=ZI hb;clear hR ag af Z U ha hb aw;go_enter func222,ntmps222;go_wp2_with (first|(go_at_call 223;have C:=S0.o;clear S0;refine(Jg _ _ F _ J _ (by unfold maxLen;omega)).mono ?_;rintro e w1 ⟨rfl,hb⟩;rw[HX.o];have hm:=C.after hb;have⟨x0,x1,x2⟩:=QN hm.two;have S1:=ZI hm;clear C hb hm)|(go_at_call 223;have C:=S1.o;clear S1;refine(Jg _ _ bn _ O _ (by unfold maxLen;omega)).mono ?_;rintro e w1 ⟨rfl,hb⟩;rw[bh.o];have hm:=C.after hb;have⟨u0,u1,u2⟩:=QN hm.one;have⟨t0,t1,t2⟩:=QN hm.two;have S2:=ZI hm;clear C hb hm)|(go_at_call 225;have C:=S2.o;clear S2;go_fit (EP R c _ Qw Qw);rintro e w3 ⟨g,rfl,hg,ae,hb⟩;unfold Xp;rw[<-au.o] at ae⊢;have aj:w.heap.size<=g:=Zq C.bel.size hg;have ai:Below w3 w3 (w3.alloc (.cells #[(R:Int),(c:Int),.slice (g:Nat) h h] 250)):=(Zu _ _).alloc (Zt _) _;have hm:=(C.after hb).after ai;have⟨v0,v1,v2⟩:=QN hm.one;have S3:Qi (Gv w w (w.heap.size+1) (w.heap.size+1+1) w3 g h [.int .i64 r,.int .i64 c,.slice (some ⟨ga,oa,none⟩) F J] [.int .i64 s,.int .i64 c,.slice (some ⟨gb,ob,none⟩) bn O] [.int .i64 R,.int .i64 c,.slice (g:Nat) h h] (λ_=>0#8) _):=ZI ⟨hm,Z2 w3 _ [.int .i64 R,.int .i64 c,.slice (g:Nat) h h],ae.fr (Z1 (L:=[]) ai) Qx⟩;clear C hb hm hg ae ai)|(have C:=S3.o;clear S3;refine Z8F rfl (.tmp 41) (.tmp 43) 75 75 rfl 5 underlying75 AM g 0 h h ga oa F J F h rfl rfl 5 (λ_=>0#8) (tb c A) C.row (ZeN Qw).symm Qw (λj hj=>(C.m3.bel.cell (p:=⟨ga,oa+j,none⟩) bj).trans (HA.o.flat c1 j (by rw[<-ak.o];exact hj))) ?_;intro w4 bf ay;have hm:=C.lay bf ay aj;have⟨p0,p1,p2⟩:=QN hm.box;have⟨n0,n1,n2⟩:=QN hm.m3.one;have⟨o0,o1,o2⟩:=QN hm.m3.two;have S4:=ZI hm;clear C bf ay hm));go_region_held3 (λw'=>w'.cell? ⟨w3.heap.size,2,none⟩=some (.slice (g:Nat) h h)/\w'.cell? ⟨w.heap.size,2,none⟩=some (.slice (some ⟨ga,oa,none⟩) F J)/\w'.cell? ⟨w.heap.size+1,2,none⟩=some (.slice (some ⟨gb,ob,none⟩) bn O)) (first|exact⟨p2,n2,o2⟩|exact⟨bq.2.2,bu.2.2,bz.2.2⟩)
  (first|(refine It (by rfl) (.tmp 50) (.tmp 52) 75 75 (by rfl) 5 underlying75 AM g F (h-F) (h-F) gb ob bn O bn h (by rfl) (by rfl) 5 (Xn (λ_=>0#8) 0 F (tb c A)) (tb c B) (S4.o.row.fr ((Fr.refl [] _).drew) Qx) (by rw[HD.o];exact(Zh7 bn).symm) (by have:=ah.o;omega) (λj hj=>(S4.o.m3.bel.cell (p:=⟨gb,ob+j,none⟩) bm).trans (HB.o.flat c1 j (by rw[<-aq.o];exact hj))) ?_;intro w5 bg az;have C:=S4.o;clear S4;have hm:=C.lay bg (((Fr.refl [g] w4).drew).trans az (λi hi _=>hi)) aj;have bq:=QN hm.box;have bu:=QN hm.m3.one;have bz:=QN hm.m3.two;have⟨e3,e4,e5⟩:=QN hm.m3.res;have⟨f0,f1,f2⟩:=Jm hm.m3.res;have S5:=ZI hm;clear C bg az hm))
 go_wp2;have hy:=Xh (a:=.int .i64 R) (b:=.int .i64 c) (c:=.slice (g:Nat) h h) S5.o.m3.res;have⟨y0,y1,y2⟩:=QN hy
 exact ZD (v:=.tuple #[.agg #[(R:Int),(c:Int),.slice (g:Nat) h h],.nilIface]) (by simp[results,Tryz.results222,go_sem,y0,y1,y2]) rfl ⟨g,rfl,aj,by
  have C:=S5.o.row;rw[au.o,HR.o,ak.o,aq.o,Z7X r s c A B c1,<-HR.o] at C
  exact C.fr ((((Fr.refl [w.heap.size+1+1] w5).setCell (Zv Qx) _).setCell (Zv Qx) _).setCell (Zv Qx) _) (by simp[Z6];exact λe=>S5.o.m3.res.ne S5.o.row.row Qz e.symm),Xz S5.o.m3.bel Qw⟩
variable{xs:List Value}
def JH(x:Nat->BitVec 8)(Zao:List Qq)(len:Nat):Nat->List UInt8
 |0=>List.replicate len 0
 |k+1=>scl (x k) (JH x Zao len k) (Zao.getD k ⟨#[]⟩).data.toList
def XJ(x:Nat->BitVec 8)(Zao:List Qq)(len k:Nat):Qq:=⟨(JH x Zao len k).toArray⟩
def SK(x:Nat->BitVec 8)(Zao:List Qq)(len:Nat)(h:∀i,i<Zao.length->(Zao.getD i ⟨#[]⟩).size=len)(k:Nat)(J:k<=Zao.length):(JH x Zao len k).length=len:=by
 induction k with
 |zero=>simp[JH]
 |succ k ih=>have C:=ih Qw;have:=h k Qw;rw[JH,Mh _ _ _ QB,C]
def Id(x:Nat->BitVec 8)(Zao:List Qq)(len:Nat)(h:∀i,i<Zao.length->(Zao.getD i ⟨#[]⟩).size=len)(k:Nat)(C:k<=Zao.length):(XJ x Zao len k).size=len:=by show(JH x Zao len k).toArray.size=len;rw[Zex,SK x Zao len h k C]
def AU(A:Nat->Nat->BitVec 8)(Zao:List Qq)(len c r:Nat):Qk:=(List.range r).map λi=>.string (XJ (A i) Zao len c)
def UQ(A:Nat->Nat->BitVec 8)(Zao:List Qq)(len c k:Nat):AU A Zao len c (k+1)=AU A Zao len c k++[.string (XJ (A k) Zao len c)]:=by unfold AU;rw[ZdX,Zo];rfl
def Cj:(prog.info? 9).map (λi=>(i.zero,i.size,i.bytes))=some (some (.string ⟨#[]⟩),1,16):=Qy
def AF{base:Nat}{e:Qu}{s:Nat}(h:w.ownsRow base e s v n xs){g:Nat}(C:v.ownBlock=some g):base<=g:=by
 rcases h.2 with ⟨hv,_⟩|⟨F,cap,cur,hv,hb,_⟩
 .rw[hv] at C;cases C
 .rw[hv] at C;simp[Value.ownBlock] at C;omega
def Z4K{wr h:Qs}{o:Obj}{b:Nat}{L:Qk}(F:wr.ownsRow w 9 1 v i xs)(J:Row wr b T L)(O:Below w w wr)(U:(wr.alloc o).grownBy h v.ownBlock)(Z:T≠9):Row h b T L/\Below w w h:=by
 have hf:Fr [] wr (wr.alloc o):=(Fr.refl _ _).alloc _;have C:Fr (match v.ownBlock with|some g=>[g]|none=>[]) wr h:=(hf.mono (λi hi _=>by simp at hi)).grown U (λg U=>Zv QB);refine⟨J.fr C (λhm=> ?_),O.trans (C.below O.size (λg hm=> ?_))⟩
 .cases hv:v.ownBlock with
  |none=>rw[hv] at hm;simp at hm
  |some g=>exact Row.Zbk J F Z QB
 .cases hv:v.ownBlock with
  |none=>rw[hv] at hm;simp at hm
  |some g'=>rw[hv] at hm;simp at hm;rw[hm];exact AF F hv
def Uq(w:Qs)(r c:Nat)(A:Nat->Nat->BitVec 8)(Zao:List Qq)(e:Qv)(w':Qs):Prop:=
 (((∃i,i<Zao.length/\(Zao.getD i ⟨#[]⟩).size≠(Zao.getD 0 ⟨#[]⟩).size)/\∃ev,e=.returned (.tuple #[(),ev])/\YB w w' ev 19)∨((∀i,i<Zao.length->(Zao.getD i ⟨#[]⟩).size=(Zao.getD 0 ⟨#[]⟩).size)/\∃v,e=.returned (.tuple #[v,.nilIface])/\w'.ownsRow w 9 1 v r (AU A Zao (Zao.getD 0 ⟨#[]⟩).size c r)))/\Below w w w'
def Gz(r c ga oa n cap lg lo cy:Nat)(A:Nat->Nat->BitVec 8)(Zao:List Qq)(w:Qs)(r1:1<=r)(r2:r<=255)(c1:1<=c)(c2:c<=255)(hn:n=r*c)(cn:n<=cap)(bf:cap<=9223372036854775807)(hlen:Zao.length=c)(cu:∀i,i<Zao.length->(Zao.getD i ⟨#[]⟩).size<=100000)(ha:YL w ga oa r c A)(hL:∀j,j<Zao.length->w.cell? ⟨lg,lo+j,none⟩=some (.string (Zao.getD j ⟨#[]⟩))):Calls prog 162 #[.agg #[(r:Int),(c:Int),.slice (some ⟨ga,oa,none⟩) n cap],.slice (some ⟨lg,lo,none⟩) c cy] w λe w'=>Uq w r c A Zao e w':=by
 have hm:=DJ r1 r2 c1 c2 hn;have q1:n<=255*255:=by rw[hn];exact Ze2 r2 c2
 have af:lg<w:=Jf (hL 0 Qw);have eh:ga<w:=Jf (ha 0 0 Qw Qw);have dm:Below w w (w.alloc (.cells #[(r:Int),(c:Int),.slice (some ⟨ga,oa,none⟩) n cap] 250)):=(Zu _ _).alloc (Zt _) _;have S0:=ZM (Z2 w 250 [.int .i64 r,.int .i64 c,.slice (some ⟨ga,oa,none⟩) n cap]) dm;have⟨t0,cw⟩:=ZL (Zao.getD 0 ⟨#[]⟩);have HX:=ZI hm;have HN:=ZI hn;have HA:=ZI ha;have HL:=ZI hL;have J:=ZI hlen;have aw:=ZI cw;have ef:=ZI cu;have i1:(c:Int)<=255:=Qw;have bu:t0.size<=100000:=by rw[cw];exact cu 0 Qw
 clear hm hn ha hL hlen cw dm cu;go_enter func162,ntmps162;go_wp2_with (go_at_call 223;have C:=S0.o;clear S0;refine(Jg r c n _ cap _ (by unfold maxLen;omega)).mono ?_;rintro e w1 ⟨rfl,hb⟩;rw[HX.o];have⟨x0,x1,x2⟩:=QN (C.1.after hb);have S1:=ZM (C.1.after hb) (C.2.trans (hb.mono Qx));clear C hb);go_loop [25] (λi=>∃k:Nat,k<=c/\i=(k:Int)/\∀i,i<k->(Zao.getD i ⟨#[]⟩).size=t0.size) (λi=>c- (intOf i).toNat)
 .exact⟨0,Qw,rfl,λi h=>Qw⟩
 obtain⟨k,hk,rfl,ay⟩:=hrel;have ai:=ZI ay;clear ay;have bz:World.cell? w1 ⟨lg,lo,none⟩=some (.string t0):=(S1.2.cell (p:=⟨lg,lo,none⟩) af).trans (by have:=HL.o 0 (by rw[J.o];omega);rw[Zfc] at this;rw[this,aw.o]);by_cases cr:k<c
 .have⟨t,ht⟩:=ZL (Zao.getD k ⟨#[]⟩);have cl:World.cell? w1 ⟨lg,lo+k,none⟩=some (.string t):=(S1.2.cell (p:=⟨lg,lo+k,none⟩) af).trans (by rw[HL.o k (by rw[J.o];exact cr),ht]);have ez:t.size<=100000:=by rw[ht];exact ef.o k (by rw[J.o];exact cr)
  have df:=ZI ht;clear ht;by_cases hs:t.size=t0.size
  .have hb:((t.size:Int) !=(t0.size:Int))=false:=(by simp[hs]);have HS:=ZI hs;clear hs;go_wp2;go_round
   .refine⟨k+1,Qw,QC,λi hi=> ?_⟩;by_cases e:i=k
    .rw[e,<-df.o];exact HS.o
    .exact ai.o i Qw
   simp[intOf];omega
  .have hb:((t.size:Int) !=(t0.size:Int))=true:=by simp;omega
   have HS:=ZI hs;clear hs;go_wp2_with (go_at_call 224;have C:=S1.o;clear S1;go_fit (JR 19 Qw _);rintro e w2 ⟨ev,rfl,he,hb⟩;have S2:=ZM (C.2.trans (hb.mono C.2.size)) (he.mono C.2.size);clear C hb he);go_ret2;exact⟨Zv ⟨⟨k,by rw[J.o];exact cr,by rw[<-df.o,<-aw.o];exact HS.o⟩,ev,rfl,S2.2⟩,S2.1⟩
 .obtain rfl:k=c:=by omega
  have⟨i0,dp,dq,dt,du⟩:=ZE Be;have⟨j0,ek,eo,er,eu⟩:=ZE Cj;have⟨len,hlen⟩:=ZL t0.size;rw[<-hlen] at bu;have aq:=λW=>EA (P:=prog) 75 5 i0 underlying75 dp dq dt du len Qw W;obtain⟨Z,hZ⟩:∃Z:Ql,Z=List.replicate len 0:=⟨_,rfl⟩;have dj:Z.length=len:=by rw[hZ];simp
  rw[<-hZ] at aq;have ag:∀i,i<Zao.length->(Zao.getD i ⟨#[]⟩).size=len:=λi hi=>by rw[hlen];exact ai.o i (by rw[<-J.o];exact hi)
  have ae:=ZI ag;have HZ:=ZI hZ;have dh:=ZI dj;have au:=ZI hlen;have dx:=ZI aq;have ew:len<=100000:=bu;clear dp dq dt du ag hZ dj hlen ai aq;have S2:=ZN S1.1 S1.2 (ZA (w:=w1) (base:=w.heap.size) (e:=9) (size:=1));go_wp2;obtain⟨wo,rfl⟩:∃wo:Qs,wo=w1:=⟨_,rfl⟩;go_loopw [8,40] (λout ii wr=>∃ (i:Nat),i<=r/\ii=(i:Int)/\wr.ownsRow w 9 1 out i (AU A Zao len k i)/\Row wr w 250 [(r:Int),(k:Int),.slice (some ⟨ga,oa,none⟩) n cap]/\Below w w wr) (λ_ ii _=>r- (intOf ii).toNat)
  .exact⟨0,Qw,rfl,S2.2.2,S2.1,S2.2.1⟩
  clear S2 S1 bz x0 x1 x2;obtain⟨i,hi,rfl,O,U,F⟩:=hrel;by_cases bj:i<r
  .have ey:=F.size;have⟨x0,x1,x2⟩:=QN (U.alloc (.cells (QJ Z).toArray 5));have bz:World.cell? wr ⟨lg,lo,none⟩=some (.string t0):=(F.cell (p:=⟨lg,lo,none⟩) af).trans (by have:=HL.o 0 (by rw[J.o];omega);rw[Zfc] at this;rw[this,aw.o]);have aq:=dx.o wr;rw[au.o] at aq;have hz:=Z9u wr 5 (QJ Z);have bg:=BJ (P:=prog) _ 75 9 5 underlying75 underlying5 underlying9 hz.row 0 t0.size t0.size Z (dh.o.trans au.o) (by rw[Zey];exact Zi (by rw[Wd,dh.o,au.o];exact Zt _));have S3:=ZN (Xy O ((Fr.refl [] wr).alloc (.cells (QJ Z).toArray 5)) Qx) (U.alloc (.cells (QJ Z).toArray 5)) (F.alloc Qw (.cells (QJ Z).toArray 5));clear O U F hz;go_wp2_with (go_at_call 226;have C:=S3.o;clear S3;go_fit (Ie r k i ga oa n cap _ bj Qw Qw Qw HN.o cn bf);rintro e w5 ⟨rfl,hb⟩;have S4:=ZX (Xy C.1 (Z1 (L:=[]) hb) Qx) (C.2.1.after hb) (C.2.2.trans (hb.mono C.2.2.size));clear C hb aq bg bz x0 x1 x2);have⟨qa,ct⟩:=ZL (oa+i*k);rw[<-ct];have dz:=ZI ct;clear ct;go_loopw [10,53] (λss jj wr=>∃ (j:Nat),j<=k/\jj=(j:Int)/\ss=.string (XJ (A i) Zao len j)/\Below w5 w5 wr) (λ_ jj _=>k- (intOf jj).toNat)
   .exact⟨0,Qw,rfl,by rw[HZ.o];rfl,Zu _ _⟩
   obtain⟨j,hj,rfl,rfl,az⟩:=hrel;have O:=Xy S4.1 (Z1 (L:=[]) az) Qx;have U:=S4.2.after az;have F:=S4.3.trans (az.mono S4.3.size);have cz:=ZI az;clear az;by_cases aj:j<k
   .have⟨t,ht⟩:=ZL (Zao.getD j ⟨#[]⟩);have cl:World.cell? wr ⟨lg,lo+j,none⟩=some (.string t):=(F.cell (p:=⟨lg,lo+j,none⟩) af).trans (by rw[HL.o j (by rw[J.o];exact aj),ht]);have ca:World.cell? wr ⟨ga,qa+j,none⟩=some (.int .u8 (nv (A i j))):=by rw[dz.o];exact(F.cell (p:=⟨ga,oa+i*k+j,none⟩) eh).trans (HA.o i j bj aj)
    have ak:=Id (A i) Zao len ae.o j (by rw[J.o];omega);have bq:t.size=len:=by rw[ht];exact ae.o j (by rw[J.o];exact aj)
    have⟨u,hu⟩:=ZL (XJ (A i) Zao len j);rw[<-hu] at ak⊢;have de:=ZI ak;have ee:=ZI bq;have HU:=ZI hu;have HT:=ZI ht;have S5:=ZN O U F;clear O U F ak bq hu ht;go_wp2_with (go_at_call 228;have C:=S5.o;clear S5;refine(Z6x u t (nv (A i j)) _ (by rw[de.o,ee.o]) (by rw[de.o];omega) (AZ _) (AY _)).mono ?_;rw[Xu];rintro e w6 ⟨rfl,hb⟩;have S6:=ZI (cz.o.trans (hb.mono cz.o.size));clear C hb);go_roundw
    .refine⟨j+1,Qw,QC,?_,S6.o⟩;rw[HU.o,HT.o];rfl
    simp[intOf];omega
   .obtain rfl:j=k:=(by omega);have⟨u,hu⟩:=ZL (XJ (A i) Zao len j);rw[<-hu];have HU:=ZI hu;have cj:=F.size;have S5:=ZN O U F;clear O U F hu;go_wp2_with (at_builtin;refine Zel _ rfl (.tmp 69) (.tmp 71) 96 rfl w.heap.size 9 j0 _ 1 16 underlying96 ek eo er eu rfl Qw _ i (AU A Zao len j i) rfl (S5.1.alloc _) ⟨wr,0,none⟩ 1 1 [.string u] rfl rfl (Ze4 (cs:= #[.string u]) (t:=9) (fr:=(0,0)) (ZB wr _)) (by simp[Value.oneCell']) (by unfold maxLen;omega) Qw (Zq cj Qx) ?_;intro v' w7 ah bh bm;clear bm;have dy:=ZI ah;have dw:=ZI bh;clear ah bh);go_roundw
    .have⟨h1,h2,h3⟩:=S5.o;have⟨k1,k2⟩:=Z4K h1 h2 h3 dw.o Qz;exact⟨i+1,Qw,QC,by rw[UQ,<-HU.o];exact dy.o,k1,k2⟩
    simp[intOf];omega
  .obtain rfl:i=r:=(by omega);have S3:=ZM O F;clear O U F;go_wp2;go_ret2;exact⟨Zy ⟨λi hi=>by rw[<-aw.o,<-au.o];exact ae.o i hi,_,rfl,by rw[<-aw.o,<-au.o];exact S3.1⟩,S3.2⟩
def Xf{base:Nat}{e:Qu}(h:w.ownsRow base e 1 v n xs)(Z:0<n):∃g cap sp,v=.slice (g:Nat) n cap/\base<=g/\n<=cap/\cap<=maxLen/\Row w g e (xs++sp):=by
 rcases h.2 with ⟨_,U⟩|⟨g,cap,cur,hv,hb,hh,C,F,O,J⟩
 .omega
 .refine⟨g,cap,cur.toList.drop (n*1),hv,hb,C,F,Row.mk ?_⟩;rw[<-J,ZdH];simpa using hh
variable{a:Option Addr}{base size:Nat}{e:TypeId}
def RX(h:w.ownsRow base e size (.slice a n c) n xs){j:Nat}{u:Qt}(C:xs[j]? =some u):∃g,a=some ⟨g,0,none⟩/\base<=g/\w.cell? ⟨g,j,none⟩=some u:=by
 rcases h.2 with ⟨_,F⟩|⟨g,cap,cur,hv,hb,_⟩
 .have:=h.1;rw[F,ZfC] at this;have:=(ZeP.1 C).1;omega
 .simp[ZeJ,ZgK] at hv;obtain⟨rfl,rfl⟩:=hv;exact⟨g,rfl,hb,Cc h rfl C⟩
def RY(h:w.ownsRow base e size (.slice a n c) n xs):n<=c/\c<=maxLen/\(a=none->n=0/\c=0):=by
 rcases h.2 with ⟨hv,J⟩|⟨g,cap,cur,hv,hb,_,C,F,_⟩
 .simp[ZeJ] at hv;obtain⟨rfl,rfl,rfl⟩:=hv;exact⟨Zt _,ZeT _,λ_=>⟨rfl,rfl⟩⟩
 .simp[ZeJ,ZgK] at hv;obtain⟨rfl,rfl⟩:=hv;exact⟨C,F,λh=>by cases h⟩
variable{ss:List ByteArray}
def Y9(w:Qs)(a:Qm)(ss:List Qq):Prop:=∀j (h:j<ss.length),∃g o,a=some ⟨g,o,none⟩/\w.cell? ⟨g,o+j,none⟩=some (.string ss[j])
def Y9.after(h:Y9 w a ss)(hb:Below w w w'):Y9 w' a ss:=λj C=>by have⟨g,o,ha,hc⟩:=h j C;exact⟨g,o,ha,(hb.cell (p:=⟨g,o+j,none⟩) (Jf hc)).trans hc⟩
def Y9.open(h:Y9 w a ss)(J:0<ss.length):∃g o,a=some ⟨g,o,none⟩/\g<w.heap.size/\∀j,j<ss.length->w.cell? ⟨g,o+j,none⟩=some (.string (ss.getD j ⟨#[]⟩)):=by obtain⟨g,o,ha,hc⟩:=h 0 J;refine⟨g,o,ha,Jf hc,λj F=> ?_⟩;obtain⟨O,o',C,hc'⟩:=h j F;rw[ha] at C;simp only[ZdC,Zh4] at C;rw[C.1,C.2.1,hc',Z7,Z8 F,Ze7]
def QS(ss:List Qq):Qk:=ss.map .string
def Te(ss:List Qq)(j:Nat)(h:j<ss.length):(QS ss)[j]? =some (.string ss[j]):=by simp[QS,h]
def Tf(ss:List Qq):(QS ss).length=ss.length:=by simp[QS]
def Y9.own(h:w.ownsRow base e 1 (.slice a n c) n (QS ss)):Y9 w a ss:=λj C=>by have⟨g,ha,_,hc⟩:=RX h (Te ss j C);exact⟨g,0,ha,by rw[Ze5];exact hc⟩
def Ys(ss:List Qq):List Ql:=ss.map λs=>s.data.toList
def Dh(ss:List Qq):(Ys ss).length=ss.length:=by simp[Ys]
def Z0N(ss:List Qq)(k:Nat):Ys (ss.take k)=(Ys ss).take k:=by simp[Ys,ZfH]
def Z0M(ss:List Qq)(s:Qq):Ys (ss++[s])=Ys ss++[s.data.toList]:=by simp[Ys]
def GO(ss:List Qq)(k:Nat)(h:k<ss.length):Ys (ss.take (k+1))=Ys (ss.take k)++[(ss.getD k ⟨#[]⟩).data.toList]:=by rw[Zc h,Z0M,Z7,Z8 h];rfl
def Lm(l:Ql):Yy [l]=4+l.length:=by rfl
def Ra(l:Ql):XG [l]=QI l.length++l:=by simp[XG]
def LG(n:Nat)(h:n<=4294967295)(w:Qs):Calls prog 125 #[(n:Int)] w λe w'=>e=.returned (.tuple #[.string (s32 n),.nilIface])/\Below w w w':=by go_enter func125,ntmps125;go_wp2_with (go_at_call 181;go_fit (Cn n Qw _);rintro e w' ⟨rfl,hb⟩);go_ret2;simp_all
theorem Z3B(g o c:Nat)(ss:List Qq)(w:Qs)(hR:Y9 w (some ⟨g,o,none⟩) ss)(ag:4+Yy (Ys ss)<=60000):Calls prog 126 #[.slice (some ⟨g,o,none⟩) ss.length c] w λe w'=>e=.returned (.tuple #[.string ⟨(Y8 (Ys ss)).toArray⟩,.nilIface])/\Below w w w':=by
 have ae:∀j,j<ss.length->w.cell? ⟨g,o+j,none⟩=some (.string (ss.getD j ⟨#[]⟩)):=λj U=>by obtain⟨g',o',ha,hc⟩:=hR j U;simp_all
 have af:∀j,j<ss.length->g<w:=λj U=>by
  have:=ae j U;rcases ZeF g w with h|h
  .omega
  .simp[World.cell?,ZeG h] at this
 have bm:4*ss.length<=60000:=by have:=Ep (Ys ss);rw[Dh] at this;omega
 have hle:∀j,j<ss.length->4+Yy (Ys (ss.take j))+4+(ss.getD j ⟨#[]⟩).size<=60000:=λj U=>by have h1:=PZ (Ys ss) (j+1);rw[<-Z0N,GO ss j U,Hq,Lm] at h1;simp at h1;grind
 have HC:=ZI ae;have HG:=ZI af;have HL:=ZI hle;have HZ:=ZI ag;clear ae af hle hR ag;go_enter func126,ntmps126;go_wp2;go_loop [4,6,12] (λz s i=>∃k:Nat,k<=ss.length/\i=(k:Int)/\z=((4+Yy (Ys (ss.take k)):Nat):Int)) (λ_ _ i=>ss.length- (intOf i).toNat)
 .exact⟨0,Qw,rfl,rfl⟩
 obtain⟨k,hk,rfl,rfl⟩:=hrel;by_cases C:k<ss.length
 .have hc:=HC.o k C;have hl:=HL.o k C;have hs:=GO ss k C;obtain⟨t,F⟩:=ZK (ss.getD k ⟨#[]⟩);obtain⟨z,hz⟩:=ZK (4+Yy (Ys (ss.take k)));rw[F] at hc hl hs;rw[hz] at hl⊢;have HS:=ZI hs;clear hs;have HT:=ZI F;clear F;have az:=ZI hz;clear hz;go_wp2;go_round
  .exact⟨k+1,Qw,QC,Bf (by rw[HS.o,Hq,Lm];have:=az.o;simp;omega)⟩
  simp[intOf];omega
 .obtain rfl:k=ss.length:=by omega
  have aq:=Z9D w;have ah:=ZI aq;clear aq;have cj:4*ss.length<=60000:=bm;go_wp2_with (first|(go_at_call 181;refine(Cn ss.length Qw _).mono ?_;rintro e w1 ⟨rfl,Z⟩;have aj:=ah.o.after Z)|(go_at_call 164;refine(F8 w _ [] (s32 ss.length) _ aj (by rw[Jh];simp) (by have:=Z.size;simp at this;omega)).mono ?_;rintro e w2 ⟨rfl,ak,au⟩));have ay:Below w w w2:=(((Zu _ w).alloc (Zt _) _).trans (Z.mono Qx)).trans au;have ai:=ZM ak ay;clear aj ak Z au ay ah;go_loopw [9,31] (λs i wr=>∃k:Nat,k<=ss.length/\i=(k:Int)/\Bld wr w w (QI ss.length++XG (Ys (ss.take k)))/\Below w w wr) (λ_ i _=>ss.length- (intOf i).toNat)
  .exact⟨0,Qw,rfl,ai.1,ai.2⟩
  obtain⟨k,hk,rfl,hB,hw⟩:=hrel;have ag:=hw.size;by_cases C:k<ss.length
  .have af:=HG.o k C;have hc:=(hw.cell (p:=⟨g,o+k,none⟩) af).trans (HC.o k C);have hl:=HL.o k C;have hs:=GO ss k C;obtain⟨t,F⟩:=ZK (ss.getD k ⟨#[]⟩);obtain⟨q,hq⟩:=ZK (QI ss.length++XG (Ys (ss.take k)));have bq:q.length+4+t.size<=60004:=by rw[<-hq,<-F];simp only[Zb,Wl,Hr];omega
   rw[F] at hc hl hs;rw[hq] at hB;have HS:=ZI hs;clear hs;have HT:=ZI F;clear F;have HQ:=ZI hq;clear hq;have J:=ZM hB hw;clear hB hw;have tz:t.size<=60000:=Qw;go_wp2_with (first|(go_at_call 181;refine(Cn t.size Qw _).mono ?_;rintro e w3 ⟨rfl,O⟩;have bf:=J.1.after O;have bu:=O.size;have T3:=ZI True.intro)|(go_at_call 164;have t3:=T3.o;clear T3;refine(F8 w _ q (s32 t.size) _ bf (by rw[Jh];omega) Qw).mono ?_;rintro e w4 ⟨rfl,bg,aw⟩;have bz:=aw.size;have T4:=ZI True.intro)|(go_at_call 164;have t4:=T4.o;clear T4;refine(F8 w _ (q++(s32 t.size).data.toList) t _ bg (by simp[Ig,Wl];omega) Qw).mono ?_;rintro e w5 ⟨rfl,bh,bj⟩));go_roundw
   .refine⟨k+1,Qw,QC,?_,?_⟩
    .rw[HS.o,Ln,Ra,<-Zd,HQ.o];simpa[Ig] using bh
    .exact((J.2.trans (O.mono Qw)).trans aw).trans bj
   simp[intOf];omega
  .obtain rfl:k=ss.length:=(by omega);rw[Zs] at hB;have J:=ZM hB hw;clear hB hw;go_wp2_with (go_at_call 165;refine(Ka w _ _ _ J.1 ag).mono ?_;rintro e w3 ⟨rfl,O⟩);go_ret2;exact⟨by rw[Y8,Dh];rfl,J.2.trans O⟩
variable{s:ByteArray}
def YC(s:Qq)(p:Nat):Qo:=(s.data.toList.getD p 0).toBitVec
def Z03(s:Qq)(p:Nat)(h:p<s.data.toList.length):s.data.toList[p].toBitVec=YC s p:=by unfold YC;rw[Z7,Z8 h,Ze7]
def Z07{t:Qq}(h:s.size=t.size)(hb:∀p,p<s.size->YC s p=YC t p):s=t:=by
 have hs:s.data.toList.length=s.size:=Qx;have J:t.data.toList.length=t.size:=Qx;have:s.data.toList=t.data.toList:=by apply Zeu Qw;intro i F C;have:=hb i Qw;unfold YC at this;rw[Z7,Z7,Z8 F,Z8 C,Ze7,Ze7] at this;exact UInt8.toBitVec_inj.1 this
 have C:s.data=t.data:=Zg1.1 this;cases s;cases t;simp_all
def Z5X(x:Nat->BitVec 8)(Zao:List Qq)(len:Nat)(h:∀i,i<Zao.length->(Zao.getD i ⟨#[]⟩).size=len)(k:Nat)(Z:k<=Zao.length):JH x Zao len k=(List.range len).map λp=>UInt8.ofBitVec (sm k λj=>gm (x j) (YC (Zao.getD j ⟨#[]⟩) p)):=by
 induction k with
 |zero=>rw[JH];apply Zeu Qx;intro i O F;simp[sm]
 |succ k ih=>
  have hl:=SK x Zao len h k Qw;have F:=h k Qw;have C:(Zao.getD k ⟨#[]⟩).data.toList.length=len:=by rw[<-F];simp
  rw[JH];apply Zeu
  .rw[Mh _ _ _ (by rw[hl,C]),hl];simp
  .intro i U J;have hi:i<len:=(by simpa using J);rw[Th _ _ _ _ (by rw[hl];exact hi) (by rw[C];exact hi)];have e1:(JH x Zao len k)[i]'(by rw[hl];exact hi)=UInt8.ofBitVec (sm k λj=>gm (x j) (YC (Zao.getD j ⟨#[]⟩) i)):=by simp only[ih Qw];simp
   have e2:((Zao.getD k ⟨#[]⟩).data.toList[i]'(by rw[C];exact hi)).toBitVec=YC (Zao.getD k ⟨#[]⟩) i:=Z03 _ _ (by rw[C];exact hi);rw[e1,e2];simp[sm]
def E2(x:Nat->BitVec 8)(Zao:List Qq)(len:Nat)(h:∀i,i<Zao.length->(Zao.getD i ⟨#[]⟩).size=len)(k:Nat)(C:k<=Zao.length)(p:Nat)(F:p<len):YC (XJ x Zao len k) p=sm k λj=>gm (x j) (YC (Zao.getD j ⟨#[]⟩) p):=by show((JH x Zao len k).toArray.toList.getD p 0).toBitVec=_;rw[Zfh,Z5X x Zao len h k C,Z7];simp[F]
def WP(A:Nat->Nat->BitVec 8)(Zao:List Qq)(len c r:Nat):List Qq:=(List.range r).map λi=>XJ (A i) Zao len c
def BI(A:Nat->Nat->BitVec 8)(Zao:List Qq)(len c r:Nat):(WP A Zao len c r).length=r:=by simp[WP]
def Ey(A:Nat->Nat->BitVec 8)(Zao:List Qq)(len c r i:Nat)(h:i<r):(WP A Zao len c r).getD i ⟨#[]⟩=XJ (A i) Zao len c:=by rw[Z7];simp[WP,h]
def Mc(A:Nat->Nat->BitVec 8)(Zao:List Qq)(len c r:Nat)(h:∀i,i<Zao.length->(Zao.getD i ⟨#[]⟩).size=len)(hc:c<=Zao.length)(i:Nat)(hi:i<(WP A Zao len c r).length):((WP A Zao len c r).getD i ⟨#[]⟩).size=len:=by rw[BI] at hi;rw[Ey _ _ _ _ _ _ hi,Id _ _ _ h _ hc]
def SF{x:Nat->BitVec 8}{Zao:List Qq}{len:Nat}(h:∀i,i<Zao.length->(Zao.getD i ⟨#[]⟩).size=len)(C:k<=Zao.length)(hs:s.size=len)(hb:∀p,p<len->YC s p=sm k λj=>gm (x j) (YC (Zao.getD j ⟨#[]⟩) p)):s=XJ x Zao len k:=by refine Z07 (by rw[hs,Id x Zao len h k C]) λp F=> ?_;rw[E2 x Zao len h k C p Qw,hb p Qw]
def Z5U(A B:Nat->Nat->BitVec 8)(Zao:List Qq)(len n m i:Nat)(h:∀i,i<Zao.length->(Zao.getD i ⟨#[]⟩).size=len)(hm:m<=Zao.length):XJ (Wu n A B i) Zao len m=XJ (A i) (WP B Zao len m n) len n:=by refine SF (Mc B Zao len m n h hm) (by rw[BI];exact Zt _) (Id _ _ _ h _ hm) λp C=> ?_;rw[E2 _ _ _ h _ hm p C];have e:=Lx n m A B (λt p=>YC (Zao.getD t ⟨#[]⟩) p) i p;refine e.trans (WH λj F=> ?_);rw[Ey _ _ _ _ _ _ F,E2 _ _ _ h _ hm p C];rfl
def IW(A:Nat->Nat->BitVec 8)(Zao:List Qq)(len c r:Nat):AU A Zao len c r=(WP A Zao len c r).map .string:=by unfold AU WP;rw[ZeW];rfl
def UX(r c ga oa n cap J len:Nat)(O:Qm)(A:Nat->Nat->BitVec 8)(Zao:List Qq)(w:Qs)(r1:1<=r)(r2:r<=255)(c1:1<=c)(c2:c<=255)(hn:n=r*c)(af:n<=cap)(U:cap<=9223372036854775807)(hlen:Zao.length=c)(C:∀i,i<Zao.length->(Zao.getD i ⟨#[]⟩).size=len)(hl:len<=100000)(ha:YL w ga oa r c A)(hL:Y9 w O Zao):Calls prog 162 #[.agg #[(r:Int),(c:Int),.slice (some ⟨ga,oa,none⟩) n cap],.slice O c J] w λe w'=>∃g ae,e=.returned (.tuple #[.slice (g:Nat) r ae,.nilIface])/\Y9 w' (some ⟨g,0,none⟩) (WP A Zao len c r)/\Below w w w':=by
 obtain⟨lg,lo,rfl,_,Z⟩:=hL.open Qw;refine(Gz r c ga oa n cap lg lo J A Zao w r1 r2 c1 c2 hn af U hlen (λi hi=>by rw[C i hi];exact hl) ha Z).mono ?_;rintro e w' ⟨h|h,hb⟩
 .obtain⟨⟨i,hi,ai⟩,_⟩:=h;exact absurd (by rw[C i hi,C 0 Qw]) ai
 .obtain⟨ah,v,rfl,F⟩:=h;rw[C 0 Qw,IW] at F;rcases F.2 with ⟨_,h0⟩|⟨g2,ag,cur,rfl,_⟩
  .omega
  .exact⟨_,_,rfl,Y9.own F,hb⟩
def UV(r c ga oa n cap O len:Nat)(U:Qm)(A:Nat->Nat->BitVec 8)(Zao:List Qq)(w:Qs)(r1:1<=r)(r2:r<=255)(c1:1<=c)(c2:c<=255)(hn:n=r*c)(af:n<=cap)(Z:cap<=9223372036854775807)(hlen:Zao.length=c)(F:∀i,i<Zao.length->(Zao.getD i ⟨#[]⟩).size=len)(hl:len<=100000)(ha:YL w ga oa r c A)(hL:Y9 w U Zao):Calls prog 162 #[.agg #[(r:Int),(c:Int),.slice (some ⟨ga,oa,none⟩) n cap],.slice U c O] w λe w'=>∃g J,e=.returned (.tuple #[.slice (g:Nat) r J,.nilIface])/\(Y9 w' (some ⟨g,0,none⟩) (WP A Zao len c r)/\r<=J/\J<=9223372036854775807)/\Below w w w':=by
 obtain⟨lg,lo,rfl,_,ae⟩:=hL.open Qw;refine(Gz r c ga oa n cap lg lo O A Zao w r1 r2 c1 c2 hn af Z hlen (λi hi=>by rw[F i hi];exact hl) ha ae).mono ?_;rintro e w' ⟨h|h,hb⟩
 .obtain⟨⟨i,hi,ai⟩,_⟩:=h;exact absurd (by rw[F i hi,F 0 Qw]) ai
 .obtain⟨ah,v,rfl,C⟩:=h;rw[F 0 Qw,IW] at C;rcases C.2 with ⟨_,h0⟩|⟨g2,ag,cur,rfl,_⟩
  .omega
  .have hc:=RY C;exact⟨_,_,rfl,⟨Y9.own C,hc.1,Zq hc.2.1 Qz⟩,hb⟩
variable{L:List Nat}
def FN{B e:Nat}(F:w.ownsRow B e size v n xs)(J:Below B w0 w)(hB:B<=w)(C:w.grownBy w' v.ownBlock):Below B w0 w':=by
 have O:Fr (match v.ownBlock with|some g=>[g]|none=>[]) w w':=(Fr.refl _ _).grown C (λg C=>Zv (by rw[C];simp));refine J.trans (O.below hB (λg hm=> ?_));cases hv:v.ownBlock with
 |none=>rw[hv] at hm;simp at hm
 |some g'=>
  rw[hv] at hm;simp[Z6] at hm;rcases F.2 with ⟨h,_⟩|⟨g2,cap,cur,h,hb,_⟩
  .rw[h] at hv;cases hv
  .rw[h] at hv;simp[Value.ownBlock,ZdC] at hv;omega
def JE(L:Qj):Qk:=L.map λ(x:Nat)=>.int .i64 (x:Int)
def Z2U(L:Qj)(j:Nat)(h:j<L.length):(JE L)[j]? =some (.int .i64 (L[j]:Int)):=by simp[JE,h]
def Ps(L:Qj)(j:Nat)(h:j<L.length):(JE L)[j]? =some (.int .i64 (L.getD j 0:Int)):=by rw[Z2U L j h,Z7,Z8 h,Ze7]
def Z2T(L M:Qj):JE (L++M)=JE L++JE M:=by simp[JE]
def XC(w:Qs)(g o:Nat)(L:Qj):Prop:=∀j,j<L.length->w.cell? ⟨g,o+j,none⟩=(L.getD j 0:Int)
def XC.fr(h:XC w g o L){Ls:Qj}(C:Fr Ls w w')(F:g∉Ls):XC w' g o L:=λj J=>GF C F (h j J)
def XC.after(h:XC w g o L)(hb:Below w w w'):XC w' g o L:=h.fr (Z1 (L:=[]) hb) Qx
def XC.own(h:w.ownsRow base e 1 (.slice g n c) n (JE L)):XC w g 0 L:=λj C=>by obtain⟨F,ha,_,hc⟩:=RX h (Ps L j C);simp only[ZdC,Zh4] at ha;rw[Ze5,ha.1];exact hc
def Sc(h:w.ownsRow base e size (.slice a n c) n xs)(O:0<n):∃g,a=some ⟨g,0,none⟩/\base<=g/\n<=c/\c<=maxLen:=by
 rcases h.2 with ⟨_,J⟩|⟨g,cap,cur,hv,hb,_,C,F,_⟩
 .omega
 .simp[ZeJ,ZgK] at hv;obtain⟨rfl,rfl⟩:=hv;exact⟨g,rfl,hb,C,F⟩
def WR(k m l:Int):Bool:=decide (1<=k)&&(decide (0<=m)&&(decide (0<=l)&&(decide (k<=255)&&decide (m<=255-k))))
def Z3W{k m l:Int}(h:WR k m l=true):∃a b c:Nat,k=a/\m=b/\l=c/\1<=a/\a+b<=255:=by unfold WR at h;simp at h;exact⟨k.toNat,m.toNat,l.toNat,Qw,Qw,Qw,Qw,Qw⟩
def Dv{a b:Nat}(h:1<=a)(C:a+b<=255):WR a b c=true:=by unfold WR;simp;omega
def C9(k m l:Int)(w:Qs):Calls prog 119 #[k,m,l] w λe w'=>e=.returned (.bool (WR k m l))/\w=w':=by
 have go:∀b,WR k m l=b->Ending.returned (.bool b)=.returned (.bool (WR k m l)):=Qx;by_cases h:1<=k
 .by_cases C:0<=m
  .by_cases F:0<=l
   .by_cases J:k<=255
    .by_cases O:m<=255-k
     .have H:=ZI (go true (by unfold WR;rw[Zem h,Zem C,Zem F,Zem J,Zem O];rfl));go_enter func119,ntmps119;go_wp2;go_ret;exact⟨H.o,rfl⟩
     .have H:=ZI (go false (by unfold WR;rw[ZC O];simp));go_enter func119,ntmps119;go_wp2;go_ret;exact⟨H.o,rfl⟩
    .have H:=ZI (go false (by unfold WR;rw[ZC J];simp));go_enter func119,ntmps119;go_wp2;go_ret;exact⟨H.o,rfl⟩
   .have H:=ZI (go false (by unfold WR;rw[ZC F];simp));go_enter func119,ntmps119;go_wp2;go_ret;exact⟨H.o,rfl⟩
  .have H:=ZI (go false (by unfold WR;rw[ZC C];simp));go_enter func119,ntmps119;go_wp2;go_ret;exact⟨H.o,rfl⟩
 .have H:=ZI (go false (by unfold WR;rw[ZC h];simp));go_enter func119,ntmps119;go_wp2;go_ret;exact⟨H.o,rfl⟩
def CC(c:Int)(hc:c≠0)(w:Qs):Calls prog 114 #[c] w λe w'=>∃v,e=.returned v/\YB w w' v c/\Below w w w':=by have h:=ZI hc;go_enter func114,ntmps114;go_wp2;go_ret;exact⟨_,rfl,Zy ⟨h.o,w.heap.size,rfl,Zt _,Z2 w _ [.int .i64 c,.int .i64 0,.nilIface]⟩,(Zu _ _).alloc (Zt _) _⟩
def Yg(k l:Nat):Nat:=l / k+(if 0<l%k then 1 else 0)
def Z6Z(k l:Int)(w:Qs)(h:WR k 0 l=false):Calls prog 113 #[k,l] w λe w'=>∃ev,e=.returned (.tuple #[(0:Int),ev])/\YB w w' ev 1/\Below w w w':=by have H:=ZI h;go_enter func113,ntmps113;go_wp2_with (first|(go_at_call 119;go_fit (C9 k 0 l _);rintro e w1 ⟨rfl,rfl⟩;rw[H.o])|(go_at_call 114;go_fit (CC 1 Qw _);rintro e w2 ⟨ev,rfl,he,hb⟩;have C:=ZM he hb;clear he hb));go_ret2;exact⟨ev,rfl,C.1,C.2⟩
def DO(k l:Nat)(w:Qs)(F:1<=k)(h2:k<=255)(J:l<=9223372036854775807):Calls prog 113 #[(k:Int),(l:Int)] w λe w'=>e=.returned (.tuple #[(Yg k l:Int),.nilIface])/\w=w':=by
 have H:=ZI (Dv (b:=0) (c:=l) F Qw);have⟨d,h⟩:=ZL (l / k);have⟨m,hm⟩:=ZL (l%k);have:Int.tdiv (l:Int) (k:Int)=(d:Int):=QB;have:Int.tmod (l:Int) (k:Int)=(m:Int):=QA;have:d<=9223372036854775807:=by rw[h];exact Zq (Zge _ _) J
 by_cases C:0<m
 .have:d<=9223372036854775806:=by have:l=k*(l / k)+l%k:=(ZeM l k).symm;have:l / k<=k*(l / k):=ZfR _ Qw;omega
  have hs:Yg k l=d+1:=by unfold Yg;rw[<-hm,Zx C,<-h]
  rw[hs];clear h hm hs;go_enter func113,ntmps113;go_wp2_with (go_at_call 119;go_fit (C9 k 0 l _);rintro e w1 ⟨rfl,rfl⟩;rw[show WR (k:Int) 0 (l:Int)=true from H.o]);go_ret2;simp
 .have hs:Yg k l=d:=by unfold Yg;rw[<-hm,Zw C,<-h];omega
  rw[hs];clear h hm hs;go_enter func113,ntmps113;go_wp2_with (go_at_call 119;go_fit (C9 k 0 l _);rintro e w1 ⟨rfl,rfl⟩;rw[show WR (k:Int) 0 (l:Int)=true from H.o]);go_ret2;simp
variable{F G:World->Prop}
structure Bun(w0:Qs)(F:Qs->Prop)(w:Qs):Prop where
 all:∀w',Below w w w'->F w'
 bel:Below w0 w0 w
def Bun.start(w:Qs):Bun w (λ_=>True) w:=⟨λ_ _=>trivial,Zu _ _⟩
def Bun.here(h:Bun w0 F w):F w:=h.all w (Zu _ _)
def Bun.after(h:Bun w0 F w)(hb:Below w w w'):Bun w0 F w':=⟨λJ C=>h.all J (hb.trans (C.mono hb.size)),h.bel.trans (hb.mono h.bel.size)⟩
def Bun.add(h:Bun w0 F w)(C:∀w',Below w w w'->G w'):Bun w0 (λx=>F x/\G x) w:=⟨λw' hb=>⟨h.all w' hb,C w' hb⟩,h.bel⟩
def Bun.box(h:Bun w0 F w)(T:Qu)(L:Qk):Bun w0 (λx=>F x/\Row x w T L) (w.alloc (.cells L.toArray T)):=⟨λw' hb=>⟨h.all w' (((Zu _ _).alloc (Zt _) _).trans (hb.mono Qx)),(Z2 w T L).after hb⟩,h.bel.alloc h.bel.size _⟩
def Bun.map(h:Bun w0 F w)(C:∀x,F x->G x):Bun w0 G w:=⟨λw' hb=>C _ (h.all w' hb),h.bel⟩
def Bun.of(h:∀w',Below w w w'->F w')(hb:Below w0 w0 w):Bun w0 F w:=⟨h,hb⟩
def Y2.after{l:Qk}(h:Y2 w g e l)(hb:Below w w w'):Y2 w' g e l:=h.fr (Z1 (L:=[]) hb) Qx
def Za4(h:Row w g 5 (QZ (mat r c M).cells++sp)):YL w g 0 r c M:=λi j hi J=>by refine h.cell ?_;rw[Ze5];have C:=Hj hi J;rw[Za (by rw[JG,IA,YF];exact C),CJ _ _ (by rw[IA,YF];exact C)];simp[IA];rw[Ji _ _ _ C,An _ _ _ J]
def Z9h(h:Y2 w g 5 (QZ (mat r c M).cells)):YL w g 0 r c M:=Za4 (sp:=[]) (by rw[ZdJ];exact h.row)
def Z2b(k:Nat):mat k k idm=mat k k (gen k):=Z3U λi j hi _=>by unfold gen;rw[Zx hi]
def Md(k m:Nat)(w:Qs)(h1:1<=k)(h2:k+m<=255):Calls prog 159 #[(k:Int),(m:Int)] w λe w'=>∃g,e=.returned (.tuple #[Xp (k+m) k g,.nilIface])/\w.heap.size<=g/\Y2 w' g 5 (QZ (mat (k+m) k (gen k)).cells)/\Below w w w':=by
 have⟨O,aq⟩:=ZL (k*k);have S0:=ZI ((Bun.start w).box 250 [.int .i64 0,.int .i64 0,.slice none 0 0]);have af:=ZI aq;clear aq;by_cases hm:m=0
 .subst hm;go_enter func159,ntmps159;go_wp2_with (go_at_call 220;have C:=S0.o;clear S0;go_fit (Pt k _ Qw Qw);rintro e w4 ⟨Z,he,hg,U,hb⟩;have ae:e=.returned (.tuple #[.agg #[(k:Int),(k:Int),.slice Z O O],.nilIface]):=(by rw[he,af.o];rfl);subst ae;clear he;have ag:w<=Z:=Zq C.bel.size hg;have J:=((C.after hb).add (λ_ h=>U.after h)).box 250 [.int .i64 k,.int .i64 k,.slice Z O O];have⟨x0,x1,x2⟩:=QN J.here.2;have⟨z0,z1,z2⟩:=QN J.here.1.1.2;have⟨f0,f1,f2⟩:=Jm J.here.1.1.2;have S4:=ZI J;clear C hb U hg J);have hy:=Xh (a:=.int .i64 k) (b:=.int .i64 k) (c:=.slice Z O O) S4.o.here.1.1.2;have⟨y0,y1,y2⟩:=QN hy
  exact ZD (v:=.tuple #[.agg #[(k:Int),(k:Int),.slice Z O O],.nilIface]) (by simp[results,go_sem,y0,y1,y2]) rfl ⟨Z,by rw[af.o];rfl,ag,by
   have C:=S4.o.here.1.2;rw[Z2b] at C
   exact C.fr ((((Fr.refl [w.heap.size] _).setCell (Zv Qx) _).setCell (Zv Qx) _).setCell (Zv Qx) _) (by simp;exact λe=>S4.o.here.1.1.2.ne C.row Qx e.symm),Xz S4.o.bel (Zt _)⟩
 .have⟨qc,ak⟩:=ZL (m*k);have⟨K,hK⟩:=ZL (k+m);have⟨qa,aj⟩:=ZL (K*k);have:((m:Int)==0)=false:=QB;have ai:=ZI ak;have HK:=ZI hK;have ah:=ZI aj;clear ak hK aj hm;go_enter func159,ntmps159;go_wp2_with (first|(go_at_call 220;have C:=S0.o;clear S0;go_fit (Pt k _ Qw Qw);rintro e w4 ⟨Z,he,hg,U,hb⟩;have ae:e=.returned (.tuple #[.agg #[(k:Int),(k:Int),.slice Z O O],.nilIface]):=(by rw[he,af.o];rfl);subst ae;clear he;have J:=((C.after hb).add (λ_ h=>U.after h)).box 250 [.int .i64 k,.int .i64 k,.slice Z O O];have S4:=ZI J;clear C hb U hg J)|(go_at_call 221;have C:=S4.o;clear S4;go_fit (Z0g m k _ QA Qw Qw Qw Qw);rintro e w5 ⟨gc,he,hg,U,hb⟩;have ae:e=.returned (.tuple #[.agg #[(m:Int),(k:Int),.slice gc qc qc],.nilIface]):=(by rw[he,ai.o];rfl);subst ae;clear he;have J:=((C.after hb).add (λ_ h=>U.after h)).box 250 [.int .i64 m,.int .i64 k,.slice gc qc qc];have⟨x0,x1,x2⟩:=QN J.here.1.1.2;have⟨y0,y1,y2⟩:=QN J.here.2;have S5:=ZI J;clear C hb U hg J)|(go_at_call 222;have C:=S5.o;clear S5;go_fit (Z7Y k m k Z 0 gc 0 O qc O qc idm (cau k) _ Qw Qw Qw QA Qw af.o ai.o (Z9h C.here.1.1.1.2) (Z9h C.here.1.2));rintro e w6 ⟨ga,he,hg,U,hb⟩;have ae:e=.returned (.tuple #[.agg #[(K:Int),(k:Int),.slice ga qa qa],.nilIface]):=(by rw[he,ah.o,HK.o];rfl);subst ae;clear he;have ag:w<=ga:=Zq C.bel.size hg;have J:=(C.after hb).add (λ_ h=>U.after h);have⟨z0,z1,z2⟩:=QN J.here.1.1.1.1.1.2;have⟨f0,f1,f2⟩:=Jm J.here.1.1.1.1.1.2;have S6:=ZI (J.map (λx h=>ZJ h.1.1.1.1.1.2 h.2));clear C hb U hg J));have hy:=Xh (a:=.int .i64 K) (b:=.int .i64 k) (c:=.slice ga qa qa) S6.o.here.1;have⟨y0,y1,y2⟩:=QN hy
  exact ZD (v:=.tuple #[.agg #[(K:Int),(k:Int),.slice ga qa qa],.nilIface]) (by simp[results,go_sem,y0,y1,y2]) rfl ⟨ga,by rw[ah.o,HK.o];rfl,ag,by
   have C:=S6.o.here.2
   exact C.fr ((((Fr.refl [w.heap.size] _).setCell (Zv Qx) _).setCell (Zv Qx) _).setCell (Zv Qx) _) (by simp;exact λe=>S6.o.here.1.ne C.row Qx e.symm),Xz S6.o.bel (Zt _)⟩
def Nu(k m ae len:Nat)(la:Qm)(Zao:List Qq)(w:Qs)(h1:1<=k)(h2:k+m<=255)(hlen:Zao.length=k)(aj:∀i,i<Zao.length->(Zao.getD i ⟨#[]⟩).size=len)(hl:len<=100000)(hL:Y9 w la Zao):Calls prog 121 #[(k:Int),(m:Int),.slice la k ae] w λe w'=>∃g O,e=.returned (.tuple #[.slice (g:Nat) (k+m) O,.nilIface])/\(Y9 w' (some ⟨g,0,none⟩) (WP (gen k) Zao len k (k+m))/\k+m<=O/\O<=9223372036854775807)/\Below w w w':=by
 have⟨K,hK⟩:=ZL (k+m);have⟨J,ah⟩:=ZL (K*k);have:J<=255*255:=by rw[ah];exact Ze2 Qw Qw
 have S0:=ZI (Bun.start w);have HK:=ZI hK;have ai:=ZI ah;have af:=ZI hlen;have ak:=ZI aj;have HL:=ZI hL;have:k<=K:=Qw;have:K<=255:=Qw;rw[<-hK];clear hK ah hlen aj hL;go_enter func121,ntmps121;go_wp2_with (first|(go_at_call 159;have C:=S0.o;clear S0;go_fit (Md k m _ h1 h2);rintro e w1 ⟨ga,he,hg,U,hb⟩;have aq:e=.returned (.tuple #[.agg #[(K:Int),(k:Int),.slice ga J J],.nilIface]):=(by rw[he,ai.o,HK.o];rfl);subst aq;clear he;rw[<-HK.o] at U;have Z:=((C.after hb).add (λ_ h=>(Z9h U).after h)).box 250 [.int .i64 K,.int .i64 k,.slice ga J J];have⟨x0,x1,x2⟩:=QN Z.here.2;have S1:=ZI Z;clear C hb U hg Z)|(go_at_call 162;have C:=S1.o;clear S1;go_fit (UV K k ga 0 J J ae len la (gen k) Zao _ Qw Qw Qw Qw ai.o (Zt _) Qw af.o ak.o hl C.here.1.2 (HL.o.after C.bel));rintro e w2 ⟨g5,ag,rfl,ht,hb⟩;have S2:=ZM ht (C.after hb).bel;clear C hb ht));go_ret2;exact⟨g5,ag,rfl,S2.1,S2.2⟩
def XN(n:Nat):Qq:=⟨(List.replicate n 0).toArray⟩
def DV(n:Nat):(XN n).size=n:=by show(List.replicate n (0:UInt8)).toArray.size=n;simp
def FW(z:Nat):(⟨(Lib.repeatL (⟨#[0]⟩:Qq).data.toList z).toArray⟩:Qq)=XN z:=by
 congr 2
 induction z with
 |zero=>rfl
 |succ z ih=>rw[List.replicate_succ,<-ih];rfl
def WQ(T:Qq)(n k:Nat):List Qq:=(List.range k).map λi=>T.extract (i*n) ((i+1)*n)
def BX(T:Qq)(n k:Nat):(WQ T n k).length=k:=by simp[WQ]
def Oh(T:Qq)(n k i:Nat)(h:i<k):(WQ T n k).getD i ⟨#[]⟩=T.extract (i*n) ((i+1)*n):=by simp[WQ,h]
def Oi(T:Qq)(n k:Nat):QS (WQ T n (k+1))=QS (WQ T n k)++[.string (T.extract (k*n) ((k+1)*n))]:=by unfold QS WQ;rw[ZdX,Zo,Zo];rfl
theorem Ko(T:Qq)(n k:Nat)(h:T.size=k*n):∀i,i<(WQ T n k).length->((WQ T n k).getD i ⟨#[]⟩).size=n:=by intro i hi;rw[BX] at hi;rw[Oh T n k i hi,ZdU,h];have:(i+1)*n<=k*n:=Zed n hi;grind
def Je(t:Qq)(N:Nat):Qq:=t++XN (N-t.size)
def LS(t:Qq)(N:Nat)(h:t.size<=N):(Je t N).size=N:=by unfold Je;rw[Zep,DV];omega
theorem CW(k l:Nat)(C:1<=k):l<=k*Yg k l:=by
 unfold Yg;have:=ZeM l k;split
 .have:=Zg0 l (show k>0 by omega);grind
 .simp_all
theorem TR(k l:Nat)(C:1<=k):k*Yg k l<=l+k:=by unfold Yg;have:=ZeM l k;grind
theorem Gg(k l:Nat)(h:1<=k):Yg k l<=l+1:=by unfold Yg;have:=Zge l k;grind
def Y5(k m:Nat)(t:Qq):List Qq:=WP (gen k) (WQ (Je t (k*Yg k t.size)) (Yg k t.size) k) (Yg k t.size) k (k+m)
open Go.RowKit
variable{K s:Nat}{L:List (Bool×ByteArray)}{e:Ending}
def BU(w:Qs)(a:Qm)(L:List (Bool×Qq)):Prop:=∀j (h:j<L.length),∃g o,a=some ⟨g,o,none⟩/\w.cell? ⟨g,o+j*2,none⟩=some (.bool L[j].1)/\w.cell? ⟨g,o+j*2+1,none⟩=some (.string L[j].2)
def YN(L:List (Bool×Qq))(j:Nat):Bool×Qq:=L.getD j (false,⟨#[]⟩)
def Z4U(L:List (Bool×Qq))(j:Nat)(h:j<L.length):L[j]=YN L j:=by unfold YN;rw[Z7,Z8 h,Ze7]
def BU.at_(h:BU w a L){j:Nat}(O:j<L.length):∃g o,a=some ⟨g,o,none⟩/\g<w.heap.size/\w.cell? ⟨g,o+j*2,none⟩=some (.bool (YN L j).1)/\w.cell? ⟨g,o+j*2+1,none⟩=some (.string (YN L j).2):=by have⟨g,o,ha,C,J⟩:=h j O;rw[Z4U L j O] at C J;exact⟨g,o,ha,Jf C,C,J⟩
def whF(L:List (Bool×Qq))(i:Nat):Qj:=(List.range i).filter λj=>(YN L j).1
def hvF(L:List (Bool×Qq))(i:Nat):List Qq:=(whF L i).map λj=>(YN L j).2
theorem MW(h:(YN L i).1=true):whF L (i+1)=whF L i++[i]:=by unfold whF;rw[ZdX,Zeo];grind
theorem MV(h:(YN L i).1=false):whF L (i+1)=whF L i:=by unfold whF;rw[ZdX,Zeo];grind
def Z2R(h:(YN L i).1=true):hvF L (i+1)=hvF L i++[(YN L i).2]:=by unfold hvF;rw[MW h,Zo];rfl
def Z2P(h:(YN L i).1=false):hvF L (i+1)=hvF L i:=by unfold hvF;rw[MV h]
def Hh(L:List (Bool×Qq))(i:Nat):(hvF L i).length=(whF L i).length:=by simp[hvF]
theorem Uk(L:List (Bool×Qq))(i:Nat):(whF L i).length<=i:=by unfold whF;grind
def Gl(h:j∈whF L i):j<i/\(YN L j).1=true:=by unfold whF at h;simp_all
def Z8v(L:List (Bool×Qq))(i:Nat):(whF L i).Nodup:=by exact Zg8 (λj=>(YN L j).1) ZfE
def Sa{B e B2 e2 s2 n2:Nat}{v2:Qt}{J:Qk}(U:w.ownsRow B e s v n xs)(O:w.ownsRow B2 e2 s2 v2 n2 J)(ah:e≠e2)(Z:w.grownBy w' v.ownBlock):w'.ownsRow B2 e2 s2 v2 n2 J:=by
 refine⟨O.1,?_⟩;rcases O.2 with h|⟨g,cap,cur,hv,hb,hh,r⟩
 .simp_all
 .refine Zy ⟨g,cap,cur,hv,hb,(Z.block g (ZdE.1 hh).1 ?_).trans hh,r⟩;intro e1;rcases U.2 with ⟨C,_⟩|⟨g1,ae,af,C,_,ag,_⟩
  .rw[C] at e1;cases e1
  .rw[C] at e1;simp[Value.ownBlock] at e1;simp_all
def Tg(Zao:List Qq)(u:Qq):QS (Zao++[u])=QS Zao++[.string u]:=by simp[QS]
def Cd{B e:Nat}(h:w.ownsRow B e s v n xs):∃a c,v=.slice a n c:=by
 rcases h.2 with ⟨hv,C⟩|⟨g,cap,cur,hv,_⟩
 .simp_all
 .simp_all
def Z31:(prog.info? 3).map (λi=>(i.zero,i.size,i.bytes))=some (some (.int .i64 0),1,8):=Qy
def Z53{L:List Int}(hx:Nj w r c A L e w')(h:∀i,i<L.length->0<=L.getD i 0/\L.getD i 0<r):∃g,e=.returned (.tuple #[Xp L.length c g,.nilIface])/\w.heap.size<=g/\YL w' g 0 L.length c (λi j=>A (L.getD i 0).toNat j)/\Below w w w':=by
 have⟨hx,hb⟩:=hx;rcases hx with ⟨⟨i,hi,O⟩,_⟩|⟨_,g,he,J,C⟩
 .simp_all
 .exact⟨g,he,J,Z9h C,hb⟩
def Z32(hx:Nd w N A e w')(Z:Inj N A):∃g B,Aq N A B/\e=.returned (.tuple #[Xp N N g,.nilIface])/\w.heap.size<=g/\YL w' g 0 N N B/\Below w w w':=by
 have⟨hx,hb⟩:=hx;rcases hx with ⟨h,_⟩|⟨_,g,B,C,J,O,U⟩
 .simp_all
 .exact⟨g,B,C,J,O,Z9h U,hb⟩
theorem Y9.take(h:Y9 w a ss)(k:Nat):Y9 w a (ss.take k):=λj C=>by rw[Zg] at C;have⟨g,o,ha,hc⟩:=h j Qw;grind
def Z2Q(h:∀j,j<K->(YN L j).1=true->(YN L j).2.size=n)(k:Nat):∀i,i<((hvF L K).take k).length->(((hvF L K).take k).getD i ⟨#[]⟩).size=n:=by intro i hi;rw[Z7,Z8 hi,Ze7];have hm:((hvF L K).take k)[i]∈hvF L K:=Qx;have⟨j,O,he⟩:=Zz.1 hm;have C:=Gl O;have J:=h j C.1 C.2;rw[he] at J;exact J
def Z5M{P P':Nat->Nat->BitVec 8}(h:∀i j,i<k->P i j=P' i j)(hB:Aq k P B):Aq k P' B:=λi l hi hl=>by rw[<-hB i l hi hl];unfold Wu;simp_all
def Iz(L:Qj)(k i:Nat)(h:i<k):(L.take k).getD i 0=L.getD i 0:=by simp_all
theorem Z3O(L:Qj)(i:Nat):(L.map λ(x:Nat)=>(x:Int)).getD i 0=(L.getD i 0:Int):=by grind
def M9{m:Nat}(hK:K=k+m)(h:K<=255)(hc:k<=(whF L K).length):Inj k (λi j=>gen k (((whF L K).take k).getD i 0) j):=Z2Y k m Qw _ QB ((Z8v L K).sublist (List.take_sublist _ _)) (λa ha=>by have:=Gl (ZdK ha);omega)
def Ew(k:Nat)(L:List (Bool×Qq))(K i j:Nat):Qo:=gen k ((whF L K).getD i 0) j
def EU(k m n:Nat)(L:List (Bool×Qq))(code:Int)(T:List Qq):Prop:=
 ((∃j,j<k+m/\(YN L j).1=true/\(YN L j).2.size≠n)/\code=19/\T=[])∨
 ((∀j,j<k+m->(YN L j).1=true->(YN L j).2.size=n)/\(whF L (k+m)).length<k/\code=17/\T=[])∨
 ((∀j,j<k+m->(YN L j).1=true->(YN L j).2.size=n)/\k<=(whF L (k+m)).length/\code=0/\∃B,Aq k (Ew k L (k+m)) B/\T=WP (gen k) (WP B ((hvF L (k+m)).take k) n k k) n k (k+m))
def Z5I(k m l:Nat)(pa:Qm)(pc:Nat)(L:List (Bool×Qq))(w:Qs)(h1:1<=k)(h2:k+m<=255)(h3:l<=9223372036854775807)(hl:L.length=k+m)(hP:BU w pa L)(cz:∀j,j<k+m->(YN L j).1=true->(YN L j).2.size<=100000):Calls prog 112 #[(k:Int),(m:Int),(l:Int),.slice pa (k+m) pc] w λe w'=>∃code T a' aj ev,EU k m (Yg k l) L code T/\e=.returned (.tuple #[.slice a' T.length aj,ev])/\YB w w' ev code/\(Y9 w' a' T/\T.length<=aj/\aj<=9223372036854775807)/\Below w w w':=by
 have H:=ZI (Dv (c:=l) h1 h2);have⟨n,hn⟩:=ZL (Yg k l);have⟨K,hK⟩:=ZL (k+m);have k1:K<=255:=Qw;have:k<=K:=Qw;have hb:((K:Int) !=(k:Int)+(m:Int))=false:=by simp;omega
 have:n<=9223372036854775807:=by rw[hn];unfold Yg;have:=ZeM l k;have h5:l / k<=k*(l / k):=ZfR _ Qw;split<;>omega
 have⟨j0,fi,ft,fu,fw⟩:=ZE Cj;have⟨i9,fh,fo,fp,fq⟩:=ZE Z31;unfold EU;rw[<-hn,<-hK];rw[<-hK] at hl cz;have HN:=ZI hn;have HK:=ZI hK;have HL:=ZI hl;have HP:=ZI hP;have dp:=ZI cz;clear hn hK hl hP cz;go_enter func112,ntmps112;go_wp2_with (first|(go_at_call 119;go_fit (C9 k m l _);rintro e w1 ⟨rfl,rfl⟩;rw[H.o])|(go_at_call 113;go_fit (DO k l _ h1 Qw h3);rintro e w1 ⟨rfl,rfl⟩;rw[<-HN.o]));obtain⟨w0,fm⟩:∃w0:Qs,w0=w:=⟨_,rfl⟩;subst fm;go_loopw [12,13,39] (λhv wv ii wr=>∃i:Nat,i<=K/\ii=(i:Int)/\(∀j,j<i->(YN L j).1=true->(YN L j).2.size=n)/\wr.ownsRow w0 9 1 hv (whF L i).length (QS (hvF L i))/\wr.ownsRow w0 3 1 wv (whF L i).length (JE (whF L i))/\Below w0 w0 wr) (λ_ _ ii _=>K- (intOf ii).toNat)
 .exact⟨0,Qw,rfl,λj h=>Qw,ZA _ _ _ _,ZA _ _ _ _,Zu _ _⟩
 obtain⟨i,hi,rfl,ay,ae,O,U⟩:=hrel;have ag:=ZI ay;clear ay;by_cases cj:i<K
 .obtain⟨pg,po,rfl,eo,c0,c1⟩:=HP.o.at_ (j:=i) (by rw[HL.o];exact cj);have d0:=(U.cell (p:=⟨pg,po+i*2,none⟩) eo).trans c0;have d1:=(U.cell (p:=⟨pg,po+i*2+1,none⟩) eo).trans c1;have⟨b,ct⟩:=ZL (YN L i).1;have⟨t,ht⟩:=ZL (YN L i).2;rw[<-ct] at d0;rw[<-ht] at d1;have HB:=ZI ct;have HT:=ZI ht;clear c0 c1 ct ht;cases b
  .have S1:=ZN ae O U;clear ae O U;go_wp2;go_roundw
   .refine⟨i+1,Qw,QC,λj hj bm=> ?_,by rw[MV HB.o.symm,Z2P HB.o.symm];exact S1.1,by rw[MV HB.o.symm];exact S1.2.1,S1.2.2⟩;by_cases e:j=i
    .rw[e,<-HB.o] at bm;cases bm
    .exact ag.o j Qw bm
   simp[intOf];omega
  .have:t.size<=100000:=by rw[HT.o];exact dp.o i cj HB.o.symm
   by_cases bq:t.size=n
   .have fj:((t.size:Int) !=(n:Int))=false:=(by simp[bq]);have cn:=ZI bq;have hz:=U.size;have fc:=Uk L i;have⟨c,hc⟩:=ZL (whF L i).length;rw[<-hc] at ae O fc;have S1:=ZN ae O U;have HC:=ZI hc;clear ae O U bq hc;go_wp2_with (first|(at_builtin;have C:=S1.o;clear S1;refine Zel _ rfl (.tmp 57) (.tmp 63) 96 rfl w0.heap.size 9 j0 _ 1 16 underlying96 fi ft fu fw rfl Qw _ c (QS (hvF L i)) rfl (C.1.alloc _) ⟨wr,0,none⟩ 1 1 [.string t] rfl rfl (Ze4 (cs:= #[.string t]) (t:=9) (fr:=(0,0)) (ZB wr _)) (by simp[Value.oneCell']) (by unfold maxLen;omega) Qw (Zq hz Qx) ?_;intro v' w7 O af ah;clear ah;have S2:=ZN O (Sa (C.1.alloc _) (C.2.1.alloc _) Qz af) (FN (C.1.alloc _) (C.2.2.alloc hz _) (Zq hz Qx) af);have de:=S2.2.2.size;clear C O af)|(at_builtin;have C:=S2.o;clear S2;refine Zel _ rfl (.tmp 65) (.tmp 67) 46 rfl w0.heap.size 3 i9 _ 1 8 underlying46 fh fo fp fq rfl Qw _ c (JE (whF L i)) rfl (C.2.1.alloc _) ⟨w7,0,none⟩ 1 1 [.int .i64 (i:Int)] rfl rfl (Ze4 (cs:= #[.int .i64 (i:Int)]) (t:=3) (fr:=(0,0)) (ZB w7 _)) (by simp[Value.oneCell']) (by unfold maxLen;omega) Qw (Zq de Qx) ?_;intro v8 w8 O af ah;clear ah;have S3:=ZX (Sa (C.2.1.alloc _) (C.1.alloc _) Qz af) O (FN (C.2.1.alloc _) (C.2.2.alloc de _) (Zq de Qx) af);clear C O af));go_roundw
    .have e1:(whF L (i+1)).length=c+1:=by rw[MW HB.o.symm,Zb,HC.o];rfl
     refine⟨i+1,Qw,QC,λj hj bm=> ?_,?_,?_,S3.3⟩
     .by_cases e:j=i
      .rw[e,<-HT.o];exact cn.o
      .exact ag.o j Qw bm
     .rw[e1,Z2R HB.o.symm,Tg,<-HT.o];exact S3.1
     .rw[e1,MW HB.o.symm,Z2T];exact S3.2
    simp[intOf];omega
   .have fj:((t.size:Int) !=(n:Int))=true:=by simp;omega
    have S1:=ZI U;have cn:=ZI bq;clear ae O U bq;go_wp2_with (go_at_call 114;go_fit (CC 19 Qz _);rintro e w2 ⟨ev,rfl,he,hb⟩;have S2:=ZM (he.mono S1.o.size) (S1.o.trans (hb.mono S1.o.size));clear he hb);go_ret2;exact⟨19,[],none,0,ev,Zv ⟨⟨i,cj,HB.o.symm,by rw[<-HT.o];exact cn.o⟩,rfl,rfl⟩,rfl,S2.1,⟨λj hj=>by simp at hj,Qx,Qx⟩,S2.2⟩
 .obtain rfl:K=i:=by omega
  clear cj hi;have⟨c,hc⟩:=ZL (whF L K).length;have:c<=K:=by rw[hc];exact Uk L K
  rw[<-hc] at ae O;obtain⟨ha,bf,rfl⟩:=Cd ae;have HC:=ZI hc;by_cases fa:c<k
  .have S1:=ZI U;clear ae O U hc;go_wp2_with (go_at_call 114;go_fit (CC 17 Qz _);rintro e w2 ⟨ev,rfl,he,hb⟩;have S2:=ZM (he.mono S1.o.size) (S1.o.trans (hb.mono S1.o.size));clear he hb);go_ret2;exact⟨17,[],none,0,ev,Zy (Zv ⟨ag.o,by rw[<-HC.o];exact fa,rfl,rfl⟩),rfl,S2.1,⟨λj hj=>by simp at hj,Qx,Qx⟩,S2.2⟩
  .have bg:k<=c:=(by omega);obtain⟨gh,rfl,_,gy,ia⟩:=Sc ae Qw;obtain⟨wa,bu,rfl⟩:=Cd O;obtain⟨gw,rfl,_,ig,ij⟩:=Sc O Qw;have ek:=Y9.own ae;have dz:=XC.own O;have⟨qa,cw⟩:=ZL (K*k);have⟨J,cy⟩:=ZL (k*k);have:qa<=255*255:=by rw[cw];exact Ze2 k1 Qw
   have:J<=255*255:=by rw[cy];exact Ze2 Qw Qw
   obtain⟨R,hR⟩:∃R:List Int,R=((whF L K).take k).map λ(x:Nat)=>(x:Int):=⟨_,rfl⟩;have dy:R.length=k:=by rw[hR,Zf,Zg,<-hc];omega
   have aw:∀j,R.getD j 0=(((whF L K).take k).getD j 0:Int):=λj=>(by rw[hR,Z3O]);have au:∀i,i<R.length->0<=R.getD i 0/\R.getD i 0<K:=λi hi=>by
    rw[aw];have ai:((whF L K).take k).getD i 0∈(whF L K).take k:=by rw[Z7,Z8 (by rw[Zg,<-hc];omega),Ze7];exact Zl _
    have:=Gl (ZdK ai);omega
   have du:(λi j=>gen k (R.getD i 0).toNat j)=λi j=>gen k (((whF L K).take k).getD i 0) j:=by
    funext i j
    rw[aw,ZeA]
   have hI:Inj k (λi j=>gen k (R.getD i 0).toNat j):=by rw[du];exact M9 HK.o k1 (by rw[<-hc];exact bg)
   have dw:∀x,XC x gw 0 (whF L K)->∀j,j<R.length->x.cell? ⟨gw,0+j,none⟩=(R.getD j 0:Int):=λx hx j hj=>by rw[aw,Iz _ _ _ Qw];exact hx j (by rw[<-hc];omega)
   have dx:∀B,Aq k (λi j=>gen k (R.getD i 0).toNat j) B->Aq k (Ew k L K) B:=λB hB=>Z5M (λi j hi=>by
    show gen k (R.getD i 0).toNat j=gen k ((whF L K).getD i 0) j
    rw[aw,ZeA,Iz _ _ _ hi]) hB
   have dq:((hvF L K).take k).length=k:=by rw[Zg,Hh,<-hc];omega
   have dt:=Z2Q ag.o k;have S1:=ZI (Bun.of (F:=λx=>Y9 x (some ⟨gh,0,none⟩) (hvF L K)/\XC x gw 0 (whF L K)) (λx hx=>⟨ek.after hx,dz.after hx⟩) U);obtain⟨P,hP⟩:∃P:Nat->Nat->BitVec 8,P=λi j=>gen k (R.getD i 0).toNat j:=⟨_,rfl⟩;have eh:n<=100000:=by have:0<((hvF L K).take k).length:=Qw;have ai:(hvF L K)[0]'(by rw[Hh,<-hc];omega)∈hvF L K:=Zl _;unfold hvF at ai;have⟨j,hj,_⟩:=Zz.1 ai;have h5:=Gl hj;have h6:=dp.o j h5.1 h5.2;rw[ag.o j h5.1 h5.2] at h6;exact h6
   rw[<-hP] at hI;have dm:=ZI cw;have bz:=ZI cy;have aq:=ZI dy;have er:=ZI au;have HI:=ZI hI;have ey:=ZI dw;have ez:=ZI dx;have df:=ZI dq;have dh:=ZI dt;have dj:=ZI hP;have ew:=ZI bg;clear ae O U hc ek dz cw cy hR dy aw au du hI dw dx dq dt hP;go_wp2_with (go_at_call 159;have C:=S1.o;clear S1;go_fit (Md k m _ h1 h2);rintro e w1 ⟨ga,he,hg,ak,hb⟩;have bh:e=.returned (.tuple #[.agg #[(K:Int),(k:Int),.slice ga qa qa],.nilIface]):=(by rw[he,dm.o,HK.o];rfl);subst bh;clear he;rw[<-HK.o] at ak;have ee:=(C.after hb).add (λ_ h=>(Z9h ak).after h);have Z:=Z2 w1 250 [.int .i64 K,.int .i64 k,.slice ga qa qa];have⟨x0,x1,x2⟩:=QN Z;have SB:=ZI ee;have SX:=ZM Z ((Zu w1 w1).alloc (Zt _) (.cells #[(K:Int),(k:Int),.slice ga qa qa] 250));clear C hb ak hg ee Z);have e1:0<=(k:Int):=Qw;have e2:(k:Int)<=(bu:Int):=Qw;have e3:((k:Int)).toNat=k:=Qw;have:(k:Int)<=(bf:Int):=Qw;go_region_law
    (first|(go_simp;go_at_call 160;have C:=SX.o;clear SX;have az:=C.2.drew;have hF:=SB.o.after az;have hp:=Z54 K k ga 0 qa qa gw 0 bu (gen k) R _ Qw Qw Qw Qw dm.o (Zt _) Qw (by rw[aq.o];omega) (by rw[aq.o];omega) hF.here.2 (ey.o _ hF.here.1.2);rw[aq.o] at hp;go_fit hp;rintro e fx hx;have⟨gp,he,fe,cu,hb⟩:=Z53 hx er.o;have bh:e=.returned (.tuple #[.agg #[(k:Int),(k:Int),.slice gp J J],.nilIface]):=(by rw[he,aq.o,bz.o];rfl);subst bh;clear he hx hp;rw[aq.o,<-dj.o] at cu;have bj:gp≠w1.heap.size:=(by have h8:(w1.alloc (.cells #[(K:Int),(k:Int),.slice ga qa qa] 250)).drew.heap.size=w1.heap.size+1:=(by show(w1.alloc _).heap.size=_;simp);omega);have Z:=Row.after C.1.drew hb;have:=QN Z;have⟨f0,f1,f2⟩:=Jm Z;have hy:=Xh (a:=.int .i64 k) (b:=.int .i64 k) (c:=.slice gp J J) Z;have⟨y0,y1,y2⟩:=QN hy;have SY:=ZN hy (Xz (a:=.int .i64 k) (b:=.int .i64 k) (c:=.slice gp J J) (C.2.drew.trans (hb.mono C.2.drew.size)) (Zt w1)) (cu.fr ((((Fr.refl [w1.heap.size] fx).setCell (p:=⟨w1,0,none⟩) (Zv Qx) (.int .i64 k)).setCell (p:=⟨w1.heap.size,1,none⟩) (Zv Qx) (.int .i64 k)).setCell (p:=⟨w1.heap.size,2,none⟩) (Zv Qx) (.slice gp J J)) (by simp[Z6];exact bj));clear C az hF cu hb Z bj fe))
   clear e1 e2 e3 x0 x1 x2;go_wp2_with (go_at_call 161;have C:=SY.o;clear SY;refine(Z34 k gp 0 J J P _ h1 Qw bz.o (Zt _) Qw C.2.2).mono ?_;intro e fy hx;have⟨gz,B,hB,he,fg,ef,hb⟩:=Z32 hx HI.o;have bh:e=.returned (.tuple #[.agg #[(k:Int),(k:Int),.slice gz J J],.nilIface]):=(by rw[he,bz.o];rfl);subst bh;clear he hx;have bj:gz≠w1.heap.size:=(by have h8:=C.1.lt;omega);have Z:=Row.after C.1 hb;have⟨v0,v1,v2⟩:=QN Z;have⟨f3,f4,f5⟩:=Jm Z;have hy:=Xh (a:=.int .i64 k) (b:=.int .i64 k) (c:=.slice gz J J) Z;have⟨z0,z1,z2⟩:=QN hy;have SZ:=ZN hy (Xz (a:=.int .i64 k) (b:=.int .i64 k) (c:=.slice gz J J) (C.2.1.trans (hb.mono C.2.1.size)) (Zt w1)) (ef.fr ((((Fr.refl [w1.heap.size] fy).setCell (p:=⟨w1,0,none⟩) (Zv Qx) (.int .i64 k)).setCell (p:=⟨w1.heap.size,1,none⟩) (Zv Qx) (.int .i64 k)).setCell (p:=⟨w1.heap.size,2,none⟩) (Zv Qx) (.slice gz J J)) (by simp[Z6];exact bj));have eu:=ZI hB;clear C ef hb Z bj fg hy hB);clear f0 f1 f2 f3 f4 f5 v0 v1 v2 y0 y1 y2;have e1:0<=(k:Int):=Qw;have e3:((k:Int)).toNat=k:=Qw;go_region_law (first|(go_simp;go_at_call 162;have C:=SZ.o;clear SZ;have az:=C.2.1.drew;have hF:=SB.o.after az;go_fit (UX k k gz 0 J J bf n (some ⟨gh,0,none⟩) B ((hvF L K).take k) _ h1 Qw h1 Qw bz.o (Zt _) Qw df.o dh.o eh (C.2.2.after ((Zu _ _).drew)) (Y9.take hF.here.1.1 k));rintro e iq ⟨gq,cq,rfl,ht,hb⟩;have SW:=ZM ht (hF.after hb).bel;clear C az hF ht hb));go_wp2_with (go_at_call 121;have C:=SW.o;clear SW;refine(Nu k m cq n _ (WP B ((hvF L K).take k) n k k) _ h1 h2 (BI _ _ _ _ _) (Mc B ((hvF L K).take k) n k k dh.o (by rw[df.o];exact Zt _)) eh C.1).mono ?_;rw[<-HK.o];rintro e ir ⟨g8,cr,rfl,hs,hb⟩;have S4:=ZM hs (C.2.trans (hb.mono C.2.size));clear C hs hb);go_ret2;exact⟨0,_,some ⟨g8,0,none⟩,cr,.nilIface,Zy (Zy ⟨ag.o,by rw[<-HC.o];exact ew.o,rfl,B,ez.o B (by rw[<-dj.o];exact eu.o),rfl⟩),by rw[BI];rfl,Z9J _ _,⟨S4.1.1,by rw[BI];exact S4.1.2.1,S4.1.2.2⟩,S4.2⟩
