/- Part 2: lemmas about what the program computes. -/
import Derived.Lib.Builder
import Derived.Lib.AppendStr
import Derived.Lib.MakeNoZero
import Derived.Laws.Externs
import Derived.RegionTactic
import Derived.BigRegion
import Derived.ChangeAlike
import Derived.Outline
import Derived.Laws.AppendOwnNone
import Derived.Maps.AppendAt
import Derived.Test.YthppfllkocphbaaGreatDoorX00
import Derived.Test.YthppfllkocphbaaGreatDoorXS
namespace Go.Proofs.YthppfllkocphbaaGreatDoor
set_option linter.all false
set_option maxHeartbeats 25600000
set_option maxRecDepth 100000
open Tryz
open Go renaming World->Qs,Value->Qt,TypeId->Qu,Ending->Qv
section
open Go.RowKit
variable{B b:Nat}{l:List UInt8}{w w':World}
def Nl:(prog.info? 258).map (·.size)=some 2:=Qy
def Vl:liesAt prog prog.depth 258 (2 / prog.cellsOf 258) 0 258 1=true:=Qy
def IV(b:Nat)(w:Qs)(C:w.cell? b=b):Calls prog 229 #[b] w λe w'=>e=.returned (.tuple #[])/\w'=w:=by obtain⟨j,h,_⟩:=Zed.1 Nl;go_enter func229,ntmps229;go_wp2;rw[Lib.run_neq_ptr_same w _ underlying256 h];go_wp2;go_end0;simp
def IU(b:Nat)(w:Qs)(M:w.cell? b=some (.pointer none))(h:w.shape? b=some (258,2))(F:w.frozen? ⟨b,0,none⟩=false):Calls prog 229 #[b] w λe w'=>e=.returned (.tuple #[])/\w'=w.setCell b (.pointer b):=by obtain⟨j,C,J⟩:=Zed.1 Nl;go_enter func229,ntmps229;go_wp2;rw[Lib.run_to_unsafe w ⟨b,0,none⟩ underlying256 underlying236 C Qw h (Nat.zero_lt_succ 1)];go_wp2;rw[run_callFunc_extern func256 Qy Qy Qy (e:=Extern.AbiNoEscape.same) Qy];rw[Lib.run_noEscape];go_wp2;rw[Lib.run_from_unsafe w ⟨b,0,none⟩ underlying236 underlying256 C h Vl];go_wp2;go_end0;simp
def UZ(B b:Nat)(bs:Qk)(w:Qs)(h:Lib.IsBuilder 258 5 B b bs w):Calls prog 229 #[b] w λe w'=>e=.returned (.tuple #[])/\(Lib.BuilderAt 258 5 B b (.pointer b) bs w'/\Below B w w'):=by
 rcases h with h|h
 .refine(IU b w h.cell0 h.shape h.frozen0).mono ?_;rintro e w' ⟨rfl,rfl⟩;exact⟨rfl,h.used _,(Zu B w).setCell (p:=⟨b,0,none⟩) h.1 _⟩
 .refine(IV b w h.cell0).mono ?_;rintro e w' ⟨rfl,rfl⟩;exact⟨rfl,h,Zu B _⟩
def Vy(B b:Nat)(bs:Qk)(s:Qq)(w:Qs)(h:Lib.IsBuilder 258 5 B b bs w)(hlen:bs.length+s.size<=140737488355328)(ak:B<=w):Calls prog 164 #[b,.string s] w λe w'=>e=.returned (.tuple #[(s.size:Int),.nilIface])/\(Lib.BuilderAt 258 5 B b (.pointer b) (bs++Lib.strCells s) w'/\Below B w w'):=by
 obtain⟨i0,hi,ah,ai,aj⟩:=ZE B1;go_enter func164,ntmps164;go_wp2_with (go_at_call 229;refine(UZ B b bs _ h).mono ?_);rintro e w1 ⟨rfl,h1,O⟩;obtain⟨hB,v,ae,M,ag⟩:=h1;have c1:w1.cell? ⟨b,1,none⟩=some v:=by rw[Zen ae];rfl
 go_wp2_with (at_builtin;refine Zeq _ rfl _ _ 75 9 rfl B 5 i0 underlying75 underlying9 hi ah ai aj _ _ _ rfl M s rfl ?c3 ?c4 ?c5 ?_)
 case c3=>unfold maxLen;omega
 case c4=>omega
 case c5=>have:=O.size;omega
 intro v' w2 J F _;have af:b<w1:=QA;have C:w2.heap[b]? =some (.cells #[b,v] 258 (0,0)):=by rw[F.block b af (λe=>ag e.symm)];omega
 have d1:w2.cell? ⟨b,1,none⟩=some v:=by rw[Zen C];rfl
 have f1:w2.frozen? ⟨b,1,none⟩=false:=ZfP C 1;obtain⟨U,Z,cap,rfl⟩:∃U Z cap,v'=.slice U Z cap:=by
  rcases J.2 with ⟨hv,_⟩|⟨g,cap,cur,hv,_⟩
  .simp_all
  .simp_all
 go_wp2;go_ret2;refine⟨rfl,?_,?_⟩
 .exact ZfY (T:=258) (e:=5) hB C (bs':=bs++Lib.strCells s) (by simpa[ZfI] using J) Qx
 .exact(O.grown F Qw (λk hk=>(M.lt k hk).1)).setCell (p:=⟨b,1,none⟩) hB _
def Bld(w:Qs)(B b:Nat)(l:Ql):Prop:=Lib.IsBuilder 258 5 B b (Lib.byteCells l) w
def Z9e(w:Qs):Bld (w.alloc (.cells #[.pointer none,()] 258)) w w []:=Lib.fresh_isBuilder 258 5 w
def Bld.fr(h:Bld w B b l){L:Qj}(J:Fr L w w')(F:∀i,i∈L->i<B):Bld w' B b l:=by
 have k:∀p,Lib.BuilderAt 258 5 B b p (Lib.byteCells l) w->Lib.BuilderAt 258 5 B b p (Lib.byteCells l) w':=by rintro p ⟨hB,v,hb,C,O⟩;have M:b<w:=QA;refine⟨hB,v,(J.block b M (λhm=>by have:=F b hm;omega)).trans hb,Xr C J (λg U hm=> ?_),O⟩;have:=F g hm;have:=(C.lt g U).1;omega
 exact h.imp (k _) (k _)
def Bld.after(h:Bld w B b l)(hb:Below w w w'):Bld w' B b l:=h.fr (Z1 (L:=[]) hb) Qx
def EZ(B b:Nat)(l:Ql)(s:Qq)(w:Qs)(h:Bld w B b l)(hlen:l.length+s.size<=140737488355328)(C:B<=w):Calls prog 164 #[b,.string s] w λe w'=>e=.returned (.tuple #[(s.size:Int),.nilIface])/\Bld w' B b (l++s.data.toList)/\Below B w w':=by
 refine(Vy B b _ s w h (by simpa[Lib.byteCells] using hlen) C).mono ?_;rintro e w' ⟨rfl,hw,hb⟩;refine⟨rfl,Zy ?_,hb⟩;have:Lib.byteCells l++Lib.strCells s=Lib.byteCells (l++s.data.toList):=by simp[Lib.byteCells,Lib.strCells]
 simp_all
def IZ(B b:Nat)(l:Ql)(w:Qs)(h:Bld w B b l)(C:B<=w):Calls prog 165 #[b] w λe w'=>e=.returned (.string ⟨l.toArray⟩)/\Below B w w':=Tryz.Builder_String_any B b l w h C
end
def xt(a:Qo):Qo:=(a<<<1)^^^(if a.msb then 29#8 else 0#8)
def Z8y(a b:Qo):xt (a^^^b)=xt a^^^xt b:=by unfold xt;grind
def Z8z:xt 0#8=0#8:=by rfl
def xts:Nat->BitVec 8->BitVec 8
 |0,a=>a
 |n+1,a=>xts n (xt a)
def TV(n:Nat)(a b:Qo):xts n (a^^^b)=xts n a^^^xts n b:=by
 induction n generalizing a b with
 |zero=>rfl
 |succ n ih=>simp[xts];rw[Z8y,ih]
def TW(n:Nat):xts n 0#8=0#8:=by
 induction n with
 |zero=>rfl
 |succ n ih=>simp[xts];rw[Z8z,ih]
def IF(m n:Nat)(a:Qo):xts (m+n) a=xts m (xts n a):=by
 induction n generalizing a with
 |zero=>rfl
 |succ n ih=>rw[<-ZeH,xts,xts,ih]
def Z8B(m n:Nat)(a:Qo):xts m (xts n a)=xts n (xts m a):=by rw[<-IF,<-IF,Zfk]
def tk(c:Bool)(a:Qo):Qo:=if c then a else 0#8
def gm(a b:Qo):Qo:=
 tk (b.getLsbD 0) a^^^tk (b.getLsbD 1) (xts 1 a)^^^tk (b.getLsbD 2) (xts 2 a)^^^tk (b.getLsbD 3) (xts 3 a)^^^
 tk (b.getLsbD 4) (xts 4 a)^^^tk (b.getLsbD 5) (xts 5 a)^^^tk (b.getLsbD 6) (xts 6 a)^^^tk (b.getLsbD 7) (xts 7 a)
def Z7k(c:Bool)(a b:Qo):tk c (a^^^b)=tk c a^^^tk c b:=by cases c<;>simp[tk]
def Z7j(c d:Bool)(a:Qo):tk (c^^d) a=tk c a^^^tk d a:=by cases c<;>cases d<;>simp[tk]
def Z8C(n:Nat)(c:Bool)(a:Qo):xts n (tk c a)=tk c (xts n a):=by cases c<;>simp[tk,TW]
def Db(a b c:Qo):gm a (b^^^c)=gm a b^^^gm a c:=by simp[gm,Z7j];ac_rfl
def E4(a b c:Qo):gm (a^^^b) c=gm a c^^^gm b c:=by simp[gm,TV,Z7k];ac_rfl
def OB(n:Nat)(a b:Qo):gm (xts n a) b=xts n (gm a b):=by simp[gm,TV,Z8C,Z8B n]
def Jh(b:Qo):gm 0#8 b=0#8:=by simp[gm,TW];simp[tk]
def Wg(a:Qo):gm a 0#8=0#8:=by simp[gm,tk]
def XX(b:Qo):gm 1#8 b=b:=by
 have h:∀n,n<256->gm 1#8 (BitVec.ofNat 8 n)=BitVec.ofNat 8 n:=by decide+kernel
 have:=h b.toNat b.isLt;simp_all
def Bl(a:Qo):gm a 1#8=a:=by simp[gm,tk]
def ex(n:Nat):Qo:=xts n 1#8
def Z18:ex 255=1#8:=by decide+kernel
def GS(n:Nat)(b:Qo):gm (ex n) b=xts n b:=by rw[ex,OB,XX]
def Fn(m n:Nat):gm (ex m) (ex n)=ex (m+n):=by rw[GS,ex,ex,IF]
def Z8A(a:Qo):xts 255 a=a:=by rw[<-GS,Z18,XX]
def Z19(n:Nat):ex (n+255)=ex n:=by rw[ex,IF,Z8A];rfl
def Fh(n:Nat):ex (n%255)=ex n:=by
 have h:∀q r,ex (255*q+r)=ex r:=by
  intro q r
  induction q with
  |zero=>simp
  |succ q ih=>rw[show 255*(q+1)+r=(255*q+r)+255 by omega,Z19,ih]
 conv=>rhs;rw[<-Zei n 255]
 rw[h]
def Pv:Nat->Nat->BitVec 8->BitVec 8->Nat
 |0,i,_,_=>i
 |f+1,i,x,a=>if x=a then i else Pv f (i+1) (xt x) a
def lg(a:Qo):Nat:=Pv 255 0 1#8 a
def Of:∀n,n<256->n≠0->(lg (BitVec.ofNat 8 n)<255/\ex (lg (BitVec.ofNat 8 n))=BitVec.ofNat 8 n):=by decide+kernel
def CZ(a:Qo)(h:a≠0#8):ex (lg a)=a:=by have:=(Of a.toNat a.isLt (by intro e;apply h;apply Zfn;simpa using e)).2;simp_all
def Px:∀n,n<255->(lg (ex n)=n/\ex n≠0#8):=by decide+kernel
def Z1a(n:Nat):ex n≠0#8:=by rw[<-Fh];exact(Px _ (ZfN _ Qw)).2
def JP(a b:Qo):gm a b=gm b a:=by
 by_cases ha:a=0#8
 .subst ha;rw[Jh,Wg]
 by_cases hb:b=0#8
 .subst hb;rw[Jh,Wg]
 rw[<-CZ a ha,<-CZ b hb,Fn,Fn,Zfk]
def Jv(a b c:Qo):gm (gm a b) c=gm a (gm b c):=by
 by_cases ha:a=0#8
 .subst ha;simp[Jh]
 rw[<-CZ a ha,GS,OB,GS]
def E3(a b:Qo):gm a b=0#8↔a=0#8∨b=0#8:=by
 constructor
 .intro h;by_cases ha:a=0#8
  .simp_all
  by_cases hb:b=0#8
  .simp_all
  rw[<-CZ a ha,<-CZ b hb,Fn] at h;exact absurd h (Z1a _)
 .rintro(rfl|rfl)
  .exact Jh _
  .exact Wg _
def pw(a:Qo):Nat->BitVec 8
 |0=>1#8
 |n+1=>gm (pw a n) a
def Lz(m n:Nat):pw (ex m) n=ex (m*n):=by
 induction n with
 |zero=>rfl
 |succ n ih=>rw[pw,ih,Fn,Nat.mul_succ]
def Z4V(a:Qo)(h:a≠0#8):pw a 255=1#8:=by rw[<-CZ a h,Lz,<-Fh,Nat.mul_mod_left];rfl
def iv(a:Qo):Qo:=pw a 254
def Bj(a:Qo)(h:a≠0#8):gm a (iv a)=1#8:=by rw[JP,iv,<-Z4V a h];rfl
def AC(c:Bool)(a:BitVec 16):BitVec 16:=if c then a else 0#16
def rs(k:Nat)(p:BitVec 16):BitVec 16:=p^^^AC (p.getLsbD (k+8)) (285#16<<<k)
def rd:Nat->BitVec 16->BitVec 16
 |0,p=>p
 |k+1,p=>rd k (rs k p)
def Z1N(a b:Qo):gm a b=tk (b.getLsbD 0) a^^^gm (xt a) (b>>>1):=by simp[gm,xts];simp[tk];grind
def Z4W(a:Qo)(n:Nat):pw (gm a a) n=pw a (2*n):=by
 induction n with
 |zero=>rfl
 |succ n ih=>rw[pw,ih,show 2*(n+1)=2*n+1+1 from rfl,pw,pw,Jv]
def pwi(a:Qo)(n:Int):Qo:=if a=0#8 then(if n=0 then 1#8 else 0#8) else pw a (n%255).toNat
def Z4U(A P T:Qo)(k:Nat)(h:gm P (pw A k)=T)(b:Bool)(hb:(k%2==1)=b):gm (if b then gm P A else P) (pw (gm A A) (k / 2))=T:=by
 rw[Z4W];cases b
 .grind
 .have e:k=2*(k / 2)+1:=by simp at hb;omega
  rw[e,pw] at h;simp;rw[Jv,JP A,h]
section
open Go.RowKit
variable{n:Nat}
@[irreducible] def nv (x:Qo):Int:=(x.toNat:Int)
@[irreducible] def bv (a:Int):Qo:=BitVec.ofInt 8 a
@[irreducible] def nw (x:BitVec 16):Int:=(x.toNat:Int)
def WO(x:Qo):nv x=(x.toNat:Int):=by unfold nv;rfl
def AR(x:Qo):0<=nv x:=by rw[WO];omega
def AQ(x:Qo):nv x<256:=by rw[WO];have:=x.isLt;omega
def FA{a:Int}(h:0<=a)(C:a<256):nv (bv a)=a:=by rw[WO];unfold bv;rw[BitVec.toNat_ofInt];omega
def Xo(x:Qo):bv (nv x)=x:=by rw[WO];unfold bv;simp
def Lj{x y:Qo}(h:nv x=nv y):x=y:=by rw[<-Xo x,h,Xo]
def Ri(h:n<256):nv (BitVec.ofNat 8 n)=(n:Int):=by rw[WO,BitVec.toNat_ofNat];omega
def K0(h:n<256):bv (n:Int)=BitVec.ofNat 8 n:=by unfold bv;rw[BitVec.ofInt_natCast]
def Lk(u:UInt8):nv u.toBitVec=(u.toNat:Int):=by rw[WO];rfl
def Ew(x y:Qo):bits .xor .u8 (nv x) (nv y)=nv (x^^^y):=by rw[WO,WO,WO,u8_xor_nat _ _ Qw Qw,BitVec.toNat_xor]
def CB:nv 0#8=0:=by rw[WO];rfl
def Dp:nv 1#8=1:=by rw[WO];rfl
def Bt(x:Qo):nv x=0↔x=0#8:=by
 constructor
 .intro h;apply Lj;rw[h,CB]
 .rintro rfl;exact CB
def Z7w(x:Qo)(k:Nat):(bits .and .u8 (nv x / 2^k) 1==1)=x.getLsbD k:=by
 have e:nv x / 2^k=((x.toNat / 2^k:Nat):Int):=by rw[WO,Int.natCast_ediv,Int.natCast_pow];rfl
 have h:x.toNat / 2^k<256:=Zfe (ZfF _ _) Qw;rw[e];have C:=u8_and_nat (x.toNat / 2^k) 1 h Qw;rw[show((1:Int))=((1:Nat):Int) from rfl,C,Nat.and_one_is_mod,BitVec.getLsbD,Nat.testBit_eq_decide_div_mod_eq,Zgl];grind
def Z42(x:Qo)(k:Nat):nv x / 2^k=nv (x>>>k):=by rw[WO,WO,Zg2,ZfU,Int.natCast_ediv,Int.natCast_pow];rfl
def Z43(x:Qo)(h:128<=nv x):bits .xor .u8 (nv x*2%256) 29=nv (xt x):=by
 rw[WO] at h;have e:nv x*(2:Int)%(256:Int)=nv (x<<<1):=by rw[WO,WO,Zfi,ZeL];omega
 have m:x.msb=true:=QA;rw[e,show(29:Int)=nv 29#8 from by rw[WO];rfl,Ew,xt,m];rfl
def Z44(x:Qo)(h:nv x<128):nv x*2=nv (xt x):=by
 rw[WO] at h;have e:nv x*(2:Int)=nv (x<<<1):=by rw[WO,WO,Zfi,ZeL];omega
 have m:x.msb=false:=QA;rw[e,xt,m];simp
def OT(a b:Nat)(ha:a<9223372036854775808)(hb:b<9223372036854775808):bits .and .i64 (a:Int) (b:Int)=((a&&&b:Nat):Int):=by have h:(BitVec.ofInt 64 (a:Int)).toNat=a:=QA;have C:(BitVec.ofInt 64 (b:Int)).toNat=b:=QA;have hl:a&&&b<=a:=Nat.and_le_left;show IntKind.i64.wrap ((BitVec.ofInt 64 (a:Int)&&&BitVec.ofInt 64 (b:Int)).toNat:Int)=_;rw[BitVec.toNat_and,h,C];refine Zr _ ⟨?_,?_⟩<;>omega
def Z7m(n:Int):(n.tmod 255<0->n%255=n.tmod 255+255)/\(0<=n.tmod 255->n%255=n.tmod 255)/\n.tmod 255<255/\ -255<n.tmod 255:=by grind
def Z2r(k:Nat)(h:k<255):(bits .and .i64 (k:Int) 1==1)=(k%2==1):=by have C:=OT k 1 Qw Qw;grind
end
section
open Go.RowKit
variable{a b:Int}{k:IntKind}
def Mr(h:a=b):Value.int k a=.int k b:=by rw[h]
def Z7r(a:Int)(C:0<=a)(F:a<256)(w:Qs):Calls prog 273 #[.int .u8 a] w λe w'=>e=.returned (.int .u8 (nv (xt (bv a))))/\w=w':=by
 obtain⟨A,rfl⟩:∃A,a=nv A:=⟨bv a,(FA C F).symm⟩;rw[Xo];by_cases h:128<=nv A
 .go_enter func273,ntmps273;go_wp2;go_ret;exact⟨JW (Z43 A h),rfl⟩
 .go_enter func273,ntmps273;go_wp2;go_ret;exact⟨JW (Z44 A Qw),rfl⟩
def Z3O(A B P T:Qo)(h:P^^^gm A B=T)(b:Bool)(hb:B.getLsbD 0=b):(if b then P^^^A else P)^^^gm (xt A) (B>>>1)=T:=by
 rw[<-h,Z1N A B,hb];cases b
 .simp[tk]
 .simp[tk,Zfu]
def Le(a b:Int)(M:0<=a)(O:a<256)(U:0<=b)(Z:b<256)(w:Qs):Calls prog 255 #[.int .u8 a,.int .u8 b] w λe w'=>e=.returned (.int .u8 (nv (gm (bv a) (bv b))))/\w=w':=by
 obtain⟨h,rfl⟩:∃A,a=nv A:=⟨bv a,(FA M O).symm⟩;obtain⟨C,rfl⟩:∃A,b=nv A:=⟨bv b,(FA U Z).symm⟩;rw[Xo,Xo];go_enter func255,ntmps255;go_wp2;go_loop [0,1,5] (λa b p=>∃A B P:Qo,a=.int .u8 (nv A)/\b=.int .u8 (nv B)/\p=.int .u8 (nv P)/\P^^^gm A B=gm h C) (λ_ b _=>(intOf b).toNat)
 .exact⟨h,C,0#8,rfl,rfl,by rw[CB],Qx⟩
 obtain⟨A,B,P,rfl,rfl,rfl,hrel⟩:=hrel;have H:=ZI hrel;clear hrel;have ha:=AR A;have ae:=AQ A;have hb:=AR B;have af:=AQ B;by_cases hz:0<nv B
 .cases hl:B.getLsbD 0
  all_goals
   have F:=Z7w B 0;rw[hl] at F;have J:=ZI hl;clear hl;simp only[Int.pow_zero,Int.ediv_one] at F;go_wp2_with (go_at_call 273;refine(Z7r _ Qw Qw _).mono ?_;rintro e w' ⟨rfl,rfl⟩);go_round
   .exact⟨xt A,B>>>1,_,by rw[Xo],Mr (Z42 B 1),(by first|exact Mr (Ew P A)|rfl),Z3O A B P _ H.o _ J.o⟩
   simp[intOf];omega
 .go_wp2;go_ret;have hB:B=0#8:=(Bt B).1 Qw;exact⟨JW (by rw[<-H.o,hB,Wg];simp),rfl⟩
def Z4Q(a n:Int)(h0:0<=a)(h1:a<256)(h2: -9223372036854775808<=n)(h3:n<=9223372036854775807)(w:Qs):Calls prog 272 #[.int .u8 a,n] w λe w'=>e=.returned (.int .u8 (nv (pwi (bv a) n)))/\w=w':=by
 obtain⟨h,rfl⟩:∃A,a=nv A:=⟨bv a,(FA h0 h1).symm⟩;rw[Xo];by_cases C:nv h=0
 .have eA:h=0#8:=(Bt h).1 C;subst eA;rw[CB];by_cases F:n=0
  .subst F;go_enter func272,ntmps272;go_wp2;go_ret;exact⟨JW (by simp[pwi,Dp]),rfl⟩
  .have ai:(n==0)=false:=(by simpa using F);have HN:=ZI F;clear F;go_enter func272,ntmps272;go_wp2;go_ret;exact⟨JW (by simp[pwi,HN.o,CB]),rfl⟩
 .have af:(nv h==0)=false:=by simpa using C
  have J:h≠0#8:=λe=>C ((Bt h).2 e);have M:Qi (pwi h n=pw h (n%255).toNat):=by unfold Qi;simp[pwi,J]
  have HZ:=ZI C;clear C J;obtain⟨t1,t2,t3,t4⟩:=Z7m n;generalize hT:pwi h n=T at*
  have T1:=ZI t1;have T2:=ZI t2;clear t1 t2;have HS:Qi (T=pw h (n%255).toNat):=M;clear M hT;by_cases ae:n.tmod 255<0
  all_goals
   go_enter func272,ntmps272;go_wp2;go_loop [0,1,5] (λa n p=>∃ (A P:Qo) (k:Nat),k<255/\a=.int .u8 (nv A)/\n=(k:Int)/\p=.int .u8 (nv P)/\gm P (pw A k)=T) (λ_ n _=>(intOf n).toNat)
   .exact⟨h,1#8,(n%255).toNat,Qw,rfl,Mr (by first|(rw[T1.o Qw];omega)|(rw[T2.o Qw];omega)),by rw[Dp],by rw[XX,HS.o]⟩
   obtain⟨A,P,k,hk,rfl,rfl,rfl,hrel⟩:=hrel;have H:=ZI hrel;clear hrel;have ha:=AR A;have ag:=AQ A;have hb:=AR P;have ah:=AQ P;by_cases J:0<k
   .cases hl:(k%2==1)
    all_goals
     have U:=Z2r k hk;rw[hl] at U;have Z:=ZI hl;clear hl;go_wp2_with (go_at_call 255;refine(Le _ _ Qw Qw Qw Qw _).mono ?_;rintro e w' ⟨rfl,rfl⟩);go_round
     .exact⟨gm A A,_,k / 2,Qw,by rw[Xo],QC,(by first|(rw[Xo,Xo];rfl)|rfl),Z4U A P T k H.o _ Z.o⟩
     simp[intOf];omega
   .go_wp2;go_ret;have O:k=0:=Qw;exact⟨JW (by rw[<-H.o,O,pw,Bl]),rfl⟩
def ivv(a:Qo):Qo:=if a=0#8 then 0#8 else iv a
def KI(a:Int)(O:0<=a)(U:a<256)(w:Qs):Calls prog 252 #[.int .u8 a] w λe w'=>e=.returned (.tuple #[.int .u8 (nv (ivv (bv a))),.bool (bv a !=0#8)])/\w=w':=by
 obtain⟨h,rfl⟩:∃A,a=nv A:=⟨bv a,(FA O U).symm⟩;rw[Xo];by_cases C:nv h=0
 .have M:h=0#8:=(Bt h).1 C;subst M;rw[CB];go_enter func252,ntmps252;go_wp2;go_ret2;exact⟨by simp[ivv,CB],rfl⟩
 .have Z:(nv h==0)=false:=by simpa using C
  have F:h≠0#8:=λe=>C ((Bt h).2 e);have J:=ZI F;clear C F;go_enter func252,ntmps252;go_wp2_with (go_at_call 272;refine(Z4Q _ _ Qw Qw Qw Qw _).mono ?_;rintro e w' ⟨rfl,rfl⟩);go_ret2;exact⟨by simp[ivv,J.o,pwi,iv,Xo],rfl⟩
end
section
open Go.RowKit
def OZ(a:Qo)(h:a≠0#8):iv a≠0#8:=by intro e;have:=Bj a h;rw[e,Wg] at this;exact absurd this Qz
def scl(t:Qo)(a b:Ql):Ql:=List.zipWith (λx y=>UInt8.ofBitVec (x.toBitVec^^^gm t y.toBitVec)) a b
def LO(t:Qo)(a b:Ql)(h:a.length=b.length):(scl t a b).length=a.length:=by simp[scl,h]
def JT{α:Type}(k:Nat)(a a':List α):List α:=a'.take k++a.drop k
def Hn{α:Type}(k:Nat)(a C:List α)(h:C.length=a.length):(JT k a C).length=a.length:=by simp[JT,h];omega
def Rb{α:Type}(a h:List α):JT 0 a h=a:=by simp[JT]
def PY{α:Type}(a C:List α)(k:Nat)(h:C.length=a.length)(F:a.length<=k):JT k a C=C:=by unfold JT;rw[Zi Qw,Zea Qw,Zdg]
def Ra{α:Type}(k:Nat)(a C:List α)(h:C.length=a.length)(J:k<C.length):(JT k a C).set k C[k]=JT (k+1) a C:=by
 unfold JT;apply Ze7;intro j;rw[ZeD];have hl:k<(List.take k C++List.drop k a).length:=by simp;omega
 by_cases e:k=j
 .subst e;rw[Zx rfl,Zx hl,Za (by simp;omega),Zeo,Zx Qw];simp
 .rw[Zw e];by_cases F:j<k
  .rw[Za (by simp;omega),Za (by simp;omega),Zeo,Zeo,Zx F,Zx Qw]
  .rw[Zda (by simp;omega),Zda (by simp;omega),Zev,Zev];congr 1;simp;omega
def PZ{α:Type}(k:Nat)(a C:List α)(h:C.length=a.length)(F:k<a.length):(JT k a C)[k]? =some a[k]:=by unfold JT;rw[Zda (by simp;omega),Zev];simp;rw[show k+(k-min k C.length)=k by omega];simp[F]
def Sq(t:Qo)(a b:Ql)(k:Nat)(h:k<a.length)(C:k<b.length):(scl t a b)[k]'(by simp[scl];omega)=UInt8.ofBitVec (a[k].toBitVec^^^gm t b[k].toBitVec):=by simp[scl]
def CC(t:Qo):Qk:=(List.range 256).map λj=>.int .u8 (nv (gm t (BitVec.ofNat 8 j)))
def Dv(t:Qo):(CC t).length=256:=by simp[CC]
def Lx(t:Qo)(j:Nat)(h:j<256):(CC t)[j]'(by rw[Dv];exact h)=.int .u8 (nv (gm t (BitVec.ofNat 8 j))):=by simp[CC]
def Dn:Qk:=List.replicate 256 (.int .u8 0)
def Do:Dn.length=256:=by unfold Dn;exact Zgo
def Z8E:Tryz.zeroCells327=Dn.toArray:=Qy
attribute [local irreducible] Dn CC JT
def Z69(s t:Qq)(c:Int)(w:Qs)(h:s.size=t.size)(hs:s.size<=9223372036854775807)(h0:0<=c)(h1:c<256):Calls prog 228 #[.string s,.string t,.int .u8 c] w λe w'=>e=.returned (.tuple #[.string ⟨(scl (bv c) s.data.toList t.data.toList).toArray⟩,true])/\Below w w w':=by
 have ct:((s.size:Int) !=(t.size:Int))=false:=by simp[h]
 have hl:s.data.toList.length=s.size:=Qx;have F:t.data.toList.length=t.size:=Qx;have HL:=ZI hl;have HT:=ZI F;have H:=ZI h;clear h hl F;go_enter func228,ntmps228;go_wp2;go_loopw [17] (λi wr=>∃k:Nat,k<=256/\i=(k:Int)/\Row wr w 327 (JT k Dn (CC (bv c)))/\Below w w wr) (λi _=>256- (intOf i).toNat)
 .exact⟨0,Qw,rfl,by rw[Rb,Z8E];exact Z2 _ _ _,(Zu _ _).alloc (Zt _) _⟩
 obtain⟨k,hk,rfl,C,Z⟩:=hrel;by_cases F:k<256
 .have af:∃v,wr.cell? ⟨w.heap.size,k,none⟩=some v:=⟨_,C.cell (PZ k Dn (CC (bv c)) (by rw[Dv,Do]) (by rw[Do];exact F))⟩;obtain⟨v,af⟩:=af;have aj:wr.frozen? ⟨w.heap.size,k,none⟩=false:=C.free (by rw[Hn _ _ _ (by rw[Dv,Do]),Do];exact F);have ag:=ZI C;clear C;go_wp2_with (go_at_call 255;refine(Le _ _ h0 h1 Qw Qw _).mono ?_;rintro e w' ⟨rfl,rfl⟩);go_roundw
  .refine⟨k+1,Qw,QC,?_,Z.setCell (Zt _) _⟩;have hm:=ag.o.set k (.int .u8 (nv (gm (bv c) (bv (k:Int)))));rw[K0 F,<-Lx _ _ F,Ra k _ _ (by rw[Dv,Do]) (by rw[Dv];exact F),Lx _ _ F,<-K0 F] at hm;exact hm
  simp[intOf];omega
 .obtain rfl:k=256:=by omega
  rw[PY _ _ _ (by rw[Dv,Do]) (by rw[Do];omega)] at C;have HP:=ZI C;have hB:=C.lt;clear C;go_wp2_with (refine Mz rfl 9 75 5 _ rfl s rfl underlying9 underlying75 underlying5 ?_;intro g cap r w1 hg C cn ah);obtain⟨S,hS⟩:=ZL s.data.toList;obtain⟨T,hT⟩:=ZL t.data.toList;obtain⟨J,aw⟩:=ZL (scl (bv c) S T);rw[<-hS] at C;have bf:S.length=s.size:=by rw[hS];exact HL.o
  have bu:T.length=s.size:=by rw[hT,H.o];exact HT.o
  have au:J.length=s.size:=by rw[aw,LO _ _ _ Qw,bf]
  have HS:=ZI hS;have bh:=ZI hT;have bg:=ZI aw;have U:=ZI bf;have cj:=ZI bu;have M:=ZI au;have HR:=ZI C;have bj:=HP.o.after ah;have bz:=ZI bj;have bm:=Z.trans (ah.mono Qw);clear hS hT aw bf bu au C bj Z ah;obtain⟨wo,rfl⟩:∃wo:Qs,wo=wr:=⟨_,rfl⟩;go_loopw [31] (λi wr=>∃k:Nat,k<=s.size/\i=(k:Int)/\Row wr w 327 (CC (bv c))/\Row wr g 5 (QJ (JT k S J)++r)/\Below w w wr) (λi _=>s.size- (intOf i).toNat)
  .exact⟨0,Qw,rfl,bz.o,by rw[Rb];exact HR.o,bm⟩
  obtain⟨k,hk,rfl,ae,C,Z⟩:=hrel;by_cases F:k<s.size
  .have ak:k<S.length:=by rw[U.o];exact F
   have aq:k<T.length:=by rw[cj.o];exact F
   have O:k<t.size:=by rw[<-H.o];exact F
   have af:wr.cell? ⟨g,k,none⟩=some (.int .u8 (nv (S[k]'ak).toBitVec)):=by refine C.cell ?_;have hm:=Hn k S J (by rw[U.o,M.o]);rw[Za (by rw[W7];omega),Bf _ _ Qw,Lk];have:=PZ k S J (by rw[U.o,M.o]) ak;rw[Z8 Qw] at this;simp only[Zd9] at this;rw[this]
   have aj:wr.frozen? ⟨g,k,none⟩=false:=C.free (by
    have hm:=Hn k S J (by rw[U.o,M.o])
    simp[W7,hm];omega)
   have bm:((t[k]'O).toNat:Int)<256:=by have:=(t[k]'O).toNat_lt;omega
   have cu:wr.cell? ⟨w.heap.size,(t[k]'O).toNat,none⟩=some (.int .u8 (nv (gm (bv c) (T[k]'aq).toBitVec))):=by
    refine ae.cell ?_;have hx:(t[k]'O).toNat<256:=Qw;rw[Z8 (by rw[Dv];exact hx),Lx _ _ hx];have e:T[k]'aq=t[k]'O:=by simp only[bh.o];exact GR t k O _
    rw[e,show BitVec.ofNat 8 (t[k]'O).toNat=(t[k]'O).toBitVec from by
     apply Zfn;simp]
   have ag:=ZI C;have ai:=ZI ae;clear C ae;go_wp2_with fail;go_still_tail 11,Qy;change wpList _ _ _ _ _ wr.drew;go_wp2;go_roundw
   .refine⟨k+1,Qw,QC,(ai.o.other (by show w.heap.size≠g;omega) _).drew,?_,(Z.setCell (by show w.heap.size<=g;omega) _).drew⟩;rw[Ew];have hm:=ag.o.set k (.int .u8 (nv ((S[k]'ak).toBitVec^^^gm (bv c) (T[k]'aq).toBitVec)));have cr:=Hn k S J (by rw[U.o,M.o]);have az:k<J.length:=by rw[M.o];exact F
    have ay:nv ((S[k]'ak).toBitVec^^^gm (bv c) (T[k]'aq).toBitVec)=((J[k]'az).toNat:Int):=by rw[<-Lk];congr 1;have e:=Sq (bv c) S T k ak aq;have e2:J[k]'az=(scl (bv c) S T)[k]'(by simp[scl];omega):=(by simp only[bg.o]);rw[e2,e]
    rw[ay] at hm⊢;rw[ZfA _ _ (by rw[W7];omega),IT,Ra k S J (by rw[U.o,M.o]) az] at hm;exact hm.drew
   simp[intOf];omega
  .obtain rfl:k=s.size:=(by omega);rw[PY S J _ (by rw[U.o,M.o]) (by rw[U.o];omega)] at C;have bq:=BA (P:=prog) wr 75 9 5 underlying75 underlying5 underlying9 C 0 s.size cap J M.o (by rw[Ze3,<-M.o,List.take_left' (by rw[W7])]);clear C ae;go_wp2;go_ret2;exact⟨by rw[bg.o,HS.o,bh.o];rfl,Z⟩
end
section
variable{A B M:Nat->Nat->BitVec 8}{a b:BitVec 8}{f:Nat->BitVec 8}{j k n r:Nat}{l:List (BitVec 8×BitVec 8)}{p:Nat->Nat}
def sm:Nat->(Nat->BitVec 8)->BitVec 8
 |0,_=>0#8
 |n+1,f=>sm n f^^^f n
def WD{g:Nat->BitVec 8}(h:∀j,j<n->f j=g j):sm n f=sm n g:=by
 induction n with
 |zero=>rfl
 |succ n ih=>rw[sm,sm,ih (λj C=>h j Qw),h n Qw]
def Ep(n:Nat)(f g:Nat->BitVec 8):sm n (λj=>f j^^^g j)=sm n f^^^sm n g:=by
 induction n with
 |zero=>simp[sm]
 |succ n ih=>simp[sm,ih];ac_rfl
def G1(c:Qo)(n:Nat)(f:Nat->BitVec 8):sm n (λj=>gm c (f j))=gm c (sm n f):=by
 induction n with
 |zero=>rw[sm,sm,Wg]
 |succ n ih=>rw[sm,sm,ih,Db]
def G2(h:∀j,j<n->f j=0#8):sm n f=0#8:=by
 induction n with
 |zero=>rfl
 |succ n ih=>rw[sm,ih (λj C=>h j Qw),h n Qw];simp
def Ae(F:k<n)(h:∀j,j<n->j≠k->f j=0#8):sm n f=f k:=by
 induction n with
 |zero=>omega
 |succ n ih=>
  rw[sm];by_cases e:k=n
  .subst e;rw[G2 (λj C=>h j Qw Qw)];simp
  .grind
def SR(n m:Nat)(f:Nat->Nat->BitVec 8):sm n (λi=>sm m (f i))=sm m (λj=>sm n (λi=>f i j)):=by
 induction n with
 |zero=>rw[sm];exact(G2 λj _=>rfl).symm
 |succ n ih=>rw[sm,ih,<-Ep];rfl
def LZ{m:Nat}(F:n<=m){f:Nat->BitVec 8}(h:∀j,n<=j->j<m->f j=0#8):sm m f=sm n f:=by
 induction m with
 |zero=>have:n=0:=by omega
        simp_all
 |succ m ih=>
  by_cases e:n=m+1
  .simp_all
  .rw[sm,ih Qw (λj C J=>h j C Qw),h m Qw Qw];simp
def Ker(r c:Nat)(M:Nat->Nat->BitVec 8)(x:Nat->BitVec 8):Prop:=∀i,i<r->sm c (λj=>gm (M i j) (x j))=0#8
def X5(M:Nat->Nat->BitVec 8)(t s:Nat)(a:Qo):Nat->Nat->BitVec 8:=λi j=>if i=t then M t j^^^gm a (M s j) else M i j
def Z5B(c:Nat)(u v x:Nat->BitVec 8)(a:Qo):sm c (λj=>gm (u j^^^gm a (v j)) (x j))=sm c (λj=>gm (u j) (x j))^^^gm a (sm c (λj=>gm (v j) (x j))):=by rw[<-G1,<-Ep];exact WD λj _=>by rw[E4,Jv]
def KM{c:Nat}{t s:Nat}(hs:s<r)(Z:t<r)(h:s≠t∨a≠1#8)(x:Nat->BitVec 8):Ker r c (X5 M t s a) x↔Ker r c M x:=by
 have U:sm c (λj=>gm (X5 M t s a t j) (x j))=sm c (λj=>gm (M t j) (x j))^^^gm a (sm c (λj=>gm (M s j) (x j))):=by rw[<-Z5B];exact WD λj _=>by simp[X5]
 have O:∀i,i≠t->sm c (λj=>gm (X5 M t s a i j) (x j))=sm c (λj=>gm (M i j) (x j)):=λi hi=>WD λj _=>by simp[X5,hi]
 constructor
 .intro C i hi;by_cases e:i=t
  .subst e;have J:=C i hi;rw[U] at J;by_cases es:s=i
   .subst es;have ha:a≠1#8:=QB;have F:gm (1#8^^^a) (sm c (λj=>gm (M s j) (x j)))=0#8:=by rw[E4,XX];exact J
    rcases(E3 _ _).1 F with h3|h3
    .exfalso;apply ha;have:(1#8^^^a)^^^a=0#8^^^a:=QA;rw[Zfu] at this;simpa using this.symm
    .omega
   .have F:=C s hs;rw[O s es] at F;rw[F,Wg] at J;simp_all
  .rw[<-O i e];exact C i hi
 .intro C i hi;by_cases e:i=t
  .subst e;rw[U,C i hi,C s hs,Wg];simp
  .rw[O i e];exact C i hi
structure WZ(r:Nat)(M:Nat->Nat->BitVec 8)(j k:Nat)(p:Nat->Nat):Prop where
 le:k<=r
 lt:∀t,t<k->p t<j
 inc:∀s t,s<t->t<k->p s<p t
 unit:∀t i,t<k->i<r->M i (p t)=if i=t then 1#8 else 0#8
 below:∀i c,k<=i->i<r->c<j->M i c=0#8
 left:∀t c,t<k->c<p t->M t c=0#8
def Z1U(r:Nat)(M:Nat->Nat->BitVec 8)(p:Nat->Nat):WZ r M 0 0 p:=⟨Qw,λt h=>Qw,λs t _ h=>Qw,λt i h=>Qw,λi c _ _ h=>Qw,λt c h=>Qw⟩
def Z1T(g:WZ r M j k p)(h:∀i,k<=i->i<r->M i j=0#8):WZ r M (j+1) k p:=
 ⟨g.le,λt J=>by have:=g.lt t J;omega,g.inc,g.unit,λi c C F O=>by
  by_cases e:c=j
  .subst e;exact h i C F
  .exact g.below i c C F Qw,g.left⟩
def Z1V{N M':Nat->Nat->BitVec 8}(g:WZ r M j k p)(J:k<r)(Z:∀i c,i<k->N i c=M i c)(C:∀i c,k<=i->i<r->c<j->N i c=0#8)(h3:N k j=1#8)(F:∀i c,i<r->M' i c=if i=k then N k c else N i c^^^gm (N i j) (N k c)):WZ r M' (j+1) (k+1) (λt=>if t=k then j else p t):=by
 refine⟨Qw,λt O=> ?_,λs t hs O=> ?_,λt i O hi=> ?_,λi c ae U hc=> ?_,λt c O hc=> ?_⟩
 .by_cases e:t=k
  .grind
  .have:=g.lt t Qw;simp[e];omega
 .by_cases e:t=k
  .have:=g.lt s Qw;grind
  .have e2:¬s=k:=(by omega);simp[e,e2];exact g.inc s t hs Qw
 .rw[F _ _ hi];by_cases e:t=k
  .subst e;by_cases e2:i=t
   .simp_all
   .simp[h3,Bl]
  .have h:t<k:=(by omega);have hp:=g.lt t h;simp[e];by_cases e2:i=k
   .grind
   .simp[e2];rw[C k _ Qw J hp,Wg];by_cases e3:i<k
    .rw[Z _ _ e3,g.unit t i h hi];simp
    .grind
 .rw[F _ _ U,Zw Qw];by_cases e:c=j
  .subst e;rw[h3,Bl];simp
  .rw[C i c Qw U Qw,C k c Qw J Qw,Wg];simp
 .by_cases e:t=k
  .simp_all
  .simp[e] at hc;have h:t<k:=Qw;have hp:=g.lt t h;rw[F _ _ Qw,Zw e,Z _ _ h,g.left t c h hc,C k c Qw J Qw,Wg];simp
def KH(h:∀s t,s<t->t<k->p s<p t):∀t,t<k->t<=p t:=by
 intro t
 induction t with
 |zero=>omega
 |succ t ih=>intro C;have:=ih Qw;have:=h t (t+1) Qw C;omega
def OX(h:∀s t,s<t->t<k->p s<p t){s t:Nat}(F:s<=t)(C:t<k):p s<=p t:=by
 by_cases e:s=t
 .simp_all
 .have:=h s t Qw C;omega
def OE(g:WZ r M j r p)(U:j<=r):∀i c,i<r->c<r->M i c=if i=c then 1#8 else 0#8:=by
 have F:∀d t,t<r->r=t+1+d->p t=t:=by
  intro d
  induction d with
  |zero=>intro t C e;have:=g.lt t C;have:=KH g.inc t C;omega
  |succ d ih=>intro t C e;have J:=ih (t+1) Qw Qw;have O:=g.inc t (t+1) Qw Qw;have:=KH g.inc t C;omega
 intro i c hi hc;have h:=g.unit c i hc hi;rwa[F (r-c-1) c hc Qw] at h
def OD(g:WZ r M j k p)(U:j<=n){c:Nat}(hc:c<j)(Z:∀t,t<k->p t≠c):∃x:Nat->BitVec 8,x c=1#8/\(∀C,c<C->x C=0#8)/\Ker r n M x:=by
 let y:Nat->BitVec 8:=λC=>sm k (λt=>if p t=C then M t c else 0#8);have O:∀C,c<=C->y C=0#8:=λC h=>G2 λt F=>by
  by_cases e:p t=C
  .rw[Zx e];exact g.left t c F QA
  .simp_all
 refine⟨λC=>if C=c then 1#8 else y C,Qx,λC h=>by show(if C=c then 1#8 else y C)=0#8;rw[Zw Qw];exact O C Qw,λi hi=> ?_⟩;have e1:sm n (λC=>gm (M i C) (if C=c then 1#8 else y C))=sm n (λC=>(if C=c then M i c else 0#8)^^^gm (M i C) (y C)):=WD λC _=>by
  by_cases e:C=c
  .subst e;rw[Zx rfl,Zx rfl,O C Qw,Wg,Bl];simp
  .simp_all
 rw[e1,Ep,Ae (k:=c) Qw (λC _ h=>by rw[Zw h]),Zx rfl];have e2:sm n (λC=>gm (M i C) (y C))=sm k (λt=>gm (M i (p t)) (M t c)):=by have:sm n (λC=>gm (M i C) (y C))=sm n (λC=>sm k (λt=>gm (M i C) (if p t=C then M t c else 0#8))):=WD λC _=>(G1 _ _ _).symm;rw[this,SR];refine WD λt F=> ?_;rw[Ae (k:=p t) (by have:=g.lt t F;omega) (λC _ h=>by rw[Zw (λe=>h e.symm),Wg]),Zx rfl]
 rw[e2];by_cases J:i<k
 .rw[Ae (k:=i) J (λt F h=>by rw[g.unit t i F hi,Zw (λe=>h e.symm),Jh]),g.unit i i J hi,Zx rfl,XX];simp
 .rw[G2 (λt F=>by rw[g.unit t i F hi,Zw Qw,Jh]),g.below i c Qw hi hc];simp
def OF(g:WZ r M n k p)(U:k<n):∃x:Nat->BitVec 8,(∃c,c<n/\x c≠0#8)/\Ker r n M x:=by
 have F:∃c,c<n/\∀t,t<k->p t≠c:=by
  by_cases h:∃t,t<k/\p t≠t
  .obtain⟨t,C,hp⟩:=h;have O:∃t,t<k/\p t≠t/\∀s,s<t->p s=s:=by
    induction t using Nat.strongRecOn with
    |ind t ih=>grind
   obtain⟨t,C,hp,ae⟩:=O;have af:=KH g.inc t C;refine⟨t,Qw,λs hs=> ?_⟩;by_cases e:s<t
   .grind
   .have:=OX g.inc (s:=t) (t:=s) Qw hs;omega
  .refine⟨k,U,λt C=> ?_⟩;grind
 obtain⟨c,hc,Z⟩:=F;obtain⟨x,hx,_,J⟩:=OD g (Zt n) hc Z;exact⟨x,⟨c,hc,by rw[hx];decide⟩,J⟩
def idm(i k:Nat):Qo:=if i=k then 1#8 else 0#8
def Wr(n:Nat)(A B:Nat->Nat->BitVec 8)(i k:Nat):Qo:=sm n (λj=>gm (A i j) (B j k))
def aug(n:Nat)(A:Nat->Nat->BitVec 8)(i j:Nat):Qo:=if j<n then A i j else idm i (j-n)
def Inj(n:Nat)(A:Nat->Nat->BitVec 8):Prop:=∀x,Ker n n A x->∀c,c<n->x c=0#8
def Ak(n:Nat)(A B:Nat->Nat->BitVec 8):Prop:=∀i k,i<n->k<n->Wr n A B i k=idm i k
def SP(a b:Nat)(f:Nat->BitVec 8):sm (a+b) f=sm a f^^^sm b (λj=>f (a+j)):=by
 induction b with
 |zero=>simp[sm]
 |succ b ih=>rw[<-ZeH,sm,ih,sm];ac_rfl
def Lb(n m:Nat)(A B C:Nat->Nat->BitVec 8)(i k:Nat):Wr m (Wr n A B) C i k=Wr n A (Wr m B C) i k:=by
 unfold Wr;have e1:sm m (λj=>gm (sm n (λl=>gm (A i l) (B l j))) (C j k))=sm m (λj=>sm n (λl=>gm (gm (A i l) (B l j)) (C j k))):=WD λj _=>by rw[JP,<-G1];exact WD λl _=>JP _ _
 have e2:sm n (λl=>gm (A i l) (sm m (λj=>gm (B l j) (C j k))))=sm n (λl=>sm m (λj=>gm (gm (A i l) (B l j)) (C j k))):=WD λl _=>by rw[<-G1];exact WD λj _=>(Jv _ _ _).symm
 rw[e1,e2,SR]
def Re(n:Nat)(A:Nat->Nat->BitVec 8)(i k:Nat)(hi:i<n):Wr n idm A i k=A i k:=by unfold Wr;rw[Ae (k:=i) hi (λj _ h=>by unfold idm;rw[Zw (λe=>h e.symm),Jh])];unfold idm;rw[Zx rfl,XX]
def Z3N(n:Nat)(A:Nat->Nat->BitVec 8)(i k:Nat)(C:k<n):Wr n A idm i k=A i k:=by unfold Wr;rw[Ae (k:=k) C (λj _ h=>by unfold idm;rw[Zw h,Wg])];unfold idm;rw[Zx rfl,Bl]
def Rc{A':Nat->Nat->BitVec 8}{i:Nat}(h:∀j,j<n->A i j=A' i j):Wr n A B i k=Wr n A' B i k:=WD λj C=>by rw[h j C]
def Fe(h:a^^^b=0#8):a=b:=by simp_all
def Tz{C:Nat->Nat->BitVec 8}(hi:Inj n A)(h:∀i k,i<n->k<n->Wr n A B i k=Wr n A C i k):∀i k,i<n->k<n->B i k=C i k:=by
 intro i k F J;apply Fe;refine hi (λj=>B j k^^^C j k) (λr O=> ?_) i F;have e:sm n (λj=>gm (A r j) (B j k^^^C j k))=Wr n A B r k^^^Wr n A C r k:=by unfold Wr;rw[<-Ep];exact WD λj _=>Db _ _ _
 simp_all
def Z3c(hi:Inj n A)(h:Ak n A B):Ak n B A:=by
 have:=Tz (B:=Wr n B A) (C:=idm) hi (λi k F O=>by
  rw[<-Lb,Z3N n A i k O]
  rw[Rc (A':=idm) (λj J=>h i j F J),Re n A i k F])
 exact this
def Pi{x:Nat->BitVec 8}:Ker n (n+n) (aug n A) (λj=>if j<n then x j else 0#8)↔Ker n n A x:=by
 have e:∀i,sm (n+n) (λj=>gm (aug n A i j) (if j<n then x j else 0#8))=sm n (λj=>gm (A i j) (x j)):=by intro i;rw[LZ (n:=n) Qw (λj h _=>by rw[Zw Qw,Wg])];exact WD λj C=>by simp[aug,C]
 constructor
 .intro h i hi;rw[<-e];exact h i hi
 .intro h i hi;rw[e];exact h i hi
def Z1R(g:WZ n M j n p)(Z:j<=n)(O:∀x,Ker n (n+n) M x↔Ker n (n+n) (aug n A) x):Inj n A/\Ak n A (λi k=>M i (n+k)):=by
 have J:=OE g Z;have hid:∀i (x:Nat->BitVec 8),i<n->sm n (λc=>gm (M i c) (x c))=x i:=λi x hi=>by rw[Ae (k:=i) hi (λc hc h=>by rw[J i c hi hc,Zw (λe=>h e.symm),Jh]),J i i hi hi,Zx rfl,XX]
 constructor
 .intro x hx c hc;have C:=(O _).2 (Pi.2 hx) c hc;rw[LZ (n:=n) Qw (λj h _=>by rw[Zw Qw,Wg])] at C;simp_all
 .intro i k hi F;have nl:∀c,¬n+c<n:=Qw;let x:Nat->BitVec 8:=λc=>if c<n then M c (n+k) else idm k (c-n)
  have C:Ker n (n+n) M x:=by
   intro r hr;rw[SP];have a1:sm n (λc=>gm (M r c) (x c))=M r (n+k):=by rw[WD (g:=λc=>gm (M r c) (M c (n+k))) (λc hc=>by simp[x,hc])];simp_all
   have a2:sm n (λc=>gm (M r (n+c)) (x (n+c)))=M r (n+k):=by rw[Ae (k:=k) F (λc _ h=>by simp[x,nl,idm,h.symm,Wg])];simp[x,nl,idm,Bl]
   simp_all
  have U:=(O x).1 C i hi;rw[SP] at U;have b1:sm n (λc=>gm (aug n A i c) (x c))=Wr n A (λi k=>M i (n+k)) i k:=WD λc hc=>by simp[aug,x,hc]
  have b2:sm n (λc=>gm (aug n A i (n+c)) (x (n+c)))=idm i k:=by rw[Ae (k:=k) F (λc _ h=>by simp[x,nl,idm,h.symm,Wg])];simp[aug,x,nl,idm,Bl]
  simp_all
def Z1S(g:WZ n M n k p)(F:k<n)(J:∀x,Ker n (n+n) M x↔Ker n (n+n) (aug n A) x):¬Inj n A:=by intro hi;obtain⟨x,⟨c,hc,hx⟩,hker⟩:=OF g F;apply hx;refine hi x (Pi.1 ((J _).1 λi C=> ?_)) c hc;rw[LZ (n:=n) Qw (λj h _=>by rw[Zw Qw,Wg])];rw[WD (g:=λc=>gm (M i c) (x c)) (λc hc=>by rw[Zx hc])];exact hker i C
def ls(f:BitVec 8->BitVec 8->BitVec 8):List (Qo×Qo)->BitVec 8
 |[]=>0#8
 |p::l=>f p.1 p.2^^^ls f l
def KZ{f g:BitVec 8->BitVec 8->BitVec 8}(h:∀p,p∈l->f p.1 p.2=g p.1 p.2):ls f l=ls g l:=by
 induction l with
 |nil=>rfl
 |cons p l ih=>rw[ls,ls,h p Qx,ih (λq C=>h q QA)]
def PI(f g:BitVec 8->BitVec 8->BitVec 8)(l:List (Qo×Qo)):ls (λa b=>f a b^^^g a b) l=ls f l^^^ls g l:=by
 induction l with
 |nil=>simp[ls]
 |cons p l ih=>simp[ls,ih];ac_rfl
def PH(c:Qo)(f:BitVec 8->BitVec 8->BitVec 8)(l:List (Qo×Qo)):ls (λa b=>gm c (f a b)) l=gm c (ls f l):=by
 induction l with
 |nil=>simp[ls,Wg]
 |cons p l ih=>simp[ls,ih,Db]
def PJ{f:BitVec 8->BitVec 8->BitVec 8}(h:∀p,p∈l->f p.1 p.2=0#8):ls f l=0#8:=by
 rw[KZ (g:=λ_ _=>0#8) h]
 induction l with
 |nil=>rfl
 |cons p l ih=>rw[ls,ih (λq C=>h q QA)];simp
def Z3o(f:BitVec 8->BitVec 8->BitVec 8)(g:Qo×BitVec 8->BitVec 8×Qo)(l:List (Qo×Qo)):ls f (l.map g)=ls (λa b=>f (g (a,b)).1 (g (a,b)).2) l:=by
 induction l with
 |nil=>rfl
 |cons p l ih=>rw[Zn,ls,ls,ih]
def Z2C(a:Qo)(h:a≠0#8):iv a≠0#8:=by intro e;have:=Bj a h;rw[e,Wg] at this;simp_all
def CN(h:a≠b):a^^^b≠0#8:=λe=>h (Fe e)
def Z4X(z y C:Qo)(h:z≠y):gm (z^^^C) (iv (z^^^y))=1#8^^^gm (C^^^y) (iv (z^^^y)):=by
 have e:z^^^C=(z^^^y)^^^(C^^^y):=by have:(z^^^y)^^^(C^^^y)=(z^^^C)^^^(y^^^y):=QA;simp_all
 rw[e,E4,Bj _ (CN h)]
def Z4Y(z z0 y:Qo)(h:z≠y)(C:z0≠y):iv (z^^^y)^^^iv (z0^^^y)=gm (z^^^z0) (gm (iv (z0^^^y)) (iv (z^^^y))):=by
 have e:z^^^z0=(z^^^y)^^^(z0^^^y):=by have:(z^^^y)^^^(z0^^^y)=(z^^^z0)^^^(y^^^y):=QA;simp_all
 rw[e,E4];rw[JP (iv (z0^^^y)) (iv (z^^^y)),<-Jv,Bj _ (CN h),XX,JP (iv (z^^^y)) (iv (z0^^^y)),<-Jv,Bj _ (CN C),XX,BitVec.xor_comm]
def VP:∀ (n:Nat) (L:List (Qo×Qo)) (Z:List Qo),L.length=n->n<=Z.length->(L.map (·.1)).Nodup->Z.Nodup->(∀z,z∈Z->∀p,p∈L->z≠p.1)-> (∀z,z∈Z->ls (λy x=>gm x (iv (z^^^y))) L=0#8)->∀p,p∈L->p.2=0#8:=by
 intro n
 induction n with
 |zero=>intro L Z hl _ _ _ _ _ p F;have:L=[]:=Zdv.1 hl;subst this;simp at F
 |succ n ih=>
  intro L Z hl hz hL hZ J heq
  match L,hl,Z,hz with
  |(C,x0)::L,hl,z0::Z,hz=>
   have ay:L.length=n:=(by simpa using hl);have ak:n<=Z.length:=(by simpa using hz);have hy:∀p,p∈L->C≠p.1:=by intro p F e;have h:=(Zdn.1 (by simpa using hL:(C::L.map (·.1)).Nodup)).1;exact h QB
   have aw:(L.map (·.1)).Nodup:=(Zdn.1 (by simpa using hL:(C::L.map (·.1)).Nodup)).2;have ai:=Zdn.1 hZ
   -- each equation, times (z + C)
   have hmul:∀z,z∈z0::Z->(x0^^^ls (λ_ x=>x) L)^^^ls (λy x=>gm (gm x (C^^^y)) (iv (z^^^y))) L=0#8:=by
    intro z O;have h:=heq z O;have aq:z≠C:=J z O (C,x0) Qx;have U:gm (z^^^C) (ls (λy x=>gm x (iv (z^^^y))) ((C,x0)::L))=0#8:=(by rw[h,Wg]);rw[ls,Db,<-PH] at U;have e1:gm (z^^^C) (gm x0 (iv (z^^^C)))=x0:=(by rw[JP x0,<-Jv,Bj _ (CN aq),XX]);have e2:ls (λy x=>gm (z^^^C) (gm x (iv (z^^^y)))) L=ls (λy x=>x^^^gm (gm x (C^^^y)) (iv (z^^^y))) L:=KZ λp F=>by have ah:=J z O p QA;rw[JP p.2 (iv _),<-Jv,Z4X z p.1 C ah,E4,XX,JP (gm (C^^^p.1) (iv (z^^^p.1))) p.2,Jv]
    simp only at U;rw[e1,e2,PI] at U;rw[<-U];ac_rfl
   have h0:=hmul z0 Qx
   -- the equation of z0 taken away, divided by (z + z0)
   have af:∀z,z∈Z->ls (λy x=>gm x (iv (z^^^y))) (L.map λp=>(p.1,gm (gm p.2 (C^^^p.1)) (iv (z0^^^p.1))))=0#8:=by
    intro z O;have h:=hmul z QB;have au:z≠z0:=λe=>ai.1 (e▸O);have h2:ls (λy x=>gm (gm x (C^^^y)) (iv (z^^^y))) L=ls (λy x=>gm (gm x (C^^^y)) (iv (z0^^^y))) L:=by have a:=Fe h;have b:=Fe h0;rw[<-a,<-b]
    have h3:ls (λy x=>gm (gm x (C^^^y)) (iv (z^^^y))^^^gm (gm x (C^^^y)) (iv (z0^^^y))) L=0#8:=by rw[PI,h2];simp
    have h4:ls (λy x=>gm (z^^^z0) (gm (gm (gm x (C^^^y)) (iv (z0^^^y))) (iv (z^^^y)))) L=0#8:=by rw[<-h3];refine KZ λp F=> ?_;have ah:=J z QB p QA;have ag:=J z0 Qx p QA;rw[<-Db,Z4Y z z0 p.1 ah ag,Jv (gm p.2 (C^^^p.1)),<-Jv (z^^^z0),JP (z^^^z0) (gm p.2 (C^^^p.1)),Jv]
    rw[PH] at h4;rcases(E3 _ _).1 h4 with h5|h5
    .exact absurd h5 (CN au)
    .rw[Z3o];exact h5
   have aj:=ih (L.map λp=>(p.1,gm (gm p.2 (C^^^p.1)) (iv (z0^^^p.1)))) Z QB ak QA ai.2 (by
    intro z O p F;obtain⟨q,hq,rfl⟩:=Zz.1 F
    exact J z QB q QA) af
   have ae:∀p,p∈L->p.2=0#8:=by
    intro p F;have h:=aj _ (ZdT F);simp only at h;rcases(E3 _ _).1 h with h|h
    .rcases(E3 _ _).1 h with h|h
     .exact h
     .exact absurd h (CN (hy p F))
    .exact absurd h (Z2C _ (CN (J z0 Qx p QA)))
   intro p F;rcases Zk.1 F with rfl|F
   .rw[PJ (λp F=>ae p F),PJ (λp F=>by rw[ae p F,Jh,Jh])] at h0;simpa using h0
   .exact ae p F
def KJ(a:Qo):Qo:=if a=0#8 then 0#8 else iv a
def cau(k i j:Nat):Qo:=KJ (BitVec.ofNat 8 (k+i)^^^BitVec.ofNat 8 j)
def gen(k i j:Nat):Qo:=if i<k then idm i j else cau k (i-k) j
def Hq{a b:Nat}(ha:a<256)(hb:b<256)(h:BitVec.ofNat 8 a=BitVec.ofNat 8 b):a=b:=by have:=ZF BitVec.toNat h;grind
def Z6C(n:Nat)(f:Nat->BitVec 8)(g:BitVec 8->BitVec 8->BitVec 8)(x:Nat->BitVec 8)(q:Qr)(C:∀j,j<n->q j=false->f j=0#8)(F:∀j,j<n->q j=true->f j=g (BitVec.ofNat 8 j) (x j)):sm n f=ls g (((List.range n).filter q).map λj=>(BitVec.ofNat 8 j,x j)):=by
 induction n with
 |zero=>rfl
 |succ n ih=>
  have J:∀a b,ls g (a++b)=ls g a^^^ls g b:=by
   intro a b
   induction a with
   |nil=>simp[ls]
   |cons p a iha=>rw[ZdK,ls,ls,iha];ac_rfl
  rw[sm,ih (λj O=>C j Qw) (λj O=>F j Qw),Zds,ZdQ,Zo,J];congr 1;cases h:q n with
  |false=>rw[C n Qw h];simp[h,ls]
  |true=>rw[F n Qw h];simp[h,ls]
def Pu{α:Type}(p:α->Bool)(l:List α):(l.filter p).length+(l.filter λa=> !p a).length=l.length:=by
 induction l with
 |nil=>rfl
 |cons a l ih=>cases h:p a<;>simp[h]<;>omega
def Rh{α:Type}[DecidableEq α]:∀ (l l':List α),l.Nodup->(∀a,a∈l->a∈l')->l.length<=l'.length
 |[],_,_,_=>Qx
 |a::l,l',hn,hs=>by
  have C:=Zdn.1 hn
  have F:=Rh l (l'.erase a) C.2 (λb hb=>by
   have h:b≠a:=QA
   exact(List.mem_erase_of_ne h).2 (hs b QA))
  grind
def Z2x(k m:Nat)(aq:k+m<=256)(R:Qj)(hl:R.length=k)(hn:R.Nodup)(hr:∀a,a∈R->a<k+m):Inj k (λi j=>gen k (R.getD i 0) j):=by
 intro x hx;have ag:∀a,a∈R->sm k (λj=>gm (gen k a j) (x j))=0#8:=by intro a ha;obtain⟨i,hi,rfl⟩:=Zeg ha;have:=hx i Qw;grind
 have ai:∀a,a∈R->a<k->x a=0#8:=by intro a ha U;have h:=ag a ha;rw[Ae (k:=a) U (λj _ aj=>by unfold gen idm;rw[Zx U,Zw (λe=>aj e.symm),Jh])] at h;unfold gen idm at h;rw[Zx U,Zx rfl,XX] at h;omega
 let q:Qr:=λj=> !(R.contains j);let L:=((List.range k).filter q).map λj=>(BitVec.ofNat 8 j,x j);let H:=R.filter λa=> !(decide (a<k));let Z:=H.map λa=>BitVec.ofNat 8 a;have hH:∀a,a∈H->a∈R/\k<=a:=by grind
 have hq:∀j,q j=true↔j∉R:=by intro j;simp[q]
 have hlen:L.length<=Z.length:=by
  have C:=Pu (λa=>decide (a<k)) R;have F:=Pu (λj=>R.contains j) (List.range k);have J:(R.filter λa=>decide (a<k)).length<=((List.range k).filter λj=>R.contains j).length:=by refine Rh _ _ (ZfQ ZdU hn) (λa ha=> ?_);simp_all
  grind
 have af:L.map (·.1)=((List.range k).filter q).map λj=>BitVec.ofNat 8 j:=by simp[L,Zer,Function.comp_def]
 have ae:∀ (l:Qj),l.Nodup->(∀a,a∈l->a<256)->(l.map λj=>BitVec.ofNat 8 j).Nodup:=by
  intro l
  induction l with
  |nil=>intro _ _;simp
  |cons a l ih=>intro C F;have J:=Zdn.1 C;rw[Zn];refine Zdn.2 ⟨λhm=> ?_,ih J.2 (λb hb=>F b QA)⟩;obtain⟨b,hb,e⟩:=Zz.1 hm;have:=Hq (F b QA) (F a Qx) e;exact J.1 (this▸hb)
 have ah:=VP L.length L Z rfl hlen (by
  rw[af]
  exact ae _ (ZfQ ZdU Zf6) (λa ha=>by have:=(Zdr.1 ha).1;simp at this;omega)) (ae _ (ZfQ ZdU hn) (λa ha=>by have:=hr a (hH a ha).1;omega)) (by
  intro z hz p hp e;obtain⟨a,ha,rfl⟩:=Zz.1 hz;obtain⟨j,O,rfl⟩:=Zz.1 hp;have C:=hH a ha;have F:=hr a C.1;have J:=(Zdr.1 O).1;simp at J;have:=Hq Qw Qw e
  omega) (by
  intro z hz;obtain⟨a,ha,rfl⟩:=Zz.1 hz;have C:=hH a ha;have F:=hr a C.1;rw[<-ag a C.1];refine(Z6C k _ _ x q (λj O ak=> ?_) (λj O _=> ?_)).symm
  .have:j∈R:=by
    by_cases hm:j∈R
    .exact hm
    .have:=(hq j).2 hm;rw[ak] at this;exact absurd this Qx
   rw[ai j this O,Wg]
  .unfold gen cau KJ
   rw[Zw Qw,show k+(a-k)=a from Qw,Zw (CN (λe=>by have:=Hq Qw Qw e;omega)),JP])
 intro c hc;by_cases hm:c∈R
 .simp_all
 .exact ah (BitVec.ofNat 8 c,x c) (Zz.2 ⟨c,Zdr.2 ⟨by simp;exact hc,(hq c).2 hm⟩,rfl⟩)
end
section
open Go.RowKit
def QX(l:List Qo):Qk:=l.map λx=>.int .u8 (nv x)
def Jy(l:List Qo):(QX l).length=l.length:=by simp[QX]
def Cz(l:List Qo)(j:Nat)(h:j<l.length):(QX l)[j]? =some (.int .u8 (nv l[j])):=by simp[QX,h]
def tab(n:Nat)(f:Nat->BitVec 8):List Qo:=(List.range n).map f
def YD(n:Nat)(f:Nat->BitVec 8):(tab n f).length=n:=by simp[tab]
def Jb(n:Nat)(f:Nat->BitVec 8)(j:Nat)(h:j<n):(tab n f)[j]'(by rw[YD];exact h)=f j:=by simp[tab]
def AZ{n:Nat}{f g:Nat->BitVec 8}(h:∀j,j<n->f j=g j):tab n f=tab n g:=by unfold tab;exact ZdG λj C=>h j (Zdo.1 C)
def Mg{n:Nat}(f:Nat->BitVec 8)(k:Nat)(x:Qo):(tab n f).set k x=tab n (λj=>if j=k then x else f j):=by
 apply ZdX
 .simp[YD]
 .intro i C h;have hi:i<n:=by rw[YD] at h;exact h
  rw[Zg9,Jb _ _ _ hi,Jb _ _ _ hi];grind
def Lg(l:List Qo)(k:Nat)(x:Qo):(QX l).set k (.int .u8 (nv x))=QX (l.set k x):=by simp[QX,Zgw]
def Z7b(n:Nat):tab n (λ_=>0#8)=List.replicate n 0#8:=by simp[tab,List.map_const']
def Z3R(n:Nat):QX (List.replicate n 0#8)=QJ (List.replicate n 0):=by simp[QX,QJ,CB]
def J7{w:Qs}{p:Addr}{v:Qt}(h:w.cell? p=some v):p.block<w:=by unfold World.cell? at h;grind
def Gv{w w':Qs}{Ls:Qj}(h:Fr Ls w w'){g o:Nat}{v:Qt}(C:g∉Ls)(hc:w.cell? ⟨g,o,none⟩=some v):w'.cell? ⟨g,o,none⟩=some v:=by have hl:=J7 hc;have F:=h.block g hl C;unfold World.cell? at hc⊢;simp_all
structure Mt where
 rows:Int
 Z9Z:Int
 cells:List Qo
def Mt.val(m:Mt)(a:Qm)(cap:Nat):Qt:=.agg #[(m.rows:Int),(m.Z9Z:Int),.slice a m.cells.length cap]
def Mt.right(m:Mt):Bool:=decide (1<=m.rows/\m.rows<=255/\1<=m.Z9Z/\m.Z9Z<=255/\(m.cells.length:Int)=m.rows*m.Z9Z)
def mat(r c:Nat)(M:Nat->Nat->BitVec 8):Mt:=⟨r,c,tab (r*c) (λj=>M (j / c) (j%c))⟩
def BQ{c:Nat}(i j:Nat)(h:j<c):(i*c+j) / c=i:=by rw[ZdD,Nat.mul_add_div Qw,Nat.div_eq_of_lt h];omega
def BR{c:Nat}(i j:Nat)(h:j<c):(i*c+j)%c=j:=by rw[ZdD,Nat.mul_add_mod,Nat.mod_eq_of_lt h]
def GZ{r c:Nat}{i j:Nat}(hi:i<r)(h:j<c):i*c+j<r*c:=by have:(i+1)*c<=r*c:=Ze4 c hi;grind
def DA{r c k:Nat}(h:k<r*c):k / c<r:=Nat.div_lt_of_lt_mul QA
def Z3x{r c:Nat}{M N:Nat->Nat->BitVec 8}(h:∀i j,i<r->j<c->M i j=N i j):mat r c M=mat r c N:=by unfold mat;congr 1;refine AZ λj C=>h _ _ (DA C) (ZfN _ ?_);grind
section
variable{w:Qs}{g N i:Nat}{f:Nat->BitVec 8}{sp:Qk}
def AA(h:Row w g 5 (QX (tab N f)++sp))(hi:i<N):w.cell? ⟨g,i,none⟩=some (.int .u8 (nv (f i))):=h.cell (by rw[Za (by rw[Jy,YD];exact hi),Cz _ _ (by rw[YD];exact hi),Jb _ _ _ hi])
def Md(h:Y1 w g 5 (QX (tab N f)))(hi:i<N):w.cell? ⟨g,i,none⟩=some (.int .u8 (nv (f i))):=h.row.cell (by rw[Cz _ _ (by rw[YD];exact hi),Jb _ _ _ hi])
def Me(h:Y1 w g 5 (QX (tab N f)))(hi:i<N):w.frozen? ⟨g,i,none⟩=false:=h.row.free (by rw[Jy,YD];exact hi)
def Mf(h:Y1 w g 5 (QX (tab N f)))(x:Qo):Y1 (w.setCell ⟨g,i,none⟩ (.int .u8 (nv x))) g 5 (QX (tab N (λj=>if j=i then x else f j))):=by have hm:=h.set i (.int .u8 (nv x));rw[Lg,Mg] at hm;omega
end
def Fp(n:Int)(w:Qs):Calls prog 253 #[n] w λe w'=>e=.returned (.bool (decide (1<=n/\n<=255)))/\w=w':=by
 by_cases h:1<=n
 .by_cases C:n<=255
  .go_enter func253,ntmps253;go_wp2;go_ret;simp_all
  .go_enter func253,ntmps253;go_wp2;go_ret;simp_all
 .go_enter func253,ntmps253;go_wp2;go_ret;exact⟨by simp;omega,rfl⟩
def Z5o(m:Mt)(a:Qm)(cap:Nat)(w:Qs)(hl:m.cells.length<=maxLen):Calls prog 223 #[m.val a cap] w λe w'=>e=.returned m.right/\Below w w w':=by
 obtain⟨r,c,l⟩:=m;show Calls prog 223 #[.agg #[(r:Int),(c:Int),.slice a l.length cap]] w _;simp only at hl;unfold maxLen at hl;have U:(⟨r,c,l⟩:Mt).right=(decide (1<=r/\r<=255)&&(decide (1<=c/\c<=255)&&decide ((l.length:Int)=r*c))):=by unfold Mt.right;simp only;rw[Zgl];simp only[ZfZ,Zeu];exact⟨λ⟨a,b,c,d,e⟩=>⟨⟨a,b⟩,⟨c,d⟩,e⟩,λ⟨⟨a,b⟩,⟨c,d⟩,e⟩=>⟨a,b,c,d,e⟩⟩
 rw[U];have Z:=ZI U;clear U;obtain⟨b1,J⟩:=ZL (decide (1<=r/\r<=255));obtain⟨b2,M⟩:=ZL (decide (1<=c/\c<=255));rw[<-J,<-M];have C:=ZI J;have F:=ZI M;have O:b1=true->b2=true->0<=r*c/\r*c<=65025:=by intro e1 e2;rw[J,ZfZ] at e1;rw[M,ZfZ] at e2;exact⟨Int.mul_nonneg Qw Qw,Int.le_trans (Int.mul_le_mul e1.2 e2.2 Qw Qw) Qw⟩
 clear J M;cases b1
 .clear O;go_enter func223,ntmps223;go_wp2_with (go_at_call 253;refine(Fp _ _).mono ?_;rintro e w' ⟨he,rfl⟩;have h:=C.o;clear C;rw[<-h] at he;subst he;clear h);go_ret;exact⟨rfl,(Zu _ _).alloc (Zt _) _⟩
 .cases b2
  .clear O;go_enter func223,ntmps223;go_wp2_with (first|(go_at_call 253;have h:=C.o;clear C;refine(Fp r _).mono ?_;rintro e w' ⟨he,rfl⟩;rw[<-h] at he;subst he;clear h)|(go_at_call 253;have h:=F.o;clear F;refine(Fp c _).mono ?_;rintro e w' ⟨he,rfl⟩;rw[<-h] at he;subst he;clear h));go_ret;exact⟨rfl,(Zu _ _).alloc (Zt _) _⟩
  .obtain⟨p0,p1⟩:=O rfl rfl;clear O;go_enter func223,ntmps223;go_wp2_with (first|(go_at_call 253;have h:=C.o;clear C;refine(Fp r _).mono ?_;rintro e w' ⟨he,rfl⟩;rw[<-h] at he;subst he;clear h)|(go_at_call 253;have h:=F.o;clear F;refine(Fp c _).mono ?_;rintro e w' ⟨he,rfl⟩;rw[<-h] at he;subst he;clear h));go_ret;refine⟨?_,(Zu _ _).alloc (Zt _) _⟩;congr 2
def I6(r c i g o n cap:Nat)(w:Qs)(hi:i<r)(U:r<=255)(hc:1<=c)(O:c<=510)(F:n=r*c)(M:n<=cap)(J:cap<=9223372036854775807):Calls prog 226 #[.agg #[(r:Int),(c:Int),.slice (some ⟨g,o,none⟩) n cap],(i:Int)] w λe w'=>e=.returned (.slice (some ⟨g,o+i*c,none⟩) c (cap-i*c))/\Below w w w':=by
 have C:i*c+c<=n:=by have:(i+1)*c<=r*c:=Ze4 c hi;grind
 obtain⟨q,h⟩:∃q:Nat,q=i*c:=⟨_,rfl⟩;have e1:(i:Int)*(c:Int)=(q:Int):=Qw;have e2:((i:Int)+1)*(c:Int)=((q+c:Nat):Int):=QA;rw[<-h] at C⊢;clear F h;go_enter func226,ntmps226;go_wp2;go_ret;exact⟨by rw[show q+c-q=c from Qw];rfl,(Zu _ _).alloc (Zt _) _⟩
def Xk(r c i g n cap:Nat)(w:Qs)(hi:i<r)(M:r<=255)(hc:1<=c)(F:c<=510)(J:n=r*c)(C:n<=cap)(h:cap<=9223372036854775807):Calls prog 226 #[.agg #[(r:Int),(c:Int),.slice g n cap],(i:Int)] w λe w'=>∃q,q=i*c/\q+c<=n/\e=.returned (.slice (some ⟨g,q,none⟩) c (cap-q))/\Below w w w':=by refine(I6 r c i g 0 n cap w hi M hc F J C h).mono ?_;rintro e w' ⟨rfl,hb⟩;refine⟨i*c,rfl,?_,by rw[Zdz],hb⟩;have:(i+1)*c<=r*c:=Ze4 c hi;grind
def Xj(r c g:Nat):Qt:=.agg #[(r:Int),(c:Int),.slice g (r*c) (r*c)]
def EF(r c:Nat)(w:Qs)(h1:r<=510)(h2:c<=510):Calls prog 225 #[(r:Int),(c:Int)] w λe w'=>∃g,e=.returned (Xj r c g)/\w.heap.size<=g/\Y1 w' g 5 (QX (tab (r*c) λ_=>0#8))/\Below w w w':=by obtain⟨i0,hi,F,J,M⟩:=ZE B1;have h3:r*c<=510*510:=ZdA h1 h2;obtain⟨q,U⟩:∃q:Nat,q=r*c:=⟨_,rfl⟩;have e1:(r:Int)*(c:Int)=(q:Int):=Qw;unfold Xj;rw[<-U] at h3⊢;have C:=λW=>Eo (P:=prog) 75 5 i0 underlying75 hi F J M q Qw W;rw[<-Z3R,<-Z7b] at C;obtain⟨Z,O⟩:=ZL (QX (tab q λ_=>0#8));rw[<-O] at C⊢;clear hi F J M U O;go_enter func225,ntmps225;go_wp2;exact ZD (v:=.agg #[(r:Int),(c:Int),.slice (some ⟨w.heap.size+1,0,none⟩) q q]) (by simp[results,go_sem]) rfl ⟨_,rfl,Qw,by have h:=Z95 (w.alloc (.cells #[(r:Int),(c:Int),.slice (some ⟨w.heap.size+1,0,none⟩) q q] 250)) 5 Z;rw[show(w.alloc (.cells #[(r:Int),(c:Int),.slice (some ⟨w.heap.size+1,0,none⟩) q q] 250)).heap.size=w.heap.size+1 from Qx] at h;exact h,((Zu _ _).alloc (Zt _) _).alloc Qx _⟩
def TZ(w:Qs)(b:Nat)(c:Int):Prop:=Row w b 141 [(c:Int),(0:Int),.nilIface]
def Yz(B:Nat)(w:Qs)(v:Qt)(c:Int):Prop:=(v=.nilIface/\c=0)∨(c≠0/\∃b,v=.iface 139 (b:Nat)/\B<=b/\TZ w b c)
def Z9k(B:Nat)(w:Qs):Yz B w .nilIface 0:=Zv ⟨rfl,rfl⟩
def Yz.mono{B B':Nat}{w:Qs}{v:Qt}{c:Int}(h:Yz B w v c)(hB:B'<=B):Yz B' w v c:=by
 rcases h with h|⟨hc,b,C,J,F⟩
 .exact Zv h
 .exact Zy ⟨hc,b,C,Qw,F⟩
def JN(c:Int)(hc:c≠0)(w:Qs):Calls prog 224 #[c] w λe w'=>∃v,e=.returned v/\Yz w w' v c/\Below w w w':=by have h:=ZI hc;go_enter func224,ntmps224;go_wp2;go_ret;exact⟨_,rfl,Zy ⟨h.o,w.heap.size,rfl,Zt _,Z2 w _ [.int .i64 c,.int .i64 0,.nilIface]⟩,(Zu _ _).alloc (Zt _) _⟩
def A9(f:Nat->BitVec 8)(o n:Nat)(t:Qo)(of:Nat->BitVec 8)(j:Nat):Qo:=if o<=j/\j<o+n then f j^^^gm t (of (j-o)) else f j
def Ug(f:Nat->BitVec 8)(o:Nat)(t:Qo)(of:Nat->BitVec 8):A9 f o 0 t of=f:=by funext j;unfold A9;rw[Zw Qw]
def Uf(f:Nat->BitVec 8)(o k:Nat)(t:Qo)(of:Nat->BitVec 8):(λj=>if j=o+k then f (o+k)^^^gm t (of k) else A9 f o k t of j)=A9 f o (k+1) t of:=by
 funext j;unfold A9
 grind
def IL(g o n cap g2 o2 n2 ae N:Nat)(f of:Nat->BitVec 8)(sp:Qk)(t:Int)(w:Qs)(h0:0<=t)(h1:t<256)(h:Row w g 5 (QX (tab N f)++sp))(hN:o+n<=N)(hn:n<=n2)(ah:n<=100000)(ag:∀j,j<n->w.cell? ⟨g2,o2+j,none⟩=some (.int .u8 (nv (of j))))(hd:g2≠g∨o<=o2∨o2+n<=o):Calls prog 254 #[.slice (some ⟨g,o,none⟩) n cap,.slice (some ⟨g2,o2,none⟩) n2 ae,.int .u8 t] w λe w'=>e=.returned (.tuple #[])/\Row w' g 5 (QX (tab N (A9 f o n (bv t) of))++sp)/\Fr [g] w w':=by
 have O:=ZI h;have Z:=ZI ag;clear h ag;go_enter func254,ntmps254;go_wp2;go_loopw [9] (λi wr=>∃k:Nat,k<=n/\i=(k:Int)/\Row wr g 5 (QX (tab N (A9 f o k (bv t) of))++sp)/\Fr [g] w wr) (λi _=>n- (intOf i).toNat)
 .exact⟨0,Qw,rfl,by rw[Ug];exact O.o,Fr.refl _ _⟩
 obtain⟨k,hk,rfl,h,C⟩:=hrel;by_cases af:k<n
 .have J:∀i,i<N->wr.cell? ⟨g,i,none⟩=some (.int .u8 (nv (A9 f o k (bv t) of i))):=λi hi=>h.cell (by rw[Za (by rw[Jy,YD];exact hi),Cz _ _ (by rw[YD];exact hi),Jb _ _ _ hi]);have c1:wr.cell? ⟨g,o+k,none⟩=some (.int .u8 (nv (f (o+k)))):=by rw[J (o+k) Qw];unfold A9;rw[Zw Qw]
  have c2:wr.cell? ⟨g2,o2+k,none⟩=some (.int .u8 (nv (of k))):=by
   by_cases e:g2=g
   .subst e;have hl:o2+k<N∨¬o2+k<N:=Qw;have U:=Z.o k af;by_cases hl:o2+k<N
    .rw[J _ hl];have h8:w.cell? ⟨g2,o2+k,none⟩=some (.int .u8 (nv (f (o2+k)))):=O.o.cell (by rw[Za (by rw[Jy,YD];exact hl),Cz _ _ (by rw[YD];exact hl),Jb _ _ _ hl]);rw[<-U,h8];unfold A9;rw[Zw Qw]
    .have hx:=O.o;obtain⟨fz,hh,_⟩:=hx;obtain⟨aj,ai,_⟩:=h;rw[Zgp _ _ _ _ _ _ hh] at U;rw[Zgp _ _ _ _ _ _ ai];rw[<-U];simp only[Zfo];rw[Zda (by rw[Jy,YD];omega),Zda (by rw[Jy,YD];omega)];simp only[Jy,YD]
   .exact Gv C QB (Z.o k af)
  have hf:wr.frozen? ⟨g,o+k,none⟩=false:=h.free (by rw[Zb,Jy,YD];omega);have F:=ZI h;have M:=ZI C;have ak:k<n2:=Qw;clear h C J hd;go_wp2_with fail;go_still_tail 12,Qy
  still_call (BE (Le _ _ h0 h1 (AR _) (AQ _) _))
  repeat still_step
  refine ZeX ?_;change wpList _ _ _ _ _ wr.drew;go_wp2;go_roundw
  .refine⟨k+1,Qw,QC,?_,(M.o.setCell (Zv Qx) _).drew⟩;rw[Xo,Ew];have hm:=F.o.set (o+k) (.int .u8 (nv (f (o+k)^^^gm (bv t) (of k))));rw[ZfA _ _ (by rw[Jy,YD];omega),Lg,Mg,Uf] at hm;exact hm.drew
  simp[intOf];omega
 .obtain rfl:k=n:=by omega
  have F:=ZI h;have M:=ZI C;clear h C hd;go_wp2;go_end0;exact⟨rfl,F.o,M.o⟩
def Bq:Qt:=.agg #[(0:Int),(0:Int),()]
section
variable{w w0:Qs}{g B:Nat}{T:Qu}{x y z a b c v:Qt}{k:Int}
def Xc(h:Row w g T [x,y,z]):Row (((w.setCell g a).setCell ⟨g,1,none⟩ b).setCell ⟨g,2,none⟩ c) g T [a,b,c]:=((h.set 0 a).set 1 b).set 2 c
def Xs(h:Below B w0 w)(hB:B<=g):Below B w0 (((w.setCell g a).setCell ⟨g,1,none⟩ b).setCell ⟨g,2,none⟩ c):=((h.setCell hB a).setCell hB b).setCell hB c
def Yz.setCell(h:Yz B w v k)(M:g<B)(j:Nat):Yz B (w.setCell ⟨g,j,none⟩ a) v k:=by
 rcases h with h|⟨hc,f,C,F,J⟩
 .exact Zv h
 .exact Zy ⟨hc,f,C,F,Row.other J QA _⟩
def AW(h:Yz B w v k)(C:g<B):Yz B (((w.setCell g a).setCell ⟨g,1,none⟩ b).setCell ⟨g,2,none⟩ c) v k:=((h.setCell C 0).setCell C 1).setCell C 2
end
def Z8I(n:Int)(w:Qs)(h:n<1∨255<n):Calls prog 220 #[n] w λe w'=>∃ev,e=.returned (.tuple #[Bq,ev])/\Yz w w' ev 1/\Below w w w':=by
 have hx:(n<1)∨(¬n<1/\255<n):=Qw;have J:=Z2 w 250 [.int .i64 0,.int .i64 0,.slice none 0 0];have F:=ZI J;rcases hx with hx|⟨hx,ae⟩
 all_goals
  go_enter func220,ntmps220;go_wp2_with (go_at_call 224;refine(JN 1 Qw _).mono ?_;rintro e w1 ⟨ev,rfl,he,hb⟩;have hB:=F.o.after hb;have x0:=hB.c0;have x1:=hB.c1;have x2:=hB.c2;have f0:=hB.free (j:=0) Qx;have f1:=hB.free (j:=1) Qx;have f2:=hB.free (j:=2) Qx;have M:=ZI he;have C:=ZI hb;clear he hb hB);have O:=(Xc (a:=.int .i64 0) (b:=.int .i64 0) (c:=.slice none 0 0) (F.o.after C.o)).c0;have U:=(Xc (a:=.int .i64 0) (b:=.int .i64 0) (c:=.slice none 0 0) (F.o.after C.o)).c1;have Z:=(Xc (a:=.int .i64 0) (b:=.int .i64 0) (c:=.slice none 0 0) (F.o.after C.o)).c2;exact ZD (v:=.tuple #[.agg #[(0:Int),(0:Int),()],ev]) (by simp[results,go_sem,O,U,Z]) rfl ⟨ev,rfl,(AW M.o Qx).mono Qx,Xs (((Zu _ _).alloc (Zt _) _).trans (C.o.mono Qx)) (Zt _)⟩
def idF(n k j:Nat):Qo:=if j / n=j%n/\j / n<k then 1#8 else 0#8
def Z2w(n:Nat):(λ_=>0#8)=idF n 0:=by funext j;unfold idF;rw[Zw Qw]
def Z2v(n k:Nat)(h:k<n):(λj=>if j=k*n+k then 1#8 else idF n k j)=idF n (k+1):=by
 funext j
 unfold idF;by_cases e:j=k*n+k
 .subst e;rw[Zx rfl,BQ k k h,BR k k h,Zx ⟨rfl,Qw⟩]
 .rw[Zw e];by_cases C:j / n=j%n/\j / n<k
  .grind
  .rw[Zw C,Zw];rintro⟨F,J⟩;apply e;have:=Zei j n;grind
def Z2u(n:Nat):tab (n*n) (idF n n)=(mat n n idm).cells:=by refine AZ λj h=> ?_;unfold idF idm;have hl:=DA h;simp_all
def OW(n:Nat)(w:Qs)(n1:1<=n)(n2:n<=255):Calls prog 220 #[(n:Int)] w λe w'=>∃g,e=.returned (.tuple #[Xj n n g,.nilIface])/\w.heap.size<=g/\Y1 w' g 5 (QX (mat n n idm).cells)/\Below w w w':=by
 have af:=Z2 w 250 [.int .i64 0,.int .i64 0,.slice none 0 0];have HB:=ZI af;go_enter func220,ntmps220;go_wp2_with (go_at_call 225;refine(EF n n _ Qw Qw).mono ?_;rintro e w1 ⟨g,rfl,hg,C,hb⟩;unfold Xj;have ah:=ZI (HB.o.after hb);have U:=ZI C;have ai:=ZI (((Zu w w).alloc (Zt _) (.cells #[(0:Int),(0:Int),()] 250)).trans (hb.mono Qx));clear C hb HB);have aj:=ZI (Z2 w1 250 [.int .i64 n,.int .i64 n,.slice (g:Nat) (n*n) (n*n)]);have bg:w.heap.size<g:=by simp at hg;omega
 have bf:=U.o.row.lt;have hq:n*n<=255*255:=ZdA n2 n2;go_loopw [18] (λi wr=>∃k:Nat,k<=n/\i=(k:Int)/\Y1 wr g 5 (QX (tab (n*n) (idF n k)))/\Row wr w1 250 [(n:Int),(n:Int),.slice (g:Nat) (n*n) (n*n)]/\Row wr w 250 [(0:Int),(0:Int),()]/\Below w w wr/\w1<wr.heap.size) (λi _=>n- (intOf i).toNat)
 .exact⟨0,Qw,rfl,by rw[<-Z2w];exact U.o.fr ((Fr.refl [] _).alloc _) Qx,aj.o,ah.o.alloc _,ai.o.alloc Qw _,Qx⟩
 obtain⟨k,hk,rfl,C,F,ay,ae,bj⟩:=hrel;have x0:=F.c0;have x1:=F.c1;have x2:=F.c2;have HR:=ZI C;have HX:=ZI F;have h:=ZI ay;have M:=ZI ae;by_cases Z:k<n
 .go_wp2_with (go_at_call 226;refine(Xk n n k g (n*n) (n*n) _ Z Qw Qw Qw rfl (Zt _) Qw).mono ?_;rintro e w2 ⟨q,ag,bh,rfl,hb⟩;have J:=HR.o.fr (Z1 (L:=[]) hb) Qx;have c0:=Md (i:=q+k) J Qw;have f0:=Me (i:=q+k) J Qw;have au:=ZI J;have aw:=ZI (HX.o.after hb);have ak:=ZI (h.o.after hb);have aq:=ZI (M.o.trans (hb.mono M.o.size));have az:=hb.size;have HQ:=ZI ag;clear J hb ag x0 x1 x2);go_roundw
  .refine⟨k+1,Qw,QC,?_,aw.o.other QA _,ak.o.other QA _,aq.o.setCell QA _,by simp;omega⟩;have hm:=Mf (i:=q+k) au.o 1#8;rw[HQ.o,Z2v n k Z,Dp] at hm;rw[HQ.o];omega
  simp[intOf];omega
 .obtain rfl:k=n:=by omega
  have r0:=h.o.c0;have r1:=h.o.c1;have r2:=h.o.c2;have f0:=h.o.free (j:=0) Qx;have f1:=h.o.free (j:=1) Qx;have f2:=h.o.free (j:=2) Qx;go_wp2;have O:=Xc (a:=.int .i64 k) (b:=.int .i64 k) (c:=.slice (g:Nat) (k*k) (k*k)) h.o;have y0:=O.c0;have y1:=O.c1;have y2:=O.c2
  exact ZD (v:=.tuple #[.agg #[(k:Int),(k:Int),.slice (g:Nat) (k*k) (k*k)],.nilIface]) (by simp[results,go_sem,y0,y1,y2]) rfl ⟨g,rfl,Qw,by
   have h9:=HR.o;rw[Z2u] at h9
   exact h9.fr ((((Fr.refl [w.heap.size] wr).setCell (Zv Qx) _).setCell (Zv Qx) _).setCell (Zv Qx) _) QA,Xs M.o (Zt _)⟩
def Z8H(r c:Int)(w:Qs)(h:r<1∨255<r∨c<1∨255<c∨256<r+c):Calls prog 221 #[r,c] w λe w'=>∃ev,e=.returned (.tuple #[Bq,ev])/\Yz w w' ev 1/\Below w w w':=by
 have hx:(r<1)∨(¬r<1/\c<1)∨(¬r<1/\¬c<1/\255<r)∨(¬r<1/\¬c<1/\¬255<r/\255<c)∨(¬r<1/\¬c<1/\¬255<r/\¬255<c/\256<r+c):=Qw;have Z:=Z2 w 250 [.int .i64 0,.int .i64 0,.slice none 0 0];have O:=ZI Z;rcases hx with C|⟨C,F⟩|⟨C,F,U⟩|⟨C,F,U,h4⟩|⟨C,F,U,h4,h5⟩
 all_goals
  go_enter func221,ntmps221;go_wp2_with (go_at_call 224;refine(JN 1 Qw _).mono ?_;rintro e w1 ⟨ev,rfl,he,hb⟩;have hB:=O.o.after hb;have x0:=hB.c0;have x1:=hB.c1;have x2:=hB.c2;have f0:=hB.free (j:=0) Qx;have f1:=hB.free (j:=1) Qx;have f2:=hB.free (j:=2) Qx;have HE:=ZI he;have M:=ZI hb;clear he hb hB);have J:=Xc (a:=.int .i64 0) (b:=.int .i64 0) (c:=.slice none 0 0) (O.o.after M.o);have y0:=J.c0;have y1:=J.c1;have y2:=J.c2;exact ZD (v:=.tuple #[.agg #[(0:Int),(0:Int),()],ev]) (by simp[results,go_sem,y0,y1,y2]) rfl ⟨ev,rfl,(AW HE.o Qx).mono Qx,Xs (((Zu _ _).alloc (Zt _) _).trans (M.o.mono Qx)) (Zt _)⟩
def upF(c:Nat)(M:Nat->Nat->BitVec 8)(t j:Nat):Qo:=if j<t then M (j / c) (j%c) else 0#8
def Mo(c:Nat)(M:Nat->Nat->BitVec 8):(λ_=>0#8)=upF c M 0:=by rfl
def Z7B(c:Nat)(M:Nat->Nat->BitVec 8)(k l:Nat)(h:l<c):(λj=>if j=k*c+l then M k l else upF c M (k*c+l) j)=upF c M (k*c+l+1):=by
 funext j
 unfold upF;by_cases e:j=k*c+l
 .subst e;rw[Zx rfl,Zx Qw,BQ k l h,BR k l h]
 .grind
def Mn(r c:Nat)(M:Nat->Nat->BitVec 8):tab (r*c) (upF c M (r*c))=(mat r c M).cells:=by exact AZ λj h=>by unfold upF;rw[Zx h]
def VN(c k l:Nat)(h:c+k<256)(C:l<256):bits .xor .u8 ((c:Int)+(k:Int)) (l:Int)=nv (BitVec.ofNat 8 (c+k)^^^BitVec.ofNat 8 l):=by
 have e:((c:Int)+(k:Int))=nv (BitVec.ofNat 8 (c+k)):=by rw[Ri h];omega
 rw[e,<-Ri C,Ew]
def VO(c k l:Nat):ivv (BitVec.ofNat 8 (c+k)^^^BitVec.ofNat 8 l)=cau c k l:=rfl
def VQ(r c:Nat)(w:Qs)(r1:1<=r)(r2:r<=255)(c1:1<=c)(c2:c<=255)(cj:r+c<=256):Calls prog 221 #[(r:Int),(c:Int)] w λe w'=>∃g,e=.returned (.tuple #[Xj r c g,.nilIface])/\w.heap.size<=g/\Y1 w' g 5 (QX (mat r c (cau c)).cells)/\Below w w w':=by
 have af:=Z2 w 250 [.int .i64 0,.int .i64 0,.slice none 0 0];have HB:=ZI af;have i1:(1:Int)<=r:=Qw;have i2:(r:Int)<=255:=Qw;have i3:(1:Int)<=c:=Qw;have i4:(c:Int)<=255:=Qw;have i5:(r:Int)+(c:Int)<=256:=Qw;clear af;have hq:r*c<=255*255:=ZdA r2 c2;obtain⟨N,hN⟩:=ZL (r*c);unfold Xj;rw[<-hN] at hq⊢;have HN:=ZI hN;clear hN;go_enter func221,ntmps221;go_wp2_with (go_at_call 225;refine(EF r c _ Qw Qw).mono ?_;rintro e w1 ⟨g,rfl,hg,C,hb⟩;unfold Xj;rw[<-HN.o] at C⊢;have ah:=ZI (HB.o.after hb);have ae:=ZI C;have ak:=ZI (((Zu w w).alloc (Zt _) (.cells #[(0:Int),(0:Int),()] 250)).trans (hb.mono Qx));clear C hb HB);have aq:=ZI (Z2 w1 250 [.int .i64 r,.int .i64 c,.slice (g:Nat) N N]);have bu:w.heap.size<g:=by simp at hg;omega
 have bq:=ae.o.row.lt;have cn:w<w1.heap.size:=ah.o.lt;clear hg;go_loopw [35] (λi wr=>∃k:Nat,k<=r/\i=(k:Int)/\Y1 wr g 5 (QX (tab N (upF c (cau c) (k*c))))/\Row wr w1 250 [(r:Int),(c:Int),.slice (g:Nat) N N]/\Row wr w 250 [(0:Int),(0:Int),()]/\Below w w wr/\w1<wr.heap.size) (λi _=>r- (intOf i).toNat)
 .exact⟨0,Qw,rfl,by rw[Zf5,<-Mo];exact ae.o.fr ((Fr.refl [] _).alloc _) Qx,aq.o,ah.o.alloc _,ak.o.alloc Qw _,Qx⟩
 obtain⟨k,hk,rfl,C,F,Z,U,aj⟩:=hrel;have O:=ZI C;have J:=ZI F;have h:=ZI Z;have M:=ZI U;clear C F Z U ae aq ah ak;by_cases bj:k<r
 .go_wp2;obtain⟨wo,rfl⟩:∃wo:Qs,wo=wr:=⟨_,rfl⟩;go_loopw [39] (λi wr=>∃l:Nat,l<=c/\i=(l:Int)/\Y1 wr g 5 (QX (tab N (upF c (cau c) (k*c+l))))/\Row wr w1 250 [(r:Int),(c:Int),.slice (g:Nat) N N]/\Row wr w 250 [(0:Int),(0:Int),()]/\Below w w wr/\w1<wr.heap.size) (λi _=>c- (intOf i).toNat)
  .exact⟨0,Qw,rfl,O.o,J.o,h.o,M.o,aj⟩
  clear O J h M;obtain⟨l,hl,rfl,C,F,Z,U,aj⟩:=hrel;have x0:=F.c0;have x1:=F.c1;have x2:=F.c2;have O:=ZI C;have J:=ZI F;have h:=ZI Z;have M:=ZI U;clear C F Z U;by_cases ai:l<c
  .have bh:=VN c k l Qw Qw;obtain⟨X,hX⟩:=ZL (BitVec.ofNat 8 (c+k)^^^BitVec.ofNat 8 l);rw[<-hX] at bh;have bg:=ZI hX;clear hX;go_wp2_with (first|(go_at_call 226;refine(Xk r c k g N N _ bj Qw Qw Qw HN.o (Zt _) Qw).mono ?_;rintro e w2 ⟨q,au,bz,rfl,hb⟩;have ag:=O.o.fr (Z1 (L:=[]) hb) Qx;have c0:=Md (i:=q+l) ag Qw;have f0:=Me (i:=q+l) ag Qw;have az:=ZI ag;have bf:=ZI (J.o.after hb);have aw:=ZI (h.o.after hb);have ay:=ZI (M.o.trans (hb.mono M.o.size));have bm:=hb.size;have HQ:=ZI au;clear ag hb au x0 x1 x2)|(go_at_call 252;refine(KI (nv X) (AR _) (AQ _) _).mono ?_;rw[Xo];rintro e w3 ⟨rfl,rfl⟩));go_roundw
   .refine⟨l+1,Qw,QC,?_,bf.o.other QA _,aw.o.other QA _,ay.o.setCell QA _,by simp;omega⟩;have hm:=Mf (i:=q+l) az.o (cau c k l);rw[HQ.o,Z7B c _ k l ai,<-VO,<-bg.o] at hm;rw[HQ.o];exact hm
   simp[intOf];omega
  .obtain rfl:l=c:=(by omega);go_wp2;go_roundw
   .exact⟨k+1,Qw,QC,by rw[ZfB,Zgs];exact O.o,J.o,h.o,M.o,aj⟩
   simp[intOf];omega
 .obtain rfl:k=r:=by omega
  have x0:=J.o.c0;have x1:=J.o.c1;have x2:=J.o.c2;have r0:=h.o.c0;have r1:=h.o.c1;have r2:=h.o.c2;have f0:=h.o.free (j:=0) Qx;have f1:=h.o.free (j:=1) Qx;have f2:=h.o.free (j:=2) Qx;go_wp2;have hy:=Xc (a:=.int .i64 k) (b:=.int .i64 c) (c:=.slice (g:Nat) N N) h.o;have y0:=hy.c0;have y1:=hy.c1;have y2:=hy.c2
  exact ZD (v:=.tuple #[.agg #[(k:Int),(c:Int),.slice (g:Nat) N N],.nilIface]) (by simp[results,Tryz.results221,go_sem,y0,y1,y2]) rfl ⟨g,rfl,Qw,by
   have h9:=O.o;rw[HN.o,Mn] at h9
   exact h9.fr ((((Fr.refl [w.heap.size] wr).setCell (Zv Qx) _).setCell (Zv Qx) _).setCell (Zv Qx) _) (by simp;omega),Xs M.o (Zt _)⟩
end
section
open Go.RowKit
variable{T:TypeId}
def WV(r c:Int)(n:Nat):Bool:=decide (1<=r/\r<=255/\1<=c/\c<=255/\(n:Int)=r*c)
def J8(r c:Int)(n:Nat)(a:Qm)(cap:Nat)(w:Qs)(hl:n<=maxLen):Calls prog 223 #[.agg #[r,c,.slice a n cap]] w λe w'=>e=.returned (.bool (WV r c n))/\Below w w w':=by have h:=Z5o ⟨r,c,List.replicate n 0#8⟩ a cap w QB;simpa[Mt.val,Mt.right,WV] using h
def Dz{r c:Nat}(C:1<=r)(F:r<=255)(J:1<=c)(M:c<=255){n:Nat}(h:n=r*c):WV r c n=true:=by unfold WV;grind
def YH(w:Qs)(g o r c:Nat)(M:Nat->Nat->BitVec 8):Prop:=∀i j,i<r->j<c->w.cell? ⟨g,o+i*c+j,none⟩=some (.int .u8 (nv (M i j)))
def YH.after{w w':Qs}{g o r c:Nat}{M:Nat->Nat->BitVec 8}(h:YH w g o r c M)(hb:Below w w w'):YH w' g o r c M:=λi j hi C=>(hb.cell (p:=⟨g,o+i*c+j,none⟩) (J7 (h i j hi C))).trans (h i j hi C)
def YH.fr{w w':Qs}{g o r c:Nat}{M:Nat->Nat->BitVec 8}(h:YH w g o r c M){L:Qj}(C:Fr L w w')(F:g∉L):YH w' g o r c M:=λi j hi J=>Gv C F (h i j hi J)
def QN{w:Qs}{g:Nat}{a b c:Qt}(h:Row w g T [a,b,c]):w.cell? g=some a/\w.cell? ⟨g,1,none⟩=some b/\w.cell? ⟨g,2,none⟩=some c:=⟨h.cell rfl,h.cell rfl,h.cell rfl⟩
def Jg{w:Qs}{g:Nat}{a b c:Qt}(h:Row w g T [a,b,c]):w.frozen? ⟨g,0,none⟩=false/\w.frozen? ⟨g,1,none⟩=false/\w.frozen? ⟨g,2,none⟩=false:=⟨h.free Qx,h.free Qx,h.free Qx⟩
def Z7i(w:Qs)(h C F v0 v1 v2:Qt):Row (((w.alloc (.cells #[h,C,F] 250)).alloc (.cells #[v0,v1,v2] 250)).alloc (.cells #[(0:Int),(0:Int),()] 250)) w 250 [h,C,F]/\Row (((w.alloc (.cells #[h,C,F] 250)).alloc (.cells #[v0,v1,v2] 250)).alloc (.cells #[(0:Int),(0:Int),()] 250)) (w.heap.size+1) 250 [v0,v1,v2]/\Row (((w.alloc (.cells #[h,C,F] 250)).alloc (.cells #[v0,v1,v2] 250)).alloc (.cells #[(0:Int),(0:Int),()] 250)) (w.heap.size+1+1) 250 [.int .i64 0,.int .i64 0,.slice none 0 0]/\Below w w (((w.alloc (.cells #[h,C,F] 250)).alloc (.cells #[v0,v1,v2] 250)).alloc (.cells #[(0:Int),(0:Int),()] 250)):=by have hs:∀ (W:Qs) (o:Obj),(W.alloc o).heap.size=W.heap.size+1:=Qx;have O:=((Z2 w 250 [h,C,F]).alloc (.cells #[v0,v1,v2] 250)).alloc (.cells #[(0:Int),(0:Int),()] 250);have J:=(Z2 (w.alloc (.cells #[h,C,F] 250)) 250 [v0,v1,v2]).alloc (.cells #[(0:Int),(0:Int),()] 250);have M:=Z2 ((w.alloc (.cells #[h,C,F] 250)).alloc (.cells #[v0,v1,v2] 250)) 250 [.int .i64 0,.int .i64 0,.slice none 0 0];rw[hs] at J;rw[hs,hs] at M;exact⟨O,J,M,(((Zu _ _).alloc (Zt _) _).alloc Qx _).alloc QA _⟩
structure M3(w0:Qs)(b0 b1 b2:Nat)(A B:Qk)(w:Qs):Prop where
 one:Row w b0 250 A
 two:Row w b1 250 B
 res:Row w b2 250 [(0:Int),(0:Int),()]
 bel:Below w0 w0 w
 le:w0<=b2
def M3.after{w0 w w':Qs}{b0 b1 b2:Nat}{A B:Qk}(h:M3 w0 b0 b1 b2 A B w)(hb:Below w w w'):M3 w0 b0 b1 b2 A B w':=⟨h.one.after hb,h.two.after hb,h.res.after hb,h.bel.trans (hb.mono h.bel.size),h.le⟩
def L7(w:Qs)(h C F v0 v1 v2:Qt):M3 w w (w.heap.size+1) (w.heap.size+1+1) [h,C,F] [v0,v1,v2] (((w.alloc (.cells #[h,C,F] 250)).alloc (.cells #[v0,v1,v2] 250)).alloc (.cells #[(0:Int),(0:Int),()] 250)):=by obtain⟨J,M,O,U⟩:=Z7i w h C F v0 v1 v2;exact⟨J,M,O,U,Qw⟩
open Go.RowKit
section
variable{w0 w w':Qs}{b0 b1 b2 bx g ga oa gb ob r n c N:Nat}{A B:Nat->Nat->BitVec 8}{LA LB LX:Qk}{f f':Nat->BitVec 8}
end
end
section
open Go.RowKit
def tb(c:Nat)(M:Nat->Nat->BitVec 8)(j:Nat):Qo:=M (j / c) (j%c)
def Ah{c:Nat}(M:Nat->Nat->BitVec 8)(i j:Nat)(h:j<c):tb c M (i*c+j)=M i j:=by unfold tb;rw[BQ i j h,BR i j h]
def Iq(r c:Nat)(M:Nat->Nat->BitVec 8):(mat r c M).cells=tab (r*c) (tb c M):=rfl
def Fq{c i j:Nat}(hc:1<=c):(i*c<=j/\j<i*c+c)↔j / c=i:=by
 constructor
 .rintro⟨h,C⟩;obtain⟨m,rfl⟩:∃m,j=i*c+m:=⟨j-i*c,Qw⟩;exact BQ i m Qw
 .rintro rfl;have h:=Zei j c;have C:=ZfN j (show 0<c by omega);grind
def Mh{c:Nat}(M:Nat->Nat->BitVec 8)(t s:Nat)(a:Qo)(hc:1<=c):A9 (tb c M) (t*c) c a (M s)=tb c (X5 M t s a):=by
 funext j
 show(if t*c<=j/\j<t*c+c then M (j / c) (j%c)^^^gm a (M s (j-t*c)) else M (j / c) (j%c))=(if j / c=t then M t (j%c)^^^gm a (M s (j%c)) else M (j / c) (j%c));by_cases h:j / c=t
 .have C:=(Fq hc).2 h;rw[Zx C,Zx h,h];obtain⟨m,rfl⟩:∃m,j=t*c+m:=⟨j-t*c,Qw⟩;rw[BR t m Qw,show t*c+m-t*c=m from Qw]
 .rw[Zw (λC=>h ((Fq hc).1 C)),Zw h]
def Vx:bv 1=1#8:=by rw[show(1:Int)=nv 1#8 from Dp.symm,Xo]
def Z2V{r c:Nat}{M:Nat->Nat->BitVec 8}:∀x,Ker r c M x↔Ker r c M x:=λ_=>Iff.rfl
def WS(M:Nat->Nat->BitVec 8)(k j i:Nat)(a c:Nat):Qo:=if a<i/\a≠k then M a c^^^gm (M a j) (M k c) else M a c
def NE(M:Nat->Nat->BitVec 8)(k j:Nat):WS M k j 0=M:=by rfl
def Gz(M:Nat->Nat->BitVec 8)(k j i:Nat)(h:i=k∨M i j=0#8):WS M k j (i+1)=WS M k j i:=by
 funext a c
 unfold WS;by_cases e:a=i
 .subst e;by_cases e2:a=k
  .simp_all
  .rw[Zx ⟨Zga a,e2⟩,h.resolve_left e2,Jh];simp
 .grind
def Z01(M:Nat->Nat->BitVec 8)(k j i a c:Nat)(h:i<=a):WS M k j i a c=M a c:=by unfold WS;rw[Zw Qw]
def Z02(M:Nat->Nat->BitVec 8)(k j i:Nat)(h:i≠k):X5 (WS M k j i) i k (M i j)=WS M k j (i+1):=by
 funext a c
 unfold X5;by_cases e:a=i
 .subst e;unfold WS;simp_all
 .rw[Zw e];unfold WS;grind
structure Piv(r c:Nat)(M' M1:Nat->Nat->BitVec 8)(j k:Nat):Prop where
 up:∀i x,i<k->M1 i x=M' i x
 low:∀i x,k<=i->i<r->x<j->M1 i x=0#8
 ne:M1 k j≠0#8
 ker:∀x,Ker r c M1 x↔Ker r c M' x
def Z4K{r c j k:Nat}{M':Nat->Nat->BitVec 8}{p:Nat->Nat}(g:WZ r M' j k p)(J:M' k j≠0#8):Piv r c M' M' j k:=⟨λ_ _ _=>rfl,λi x h C F=>g.below i x h C F,J,λ_=>Iff.rfl⟩
def Z4I{r c j k m:Nat}{M':Nat->Nat->BitVec 8}{p:Nat->Nat}(g:WZ r M' j k p)(F:k<r)(hm:m<r)(Z:k<m)(U:M' k j=0#8)(O:M' m j≠0#8):Piv r c M' (X5 M' k m 1#8) j k:=by
 refine⟨λi x h=> ?_,λi x J M C=> ?_,?_,λx=> ?_⟩
 .unfold X5;rw[Zw Qw]
 .unfold X5;by_cases e:i=k
  .rw[Zx e,g.below k x (Zt _) F C,g.below m x Qw hm C,Wg];simp
  .rw[Zw e,g.below i x J M C]
 .unfold X5;rw[Zx rfl,U,XX];simpa using O
 .exact KM hm F (Zv Qw) x
def Z4L{r c j k:Nat}{M' C:Nat->Nat->BitVec 8}(h:Piv r c M' C j k)(F:k<r):Piv r c M' (X5 C k k (ivv (C k j)^^^1#8)) j k/\X5 C k k (ivv (C k j)^^^1#8) k j=1#8:=by
 have J:ivv (C k j)=iv (C k j):=by unfold ivv;rw[Zw h.ne]
 have M:X5 C k k (ivv (C k j)^^^1#8) k j=1#8:=by unfold X5;rw[Zx rfl,E4,XX,J,JP,Bj _ h.ne,<-Zfu,BitVec.xor_comm (C k j),Zfu,BitVec.xor_self,BitVec.xor_zero]
 refine⟨⟨λi x hi=> ?_,λi x Z h3 O=> ?_,by rw[M];decide,λx=> ?_⟩,M⟩
 .rw[<-h.up i x hi];unfold X5;rw[Zw Qw]
 .unfold X5;by_cases e:i=k
  .rw[Zx e,h.low k x (Zt _) F O,Wg];simp
  .rw[Zw e,h.low i x Z h3 O]
 .rw[KM F F (Zy ?_) x,h.ker x];intro e;have U:ivv (C k j)=0#8:=by have:=ZF (λy=>y^^^1#8) e;grind
  rw[J] at U;exact OZ _ h.ne U
def Z4J{r c j k:Nat}{M M' M2:Nat->Nat->BitVec 8}{p:Nat->Nat}(g:WZ r M' j k p)(h:Piv r c M' M2 j k)(F:k<r)(C:M2 k j=1#8):WZ r (WS M2 k j r) (j+1) (k+1) (λt=>if t=k then j else p t):=by refine Z1V g F h.up h.low C (λi x hi=> ?_);unfold WS;simp_all
def Z5E{c i k C F:Nat}(h:i≠k)(J:C=i*c)(M:F=k*c):C<=F∨F+c<=C:=by
 rcases Nat.lt_or_gt_of_ne h with h8|h8
 .left;rw[J,M];exact Ze4 c Qw
 .right;have:=Ze4 c (show k+1<=i by omega);grind
structure Al(w0:Qs)(g N:Nat)(LX:Qk)(sp:Qk)(f:Nat->BitVec 8)(w:Qs):Prop where
 box:Row w w0 250 LX
 row:Row w g 5 (QX (tab N f)++sp)
 fr:Fr [g] w0 w
section
variable{w0 w w':Qs}{g N:Nat}{LX sp:Qk}{f f':Nat->BitVec 8}
def Al.after(h:Al w0 g N LX sp f w)(hb:Below w w w'):Al w0 g N LX sp f w':=⟨h.box.after hb,h.row.after hb,h.fr.trans (Z1 (L:=[]) hb) Qx⟩
def Al.add(h:Al w0 g N LX sp f w)(F:Row w' g 5 (QX (tab N f')++sp))(C:Fr [g] w w'):Al w0 g N LX sp f' w':=⟨h.box.fr C (by simp;exact h.box.ne h.row Qx),F,h.fr.trans C (λi hi _=>hi)⟩
end
def Z6Y(r c Z9Z g cap N:Nat)(M:Nat->Nat->BitVec 8)(sp:Qk)(w:Qs)(r1:1<=r)(Z:r<=255)(c1:1<=c)(c2:c<=510)(hN:N=r*c)(af:N<=cap)(ae:cap<=9223372036854775807)(er:Z9Z<=c)(ah:Row w g 5 (QX (tab N (tb c M))++sp)):Calls prog 227 #[.agg #[(r:Int),(c:Int),.slice g N cap],(Z9Z:Int)] w λe w'=>∃k M' j p,e=.returned (.int .i64 (k:Nat))/\Row w' g 5 (QX (tab N (tb c M'))++sp)/\Fr [g] w w'/\WZ r M' j k p/\j<=Z9Z/\(j=Z9Z∨k=r)/\(∀x,Ker r c M' x↔Ker r c M x):=by
 have q1:N<=255*510:=by rw[hN];exact ZdA Z c2
 have S0:Qi (Al w g N [.int .i64 r,.int .i64 c,.slice g N cap] sp (tb c M) (w.alloc (.cells #[(r:Int),(c:Int),.slice g N cap] 250))):=
  ZI ⟨Z2 _ _ _,ah.alloc _,(Fr.refl _ _).alloc _⟩
 have gl:=ah.lt;have HN:=ZI hN;clear hN ah;go_enter func227,ntmps227;go_wp2;go_loopw [5,6] (λat_ jj wr=>∃ (k j:Nat) (M':Nat->Nat->BitVec 8) (p:Nat->Nat),at_=(k:Int)/\jj=(j:Int)/\j<=Z9Z/\WZ r M' j k p/\(∀x,Ker r c M' x↔Ker r c M x)/\Al w g N [.int .i64 r,.int .i64 c,.slice g N cap] sp (tb c M') wr) (λ_ jj _=>Z9Z- (intOf jj).toNat)
 .exact⟨0,0,M,λ_=>0,rfl,rfl,Qw,Z1U r M _,Z2V,S0.o⟩
 clear S0;obtain⟨k,j,M',p,rfl,rfl,hj,ai,aj,hs⟩:=hrel;have fx:=ai.le;have HG:=ZI ai;have HK:=ZI aj;obtain⟨x0,x1,x2⟩:=QN hs.box;have S1:=ZI hs;clear ai aj hs;by_cases ew:j<Z9Z/\k<r
 .obtain⟨fy,ag⟩:=ew;go_wp2;obtain⟨wo,rfl⟩:∃wo:Qs,wo=wr:=⟨_,rfl⟩;go_loopw [7] (λrr wr=>∃m:Nat,rr=(m:Int)/\k<=m/\m<=r/\(∀i,k<=i->i<m->M' i j=0#8)/\Al w g N [.int .i64 r,.int .i64 c,.slice g N cap] sp (tb c M') wr) (λrr _=>r- (intOf rr).toNat)
  .exact⟨k,rfl,Zt _,fx,λi h1 h2=>Qw,S1.o⟩
  clear S1 x0 x1 x2;obtain⟨m,rfl,fw,ju,hz,hs⟩:=hrel;obtain⟨x0,x1,x2⟩:=QN hs.box;have HZ:=ZI hz;have S2:=ZI hs;clear hz hs;by_cases hm:m<r
  .by_cases bf:nv (M' m j)=0
   .have ft:(nv (M' m j)==0)=true:=(by simpa using bf);have dh:=ZI bf;clear bf;go_wp2_with (go_at_call 226;have F:=S2.o;clear S2;refine(Xk r c m g N cap _ hm Z c1 c2 HN.o af ae).mono ?_;rintro e w2 ⟨q,J,jw,rfl,hb⟩;have C:=F.after hb;have c0:=AA (i:=q+j) C.row Qw;rw[J,Ah M' m j Qw,<-J] at c0;have S3:=ZI C;have HQ:=ZI J;clear F hb C J x0 x1 x2);go_roundw
    case measure=>simp[intOf];omega
    case rel=>exact⟨m+1,QC,Qw,Qw,λi h1 h2=>by
     by_cases e:i=m
     .rw[e];exact(Bt _).1 dh.o
     .exact HZ.o i h1 Qw,S3.o⟩
   .have ft:(nv (M' m j)==0)=false:=(by simpa using bf);have dh:=ZI bf;clear bf;refine if hmk:m=k then ?same else ?other
    case' same=>
     have e1:((m:Int)==(r:Int))=false:=by simp;omega
     have e2:((m:Int) !=(k:Int))=false:=(by simp[hmk]);have cr:=Z4K (c:=c) HG.o (by rw[<-hmk];exact λe=>dh.o ((Bt _).2 e));obtain⟨U,aw⟩:=ZL M';have ct:Piv r c M' U j k:=by rw[aw];exact cr
     clear cr;obtain⟨X,hX⟩:=ZL (U k j);have dm:=ZI aw;have dp:=ZI ct;have cj:=ZI hX;have fo:=ZI hmk;clear aw ct hX hmk;by_cases O:nv X=1
     case' pos=>have cz:(nv X !=1)=false:=(by simp[O]);have dt:=ZI O;clear O
     case' neg=>have cz:(nv X !=1)=true:=(by simpa using O);have dw:=ZI O;clear O
     all_goals
      go_wp2_with (first|(go_at_call 226;have F:=S2.o;clear S2;refine(Xk r c m g N cap _ hm Z c1 c2 HN.o af ae).mono ?_;rintro e w2 ⟨q2,J,cw,rfl,hb⟩;have C:=F.after hb;have du:=AA (i:=q2+j) C.row Qw;rw[J,Ah M' m j Qw,<-J] at du;obtain⟨gj,ir,jc⟩:=QN C.box;have S3:=ZI C;have fp:=ZI J;clear F hb C J x0 x1 x2)|(go_at_call 226;have F:=S3.o;rw[<-dm.o] at F;clear S3;refine(Xk r c k g N cap _ ag Z c1 c2 HN.o af ae).mono ?_;rintro e w4 ⟨q4,J,cy,rfl,hb⟩;have C:=F.after hb;have cn:=AA (i:=q4+j) C.row Qw;rw[J,Ah U k j Qw,<-J] at cn;rw[<-cj.o] at cn;obtain⟨gy,iu,jd⟩:=QN C.box;have S4:=ZI C;have fq:=ZI J;clear F hb C J)|(go_at_call 252;refine(KI (nv X) (AR _) (AQ _) _).mono ?_;rw[Xo];rintro e w5 ⟨rfl,rfl⟩))
    case' other=>
     have e1:((m:Int)==(r:Int))=false:=by simp;omega
     have e2:((m:Int) !=(k:Int))=true:=by simp;omega
     have cr:=Z4I (c:=c) HG.o ag hm Qw (HZ.o k (Zt _) Qw) (λe=>dh.o ((Bt _).2 e));obtain⟨U,aw⟩:=ZL (X5 M' k m 1#8);have ct:Piv r c M' U j k:=by rw[aw];exact cr
     clear cr;obtain⟨X,hX⟩:=ZL (U k j);have dm:=ZI aw;have dp:=ZI ct;have cj:=ZI hX;have fo:=ZI hmk;clear aw ct hX hmk;by_cases O:nv X=1
     case' pos=>have cz:(nv X !=1)=false:=(by simp[O]);have dt:=ZI O;clear O
     case' neg=>have cz:(nv X !=1)=true:=(by simpa using O);have dw:=ZI O;clear O
     all_goals
      go_wp2_with (go_at_call 226;have F:=S2.o;clear S2;refine(Xk r c m g N cap _ hm Z c1 c2 HN.o af ae).mono ?_;rintro e w2 ⟨q2,J,cw,rfl,hb⟩;have C:=F.after hb;have du:=AA (i:=q2+j) C.row Qw;rw[J,Ah M' m j Qw,<-J] at du;obtain⟨gj,ir,jc⟩:=QN C.box;have S3:=ZI C;have fp:=ZI J;clear F hb C J x0 x1 x2);go_region_held3 (λw'=>w'.cell? ⟨w,0,none⟩=(r:Int)/\w'.cell? ⟨w.heap.size,1,none⟩=(c:Int)/\w'.cell? ⟨w.heap.size,2,none⟩=some (.slice g N cap)) (first|exact⟨by assumption,by assumption,by assumption⟩)
       (first|(go_at_call 226;have F:=S3.o;clear S3;refine(Xk r c k g N cap _ ag Z c1 c2 HN.o af ae).mono ?_;rintro e kf ⟨jq,J,ey,rfl,hb⟩;have C:=(F.after (Zu _ _).drew).after hb;obtain⟨ia,iw,je⟩:=QN C.box;have dy:=ZI C;have bh:=ZI J;clear F hb C J)|(go_at_call 226;have F:=dy.o;clear dy;refine(Xk r c m g N cap _ hm Z c1 c2 HN.o af ae).mono ?_;rintro e kg ⟨fi,J,ez,rfl,hb⟩;have C:=F.after hb;obtain⟨ib,ix,jf⟩:=QN C.box;have dz:=ZI C;have bj:=ZI J;clear F hb C J)|(go_at_call 254;have F:=dz.o;clear dz;refine(IL g jq c _ g fi c _ N (tb c M') (M' m) sp 1 _ Qw Qw F.row Qw (Zt _) Qw (λi hi=>by rw[AA (i:=fi+i) F.row Qw,bj.o,Ah _ _ _ hi]) (Zy (Zv (by rw[bh.o,bj.o];exact Ze4 c fw)))).mono ?_;rintro e kh ⟨rfl,hr,hf⟩;rw[Vx,bh.o,Mh _ _ _ _ c1] at hr;have C:=F.add hr hf;obtain⟨ic,iy,jg⟩:=QN C.box;have ee:=ZI C;clear F hr hf C))
      go_wp2_with (first|(go_at_call 226;have F:=ee.o;rw[<-dm.o] at F;clear ee;refine(Xk r c k g N cap _ ag Z c1 c2 HN.o af ae).mono ?_;rintro e w4 ⟨q4,J,cy,rfl,hb⟩;have C:=F.after hb;have cn:=AA (i:=q4+j) C.row Qw;rw[J,Ah U k j Qw,<-J] at cn;rw[<-cj.o] at cn;obtain⟨gy,iu,jd⟩:=QN C.box;have S4:=ZI C;have fq:=ZI J;clear F hb C J)|(go_at_call 252;refine(KI (nv X) (AR _) (AQ _) _).mono ?_;rw[Xo];rintro e w5 ⟨rfl,rfl⟩))
    all_goals first
     |have O:=dt
      obtain⟨M2,ay⟩:=ZL U;have df:Qi (Piv r c M' M2 j k/\M2 k j=1#8):=by rw[ay];exact ZI ⟨dp.o,by rw[<-cj.o];exact Lj (dt.o.trans Dp.symm)⟩
      have SL:Qi (Al w g N [.int .i64 r,.int .i64 c,.slice g N cap] sp (tb c M2) w4):=by rw[ay];exact S4
      clear ay
     |have O:=dw
      have eu:=Ew (ivv X) 1#8;rw[Dp] at eu;go_region_held3 (λw'=>w'.cell? ⟨w,0,none⟩=(r:Int)/\w'.cell? ⟨w.heap.size,1,none⟩=(c:Int)/\w'.cell? ⟨w.heap.size,2,none⟩=some (.slice g N cap)) (first|exact⟨by assumption,by assumption,by assumption⟩)
       (first|(go_at_call 226;have F:=S4.o;clear S4;refine(Xk r c k g N cap _ ag Z c1 c2 HN.o af ae).mono ?_;rintro e kj ⟨jr,J,fa,rfl,hb⟩;have C:=(F.after (Zu _ _).drew).after hb;obtain⟨ie,iz,jh⟩:=QN C.box;have ef:=ZI C;have bm:=ZI J;clear F hb C J)|(go_at_call 226;have F:=ef.o;clear ef;refine(Xk r c k g N cap _ ag Z c1 c2 HN.o af ae).mono ?_;rintro e kq ⟨fj,J,fc,rfl,hb⟩;have C:=F.after hb;obtain⟨ig,j7,ji⟩:=QN C.box;have eh:=ZI C;have bq:=ZI J;clear F hb C J)|(go_at_call 254;have F:=eh.o;clear eh;refine(IL g jr c _ g fj c _ N (tb c U) (U k) sp (nv (ivv X^^^1#8)) _ (AR _) (AQ _) F.row Qw (Zt _) Qw (λi hi=>by rw[AA (i:=fj+i) F.row Qw,bq.o,Ah _ _ _ hi]) (Zy (Zv (by rw[bm.o,bq.o];exact Zt _)))).mono ?_;rintro e jt ⟨rfl,hr,hf⟩;rw[Xo,bm.o,Mh _ _ _ _ c1] at hr;have C:=F.add hr hf;obtain⟨ij,j8,jk⟩:=QN C.box;have S5:=ZI C;clear F hr hf C))
      clear eu;go_wp2;obtain⟨M2,ay⟩:=ZL (X5 U k k (ivv X^^^1#8));have df:Qi (Piv r c M' M2 j k/\M2 k j=1#8):=by rw[ay,cj.o];exact ZI (Z4L dp.o ag)
      have SL:Qi (Al w g N [.int .i64 r,.int .i64 c,.slice g N cap] sp (tb c M2) jt):=by rw[ay];exact S5
      clear ay
    all_goals
     go_loopw [78] (λii wr=>∃i:Nat,ii=(i:Int)/\i<=r/\(∀x,Ker r c (WS M2 k j i) x↔Ker r c M x)/\Al w g N [.int .i64 r,.int .i64 c,.slice g N cap] sp (tb c (WS M2 k j i)) wr) (λii _=>r- (intOf ii).toNat)
     .exact⟨0,rfl,Qw,λx=>by rw[NE];exact(df.1.ker x).trans (HK.o x),by rw[NE];exact SL.o⟩
     clear SL;obtain⟨i,rfl,hi,aj,hs⟩:=hrel;obtain⟨x0,x1,x2⟩:=QN hs.box;have de:=ZI aj;have S6:=ZI hs;clear aj hs;by_cases cu:i<r
     .by_cases dj:i=k
      .have fu:((i:Int) !=(k:Int))=false:=(by simp[dj]);have az:=ZI dj;clear dj;go_wp2_with (go_at_call 226;have F:=S6.o;clear S6;refine(Xk r c i g N cap _ cu Z c1 c2 HN.o af ae).mono ?_;rintro e w6 ⟨q6,J,ak,rfl,hb⟩;have C:=F.after hb;have au:=AA (i:=q6+j) C.row Qw;rw[J,Ah (WS M2 k j i) i j Qw,<-J] at au;have S7:=ZI C;have dx:=ZI J;clear F hb C J x0 x1 x2);go_roundw
       .exact⟨i+1,QC,Qw,by rw[Gz M2 k j i (Zv az.o)];exact de.o,by rw[Gz M2 k j i (Zv az.o)];exact S7.o⟩
       simp[intOf];omega
      .have fu:((i:Int) !=(k:Int))=true:=by simp;omega
       have ah:WS M2 k j i i j=M2 i j:=Z01 M2 k j i i j (Zt _);obtain⟨Y,hY⟩:=ZL (M2 i j);by_cases bg:nv Y=0
       .have cz:(nv Y !=0)=false:=(by simp[bg]);have dq:=ZI bg;have aq:=ZI (ah.trans hY.symm);have HY:=ZI hY;clear bg ah hY;go_wp2_with (go_at_call 226;have F:=S6.o;clear S6;refine(Xk r c i g N cap _ cu Z c1 c2 HN.o af ae).mono ?_;rintro e w6 ⟨q6,J,ak,rfl,hb⟩;have C:=F.after hb;have au:=AA (i:=q6+j) C.row Qw;rw[J,Ah (WS M2 k j i) i j Qw,<-J] at au;rw[aq.o] at au;have S7:=ZI C;have dx:=ZI J;clear F hb C J x0 x1 x2);go_roundw
        .exact⟨i+1,QC,Qw,by rw[Gz M2 k j i (Zy (HY.o.symm.trans ((Bt _).1 dq.o)))];exact de.o,by rw[Gz M2 k j i (Zy (HY.o.symm.trans ((Bt _).1 dq.o)))];exact S7.o⟩
        simp[intOf];omega
       .have cz:(nv Y !=0)=true:=(by simpa using bg);have dq:=ZI bg;have aq:=ZI (ah.trans hY.symm);have HY:=ZI hY;have az:=ZI dj;clear bg ah hY;go_wp2_with (go_at_call 226;have F:=S6.o;clear S6;refine(Xk r c i g N cap _ cu Z c1 c2 HN.o af ae).mono ?_;rintro e w6 ⟨q6,J,ak,rfl,hb⟩;have C:=F.after hb;have au:=AA (i:=q6+j) C.row Qw;rw[J,Ah (WS M2 k j i) i j Qw,<-J] at au;rw[aq.o] at au;obtain⟨jy,jz,ke⟩:=QN C.box;have S7:=ZI C;have dx:=ZI J;clear F hb C J x0 x1 x2);go_region_held3 (λw'=>w'.cell? ⟨w,0,none⟩=(r:Int)/\w'.cell? ⟨w.heap.size,1,none⟩=(c:Int)/\w'.cell? ⟨w.heap.size,2,none⟩=some (.slice g N cap)) (first|exact⟨by assumption,by assumption,by assumption⟩)
         (first|(go_at_call 226;have F:=S7.o;clear S7;refine(Xk r c i g N cap _ cu Z c1 c2 HN.o af ae).mono ?_;rintro e kt ⟨js,J,fe,rfl,hb⟩;have C:=(F.after (Zu _ _).drew).after hb;obtain⟨ik,j9,jl⟩:=QN C.box;have ek:=ZI C;have bu:=ZI J;clear F hb C J)|(go_at_call 226;have F:=ek.o;clear ek;refine(Xk r c k g N cap _ ag Z c1 c2 HN.o af ae).mono ?_;rintro e ku ⟨fm,J,fg,rfl,hb⟩;have C:=F.after hb;obtain⟨im,ja,jm⟩:=QN C.box;have eo:=ZI C;have bz:=ZI J;clear F hb C J)|(go_at_call 254;have F:=eo.o;clear eo;refine(IL g js c _ g fm c _ N (tb c (WS M2 k j i)) ((WS M2 k j i) k) sp (nv Y) _ (AR _) (AQ _) F.row Qw (Zt _) Qw (λi hi=>by rw[AA (i:=fm+i) F.row Qw,bz.o,Ah _ _ _ hi]) (Zy (Z5E az.o bu.o bz.o))).mono ?_;rintro e kx ⟨rfl,hr,hf⟩;rw[Xo,bu.o,Mh _ _ _ _ c1] at hr;have C:=F.add hr hf;obtain⟨iq,jb,jo⟩:=QN C.box;have S8:=ZI C;clear F hr hf C))
        go_wp2;go_roundw
        .have fh:=Z02 M2 k j i az.o;exact⟨i+1,QC,Qw,λx=>by rw[<-fh,KM ag cu (Zv (λh=>az.o h.symm))];exact de.o x,by rw[<-fh,<-HY.o];exact S8.o⟩
        simp[intOf];omega
     .obtain rfl:i=r:=(by omega);go_wp2;go_roundw
      .exact⟨k+1,j+1,WS M2 k j i,λt=>if t=k then j else p t,QC,QC,Qw,Z4J (M:=M') HG.o df.1 ag df.2,de.o,S6.o⟩
      simp[intOf];omega
  .obtain rfl:m=r:=(by omega);have e1:((m:Int)==(m:Int))=true:=Qx;go_wp2;go_roundw
   .exact⟨k,j+1,M',p,rfl,QC,Qw,Z1T HG.o HZ.o,HK.o,S2.o⟩
   simp[intOf];omega
 .have hx:¬j<Z9Z∨(j<Z9Z/\¬k<r):=by omega
  clear ew;rcases hx with hx|⟨hx,jx⟩
  all_goals
   go_wp2;go_ret;exact⟨k,M',j,p,rfl,S1.o.row,S1.o.fr,HG.o,hj,Qw,HK.o⟩
end
section
open Go.RowKit
variable{Q:Exit->Act->World->Prop}{a:Act}{o:Oper}{ops:Array Oper}{w:World}
def Xh(f:Nat->BitVec 8)(o n:Nat)(of:Nat->BitVec 8)(j:Nat):Qo:=if o<=j/\j<o+n then of (j-o) else f j
def Z3a(f of:Nat->BitVec 8)(o n N:Nat)(h:o+n<=N):(QX (tab N f)).take o++(QX (tab n of)++(QX (tab N f)).drop (o+n))=QX (tab N (Xh f o n of)):=by
 unfold QX;rw[<-Zfa,<-List.map_drop,<-Zo,<-Zo];congr 1;apply ZdX
 .simp[YD];omega
 .intro i F C;have hi:i<N:=by rw[YD] at C;exact C
  rw[Jb _ _ _ hi];unfold Xh;by_cases e1:i<o
  .rw[Zw Qw,Zg3 (by simp[YD];omega),List.getElem_take,Jb _ _ _ hi]
  .rw[ZfV QA];simp[YD,Zej (show o<=N by omega)];by_cases e2:i<o+n
   .rw[Zx ⟨Qw,e2⟩,Zg3 (by rw[YD];omega),Jb _ _ _ Qw]
   .rw[Zw Qw,ZfV (by rw[YD];omega),List.getElem_drop,Jb _ _ _ (by rw[YD];omega)];congr 1;rw[YD];omega
section
variable{P:Program}
def Sg(w:Qs)(M sT ty elem:Qu)(hu:P.underlying M=some (.slice elem))(ah:(P.info? elem).map (·.size)=some 1)(g o C O gs os F U n N:Nat)(t:Qu)(f of:Nat->BitVec 8)(af:Y1 w g t (QX (tab N f)))(hn:n=Nat.min F C)(ae:o+n<=N)(ag:∀j,j<n->w.cell? ⟨gs,os+j,none⟩=some (.int .u8 (nv (of j)))):(Builtin.copy_ #[M,sT] ty #[.slice (some ⟨g,o,none⟩) C O,.slice (some ⟨gs,os,none⟩) F U]).run P w=.ok (goInt n) (w.setRow g (QX (tab N (Xh f o n of))).toArray):=by
 have hl:(QX (tab n of)).length=n:=by rw[Jy,YD]
 have h:=run_copy_row (P:=P) w M sT ty elem g o C O ⟨gs,os,none⟩ F U (QX (tab N f)).toArray t (QX (tab n of)) hu ah af Qw
  (λj v Z=>by
   have J:j<n:=QA;rw[Cz _ _ (by rw[YD];exact J),Jb _ _ _ J] at Z;have e1:(⟨gs,os,none⟩:Addr).add j=⟨gs,os+j,none⟩:=by unfold Addr.add;split<;>simp_all
   rw[e1,ag j J];exact Z)
  (by rw[hl];simp[Jy,YD];omega)
  (λv hv=>by
   obtain⟨x,_,rfl⟩:=Zz.1 hv
   rfl)
 rw[hl,ZeI,Zd,Z3a f of o n N ae] at h;omega
def Z8g{rest:List Oper}(ah:o.guard=none)(d s:Operand)(J Z:Qu)(ho:o.op=.call {callee:=.builtin .copy,args:= #[d,s],argTypes:= #[J,Z]})(elem:Qu)(hu:P.underlying J=some (.slice elem))(ai:(P.info? elem).map (·.size)=some 1)(g off C M gs os F U n N:Nat)(hd:a.eval d=.slice (some ⟨g,off,none⟩) C M)(hs:a.eval s=.slice (some ⟨gs,os,none⟩) F U)(t:Qu)(f of:Nat->BitVec 8)(O:Y1 w g t (QX (tab N f)))(hn:n=Nat.min F C)(ae:off+n<=N)(ag:∀j,j<n->w.cell? ⟨gs,os+j,none⟩=some (.int .u8 (nv (of j))))(h:∀w',Y1 w' g t (QX (tab N (Xh f off n of)))->Fr [g] w w'->wpList P ops Q rest (a.put o.dst (goInt n)) w'):wpList P ops Q (o::rest) a w:=by refine ZfL ah λK hK=> ?_;have af:=Sg (P:=P) w J Z o.type elem hu ai g off C M gs os F U n N t f of O hn ae ag;unfold Oper.wp;simp[execOp,ho,resolve,invoke,builtin,hd,hs,af];exact hK _ _ (h _ (O.setRow _) ((Fr.refl _ _).setRow (Zv Qx) _))
def Ij{K:Act->Qs->Prop}{E:Prop}(ah:o.guard=none)(d s:Operand)(J Z:Qu)(ho:o.op=.call {callee:=.builtin .copy,args:= #[d,s],argTypes:= #[J,Z]})(elem:Qu)(hu:P.underlying J=some (.slice elem))(ai:(P.info? elem).map (·.size)=some 1)(g off C M gs os F U n N:Nat)(hd:a.eval d=.slice (some ⟨g,off,none⟩) C M)(hs:a.eval s=.slice (some ⟨gs,os,none⟩) F U)(t:Qu)(f of:Nat->BitVec 8)(O:Y1 w g t (QX (tab N f)))(hn:n=Nat.min F C)(ae:off+n<=N)(ag:∀j,j<n->w.cell? ⟨gs,os+j,none⟩=some (.int .u8 (nv (of j))))(h:∀w',Y1 w' g t (QX (tab N (Xh f off n of)))->Fr [g] w w'->K (a.put o.dst (goInt n)) w'):if Region.wanted o (yielded ops a.tmps)=true then Oper.wp P o a w K Q else E:=by
 have hw:Region.wanted o (yielded ops a.tmps)=true:=by simp[Region.wanted,ah]
 rw[Zx hw];have af:=Sg (P:=P) w J Z o.type elem hu ai g off C M gs os F U n N t f of O hn ae ag;unfold Oper.wp;simp[execOp,ho,resolve,invoke,builtin,hd,hs,af];exact h _ (O.setRow _) ((Fr.refl _ _).setRow (Zv Qx) _)
end
def YH.flat{g o r c:Nat}{M:Nat->Nat->BitVec 8}(h:YH w g o r c M)(hc:1<=c)(j:Nat)(C:j<r*c):w.cell? ⟨g,o+j,none⟩=some (.int .u8 (nv (tb c M j))):=by have:=h (j / c) (j%c) (DA C) (ZfN _ Qw);rw[ZeH,ZdD,Zei] at this;exact this
end
section
open Go.RowKit
def TE(c:Nat)(M:Nat->Nat->BitVec 8)(k:Nat)(hc:1<=c):Xh (upF c M (k*c)) (k*c) c (M k)=upF c M ((k+1)*c):=by
 funext j
 unfold Xh upF;rw[ZfB,Zgs];by_cases h:k*c<=j/\j<k*c+c
 .rw[Zx h,Zx h.2];have C:=(Fq hc).1 h;rw[C];congr 1;obtain⟨m,rfl⟩:∃m,j=k*c+m:=⟨j-k*c,Qw⟩;rw[BR k m Qw];omega
 .grind
def Be(n m:Nat)(A:Nat->Nat->BitVec 8)(k j:Nat):Qo:=if j / m<k then aug n A (j / m) (j%m) else 0#8
def UX(n m:Nat)(A:Nat->Nat->BitVec 8):(λ_=>0#8)=Be n m A 0:=by rfl
def UW(n m:Nat)(A:Nat->Nat->BitVec 8)(k:Nat)(hm:m=n+n)(h:k<n):(λj=>if j=k*m+(n+k) then 1#8 else Xh (Be n m A k) (k*m) n (A k) j)=Be n m A (k+1):=by
 funext j
 have C:1<=m:=Qw;by_cases F:j / m=k
 .obtain⟨O,U⟩:=(Fq C).2 F;obtain⟨c,rfl⟩:∃c,j=k*m+c:=⟨j-k*m,Qw⟩;have hc:c<m:=Qw;unfold Be;rw[BQ k c hc,BR k c hc,Zx (Zga k)];unfold aug;by_cases e:c=n+k
  .rw[Zx Qw,Zw Qw];unfold idm;rw[Zx Qw]
  .rw[Zw Qw];unfold Xh;by_cases J:c<n
   .simp_all
   .rw[Zw Qw,Zw J];show(if(k*m+c) / m<k then _ else 0#8)=_;rw[BQ k c hc,Zw (Zg4 k)];unfold idm;rw[Zw Qw]
 .have M:¬ (k*m<=j/\j<k*m+m):=λh=>F ((Fq C).1 h);unfold Xh;unfold Be;grind
def UV(n m:Nat)(A:Nat->Nat->BitVec 8):tab (n*m) (Be n m A n)=tab (n*m) (tb m (aug n A)):=AZ λj h=>by unfold Be tb;rw[Zx (DA h)]
structure AJ(w0:Qs)(b0 b2 bx g ga oa r c N:Nat)(A:Nat->Nat->BitVec 8)(LA LX:Qk)(f:Nat->BitVec 8)(w:Qs):Prop where
 one:Row w b0 250 LA
 res:Row w b2 250 [(0:Int),(0:Int),()]
 box:Row w bx 250 LX
 row:Y1 w g 5 (QX (tab N f))
 src:YH w ga oa r c A
 bel:Below w0 w0 w
section
variable{w0 w w':Qs}{b0 b2 bx g ga oa r c N:Nat}{A:Nat->Nat->BitVec 8}{LA LX:Qk}{f f':Nat->BitVec 8}
def AJ.after(h:AJ w0 b0 b2 bx g ga oa r c N A LA LX f w)(hb:Below w w w'):AJ w0 b0 b2 bx g ga oa r c N A LA LX f w':=⟨h.one.after hb,h.res.after hb,h.box.after hb,h.row.fr (Z1 (L:=[]) hb) Qx,h.src.after hb,h.bel.trans (hb.mono h.bel.size)⟩
def AJ.lay(h:AJ w0 b0 b2 bx g ga oa r c N A LA LX f w)(O:Y1 w' g 5 (QX (tab N f')))(C:Fr [g] w w')(U:w0<=g)(ha:ga<w0):AJ w0 b0 b2 bx g ga oa r c N A LA LX f' w':=by
 have F:b0∉[g]:=by simp;exact h.one.ne h.row.row Qx
 have J:b2∉[g]:=by simp;exact h.res.ne h.row.row Qx
 have M:bx∉[g]:=by simp;exact h.box.ne h.row.row Qx
 exact⟨h.one.fr C F,h.res.fr C J,h.box.fr C M,O,h.src.fr C QA,h.bel.trans (C.below h.bel.size (λi hi=>by simp at hi;omega))⟩
end
structure Cg(w0:Qs)(b2 bx by_ g g2 N N2:Nat)(LX LY:Qk)(f f2:Nat->BitVec 8)(w:Qs):Prop where
 res:Row w b2 250 [(0:Int),(0:Int),()]
 box:Row w bx 250 LX
 boy:Row w by_ 250 LY
 src:Row w g 5 (QX (tab N f)++[])
 row:Y1 w g2 5 (QX (tab N2 f2))
 bel:Below w0 w0 w
section
variable{w0 w w':Qs}{b2 bx by_ g g2 N N2:Nat}{LX LY:Qk}{f f2 f':Nat->BitVec 8}
def Cg.after(h:Cg w0 b2 bx by_ g g2 N N2 LX LY f f2 w)(hb:Below w w w'):Cg w0 b2 bx by_ g g2 N N2 LX LY f f2 w':=⟨h.res.after hb,h.box.after hb,h.boy.after hb,h.src.after hb,h.row.fr (Z1 (L:=[]) hb) Qx,h.bel.trans (hb.mono h.bel.size)⟩
def Cg.lay(h:Cg w0 b2 bx by_ g g2 N N2 LX LY f f2 w)(O:Y1 w' g2 5 (QX (tab N2 f')))(C:Fr [g2] w w')(Z:w0<=g2)(U:g≠g2):Cg w0 b2 bx by_ g g2 N N2 LX LY f f' w':=by
 have F:b2∉[g2]:=by simp;exact h.res.ne h.row.row Qx
 have J:bx∉[g2]:=by simp;exact h.box.ne h.row.row Qx
 have M:by_∉[g2]:=by simp;exact h.boy.ne h.row.row Qx
 exact⟨h.res.fr C F,h.box.fr C J,h.boy.fr C M,h.src.fr C QB,O,h.bel.trans (C.below h.bel.size (λi hi=>by simp at hi;omega))⟩
end
def Z7s(w:Qs)(h C F:Qt):Row ((w.alloc (.cells #[h,C,F] 250)).alloc (.cells #[(0:Int),(0:Int),()] 250)) w 250 [h,C,F]/\Row ((w.alloc (.cells #[h,C,F] 250)).alloc (.cells #[(0:Int),(0:Int),()] 250)) (w.heap.size+1) 250 [.int .i64 0,.int .i64 0,.slice none 0 0]/\Below w w ((w.alloc (.cells #[h,C,F] 250)).alloc (.cells #[(0:Int),(0:Int),()] 250)):=by have hs:∀ (W:Qs) (o:Obj),(W.alloc o).heap.size=W.heap.size+1:=Qx;have M:=(Z2 w 250 [h,C,F]).alloc (.cells #[(0:Int),(0:Int),()] 250);have J:=Z2 (w.alloc (.cells #[h,C,F] 250)) 250 [.int .i64 0,.int .i64 0,.slice none 0 0];rw[hs] at J;exact⟨M,J,((Zu _ _).alloc (Zt _) _).alloc Qx _⟩
structure B2(w0:Qs)(b0 b1:Nat)(LA:Qk)(w:Qs):Prop where
 one:Row w b0 250 LA
 res:Row w b1 250 [(0:Int),(0:Int),()]
 bel:Below w0 w0 w
 le:w0<=b1
def B2.after{w0 w w':Qs}{b0 b1:Nat}{LA:Qk}(h:B2 w0 b0 b1 LA w)(hb:Below w w w'):B2 w0 b0 b1 LA w':=⟨h.one.after hb,h.res.after hb,h.bel.trans (hb.mono h.bel.size),h.le⟩
def ET(w:Qs)(h C F:Qt):B2 w w (w.heap.size+1) [h,C,F] ((w.alloc (.cells #[h,C,F] 250)).alloc (.cells #[(0:Int),(0:Int),()] 250)):=by obtain⟨J,M,O⟩:=Z7s w h C F;exact⟨J,M,O,Qw⟩
def MN(w:Qs)(n:Nat)(A:Nat->Nat->BitVec 8)(e:Qv)(w':Qs):Prop:=
 ((¬Inj n A/\∃ev,e=.returned (.tuple #[Bq,ev])/\Yz w w' ev 18)∨(Inj n A/\∃g B,Ak n A B/\e=.returned (.tuple #[Xj n n g,.nilIface])/\w.heap.size<=g/\Y1 w' g 5 (QX (mat n n B).cells)))/\Below w w w'
def Z2D(n ga oa N cap:Nat)(A:Nat->Nat->BitVec 8)(w:Qs)(n1:1<=n)(n2:n<=255)(hN:N=n*n)(bg:N<=cap)(ak:cap<=9223372036854775807)(ha:YH w ga oa n n A):Calls prog 161 #[.agg #[(n:Int),(n:Int),.slice (some ⟨ga,oa,none⟩) N cap]] w λe w'=>MN w n A e w':=by
 have hm:=Dz n1 n2 n1 n2 hN;have q1:N<=255*255:=by rw[hN];exact ZdA n2 n2
 obtain⟨m,bj⟩:=ZL (n+n);obtain⟨C,bf⟩:=ZL (n*m);have q2:C<=255*510:=by rw[bf];exact ZdA n2 Qw
 have e2:(2:Int)*(n:Int)=(m:Int):=by rw[bj];omega
 have m1:n<m:=Qw;have m2:m<=510:=Qw;have cy:m-n=n:=Qw;have az:ga<w:=J7 (ha 0 0 Qw Qw);have S0:=ZI (ET w (.int .i64 n) (.int .i64 n) (.slice (some ⟨ga,oa,none⟩) N cap));have HX:=ZI hm;have HN:=ZI hN;have HM:=ZI bj;have aj:=ZI bf;have de:=ZI cy;have HA:=ZI ha;clear hm hN bj bf cy ha;go_enter func161,ntmps161;go_wp2_with (first|(go_at_call 223;have h:=S0.o;clear S0;refine(J8 n n N _ cap _ (by unfold maxLen;omega)).mono ?_;rintro e w1 ⟨rfl,hb⟩;rw[HX.o];have hm:=h.after hb;obtain⟨x0,x1,x2⟩:=QN hm.one;have S1:=ZI hm;clear h hb hm)|(go_at_call 225;have h:=S1.o;clear S1;refine(EF n m _ Qw m2).mono ?_;rintro e w2 ⟨g,rfl,hg,U,hb⟩;unfold Xj;rw[<-aj.o] at U⊢;have ct:w<=g:=Zq h.bel.size hg;have hm:=h.after hb;have hz:=hm.bel.size;have S2:=ZM hm U;clear h hb hm hg U));have S3:Qi (AJ w w (w.heap.size+1) w2 g ga oa n n C A [.int .i64 n,.int .i64 n,.slice (some ⟨ga,oa,none⟩) N cap] [.int .i64 n,.int .i64 m,.slice g C C] (Be n m A 0) (w2.alloc (.cells #[(n:Int),(m:Int),.slice g C C] 250))):=by
  obtain⟨hm,U⟩:=S2.o;have Z:Below w2 w2 (w2.alloc (.cells #[(n:Int),(m:Int),.slice g C C] 250)):=(Zu _ _).alloc (Zt _) _;have hk:=hm.after Z;refine ZI ⟨hk.one,hk.res,Z2 _ _ _,?_,λi j hi hj=> ?_,hk.bel⟩
  .rw[<-UX];exact U.fr (Z1 (L:=[]) Z) Qx
  .exact(hk.bel.cell (p:=⟨ga,oa+i*n+j,none⟩) az).trans (HA.o i j hi hj)
 clear S2 HA;go_loopw [27] (λi wr=>∃k:Nat,k<=n/\i=(k:Int)/\AJ w w (w.heap.size+1) w2 g ga oa n n C A [.int .i64 n,.int .i64 n,.slice (some ⟨ga,oa,none⟩) N cap] [.int .i64 n,.int .i64 m,.slice g C C] (Be n m A k) wr) (λi _=>n- (intOf i).toNat)
 .exact⟨0,Qw,rfl,S3.o⟩
 clear S3;obtain⟨k,hk,rfl,hs⟩:=hrel;by_cases ai:k<n
 .obtain⟨x0,x1,x2⟩:=QN hs.box;obtain⟨u0,u1,u2⟩:=QN hs.one;have S4:=ZI hs;clear hs;go_wp2_with fail;go_region_held3 (λw'=>(w'.cell? ⟨w2,0,none⟩=(n:Int)/\w'.cell? ⟨w2.heap.size,1,none⟩=(m:Int)/\w'.cell? ⟨w2.heap.size,2,none⟩=some (.slice g C C))/\(w'.cell? ⟨w,0,none⟩=(n:Int)/\w'.cell? ⟨w.heap.size,1,none⟩=(n:Int)/\w'.cell? ⟨w.heap.size,2,none⟩=some (.slice (some ⟨ga,oa,none⟩) N cap))) (first|exact⟨by assumption,by assumption⟩|exact⟨⟨x0,x1,x2⟩,u0,u1,u2⟩)
   (first|(go_at_call 226;have h:=S4.o;clear S4;refine(Xk n m k g C C _ ai Qw Qw m2 aj.o (Zt _) Qw).mono ?_;rintro e O ⟨q,F,ee,rfl,hb⟩;have hm:=(h.after (Zu _ _).drew).after hb;have dm:=QN hm.box;have dp:=QN hm.one;have S5:=ZI hm;have HQ:=ZI F;clear h hb hm F)|(go_at_call 226;have h:=S5.o;clear S5;refine(I6 n n k ga oa N cap _ ai Qw Qw Qw HN.o bg ak).mono ?_;rintro e w7 ⟨rfl,hb⟩;have hm:=h.after hb;have dq:=QN hm.box;have dt:=QN hm.one;have J:=ZI hm;clear h hb hm)|(refine Ij (by rfl) (.tmp 32) (.tmp 35) 75 75 (by rfl) 5 underlying75 AD g q m (C-q) ga (oa+k*n) n (cap-k*n) n C (by rfl) (by rfl) 5 (Be n m A k) (A k) J.o.row (Zej Qw).symm Qw (λj hj=>J.o.src k j ai hj) ?_;intro w8 cz cn;have h:=J.o;clear J;have hm:=h.lay cz cn ct az;have du:=QN hm.box;have dw:=QN hm.one;have S7:=ZI hm;clear h cz cn hm))
  go_wp2_with (go_at_call 226;have h:=S7.o;clear S7;refine(Xk n m k g C C _ ai Qw Qw m2 aj.o (Zt _) Qw).mono ?_;rintro e w9 ⟨q5,F,eh,rfl,hb⟩;have hm:=h.after hb;have c0:=Md (i:=q5+(n+k)) hm.row Qw;have f0:=Me (i:=q5+(n+k)) hm.row Qw;have eu:=QN hm.box;have M:=ZI hm;have cj:=ZI F;clear h hb hm F);go_roundw
  .refine⟨k+1,Qw,QC,?_⟩;have hr:=Mf (i:=q5+(n+k)) M.o.row 1#8;rw[HQ.o,cj.o,UW n m A k HM.o ai,Dp] at hr;rw[cj.o];exact M.o.lay hr ((Fr.refl _ _).setCell (Zv Qx) _) ct az
  simp[intOf];omega
 .obtain rfl:k=n:=by omega
  have bz:AJ w w (w.heap.size+1) w2 g ga oa k k C A [.int .i64 k,.int .i64 k,.slice (some ⟨ga,oa,none⟩) N cap] [.int .i64 k,.int .i64 m,.slice g C C] (tb m (aug k A)) wr:=⟨hs.one,hs.res,hs.box,by have h:=hs.row;rw[aj.o,UV,<-aj.o] at h;exact h,hs.src,hs.bel⟩;obtain⟨x0,x1,x2⟩:=QN bz.box;have S4:=ZI bz;clear hs bz;go_wp2_with fail;have h:=S4.o;clear S4;refine(Z6Y k m k g C C (aug k A) [] _ n1 n2 Qw m2 aj.o (Zt _) Qw Qw (by rw[Zdg];exact h.row.row)).mono ?_;rintro e w5 ⟨l,M',j,p,rfl,hr,hf,ae,hj,aq,au⟩;have bm:=h.res.ne h.row.row Qz;have bq:=h.box.ne h.row.row Qz;have ag:=h.res.fr hf (by simp only[Z6];exact bm);have ah:=h.box.fr hf (by simp only[Z6];exact bq);have af:=h.bel.trans (hf.below h.bel.size (λi hi=>by simp only[Z6] at hi;omega));have er:=hr.lt;have hle:=ae.le;have ek:w.heap.size+1<w5.heap.size:=ag.lt;have ay:∀x,Ker k (k+k) M' x↔Ker k (k+k) (aug k A) x:=by rw[<-HM.o];exact au
  clear hf h au;by_cases bh:l<k
  .have cw:j=k:=(by omega);have hS:¬Inj k A:=by rw[cw] at ae;exact Z1S ae bh ay
   have HS:=ZI hS;have S5:=ZM ag af;have eo:=af.size;clear ag ah af hr ae aq ay hS cw;go_wp2_with (go_at_call 224;have h:=S5.o;clear S5;refine(JN 18 Qz _).mono ?_;rintro e O ⟨ev,rfl,he,hb⟩;have hm:=h.1.after hb;obtain⟨z0,z1,z2⟩:=QN hm;obtain⟨f0,f1,f2⟩:=Jg hm;have J:=ZN hm he (h.2.trans (hb.mono h.2.size));clear h hb hm he);have hy:=Xc (a:=.int .i64 0) (b:=.int .i64 0) (c:=.slice none 0 0) J.1;obtain⟨y0,y1,y2⟩:=QN hy;exact ZD (v:=.tuple #[.agg #[(0:Int),(0:Int),()],ev]) (by simp[results,Tryz.results161,go_sem,y0,y1,y2]) rfl ⟨Zv ⟨HS.o,ev,rfl,(AW J.2.1 ek).mono Qw⟩,Xs J.2.2 Qw⟩
  .have hl:l=k:=(by omega);subst hl;have hI:=Z1R ae Qw ay;obtain⟨B,hB⟩:∃B,B=λi c=>M' i (l+c):=⟨_,rfl⟩;rw[<-hB] at hI;have HI:=ZI hI;have HB:=ZI hB;obtain⟨x0,x1,x2⟩:=QN ah;have S5:=ZO ag ah hr af;have eo:=af.size;clear ag ah af hr ae aq ay hI hB hj;go_wp2_with (go_at_call 225;have h:=S5.o;clear S5;refine(EF l l _ Qw Qw).mono ?_;rintro e O ⟨g2,rfl,dj,U,hb⟩;unfold Xj;rw[<-HN.o] at U⊢;have cu:w<=g2:=Qw;have dx:g≠g2:=Qw;have ey:=hb.size;have J:=ZP (h.1.after hb) (h.2.1.after hb) (h.2.2.1.after hb) U (h.2.2.2.trans (hb.mono Qw));clear h hb dj U);have S7:Qi (Cg w (w.heap.size+1) w2 O g g2 C N [.int .i64 l,.int .i64 m,.slice g C C] [.int .i64 l,.int .i64 l,.slice g2 N N] (tb m M') (upF l B (0*l)) (O.alloc (.cells #[(l:Int),(l:Int),.slice g2 N N] 250))):=by obtain⟨k1,k2,k3,k4,k5⟩:=J.o;have Z:Below O O (O.alloc (.cells #[(l:Int),(l:Int),.slice g2 N N] 250)):=(Zu _ _).alloc (Zt _) _;refine ZI ⟨k1.after Z,k2.after Z,Z2 _ _ _,k3.after Z,?_,k5.trans (Z.mono k5.size)⟩;rw[Zf5,<-Mo];exact k4.fr (Z1 (L:=[]) Z) Qx
   clear J;go_loopw [56] (λi wr=>∃k:Nat,k<=l/\i=(k:Int)/\Cg w (w.heap.size+1) w2 O g g2 C N [.int .i64 l,.int .i64 m,.slice g C C] [.int .i64 l,.int .i64 l,.slice g2 N N] (tb m M') (upF l B (k*l)) wr) (λi _=>l- (intOf i).toNat)
   .exact⟨0,Qw,rfl,S7.o⟩
   clear S7;obtain⟨k,hk,rfl,hs⟩:=hrel;by_cases ai:k<l
   .obtain⟨x0,x1,x2⟩:=QN hs.box;obtain⟨u0,u1,u2⟩:=QN hs.boy;have M:=ZI hs;clear hs;go_wp2_with fail;have ez:(0:Int)<=(l:Int):=Qw;have fa:(l:Int)<=(m:Int):=Qw;have fc:l<=m:=Qw;go_region_held3 (λw'=>(w'.cell? ⟨w2,0,none⟩=(l:Int)/\w'.cell? ⟨w2.heap.size,1,none⟩=(m:Int)/\w'.cell? ⟨w2.heap.size,2,none⟩=some (.slice g C C))/\(w'.cell? ⟨O,0,none⟩=(l:Int)/\w'.cell? ⟨O.heap.size,1,none⟩=(l:Int)/\w'.cell? ⟨O.heap.size,2,none⟩=some (.slice g2 N N))) (first|exact⟨by assumption,by assumption⟩|exact⟨⟨x0,x1,x2⟩,u0,u1,u2⟩)
     (first|(go_at_call 226;have h:=M.o;clear M;refine(Xk l l k g2 N N _ ai Qw Qw Qw HN.o (Zt _) Qw).mono ?_;rintro e w7 ⟨q,F,ee,rfl,hb⟩;have hm:=(h.after (Zu _ _).drew).after hb;have dm:=QN hm.box;have dp:=QN hm.boy;have S9:=ZI hm;have HQ:=ZI F;clear h hb hm F)|(go_at_call 226;have h:=S9.o;clear S9;refine(Xk l m k g C C _ ai Qw Qw m2 aj.o (Zt _) Qw).mono ?_;rintro e w8 ⟨q3,F,ef,rfl,hb⟩;have hm:=h.after hb;have dq:=QN hm.box;have dt:=QN hm.boy;have ew:l<C-q3:=Qw;have dy:m<=C-q3:=Qw;have dz:¬C-q3=l:=Qw;have aw:=ZI hm;have df:=ZI F;clear h hb hm F)|(refine Ij (by rfl) (.tmp 61) (.tmp 66) 75 75 (by rfl) 5 underlying75 AD g2 q l (N-q) g (q3+l) (m-l) (C-q3-l) l N (by rfl) (by rfl) 5 (upF l B (k*l)) (B k) aw.o.row (by rw[de.o];exact(Zgx l).symm) Qw (λi hi=>by rw[ZeH,AA (i:=q3+(l+i)) aw.o.src Qw,df.o,Ah _ _ _ Qw,HB.o]) ?_;intro w9 bu cr;rw[HQ.o,TE l B k n1] at bu;have h:=aw.o;clear aw;have hm:=h.lay bu cr cu dx;have du:=QN hm.box;have dw:=QN hm.boy;have dh:=ZI hm;clear h bu cr hm))
    go_wp2;go_roundw
    .exact⟨k+1,Qw,QC,dh.o⟩
    simp[intOf];omega
   .obtain rfl:k=l:=(by omega);obtain⟨x0,x1,x2⟩:=QN hs.boy;obtain⟨t0,t1,t2⟩:=QN hs.res;obtain⟨f0,f1,f2⟩:=Jg hs.res;have M:=ZI hs;clear hs;go_wp2;have hy:=Xc (a:=.int .i64 k) (b:=.int .i64 k) (c:=.slice g2 N N) M.o.res;obtain⟨y0,y1,y2⟩:=QN hy
    exact ZD (v:=.tuple #[.agg #[(k:Int),(k:Int),.slice g2 N N],.nilIface]) (by simp[results,Tryz.results161,go_sem,y0,y1,y2]) rfl ⟨Zy ⟨HI.1,g2,B,HI.2,by unfold Xj;rw[<-HN.o],cu,by
     have h:=M.o.row;rw[HN.o,Mn] at h
     exact h.fr ((((Fr.refl [w.heap.size+1] _).setCell (Zv Qx) _).setCell (Zv Qx) _).setCell (Zv Qx) _) (by simp only[Z6];exact λe=>M.o.res.ne M.o.row.row Qz e.symm)⟩,Xs M.o.bel Qw⟩
def Z8J(r c:Int)(n cap C O:Nat)(a la:Qm)(w:Qs)(hl:n<=maxLen)(ae:C<=maxLen)(h:WV r c n=false∨C<1∨255<C):Calls prog 160 #[.agg #[r,c,.slice a n cap],.slice la C O] w λe w'=>∃ev,e=.returned (.tuple #[Bq,ev])/\Yz w w' ev 1/\Below w w w':=by
 have M:=ZI (ET w (.int .i64 r) (.int .i64 c) (.slice a n cap));have hx:WV r c n=false∨(WV r c n=true/\(C:Int)<1)∨(WV r c n=true/\¬ (C:Int)<1/\255<(C:Int)):=QA;rcases hx with hx|⟨hx,U⟩|⟨hx,U,af⟩
 all_goals
  have Z:=ZI hx;go_enter func160,ntmps160;go_wp2_with (first|(go_at_call 223;have F:=M.o;clear M;refine(J8 r c n a cap _ hl).mono ?_;rintro e w1 ⟨rfl,hb⟩;rw[Z.o];have S1:=ZI (F.after hb);clear F hb)|(go_at_call 224;have F:=S1.o;clear S1;refine(JN 1 Qw _).mono ?_;rintro e w2 ⟨ev,rfl,he,hb⟩;have hm:=F.after hb;obtain⟨z0,z1,z2⟩:=QN hm.res;obtain⟨f0,f1,f2⟩:=Jg hm.res;have J:=ZX hm he F.res.lt;clear F hb hm he));have hy:=Xc (a:=.int .i64 0) (b:=.int .i64 0) (c:=.slice none 0 0) J.1.res;obtain⟨y0,y1,y2⟩:=QN hy;exact ZD (v:=.tuple #[.agg #[(0:Int),(0:Int),()],ev]) (by simp[results,go_sem,y0,y1,y2]) rfl ⟨ev,rfl,(AW J.2 J.3).mono (by have:=J.3;omega),Xs J.1.bel Qw⟩
def MS(w:Qs)(r c:Nat)(A:Nat->Nat->BitVec 8)(L:List Int)(e:Qv)(w':Qs):Prop:=
 (((∃i,i<L.length/\¬ (0<=L.getD i 0/\L.getD i 0<r))/\∃ev,e=.returned (.tuple #[Bq,ev])/\Yz w w' ev 1)∨((∀i,i<L.length->0<=L.getD i 0/\L.getD i 0<r)/\∃g,e=.returned (.tuple #[Xj L.length c g,.nilIface])/\w.heap.size<=g/\Y1 w' g 5 (QX (mat L.length c (λi j=>A (L.getD i 0).toNat j)).cells)))/\Below w w w'
def Z4G(r c ga oa n cap lg lo az:Nat)(A:Nat->Nat->BitVec 8)(L:List Int)(w:Qs)(r1:1<=r)(r2:r<=255)(c1:1<=c)(c2:c<=255)(hn:n=r*c)(au:n<=cap)(ah:cap<=9223372036854775807)(l1:1<=L.length)(l2:L.length<=255)(ha:YH w ga oa r c A)(hL:∀j,j<L.length->w.cell? ⟨lg,lo+j,none⟩=(L.getD j 0:Int)):Calls prog 160 #[.agg #[(r:Int),(c:Int),.slice (some ⟨ga,oa,none⟩) n cap],.slice (some ⟨lg,lo,none⟩) L.length az] w λe w'=>MS w r c A L e w':=by
 have hm:=Dz r1 r2 c1 c2 hn;have q1:n<=255*255:=by rw[hn];exact ZdA r2 c2
 obtain⟨K,hK⟩:=ZL L.length;have ak:lg<w:=J7 (hL 0 Qw);have bf:ga<w:=J7 (ha 0 0 Qw Qw);rw[<-hK] at l1 l2 hL⊢;have i1:(1:Int)<=K:=Qw;have i2:(K:Int)<=255:=Qw;have i3:¬ (K:Int)<1:=Qw;obtain⟨F,aq⟩:=ZL (K*c);have q2:F<=255*255:=by rw[aq];exact ZdA l2 c2
 have S0:=ZI (ET w (.int .i64 r) (.int .i64 c) (.slice (some ⟨ga,oa,none⟩) n cap));have HX:=ZI hm;have HN:=ZI hn;have HK:=ZI hK;have ai:=ZI aq;have HA:=ZI ha;have HL:=ZI hL;obtain⟨P,hP⟩:∃P:Nat->Nat->BitVec 8,P=λi j=>A (L.getD i 0).toNat j:=⟨_,rfl⟩;have HP:=ZI hP;clear hm hn hK aq ha hL hP;go_enter func160,ntmps160;go_wp2_with (first|(go_at_call 223;have C:=S0.o;clear S0;refine(J8 r c n _ cap _ (by unfold maxLen;omega)).mono ?_;rintro e w1 ⟨rfl,hb⟩;rw[HX.o];have hm:=C.after hb;obtain⟨x0,x1,x2⟩:=QN hm.one;have S1:=ZI hm;clear C hb hm)|(go_at_call 225;have C:=S1.o;clear S1;refine(EF K c _ Qw Qw).mono ?_;rintro e w2 ⟨g,rfl,hg,U,hb⟩;unfold Xj;rw[<-ai.o] at U⊢;have bj:w<=g:=Zq C.bel.size hg;have hm:=C.after hb;have hz:=hm.bel.size;have S2:=ZM hm U;clear C hb hm hg U));have S3:Qi (AJ w w (w.heap.size+1) w2 g ga oa r c F A [.int .i64 r,.int .i64 c,.slice (some ⟨ga,oa,none⟩) n cap] [.int .i64 K,.int .i64 c,.slice g F F] (upF c P (0*c)) (w2.alloc (.cells #[(K:Int),(c:Int),.slice g F F] 250))):=by
  obtain⟨hm,U⟩:=S2.o;have bg:Below w2 w2 (w2.alloc (.cells #[(K:Int),(c:Int),.slice g F F] 250)):=(Zu _ _).alloc (Zt _) _;have Z:=hm.after bg;refine ZI ⟨Z.one,Z.res,Z2 _ _ _,?_,λi j hi hj=> ?_,Z.bel⟩
  .rw[Zf5,<-Mo];exact U.fr (Z1 (L:=[]) bg) Qx
  .exact(Z.bel.cell (p:=⟨ga,oa+i*c+j,none⟩) bf).trans (HA.o i j hi hj)
 clear S2 HA;go_loopw [31] (λi wr=>∃k:Nat,k<=K/\i=(k:Int)/\(∀i,i<k->0<=L.getD i 0/\L.getD i 0<r)/\AJ w w (w.heap.size+1) w2 g ga oa r c F A [.int .i64 r,.int .i64 c,.slice (some ⟨ga,oa,none⟩) n cap] [.int .i64 K,.int .i64 c,.slice g F F] (upF c P (k*c)) wr) (λi _=>K- (intOf i).toNat)
 .exact⟨0,Qw,rfl,λi h=>Qw,S3.o⟩
 clear S3;obtain⟨k,Z,rfl,ag,hs⟩:=hrel;have af:=ZI ag;clear ag;by_cases aw:k<K
 .have cl:World.cell? wr ⟨lg,lo+k,none⟩=some (.int .i64 (L.getD k 0)):=(hs.bel.cell (p:=⟨lg,lo+k,none⟩) ak).trans (HL.o k aw);obtain⟨x,hx⟩:=ZL (L.getD k 0);rw[<-hx] at cl;obtain⟨u0,u1,u2⟩:=QN hs.one;by_cases ae:0<=x/\x<r
  .obtain⟨y,rfl⟩:∃y:Nat,x=(y:Int):=⟨x.toNat,Qw⟩;have O:y<r:=Qw;obtain⟨x0,x1,x2⟩:=QN hs.box;have aj:=ZI hx;have J:=ZI hs;clear hs hx ae;go_wp2_with fail;go_region_held3 (λw'=>(w'.cell? ⟨w2,0,none⟩=(K:Int)/\w'.cell? ⟨w2.heap.size,1,none⟩=(c:Int)/\w'.cell? ⟨w2.heap.size,2,none⟩=some (.slice g F F))/\(w'.cell? ⟨w,0,none⟩=(r:Int)/\w'.cell? ⟨w.heap.size,1,none⟩=(c:Int)/\w'.cell? ⟨w.heap.size,2,none⟩=some (.slice (some ⟨ga,oa,none⟩) n cap))) (first|exact⟨by assumption,by assumption⟩|exact⟨⟨x0,x1,x2⟩,u0,u1,u2⟩)
    (first|(go_at_call 226;have C:=J.o;clear J;refine(Xk K c k g F F _ aw Qw Qw Qw ai.o (Zt _) Qw).mono ?_;rintro e w6 ⟨q,bm,ct,rfl,hb⟩;have hm:=(C.after (Zu _ _).drew).after hb;have bq:=QN hm.box;have bu:=QN hm.one;have M:=ZI hm;have HQ:=ZI bm;clear C hb hm bm)|(go_at_call 226;have C:=M.o;clear M;refine(I6 r c y ga oa n cap _ O Qw Qw Qw HN.o au ah).mono ?_;rintro e w7 ⟨rfl,hb⟩;have hm:=C.after hb;have bz:=QN hm.box;have cj:=QN hm.one;have S6:=ZI hm;clear C hb hm)|(refine Ij (by rfl) (.tmp 48) (.tmp 51) 75 75 (by rfl) 5 underlying75 AD g q c (F-q) ga (oa+y*c) c (cap-y*c) c F (by rfl) (by rfl) 5 (upF c P (k*c)) (P k) S6.o.row (Zgx c).symm Qw (λj hj=>by rw[S6.o.src y j O hj,HP.o];simp only[<-aj.o,Ze6]) ?_;intro w8 ay bh;rw[HQ.o,TE c P k c1] at ay;have C:=S6.o;clear S6;have hm:=C.lay ay bh bj bf;have cn:=QN hm.box;have cr:=QN hm.one;have S7:=ZI hm;clear C ay bh hm))
   go_wp2;go_roundw
   .refine⟨k+1,Qw,QC,λi hi=> ?_,S7.o⟩;by_cases e:i=k
    .rw[e,<-aj.o];omega
    .exact af.o i Qw
   simp[intOf];omega
  .have ZaZ:x<0∨(¬x<0/\(r:Int)<=x):=(by omega);have aj:=ZI hx;have HG:=ZI ae;have J:=ZI hs;clear hs hx ae;rcases ZaZ with h5|⟨h5,h6⟩
   all_goals
    go_wp2_with (go_at_call 224;have C:=J.o;clear J;refine(JN 1 Qw _).mono ?_;rintro e w6 ⟨ev,rfl,he,hb⟩;have hm:=C.after hb;obtain⟨z0,z1,z2⟩:=QN hm.res;obtain⟨f0,f1,f2⟩:=Jg hm.res;have M:=ZN hm he C.res.lt;clear C hb hm he);have O:=Xc (a:=.int .i64 0) (b:=.int .i64 0) (c:=.slice none 0 0) M.1.res;obtain⟨y0,y1,y2⟩:=QN O;exact ZD (v:=.tuple #[.agg #[(0:Int),(0:Int),()],ev]) (by simp[results,Tryz.results160,go_sem,y0,y1,y2]) rfl ⟨Zv ⟨⟨k,by rw[<-HK.o];exact aw,by rw[<-aj.o];exact HG.o⟩,ev,rfl,(AW M.2.1 M.2.2).mono (by have:=M.2.2;omega)⟩,Xs M.1.bel Qw⟩
 .obtain rfl:k=K:=by omega
  obtain⟨x0,x1,x2⟩:=QN hs.box;obtain⟨t0,t1,t2⟩:=QN hs.res;obtain⟨f0,f1,f2⟩:=Jg hs.res;have J:=ZI hs;clear hs;go_wp2;have O:=Xc (a:=.int .i64 k) (b:=.int .i64 c) (c:=.slice g F F) J.o.res;obtain⟨y0,y1,y2⟩:=QN O
  exact ZD (v:=.tuple #[.agg #[(k:Int),(c:Int),.slice g F F],.nilIface]) (by simp[results,Tryz.results160,go_sem,y0,y1,y2]) rfl ⟨Zy ⟨by rw[<-HK.o];exact af.o,g,by unfold Xj;rw[<-HK.o,<-ai.o],bj,by
   have C:=J.o.row;rw[ai.o,Mn,HP.o,HK.o] at C
   exact C.fr ((((Fr.refl [w.heap.size+1] wr).setCell (Zv Qx) _).setCell (Zv Qx) _).setCell (Zv Qx) _) (by simp only[Z6];exact λe=>J.o.res.ne J.o.row.row Qx e.symm)⟩,Xs J.o.bel Qw⟩
def Ex(r:Nat)(A B:Nat->Nat->BitVec 8)(i j:Nat):Qo:=if i<r then A i j else B (i-r) j
def Z7y(r s c:Nat)(A B:Nat->Nat->BitVec 8)(hc:1<=c):tab ((r+s)*c) (Xh (Xh (λ_=>0#8) 0 (r*c) (tb c A)) (r*c) (s*c) (tb c B))=(mat (r+s) c (Ex r A B)).cells:=by
 refine AZ λj F=> ?_;rw[ZfB] at F;unfold Xh tb Ex;by_cases h:j<r*c
 .rw[Zw Qw,Zx ⟨Qw,Qw⟩,Nat.sub_zero,Zx (DA h)]
 .rw[Zx ⟨Qw,Qw⟩];obtain⟨m,rfl⟩:∃m,j=r*c+m:=⟨j-r*c,Qw⟩;have C:0<c:=Qw;have e1:(r*c+m) / c=r+m / c:=by rw[ZdD,Nat.mul_add_div C]
  have e2:(r*c+m)%c=m%c:=Qx;grind
structure Gk(w0:Qs)(b0 b1 b2 bx g N:Nat)(LA LB LX:Qk)(f:Nat->BitVec 8)(w:Qs):Prop where
 m3:M3 w0 b0 b1 b2 LA LB w
 box:Row w bx 250 LX
 row:Y1 w g 5 (QX (tab N f))
def Gk.lay{w0 w w':Qs}{b0 b1 b2 bx g N:Nat}{LA LB LX:Qk}{f f':Nat->BitVec 8}(h:Gk w0 b0 b1 b2 bx g N LA LB LX f w)(U:Y1 w' g 5 (QX (tab N f')))(C:Fr [g] w w')(Z:w0<=g):Gk w0 b0 b1 b2 bx g N LA LB LX f' w':=by
 have F:b0∉[g]:=by simp;exact h.m3.one.ne h.row.row Qx
 have J:b1∉[g]:=by simp;exact h.m3.two.ne h.row.row Qx
 have M:b2∉[g]:=by simp;exact h.m3.res.ne h.row.row Qx
 have O:bx∉[g]:=by simp;exact h.box.ne h.row.row Qx
 exact⟨⟨h.m3.one.fr C F,h.m3.two.fr C J,h.m3.res.fr C M,h.m3.bel.trans (C.below h.m3.bel.size (λi hi=>by simp at hi;omega)),h.m3.le⟩,h.box.fr C O,U⟩
def Z7z(r s c ga oa gb ob F bn J M:Nat)(A B:Nat->Nat->BitVec 8)(w:Qs)(a1:1<=r)(c1:1<=c)(c2:c<=255)(b1:1<=s)(cj:r+s<=255)(U:F=r*c)(O:bn=s*c)(ha:YH w ga oa r c A)(hb:YH w gb ob s c B):Calls prog 222 #[.agg #[(r:Int),(c:Int),.slice (some ⟨ga,oa,none⟩) F J],.agg #[(s:Int),(c:Int),.slice (some ⟨gb,ob,none⟩) bn M]] w λe w'=>∃g,e=.returned (.tuple #[Xj (r+s) c g,.nilIface])/\w.heap.size<=g/\Y1 w' g 5 (QX (mat (r+s) c (Ex r A B)).cells)/\Below w w w':=by
 have q1:F<=255*255:=by rw[U];exact ZdA Qw c2
 have q2:bn<=255*255:=by rw[O];exact ZdA Qw c2
 have q3:0<bn:=by rw[O];exact Nat.mul_pos Qw Qw
 obtain⟨R,hR⟩:=ZL (r+s);obtain⟨h,ag⟩:=ZL (R*c);have af:h=F+bn:=by rw[ag,hR,ZfB,<-U,<-O]
 have bj:ga<w:=J7 (ha 0 0 Qw Qw);have bm:gb<w:=J7 (hb 0 0 Qw Qw);have S0:=ZI (L7 w (.int .i64 r) (.int .i64 c) (.slice (some ⟨ga,oa,none⟩) F J) (.int .i64 s) (.int .i64 c) (.slice (some ⟨gb,ob,none⟩) bn M));have HX:=ZI (Dz a1 Qw c1 c2 U);have bh:=ZI (Dz b1 Qw c1 c2 O);have i0:(r:Int)+(s:Int)<=255:=Qw;have e0:(r:Int)+(s:Int)=(R:Int):=by rw[hR];omega
 have i1:(R:Int)<=255:=Qw;unfold Xj;rw[<-hR];rw[<-ag];have aw:h-F=bn:=Qw;have HD:=ZI aw;have j1:F<h:=Qw;have j3:F<=h:=Qw;have j4:¬h=F:=Qw;have j2:h<=255*255+255*255:=Qw;have HR:=ZI hR;have au:=ZI ag;have ah:=ZI af;have ak:=ZI U;have aq:=ZI O;have HA:=ZI ha;have HB:=ZI hb;clear hR ag af U O ha hb aw;go_enter func222,ntmps222;go_wp2_with (first|(go_at_call 223;have C:=S0.o;clear S0;refine(J8 _ _ F _ J _ (by unfold maxLen;omega)).mono ?_;rintro e w1 ⟨rfl,hb⟩;rw[HX.o];have hm:=C.after hb;obtain⟨x0,x1,x2⟩:=QN hm.two;have S1:=ZI hm;clear C hb hm)|(go_at_call 223;have C:=S1.o;clear S1;refine(J8 _ _ bn _ M _ (by unfold maxLen;omega)).mono ?_;rintro e w1 ⟨rfl,hb⟩;rw[bh.o];have hm:=C.after hb;obtain⟨u0,u1,u2⟩:=QN hm.one;obtain⟨t0,t1,t2⟩:=QN hm.two;have S2:=ZI hm;clear C hb hm)|(go_at_call 225;have C:=S2.o;clear S2;refine(EF R c _ Qw Qw).mono ?_;rintro e w3 ⟨g,rfl,hg,ae,hb⟩;unfold Xj;rw[<-au.o] at ae⊢;have aj:w.heap.size<=g:=Zq C.bel.size hg;have ai:Below w3 w3 (w3.alloc (.cells #[(R:Int),(c:Int),.slice (g:Nat) h h] 250)):=(Zu _ _).alloc (Zt _) _;have hm:=(C.after hb).after ai;obtain⟨v0,v1,v2⟩:=QN hm.one;have S3:Qi (Gk w w (w.heap.size+1) (w.heap.size+1+1) w3 g h [.int .i64 r,.int .i64 c,.slice (some ⟨ga,oa,none⟩) F J] [.int .i64 s,.int .i64 c,.slice (some ⟨gb,ob,none⟩) bn M] [.int .i64 R,.int .i64 c,.slice (g:Nat) h h] (λ_=>0#8) _):=ZI ⟨hm,Z2 w3 _ [.int .i64 R,.int .i64 c,.slice (g:Nat) h h],ae.fr (Z1 (L:=[]) ai) Qx⟩;clear C hb hm hg ae ai)|(have C:=S3.o;clear S3;refine Z8g rfl (.tmp 41) (.tmp 43) 75 75 rfl 5 underlying75 AD g 0 h h ga oa F J F h rfl rfl 5 (λ_=>0#8) (tb c A) C.row (Zej Qw).symm Qw (λj hj=>(C.m3.bel.cell (p:=⟨ga,oa+j,none⟩) bj).trans (HA.o.flat c1 j (by rw[<-ak.o];exact hj))) ?_;intro w4 bf ay;have hm:=C.lay bf ay aj;obtain⟨p0,p1,p2⟩:=QN hm.box;obtain⟨n0,n1,n2⟩:=QN hm.m3.one;obtain⟨o0,o1,o2⟩:=QN hm.m3.two;have S4:=ZI hm;clear C bf ay hm));go_region_held3 (λw'=>w'.cell? ⟨w3.heap.size,2,none⟩=some (.slice (g:Nat) h h)/\w'.cell? ⟨w.heap.size,2,none⟩=some (.slice (some ⟨ga,oa,none⟩) F J)/\w'.cell? ⟨w.heap.size+1,2,none⟩=some (.slice (some ⟨gb,ob,none⟩) bn M)) (first|exact⟨p2,n2,o2⟩|exact⟨bq.2.2,bu.2.2,bz.2.2⟩)
  (first|(refine Ij (by rfl) (.tmp 50) (.tmp 52) 75 75 (by rfl) 5 underlying75 AD g F (h-F) (h-F) gb ob bn M bn h (by rfl) (by rfl) 5 (Xh (λ_=>0#8) 0 F (tb c A)) (tb c B) (S4.o.row.fr ((Fr.refl [] _).drew) Qx) (by rw[HD.o];exact(Zgx bn).symm) (by have:=ah.o;omega) (λj hj=>(S4.o.m3.bel.cell (p:=⟨gb,ob+j,none⟩) bm).trans (HB.o.flat c1 j (by rw[<-aq.o];exact hj))) ?_;intro w5 bg az;have C:=S4.o;clear S4;have hm:=C.lay bg (((Fr.refl [g] w4).drew).trans az (λi hi _=>hi)) aj;have bq:=QN hm.box;have bu:=QN hm.m3.one;have bz:=QN hm.m3.two;obtain⟨e3,e4,e5⟩:=QN hm.m3.res;obtain⟨f0,f1,f2⟩:=Jg hm.m3.res;have Z:=ZI hm;clear C bg az hm))
 go_wp2;have hy:=Xc (a:=.int .i64 R) (b:=.int .i64 c) (c:=.slice (g:Nat) h h) Z.o.m3.res;obtain⟨y0,y1,y2⟩:=QN hy
 exact ZD (v:=.tuple #[.agg #[(R:Int),(c:Int),.slice (g:Nat) h h],.nilIface]) (by simp[results,Tryz.results222,go_sem,y0,y1,y2]) rfl ⟨g,rfl,aj,by
  have C:=Z.o.row;rw[au.o,HR.o,ak.o,aq.o,Z7y r s c A B c1,<-HR.o] at C
  exact C.fr ((((Fr.refl [w.heap.size+1+1] w5).setCell (Zv Qx) _).setCell (Zv Qx) _).setCell (Zv Qx) _) (by simp only[Z6];exact λe=>Z.o.m3.res.ne Z.o.row.row Qz e.symm),Xs Z.o.m3.bel Qw⟩
end
section
open Go.RowKit
variable{v:Value}{w:World}{xs:List Value}
def Jz(x:Nat->BitVec 8)(Z9Z:List Qq)(len:Nat):Nat->List UInt8
 |0=>List.replicate len 0
 |k+1=>scl (x k) (Jz x Z9Z len k) (Z9Z.getD k ⟨#[]⟩).data.toList
def XD(x:Nat->BitVec 8)(Z9Z:List Qq)(len k:Nat):Qq:=⟨(Jz x Z9Z len k).toArray⟩
def Sa(x:Nat->BitVec 8)(Z9Z:List Qq)(len:Nat)(h:∀i,i<Z9Z.length->(Z9Z.getD i ⟨#[]⟩).size=len)(k:Nat)(J:k<=Z9Z.length):(Jz x Z9Z len k).length=len:=by
 induction k with
 |zero=>simp[Jz]
 |succ k ih=>have C:=ih Qw;have F:=h k Qw;rw[Jz,LO _ _ _ QB,C]
def I5(x:Nat->BitVec 8)(Z9Z:List Qq)(len:Nat)(h:∀i,i<Z9Z.length->(Z9Z.getD i ⟨#[]⟩).size=len)(k:Nat)(C:k<=Z9Z.length):(XD x Z9Z len k).size=len:=by show(Jz x Z9Z len k).toArray.size=len;rw[Ze1,Sa x Z9Z len h k C]
def AL(A:Nat->Nat->BitVec 8)(Z9Z:List Qq)(len c r:Nat):Qk:=(List.range r).map λi=>.string (XD (A i) Z9Z len c)
def Up(A:Nat->Nat->BitVec 8)(Z9Z:List Qq)(len c k:Nat):AL A Z9Z len c (k+1)=AL A Z9Z len c k++[.string (XD (A k) Z9Z len c)]:=by unfold AL;rw[Zds,Zo];rfl
def C8:(prog.info? 9).map (λi=>(i.zero,i.size,i.bytes))=some (some (.string ⟨#[]⟩),1,16):=Qy
def Aw{base:Nat}{e:Qu}{n:Nat}{s:Nat}(h:w.ownsRow base e s v n xs){g:Nat}(C:v.ownBlock=some g):base<=g:=by
 rcases h.2 with ⟨hv,_⟩|⟨F,cap,cur,hv,hb,_⟩
 .rw[hv] at C;cases C
 .rw[hv] at C;simp[Value.ownBlock] at C;omega
def Z4m{wr h:Qs}{i:Nat}{o:Obj}{b:Nat}{T:Qu}{L:Qk}(F:wr.ownsRow w 9 1 v i xs)(J:Row wr b T L)(M:Below w w wr)(O:(wr.alloc o).grownBy h v.ownBlock)(U:T≠9):Row h b T L/\Below w w h:=by
 have Z:Fr [] wr (wr.alloc o):=(Fr.refl _ _).alloc _;have C:Fr (match v.ownBlock with|some g=>[g]|none=>[]) wr h:=(Z.mono (λi hi _=>by simp at hi)).grown O (λg O=>Zv QB);refine⟨J.fr C (λhm=> ?_),M.trans (C.below M.size (λg hm=> ?_))⟩
 .cases hv:v.ownBlock with
  |none=>rw[hv] at hm;simp at hm
  |some g=>exact Row.ZaV J F U QB
 .cases hv:v.ownBlock with
  |none=>rw[hv] at hm;simp at hm
  |some g'=>rw[hv] at hm;simp at hm;rw[hm];exact Aw F hv
def TX(w:Qs)(r c:Nat)(A:Nat->Nat->BitVec 8)(Z9Z:List Qq)(e:Qv)(w':Qs):Prop:=
 (((∃i,i<Z9Z.length/\(Z9Z.getD i ⟨#[]⟩).size≠(Z9Z.getD 0 ⟨#[]⟩).size)/\∃ev,e=.returned (.tuple #[(),ev])/\Yz w w' ev 19)∨((∀i,i<Z9Z.length->(Z9Z.getD i ⟨#[]⟩).size=(Z9Z.getD 0 ⟨#[]⟩).size)/\∃v,e=.returned (.tuple #[v,.nilIface])/\w'.ownsRow w 9 1 v r (AL A Z9Z (Z9Z.getD 0 ⟨#[]⟩).size c r)))/\Below w w w'
def Gp(r c ga oa n cap lg lo cy:Nat)(A:Nat->Nat->BitVec 8)(Z9Z:List Qq)(w:Qs)(r1:1<=r)(r2:r<=255)(c1:1<=c)(c2:c<=255)(hn:n=r*c)(cn:n<=cap)(bf:cap<=9223372036854775807)(hlen:Z9Z.length=c)(cu:∀i,i<Z9Z.length->(Z9Z.getD i ⟨#[]⟩).size<=100000)(ha:YH w ga oa r c A)(hL:∀j,j<Z9Z.length->w.cell? ⟨lg,lo+j,none⟩=some (.string (Z9Z.getD j ⟨#[]⟩))):Calls prog 162 #[.agg #[(r:Int),(c:Int),.slice (some ⟨ga,oa,none⟩) n cap],.slice (some ⟨lg,lo,none⟩) c cy] w λe w'=>TX w r c A Z9Z e w':=by
 have hm:=Dz r1 r2 c1 c2 hn;have q1:n<=255*255:=by rw[hn];exact ZdA r2 c2
 have af:lg<w:=J7 (hL 0 Qw);have eh:ga<w:=J7 (ha 0 0 Qw Qw);have dm:Below w w (w.alloc (.cells #[(r:Int),(c:Int),.slice (some ⟨ga,oa,none⟩) n cap] 250)):=(Zu _ _).alloc (Zt _) _;have S0:=ZM (Z2 w 250 [.int .i64 r,.int .i64 c,.slice (some ⟨ga,oa,none⟩) n cap]) dm;obtain⟨t0,cw⟩:=ZL (Z9Z.getD 0 ⟨#[]⟩);have HX:=ZI hm;have HN:=ZI hn;have HA:=ZI ha;have HL:=ZI hL;have J:=ZI hlen;have aw:=ZI cw;have ef:=ZI cu;have i1:(c:Int)<=255:=Qw;have bu:t0.size<=100000:=by rw[cw];exact cu 0 Qw
 clear hm hn ha hL hlen cw dm cu;go_enter func162,ntmps162;go_wp2_with (go_at_call 223;have C:=S0.o;clear S0;refine(J8 r c n _ cap _ (by unfold maxLen;omega)).mono ?_;rintro e w1 ⟨rfl,hb⟩;rw[HX.o];obtain⟨x0,x1,x2⟩:=QN (C.1.after hb);have S1:=ZM (C.1.after hb) (C.2.trans (hb.mono Qx));clear C hb);go_loop [25] (λi=>∃k:Nat,k<=c/\i=(k:Int)/\∀i,i<k->(Z9Z.getD i ⟨#[]⟩).size=t0.size) (λi=>c- (intOf i).toNat)
 .exact⟨0,Qw,rfl,λi h=>Qw⟩
 obtain⟨k,hk,rfl,ay⟩:=hrel;have ai:=ZI ay;clear ay;have bz:World.cell? w1 ⟨lg,lo,none⟩=some (.string t0):=(S1.2.cell (p:=⟨lg,lo,none⟩) af).trans (by have:=HL.o 0 (by rw[J.o];omega);rw[ZeE] at this;rw[this,aw.o]);by_cases cr:k<c
 .obtain⟨t,U⟩:=ZL (Z9Z.getD k ⟨#[]⟩);have cl:World.cell? w1 ⟨lg,lo+k,none⟩=some (.string t):=(S1.2.cell (p:=⟨lg,lo+k,none⟩) af).trans (by rw[HL.o k (by rw[J.o];exact cr),U]);have ez:t.size<=100000:=by rw[U];exact ef.o k (by rw[J.o];exact cr)
  have df:=ZI U;clear U;by_cases hs:t.size=t0.size
  .have hb:((t.size:Int) !=(t0.size:Int))=false:=(by simp[hs]);have HS:=ZI hs;clear hs;go_wp2;go_round
   .refine⟨k+1,Qw,QC,λi hi=> ?_⟩;by_cases e:i=k
    .rw[e,<-df.o];exact HS.o
    .exact ai.o i Qw
   simp[intOf];omega
  .have hb:((t.size:Int) !=(t0.size:Int))=true:=by simp;omega
   have HS:=ZI hs;clear hs;go_wp2_with (go_at_call 224;have C:=S1.o;clear S1;refine(JN 19 Qw _).mono ?_;rintro e w2 ⟨ev,rfl,he,hb⟩;have S2:=ZM (C.2.trans (hb.mono C.2.size)) (he.mono C.2.size);clear C hb he);go_ret2;exact⟨Zv ⟨⟨k,by rw[J.o];exact cr,by rw[<-df.o,<-aw.o];exact HS.o⟩,ev,rfl,S2.2⟩,S2.1⟩
 .obtain rfl:k=c:=by omega
  obtain⟨i0,dp,dq,dt,du⟩:=ZE B1;obtain⟨j0,ek,eo,er,eu⟩:=ZE C8;obtain⟨len,hlen⟩:=ZL t0.size;rw[<-hlen] at bu;have aq:=λW=>Eo (P:=prog) 75 5 i0 underlying75 dp dq dt du len Qw W;obtain⟨Z,hZ⟩:∃Z:Ql,Z=List.replicate len 0:=⟨_,rfl⟩;have dj:Z.length=len:=by rw[hZ];simp
  rw[<-hZ] at aq;have ag:∀i,i<Z9Z.length->(Z9Z.getD i ⟨#[]⟩).size=len:=λi hi=>by rw[hlen];exact ai.o i (by rw[<-J.o];exact hi)
  have ae:=ZI ag;have HZ:=ZI hZ;have dh:=ZI dj;have au:=ZI hlen;have dx:=ZI aq;have ew:len<=100000:=bu;clear dp dq dt du ag hZ dj hlen ai aq;have S2:=ZN S1.1 S1.2 (ZA (w:=w1) (base:=w.heap.size) (e:=9) (size:=1));go_wp2;obtain⟨wo,rfl⟩:∃wo:Qs,wo=w1:=⟨_,rfl⟩;go_loopw [8,40] (λout ii wr=>∃ (i:Nat),i<=r/\ii=(i:Int)/\wr.ownsRow w 9 1 out i (AL A Z9Z len k i)/\Row wr w 250 [(r:Int),(k:Int),.slice (some ⟨ga,oa,none⟩) n cap]/\Below w w wr) (λ_ ii _=>r- (intOf ii).toNat)
  .exact⟨0,Qw,rfl,S2.2.2,S2.1,S2.2.1⟩
  clear S2 S1 bz x0 x1 x2;obtain⟨i,hi,rfl,M,O,F⟩:=hrel;by_cases bj:i<r
  .have ey:=F.size;obtain⟨x0,x1,x2⟩:=QN (O.alloc (.cells (QJ Z).toArray 5));have bz:World.cell? wr ⟨lg,lo,none⟩=some (.string t0):=(F.cell (p:=⟨lg,lo,none⟩) af).trans (by have:=HL.o 0 (by rw[J.o];omega);rw[ZeE] at this;rw[this,aw.o]);have aq:=dx.o wr;rw[au.o] at aq;have hz:=Z95 wr 5 (QJ Z);have bg:=BA (P:=prog) _ 75 9 5 underlying75 underlying5 underlying9 hz.row 0 t0.size t0.size Z (dh.o.trans au.o) (by rw[Ze3];exact Zi (by rw[W7,dh.o,au.o];exact Zt _));have S3:=ZN (Xr M ((Fr.refl [] wr).alloc (.cells (QJ Z).toArray 5)) Qx) (O.alloc (.cells (QJ Z).toArray 5)) (F.alloc Qw (.cells (QJ Z).toArray 5));clear M O F hz;go_wp2_with (go_at_call 226;have C:=S3.o;clear S3;refine(I6 r k i ga oa n cap _ bj Qw Qw Qw HN.o cn bf).mono ?_;rintro e w5 ⟨rfl,hb⟩;have S4:=ZX (Xr C.1 (Z1 (L:=[]) hb) Qx) (C.2.1.after hb) (C.2.2.trans (hb.mono C.2.2.size));clear C hb aq bg bz x0 x1 x2);obtain⟨qa,ct⟩:=ZL (oa+i*k);rw[<-ct];have dz:=ZI ct;clear ct;go_loopw [10,53] (λss jj wr=>∃ (j:Nat),j<=k/\jj=(j:Int)/\ss=.string (XD (A i) Z9Z len j)/\Below w5 w5 wr) (λ_ jj _=>k- (intOf jj).toNat)
   .exact⟨0,Qw,rfl,by rw[HZ.o];rfl,Zu _ _⟩
   obtain⟨j,hj,rfl,rfl,az⟩:=hrel;have M:=Xr S4.1 (Z1 (L:=[]) az) Qx;have O:=S4.2.after az;have F:=S4.3.trans (az.mono S4.3.size);have cz:=ZI az;clear az;by_cases aj:j<k
   .obtain⟨t,U⟩:=ZL (Z9Z.getD j ⟨#[]⟩);have cl:World.cell? wr ⟨lg,lo+j,none⟩=some (.string t):=(F.cell (p:=⟨lg,lo+j,none⟩) af).trans (by rw[HL.o j (by rw[J.o];exact aj),U]);have ca:World.cell? wr ⟨ga,qa+j,none⟩=some (.int .u8 (nv (A i j))):=by rw[dz.o];exact(F.cell (p:=⟨ga,oa+i*k+j,none⟩) eh).trans (HA.o i j bj aj)
    have ak:=I5 (A i) Z9Z len ae.o j (by rw[J.o];omega);have bq:t.size=len:=by rw[U];exact ae.o j (by rw[J.o];exact aj)
    obtain⟨u,hu⟩:=ZL (XD (A i) Z9Z len j);rw[<-hu] at ak⊢;have de:=ZI ak;have ee:=ZI bq;have HU:=ZI hu;have HT:=ZI U;have S5:=ZN M O F;clear M O F ak bq hu U;go_wp2_with (go_at_call 228;have C:=S5.o;clear S5;refine(Z69 u t (nv (A i j)) _ (by rw[de.o,ee.o]) (by rw[de.o];omega) (AR _) (AQ _)).mono ?_;rw[Xo];rintro e w6 ⟨rfl,hb⟩;have S6:=ZI (cz.o.trans (hb.mono cz.o.size));clear C hb);go_roundw
    .refine⟨j+1,Qw,QC,?_,S6.o⟩;rw[HU.o,HT.o];rfl
    simp[intOf];omega
   .obtain rfl:j=k:=(by omega);obtain⟨u,hu⟩:=ZL (XD (A i) Z9Z len j);rw[<-hu];have HU:=ZI hu;have cj:=F.size;have S5:=ZN M O F;clear M O F hu;go_wp2_with (at_builtin;refine ZdO _ rfl (.tmp 69) (.tmp 71) 96 rfl w.heap.size 9 j0 _ 1 16 underlying96 ek eo er eu rfl Qw _ i (AL A Z9Z len j i) rfl (S5.1.alloc _) ⟨wr,0,none⟩ 1 1 [.string u] rfl rfl (Zdy (cs:= #[.string u]) (t:=9) (fr:=(0,0)) (ZB wr _)) (by simp[Value.oneCell']) (by unfold maxLen;omega) Qw (Zq cj Qx) ?_;intro v' w7 ah bh bm;clear bm;have dy:=ZI ah;have dw:=ZI bh;clear ah bh);go_roundw
    .obtain⟨h1,h2,h3⟩:=S5.o;obtain⟨k1,k2⟩:=Z4m h1 h2 h3 dw.o Qz;exact⟨i+1,Qw,QC,by rw[Up,<-HU.o];exact dy.o,k1,k2⟩
    simp[intOf];omega
  .obtain rfl:i=r:=(by omega);have S3:=ZM M F;clear M O F;go_wp2;go_ret2;exact⟨Zy ⟨λi hi=>by rw[<-aw.o,<-au.o];exact ae.o i hi,_,rfl,by rw[<-aw.o,<-au.o];exact S3.1⟩,S3.2⟩
end
section
open Go.RowKit
open Go.RowKit
section
variable{w0 w w':Qs}{g N:Nat}{LX sp:Qk}{f f':Nat->BitVec 8}
end
def Xa{w:Qs}{base:Nat}{e:Qu}{v:Qt}{n:Nat}{xs:Qk}(h:w.ownsRow base e 1 v n xs)(U:0<n):∃g cap sp,v=.slice (g:Nat) n cap/\base<=g/\n<=cap/\cap<=maxLen/\Row w g e (xs++sp):=by
 rcases h.2 with ⟨_,O⟩|⟨g,cap,cur,hv,hb,hh,C,F,M,J⟩
 .omega
 .refine⟨g,cap,cur.toList.drop (n*1),hv,hb,C,F,Row.mk ?_⟩;rw[<-J,Zde];simpa using hh
end
section
open Go.RowKit
variable{a:Option Addr}{base c n size:Nat}{e:TypeId}{w:World}{xs:List Value}
section
variable{P:Program}
end
def Rt(h:w.ownsRow base e size (.slice a n c) n xs){j:Nat}{u:Qt}(C:xs[j]? =some u):∃g,a=some ⟨g,0,none⟩/\base<=g/\w.cell? ⟨g,j,none⟩=some u:=by
 rcases h.2 with ⟨_,F⟩|⟨g,cap,cur,hv,hb,_⟩
 .have:=h.1;rw[F,Zf5] at this;have:=(Zem.1 C).1;omega
 .simp only[Zee,Zgb] at hv;obtain⟨rfl,rfl⟩:=hv;exact⟨g,rfl,hb,BX h rfl C⟩
def Ru(h:w.ownsRow base e size (.slice a n c) n xs):n<=c/\c<=maxLen/\(a=none->n=0/\c=0):=by
 rcases h.2 with ⟨hv,J⟩|⟨g,cap,cur,hv,hb,_,C,F,_⟩
 .simp only[Zee] at hv;obtain⟨rfl,rfl,rfl⟩:=hv;exact⟨Zt _,Zet _,λ_=>⟨rfl,rfl⟩⟩
 .simp only[Zee,Zgb] at hv;obtain⟨rfl,rfl⟩:=hv;exact⟨C,F,λh=>by cases h⟩
end
section
open Go.RowKit
variable{a:Option Addr}{ss:List ByteArray}{w:World}
def Yd(w:Qs)(a:Qm)(ss:List Qq):Prop:=∀j (h:j<ss.length),∃g o,a=some ⟨g,o,none⟩/\w.cell? ⟨g,o+j,none⟩=some (.string ss[j])
def Yd.after{w':Qs}(h:Yd w a ss)(hb:Below w w w'):Yd w' a ss:=λj C=>by obtain⟨g,o,ha,hc⟩:=h j C;exact⟨g,o,ha,(hb.cell (p:=⟨g,o+j,none⟩) (J7 hc)).trans hc⟩
def Yd.open(h:Yd w a ss)(J:0<ss.length):∃g o,a=some ⟨g,o,none⟩/\g<w.heap.size/\∀j,j<ss.length->w.cell? ⟨g,o+j,none⟩=some (.string (ss.getD j ⟨#[]⟩)):=by obtain⟨g,o,ha,hc⟩:=h 0 J;refine⟨g,o,ha,J7 hc,λj F=> ?_⟩;obtain⟨M,o',C,hc'⟩:=h j F;rw[ha] at C;simp only[Zd9,Zgu] at C;rw[C.1,C.2.1,hc',Z7,Z8 F,ZdE]
def QR(ss:List Qq):Qk:=ss.map .string
def Sn(ss:List Qq)(j:Nat)(h:j<ss.length):(QR ss)[j]? =some (.string ss[j]):=by simp[QR,h]
def So(ss:List Qq):(QR ss).length=ss.length:=by simp[QR]
def Yd.own{base n c:Nat}{e:Qu}(h:w.ownsRow base e 1 (.slice a n c) n (QR ss)):Yd w a ss:=λj C=>by obtain⟨g,ha,_,hc⟩:=Rt h (Sn ss j C);exact⟨g,0,ha,by rw[Zdz];exact hc⟩
end
section
open Go.RowKit
def Yr(ss:List Qq):List Ql:=ss.map λs=>s.data.toList
def CV(ss:List Qq):(Yr ss).length=ss.length:=by simp[Yr]
def Z0n(ss:List Qq)(k:Nat):Yr (ss.take k)=(Yr ss).take k:=by simp[Yr,Zfa]
def Z0m(ss:List Qq)(s:Qq):Yr (ss++[s])=Yr ss++[s.data.toList]:=by simp[Yr]
def GE(ss:List Qq)(k:Nat)(h:k<ss.length):Yr (ss.take (k+1))=Yr (ss.take k)++[(ss.getD k ⟨#[]⟩).data.toList]:=by rw[Zc h,Z0m,Z7,Z8 h];rfl
def KU(l:Ql):Yx [l]=4+l.length:=by rfl
def Pz(l:Ql):Xz [l]=QI l.length++l:=by simp[Xz]
def Li(n:Nat)(h:n<=4294967295)(w:Qs):Calls prog 125 #[(n:Int)] w λe w'=>e=.returned (.tuple #[.string (s32 n),.nilIface])/\Below w w w':=by go_enter func125,ntmps125;go_wp2_with (go_at_call 181;refine(Cc n Qw _).mono ?_;rintro e w' ⟨rfl,hb⟩);go_ret2;simp_all
def Z3d(g o c:Nat)(ss:List Qq)(w:Qs)(hR:Yd w (some ⟨g,o,none⟩) ss)(af:4+Yx (Yr ss)<=60000):Calls prog 126 #[.slice (some ⟨g,o,none⟩) ss.length c] w λe w'=>e=.returned (.tuple #[.string ⟨(Y8 (Yr ss)).toArray⟩,.nilIface])/\Below w w w':=by
 have ae:∀j,j<ss.length->w.cell? ⟨g,o+j,none⟩=some (.string (ss.getD j ⟨#[]⟩)):=λj O=>by obtain⟨g',o',ha,hc⟩:=hR j O;simp_all
 have Z:∀j,j<ss.length->g<w:=λj O=>by
  have:=ae j O;rcases Zeb g w with h|h
  .omega
  .simp[World.cell?,Zec h] at this
 have bj:4*ss.length<=60000:=by have:=Ec (Yr ss);rw[CV] at this;omega
 have hle:∀j,j<ss.length->4+Yx (Yr (ss.take j))+4+(ss.getD j ⟨#[]⟩).size<=60000:=λj O=>by have h1:=Py (Yr ss) (j+1);rw[<-Z0n,GE ss j O,Hg,KU] at h1;simp at h1;grind
 have HC:=ZI ae;have HG:=ZI Z;have HL:=ZI hle;have HZ:=ZI af;clear ae Z hle hR af;go_enter func126,ntmps126;go_wp2;go_loop [4,6,12] (λz s i=>∃k:Nat,k<=ss.length/\i=(k:Int)/\z=((4+Yx (Yr (ss.take k)):Nat):Int)) (λ_ _ i=>ss.length- (intOf i).toNat)
 .exact⟨0,Qw,rfl,rfl⟩
 obtain⟨k,hk,rfl,rfl⟩:=hrel;by_cases C:k<ss.length
 .have hc:=HC.o k C;have hl:=HL.o k C;have hs:=GE ss k C;obtain⟨t,F⟩:=ZK (ss.getD k ⟨#[]⟩);obtain⟨z,hz⟩:=ZK (4+Yx (Yr (ss.take k)));rw[F] at hc hl hs;rw[hz] at hl⊢;have HS:=ZI hs;clear hs;have HT:=ZI F;clear F;have ay:=ZI hz;clear hz;go_wp2;go_round
  .exact⟨k+1,Qw,QC,B4 (by rw[HS.o,Hg,KU];have:=ay.o;simp;omega)⟩
  simp[intOf];omega
 .obtain rfl:k=ss.length:=by omega
  have ak:=Z9e w;have ag:=ZI ak;clear ak;have bz:4*ss.length<=60000:=bj;go_wp2_with (first|(go_at_call 181;refine(Cc ss.length Qw _).mono ?_;rintro e w1 ⟨rfl,U⟩;have ai:=ag.o.after U)|(go_at_call 164;refine(EZ w _ [] (s32 ss.length) _ ai (by rw[J9];simp) (by have:=U.size;simp at this;omega)).mono ?_;rintro e w2 ⟨rfl,aj,aq⟩));have aw:Below w w w2:=(((Zu _ w).alloc (Zt _) _).trans (U.mono Qx)).trans aq;have ah:=ZM aj aw;clear ai aj U aq aw ag;go_loopw [9,31] (λs i wr=>∃k:Nat,k<=ss.length/\i=(k:Int)/\Bld wr w w (QI ss.length++Xz (Yr (ss.take k)))/\Below w w wr) (λ_ i _=>ss.length- (intOf i).toNat)
  .exact⟨0,Qw,rfl,ah.1,ah.2⟩
  obtain⟨k,hk,rfl,hB,hw⟩:=hrel;have af:=hw.size;by_cases C:k<ss.length
  .have Z:=HG.o k C;have hc:=(hw.cell (p:=⟨g,o+k,none⟩) Z).trans (HC.o k C);have hl:=HL.o k C;have hs:=GE ss k C;obtain⟨t,F⟩:=ZK (ss.getD k ⟨#[]⟩);obtain⟨q,hq⟩:=ZK (QI ss.length++Xz (Yr (ss.take k)));have bm:q.length+4+t.size<=60004:=by rw[<-hq,<-F];simp only[Zb,Wj,Hh];omega
   rw[F] at hc hl hs;rw[hq] at hB;have HS:=ZI hs;clear hs;have HT:=ZI F;clear F;have HQ:=ZI hq;clear hq;have J:=ZM hB hw;clear hB hw;have tz:t.size<=60000:=Qw;go_wp2_with (first|(go_at_call 181;refine(Cc t.size Qw _).mono ?_;rintro e w3 ⟨rfl,M⟩;have az:=J.1.after M;have bq:=M.size;have T3:=ZI True.intro)|(go_at_call 164;have t3:=T3.o;clear T3;refine(EZ w _ q (s32 t.size) _ az (by rw[J9];omega) Qw).mono ?_;rintro e w4 ⟨rfl,bf,au⟩;have bu:=au.size;have T4:=ZI True.intro)|(go_at_call 164;have t4:=T4.o;clear T4;refine(EZ w _ (q++(s32 t.size).data.toList) t _ bf (by simp[I8,Wj];omega) Qw).mono ?_;rintro e w5 ⟨rfl,bg,bh⟩));go_roundw
   .refine⟨k+1,Qw,QC,?_,?_⟩
    .rw[HS.o,KV,Pz,<-Zd,HQ.o];simpa[I8] using bg
    .exact((J.2.trans (M.mono Qw)).trans au).trans bh
   simp[intOf];omega
  .obtain rfl:k=ss.length:=(by omega);rw[Zs] at hB;have J:=ZM hB hw;clear hB hw;go_wp2_with (go_at_call 165;refine(IZ w _ _ _ J.1 af).mono ?_;rintro e w3 ⟨rfl,M⟩);go_ret2;exact⟨by rw[Y8,CV];rfl,J.2.trans M⟩
end
section
open Go.RowKit
variable{s:ByteArray}
def YA(s:Qq)(p:Nat):Qo:=(s.data.toList.getD p 0).toBitVec
def VD(s:Qq)(p:Nat)(h:p<s.data.toList.length):s.data.toList[p].toBitVec=YA s p:=by unfold YA;rw[Z7,Z8 h,ZdE]
def VH{t:Qq}(h:s.size=t.size)(hb:∀p,p<s.size->YA s p=YA t p):s=t:=by
 have hs:s.data.toList.length=s.size:=Qx;have J:t.data.toList.length=t.size:=Qx;have:s.data.toList=t.data.toList:=by apply ZdX Qw;intro i F C;have:=hb i Qw;unfold YA at this;rw[Z7,Z7,Z8 F,Z8 C,ZdE,ZdE] at this;exact UInt8.toBitVec_inj.1 this
 have C:s.data=t.data:=Zft.1 this;cases s;cases t;simp_all
def Z5z(x:Nat->BitVec 8)(Z9Z:List Qq)(len:Nat)(h:∀i,i<Z9Z.length->(Z9Z.getD i ⟨#[]⟩).size=len)(k:Nat)(U:k<=Z9Z.length):Jz x Z9Z len k=(List.range len).map λp=>UInt8.ofBitVec (sm k λj=>gm (x j) (YA (Z9Z.getD j ⟨#[]⟩) p)):=by
 induction k with
 |zero=>rw[Jz];apply ZdX Qx;intro i M F;simp[sm]
 |succ k ih=>
  have hl:=Sa x Z9Z len h k Qw;have F:=h k Qw;have C:(Z9Z.getD k ⟨#[]⟩).data.toList.length=len:=by rw[<-F];simp
  rw[Jz];apply ZdX
  .rw[LO _ _ _ (by rw[hl,C]),hl];simp
  .intro i O J;have hi:i<len:=(by simpa using J);rw[Sq _ _ _ _ (by rw[hl];exact hi) (by rw[C];exact hi)];have e1:(Jz x Z9Z len k)[i]'(by rw[hl];exact hi)=UInt8.ofBitVec (sm k λj=>gm (x j) (YA (Z9Z.getD j ⟨#[]⟩) i)):=by simp only[ih Qw];simp
   have e2:((Z9Z.getD k ⟨#[]⟩).data.toList[i]'(by rw[C];exact hi)).toBitVec=YA (Z9Z.getD k ⟨#[]⟩) i:=VD _ _ (by rw[C];exact hi);rw[e1,e2];simp[sm]
def DR(x:Nat->BitVec 8)(Z9Z:List Qq)(len:Nat)(h:∀i,i<Z9Z.length->(Z9Z.getD i ⟨#[]⟩).size=len)(k:Nat)(C:k<=Z9Z.length)(p:Nat)(F:p<len):YA (XD x Z9Z len k) p=sm k λj=>gm (x j) (YA (Z9Z.getD j ⟨#[]⟩) p):=by show((Jz x Z9Z len k).toArray.toList.getD p 0).toBitVec=_;rw[ZeI,Z5z x Z9Z len h k C,Z7];simp[F]
def WL(A:Nat->Nat->BitVec 8)(Z9Z:List Qq)(len c r:Nat):List Qq:=(List.range r).map λi=>XD (A i) Z9Z len c
def Bz(A:Nat->Nat->BitVec 8)(Z9Z:List Qq)(len c r:Nat):(WL A Z9Z len c r).length=r:=by simp[WL]
def Ek(A:Nat->Nat->BitVec 8)(Z9Z:List Qq)(len c r i:Nat)(h:i<r):(WL A Z9Z len c r).getD i ⟨#[]⟩=XD (A i) Z9Z len c:=by rw[Z7];simp[WL,h]
def LJ(A:Nat->Nat->BitVec 8)(Z9Z:List Qq)(len c r:Nat)(h:∀i,i<Z9Z.length->(Z9Z.getD i ⟨#[]⟩).size=len)(hc:c<=Z9Z.length)(i:Nat)(hi:i<(WL A Z9Z len c r).length):((WL A Z9Z len c r).getD i ⟨#[]⟩).size=len:=by rw[Bz] at hi;rw[Ek _ _ _ _ _ _ hi,I5 _ _ _ h _ hc]
def RU{x:Nat->BitVec 8}{Z9Z:List Qq}{len k:Nat}(h:∀i,i<Z9Z.length->(Z9Z.getD i ⟨#[]⟩).size=len)(C:k<=Z9Z.length)(hs:s.size=len)(hb:∀p,p<len->YA s p=sm k λj=>gm (x j) (YA (Z9Z.getD j ⟨#[]⟩) p)):s=XD x Z9Z len k:=by refine VH (by rw[hs,I5 x Z9Z len h k C]) λp F=> ?_;rw[DR x Z9Z len h k C p Qw,hb p Qw]
def Z5w(A B:Nat->Nat->BitVec 8)(Z9Z:List Qq)(len n m i:Nat)(h:∀i,i<Z9Z.length->(Z9Z.getD i ⟨#[]⟩).size=len)(hm:m<=Z9Z.length):XD (Wr n A B i) Z9Z len m=XD (A i) (WL B Z9Z len m n) len n:=by refine RU (LJ B Z9Z len m n h hm) (by rw[Bz];exact Zt _) (I5 _ _ _ h _ hm) λp C=> ?_;rw[DR _ _ _ h _ hm p C];have e:=Lb n m A B (λt p=>YA (Z9Z.getD t ⟨#[]⟩) p) i p;refine e.trans (WD λj F=> ?_);rw[Ek _ _ _ _ _ _ F,DR _ _ _ h _ hm p C];rfl
def IN(A:Nat->Nat->BitVec 8)(Z9Z:List Qq)(len c r:Nat):AL A Z9Z len c r=(WL A Z9Z len c r).map .string:=by unfold AL WL;rw[Zer];rfl
end
section
open Go.RowKit
def Uw(r c ga oa n cap J len:Nat)(M:Qm)(A:Nat->Nat->BitVec 8)(Z9Z:List Qq)(w:Qs)(r1:1<=r)(r2:r<=255)(c1:1<=c)(c2:c<=255)(hn:n=r*c)(ae:n<=cap)(O:cap<=9223372036854775807)(hlen:Z9Z.length=c)(C:∀i,i<Z9Z.length->(Z9Z.getD i ⟨#[]⟩).size=len)(hl:len<=100000)(ha:YH w ga oa r c A)(hL:Yd w M Z9Z):Calls prog 162 #[.agg #[(r:Int),(c:Int),.slice (some ⟨ga,oa,none⟩) n cap],.slice M c J] w λe w'=>∃g Z,e=.returned (.tuple #[.slice (g:Nat) r Z,.nilIface])/\Yd w' (some ⟨g,0,none⟩) (WL A Z9Z len c r)/\Below w w w':=by
 obtain⟨lg,lo,rfl,_,U⟩:=hL.open Qw;refine(Gp r c ga oa n cap lg lo J A Z9Z w r1 r2 c1 c2 hn ae O hlen (λi hi=>by rw[C i hi];exact hl) ha U).mono ?_;rintro e w' ⟨h|h,hb⟩
 .obtain⟨⟨i,hi,ah⟩,_⟩:=h;exact absurd (by rw[C i hi,C 0 Qw]) ah
 .obtain⟨ag,v,rfl,F⟩:=h;rw[C 0 Qw,IN] at F;rcases F.2 with ⟨_,h0⟩|⟨g2,af,cur,rfl,_⟩
  .omega
  .exact⟨_,_,rfl,Yd.own F,hb⟩
def Uu(r c ga oa n cap M len:Nat)(O:Qm)(A:Nat->Nat->BitVec 8)(Z9Z:List Qq)(w:Qs)(r1:1<=r)(r2:r<=255)(c1:1<=c)(c2:c<=255)(hn:n=r*c)(ae:n<=cap)(U:cap<=9223372036854775807)(hlen:Z9Z.length=c)(F:∀i,i<Z9Z.length->(Z9Z.getD i ⟨#[]⟩).size=len)(hl:len<=100000)(ha:YH w ga oa r c A)(hL:Yd w O Z9Z):Calls prog 162 #[.agg #[(r:Int),(c:Int),.slice (some ⟨ga,oa,none⟩) n cap],.slice O c M] w λe w'=>∃g J,e=.returned (.tuple #[.slice (g:Nat) r J,.nilIface])/\(Yd w' (some ⟨g,0,none⟩) (WL A Z9Z len c r)/\r<=J/\J<=9223372036854775807)/\Below w w w':=by
 obtain⟨lg,lo,rfl,_,Z⟩:=hL.open Qw;refine(Gp r c ga oa n cap lg lo M A Z9Z w r1 r2 c1 c2 hn ae U hlen (λi hi=>by rw[F i hi];exact hl) ha Z).mono ?_;rintro e w' ⟨h|h,hb⟩
 .obtain⟨⟨i,hi,ah⟩,_⟩:=h;exact absurd (by rw[F i hi,F 0 Qw]) ah
 .obtain⟨ag,v,rfl,C⟩:=h;rw[F 0 Qw,IN] at C;rcases C.2 with ⟨_,h0⟩|⟨g2,af,cur,rfl,_⟩
  .omega
  .have hc:=Ru C;exact⟨_,_,rfl,⟨Yd.own C,hc.1,Zq hc.2.1 Qz⟩,hb⟩
end
section
open Go.RowKit
variable{L:List Nat}{base c g n o size:Nat}{e:TypeId}{w w':World}{xs:List Value}
def FE{w0:Qs}{B e:Nat}{v:Qt}(F:w.ownsRow B e size v n xs)(J:Below B w0 w)(hB:B<=w)(C:w.grownBy w' v.ownBlock):Below B w0 w':=by
 have M:Fr (match v.ownBlock with|some g=>[g]|none=>[]) w w':=(Fr.refl _ _).grown C (λg C=>Zv (by rw[C];simp));refine J.trans (M.below hB (λg hm=> ?_));cases hv:v.ownBlock with
 |none=>rw[hv] at hm;simp at hm
 |some g'=>
  rw[hv] at hm;simp only[Z6] at hm;rcases F.2 with ⟨h,_⟩|⟨g2,cap,cur,h,hb,_⟩
  .rw[h] at hv;cases hv
  .rw[h] at hv;simp only[Value.ownBlock,Zd9] at hv;omega
section
variable{P:Program}
end
def Jw(L:Qj):Qk:=L.map λ(x:Nat)=>.int .i64 (x:Int)
def Z2t(L:Qj)(j:Nat)(h:j<L.length):(Jw L)[j]? =some (.int .i64 (L[j]:Int)):=by simp[Jw,h]
def OV(L:Qj)(j:Nat)(h:j<L.length):(Jw L)[j]? =some (.int .i64 (L.getD j 0:Int)):=by rw[Z2t L j h,Z7,Z8 h,ZdE]
def Z2s(L M:Qj):Jw (L++M)=Jw L++Jw M:=by simp[Jw]
def Xv(w:Qs)(g o:Nat)(L:Qj):Prop:=∀j,j<L.length->w.cell? ⟨g,o+j,none⟩=(L.getD j 0:Int)
def Xv.fr(h:Xv w g o L){Ls:Qj}(C:Fr Ls w w')(F:g∉Ls):Xv w' g o L:=λj J=>Gv C F (h j J)
def Xv.after(h:Xv w g o L)(hb:Below w w w'):Xv w' g o L:=h.fr (Z1 (L:=[]) hb) Qx
def Xv.own(h:w.ownsRow base e 1 (.slice g n c) n (Jw L)):Xv w g 0 L:=λj C=>by obtain⟨F,ha,_,hc⟩:=Rt h (OV L j C);simp only[Zd9,Zgu] at ha;rw[Zdz,ha.1];exact hc
def Rx{a:Qm}(h:w.ownsRow base e size (.slice a n c) n xs)(M:0<n):∃g,a=some ⟨g,0,none⟩/\base<=g/\n<=c/\c<=maxLen:=by
 rcases h.2 with ⟨_,J⟩|⟨g,cap,cur,hv,hb,_,C,F,_⟩
 .omega
 .simp only[Zee,Zgb] at hv;obtain⟨rfl,rfl⟩:=hv;exact⟨g,rfl,hb,C,F⟩
end
section
open Go.RowKit
def WN(k m l:Int):Bool:=decide (1<=k)&&(decide (0<=m)&&(decide (0<=l)&&(decide (k<=255)&&decide (m<=255-k))))
def Z3z{k m l:Int}(h:WN k m l=true):∃a b c:Nat,k=a/\m=b/\l=c/\1<=a/\a+b<=255:=by unfold WN at h;simp at h;exact⟨k.toNat,m.toNat,l.toNat,Qw,Qw,Qw,Qw,Qw⟩
def Di{a b c:Nat}(h:1<=a)(C:a+b<=255):WN a b c=true:=by unfold WN;simp;omega
def BU(k m l:Int)(w:Qs):Calls prog 119 #[k,m,l] w λe w'=>e=.returned (.bool (WN k m l))/\w=w':=by
 have go:∀b,WN k m l=b->Ending.returned (.bool b)=.returned (.bool (WN k m l)):=Qx;by_cases h:1<=k
 .by_cases C:0<=m
  .by_cases F:0<=l
   .by_cases J:k<=255
    .by_cases M:m<=255-k
     .have H:=ZI (go true (by unfold WN;rw[ZdY h,ZdY C,ZdY F,ZdY J,ZdY M];rfl));go_enter func119,ntmps119;go_wp2;go_ret;exact⟨H.o,rfl⟩
     .have H:=ZI (go false (by unfold WN;rw[ZC M];simp));go_enter func119,ntmps119;go_wp2;go_ret;exact⟨H.o,rfl⟩
    .have H:=ZI (go false (by unfold WN;rw[ZC J];simp));go_enter func119,ntmps119;go_wp2;go_ret;exact⟨H.o,rfl⟩
   .have H:=ZI (go false (by unfold WN;rw[ZC F];simp));go_enter func119,ntmps119;go_wp2;go_ret;exact⟨H.o,rfl⟩
  .have H:=ZI (go false (by unfold WN;rw[ZC C];simp));go_enter func119,ntmps119;go_wp2;go_ret;exact⟨H.o,rfl⟩
 .have H:=ZI (go false (by unfold WN;rw[ZC h];simp));go_enter func119,ntmps119;go_wp2;go_ret;exact⟨H.o,rfl⟩
def Cs(c:Int)(hc:c≠0)(w:Qs):Calls prog 114 #[c] w λe w'=>∃v,e=.returned v/\Yz w w' v c/\Below w w w':=by have h:=ZI hc;go_enter func114,ntmps114;go_wp2;go_ret;exact⟨_,rfl,Zy ⟨h.o,w.heap.size,rfl,Zt _,Z2 w _ [.int .i64 c,.int .i64 0,.nilIface]⟩,(Zu _ _).alloc (Zt _) _⟩
def Yg(k l:Nat):Nat:=l / k+(if 0<l%k then 1 else 0)
def Z6B(k l:Int)(w:Qs)(h:WN k 0 l=false):Calls prog 113 #[k,l] w λe w'=>∃ev,e=.returned (.tuple #[(0:Int),ev])/\Yz w w' ev 1/\Below w w w':=by have H:=ZI h;go_enter func113,ntmps113;go_wp2_with (first|(go_at_call 119;refine(BU k 0 l _).mono ?_;rintro e w1 ⟨rfl,rfl⟩;rw[H.o])|(go_at_call 114;refine(Cs 1 Qw _).mono ?_;rintro e w2 ⟨ev,rfl,he,hb⟩;have C:=ZM he hb;clear he hb));go_ret2;exact⟨ev,rfl,C.1,C.2⟩
def DG(k l:Nat)(w:Qs)(F:1<=k)(Z:k<=255)(J:l<=9223372036854775807):Calls prog 113 #[(k:Int),(l:Int)] w λe w'=>e=.returned (.tuple #[(Yg k l:Int),.nilIface])/\w=w':=by
 have H:=ZI (Di (b:=0) (c:=l) F Qw);obtain⟨d,h⟩:=ZL (l / k);obtain⟨m,hm⟩:=ZL (l%k);have U:Int.tdiv (l:Int) (k:Int)=(d:Int):=QB;have em:Int.tmod (l:Int) (k:Int)=(m:Int):=QA;have M:d<=9223372036854775807:=by rw[h];exact Zq (ZfF _ _) J
 by_cases C:0<m
 .have O:d<=9223372036854775806:=by have h4:l=k*(l / k)+l%k:=(Zei l k).symm;have h5:l / k<=k*(l / k):=Zfl _ Qw;omega
  have hs:Yg k l=d+1:=by unfold Yg;rw[<-hm,Zx C,<-h]
  rw[hs];clear h hm hs;go_enter func113,ntmps113;go_wp2_with (go_at_call 119;refine(BU k 0 l _).mono ?_;rintro e w1 ⟨rfl,rfl⟩;rw[show WN (k:Int) 0 (l:Int)=true from H.o]);go_ret2;simp
 .have hs:Yg k l=d:=by unfold Yg;rw[<-hm,Zw C,<-h];omega
  rw[hs];clear h hm hs;go_enter func113,ntmps113;go_wp2_with (go_at_call 119;refine(BU k 0 l _).mono ?_;rintro e w1 ⟨rfl,rfl⟩;rw[show WN (k:Int) 0 (l:Int)=true from H.o]);go_ret2;simp
end
section
open Go.RowKit
variable{F G:World->Prop}{w w0:World}
structure Bun(w0:Qs)(F:Qs->Prop)(w:Qs):Prop where
 all:∀w',Below w w w'->F w'
 bel:Below w0 w0 w
def Bun.start(w:Qs):Bun w (λ_=>True) w:=⟨λ_ _=>trivial,Zu _ _⟩
def Bun.here(h:Bun w0 F w):F w:=h.all w (Zu _ _)
def Bun.after{w':Qs}(h:Bun w0 F w)(hb:Below w w w'):Bun w0 F w':=⟨λJ C=>h.all J (hb.trans (C.mono hb.size)),h.bel.trans (hb.mono h.bel.size)⟩
def Bun.add(h:Bun w0 F w)(C:∀w',Below w w w'->G w'):Bun w0 (λx=>F x/\G x) w:=⟨λw' hb=>⟨h.all w' hb,C w' hb⟩,h.bel⟩
def Bun.box(h:Bun w0 F w)(T:Qu)(L:Qk):Bun w0 (λx=>F x/\Row x w T L) (w.alloc (.cells L.toArray T)):=⟨λw' hb=>⟨h.all w' (((Zu _ _).alloc (Zt _) _).trans (hb.mono Qx)),(Z2 w T L).after hb⟩,h.bel.alloc h.bel.size _⟩
def Bun.map(h:Bun w0 F w)(C:∀x,F x->G x):Bun w0 G w:=⟨λw' hb=>C _ (h.all w' hb),h.bel⟩
def Bun.of(h:∀w',Below w w w'->F w')(hb:Below w0 w0 w):Bun w0 F w:=⟨h,hb⟩
end
section
open Go.RowKit
variable{M:Nat->Nat->BitVec 8}{c g r:Nat}{w:World}
def Y1.after{w':Qs}{e:Qu}{l:Qk}(h:Y1 w g e l)(hb:Below w w w'):Y1 w' g e l:=h.fr (Z1 (L:=[]) hb) Qx
def Z9F{sp:Qk}(h:Row w g 5 (QX (mat r c M).cells++sp)):YH w g 0 r c M:=λi j hi F=>by refine h.cell ?_;rw[Zdz];have C:=GZ hi F;rw[Za (by rw[Jy,Iq,YD];exact C),Cz _ _ (by rw[Iq,YD];exact C)];simp[Iq];rw[Jb _ _ _ C,Ah _ _ _ F]
def Z8S(h:Y1 w g 5 (QX (mat r c M).cells)):YH w g 0 r c M:=Z9F (sp:=[]) (by rw[Zdg];exact h.row)
def Z1K(k:Nat):mat k k idm=mat k k (gen k):=Z3x λi j hi _=>by unfold gen;rw[Zx hi]
def LK(k m:Nat)(w:Qs)(h1:1<=k)(h2:k+m<=255):Calls prog 159 #[(k:Int),(m:Int)] w λe w'=>∃g,e=.returned (.tuple #[Xj (k+m) k g,.nilIface])/\w.heap.size<=g/\Y1 w' g 5 (QX (mat (k+m) k (gen k)).cells)/\Below w w w':=by
 obtain⟨J,aq⟩:=ZL (k*k);have S0:=ZI ((Bun.start w).box 250 [.int .i64 0,.int .i64 0,.slice none 0 0]);have af:=ZI aq;clear aq;by_cases hm:m=0
 .subst hm;go_enter func159,ntmps159;go_wp2_with (go_at_call 220;have C:=S0.o;clear S0;refine(OW k _ Qw Qw).mono ?_;rintro e w4 ⟨U,he,Z,O,hb⟩;have ae:e=.returned (.tuple #[.agg #[(k:Int),(k:Int),.slice U J J],.nilIface]):=(by rw[he,af.o];rfl);subst ae;clear he;have ag:w<=U:=Zq C.bel.size Z;have F:=((C.after hb).add (λ_ h=>O.after h)).box 250 [.int .i64 k,.int .i64 k,.slice U J J];obtain⟨x0,x1,x2⟩:=QN F.here.2;obtain⟨z0,z1,z2⟩:=QN F.here.1.1.2;obtain⟨f0,f1,f2⟩:=Jg F.here.1.1.2;have S4:=ZI F;clear C hb O Z F);have hy:=Xc (a:=.int .i64 k) (b:=.int .i64 k) (c:=.slice U J J) S4.o.here.1.1.2;obtain⟨y0,y1,y2⟩:=QN hy
  exact ZD (v:=.tuple #[.agg #[(k:Int),(k:Int),.slice U J J],.nilIface]) (by simp[results,go_sem,y0,y1,y2]) rfl ⟨U,by rw[af.o];rfl,ag,by
   have C:=S4.o.here.1.2;rw[Z1K] at C
   exact C.fr ((((Fr.refl [w.heap.size] _).setCell (Zv Qx) _).setCell (Zv Qx) _).setCell (Zv Qx) _) (by simp;exact λe=>S4.o.here.1.1.2.ne C.row Qx e.symm),Xs S4.o.bel (Zt _)⟩
 .obtain⟨qc,ak⟩:=ZL (m*k);obtain⟨K,hK⟩:=ZL (k+m);obtain⟨qa,aj⟩:=ZL (K*k);have au:((m:Int)==0)=false:=QB;have ai:=ZI ak;have HK:=ZI hK;have ah:=ZI aj;clear ak hK aj hm;go_enter func159,ntmps159;go_wp2_with (first|(go_at_call 220;have C:=S0.o;clear S0;refine(OW k _ Qw Qw).mono ?_;rintro e w4 ⟨U,he,Z,O,hb⟩;have ae:e=.returned (.tuple #[.agg #[(k:Int),(k:Int),.slice U J J],.nilIface]):=(by rw[he,af.o];rfl);subst ae;clear he;have F:=((C.after hb).add (λ_ h=>O.after h)).box 250 [.int .i64 k,.int .i64 k,.slice U J J];have S4:=ZI F;clear C hb O Z F)|(go_at_call 221;have C:=S4.o;clear S4;refine(VQ m k _ QA Qw Qw Qw Qw).mono ?_;rintro e w5 ⟨gc,he,Z,O,hb⟩;have ae:e=.returned (.tuple #[.agg #[(m:Int),(k:Int),.slice gc qc qc],.nilIface]):=(by rw[he,ai.o];rfl);subst ae;clear he;have F:=((C.after hb).add (λ_ h=>O.after h)).box 250 [.int .i64 m,.int .i64 k,.slice gc qc qc];obtain⟨x0,x1,x2⟩:=QN F.here.1.1.2;obtain⟨y0,y1,y2⟩:=QN F.here.2;have S5:=ZI F;clear C hb O Z F)|(go_at_call 222;have C:=S5.o;clear S5;refine(Z7z k m k U 0 gc 0 J qc J qc idm (cau k) _ Qw Qw Qw QA Qw af.o ai.o (Z8S C.here.1.1.1.2) (Z8S C.here.1.2)).mono ?_;rintro e w6 ⟨ga,he,Z,O,hb⟩;have ae:e=.returned (.tuple #[.agg #[(K:Int),(k:Int),.slice ga qa qa],.nilIface]):=(by rw[he,ah.o,HK.o];rfl);subst ae;clear he;have ag:w<=ga:=Zq C.bel.size Z;have F:=(C.after hb).add (λ_ h=>O.after h);obtain⟨z0,z1,z2⟩:=QN F.here.1.1.1.1.1.2;obtain⟨f0,f1,f2⟩:=Jg F.here.1.1.1.1.1.2;have S6:=ZI (F.map (λx h=>ZJ h.1.1.1.1.1.2 h.2));clear C hb O Z F));have hy:=Xc (a:=.int .i64 K) (b:=.int .i64 k) (c:=.slice ga qa qa) S6.o.here.1;obtain⟨y0,y1,y2⟩:=QN hy
  exact ZD (v:=.tuple #[.agg #[(K:Int),(k:Int),.slice ga qa qa],.nilIface]) (by simp[results,go_sem,y0,y1,y2]) rfl ⟨ga,by rw[ah.o,HK.o];rfl,ag,by
   have C:=S6.o.here.2
   exact C.fr ((((Fr.refl [w.heap.size] _).setCell (Zv Qx) _).setCell (Zv Qx) _).setCell (Zv Qx) _) (by simp;exact λe=>S6.o.here.1.ne C.row Qx e.symm),Xs S6.o.bel (Zt _)⟩
def N3(k m ae len:Nat)(la:Qm)(Z9Z:List Qq)(w:Qs)(h1:1<=k)(h2:k+m<=255)(hlen:Z9Z.length=k)(ai:∀i,i<Z9Z.length->(Z9Z.getD i ⟨#[]⟩).size=len)(hl:len<=100000)(hL:Yd w la Z9Z):Calls prog 121 #[(k:Int),(m:Int),.slice la k ae] w λe w'=>∃g J,e=.returned (.tuple #[.slice (g:Nat) (k+m) J,.nilIface])/\(Yd w' (some ⟨g,0,none⟩) (WL (gen k) Z9Z len k (k+m))/\k+m<=J/\J<=9223372036854775807)/\Below w w w':=by
 obtain⟨K,hK⟩:=ZL (k+m);obtain⟨F,Z⟩:=ZL (K*k);have aq:F<=255*255:=by rw[Z];exact ZdA Qw Qw
 have S0:=ZI (Bun.start w);have HK:=ZI hK;have ah:=ZI Z;have af:=ZI hlen;have aj:=ZI ai;have HL:=ZI hL;have au:k<=K:=Qw;have aw:K<=255:=Qw;rw[<-hK];clear hK Z hlen ai hL;go_enter func121,ntmps121;go_wp2_with (first|(go_at_call 159;have C:=S0.o;clear S0;refine(LK k m _ h1 h2).mono ?_;rintro e w1 ⟨ga,he,hg,O,hb⟩;have ak:e=.returned (.tuple #[.agg #[(K:Int),(k:Int),.slice ga F F],.nilIface]):=(by rw[he,ah.o,HK.o];rfl);subst ak;clear he;rw[<-HK.o] at O;have U:=((C.after hb).add (λ_ h=>(Z8S O).after h)).box 250 [.int .i64 K,.int .i64 k,.slice ga F F];obtain⟨x0,x1,x2⟩:=QN U.here.2;have S1:=ZI U;clear C hb O hg U)|(go_at_call 162;have C:=S1.o;clear S1;refine(Uu K k ga 0 F F ae len la (gen k) Z9Z _ Qw Qw Qw Qw ah.o (Zt _) Qw af.o aj.o hl C.here.1.2 (HL.o.after C.bel)).mono ?_;rintro e w2 ⟨g5,ag,rfl,ht,hb⟩;have S2:=ZM ht (C.after hb).bel;clear C hb ht));go_ret2;exact⟨g5,ag,rfl,S2.1,S2.2⟩
end
section
open Go.RowKit
def XG(n:Nat):Qq:=⟨(List.replicate n 0).toArray⟩
def DN(n:Nat):(XG n).size=n:=by show(List.replicate n (0:UInt8)).toArray.size=n;simp
def FN(z:Nat):(⟨(Lib.repeatL (⟨#[0]⟩:Qq).data.toList z).toArray⟩:Qq)=XG z:=by
 congr 2
 induction z with
 |zero=>rfl
 |succ z ih=>rw[List.replicate_succ,<-ih];rfl
def WM(T:Qq)(n k:Nat):List Qq:=(List.range k).map λi=>T.extract (i*n) ((i+1)*n)
def BN(T:Qq)(n k:Nat):(WM T n k).length=k:=by simp[WM]
def NT(T:Qq)(n k i:Nat)(h:i<k):(WM T n k).getD i ⟨#[]⟩=T.extract (i*n) ((i+1)*n):=by simp[WM,h]
def NU(T:Qq)(n k:Nat):QR (WM T n (k+1))=QR (WM T n k)++[.string (T.extract (k*n) ((k+1)*n))]:=by unfold QR WM;rw[Zds,Zo,Zo];rfl
def Ka(T:Qq)(n k:Nat)(h:T.size=k*n):∀i,i<(WM T n k).length->((WM T n k).getD i ⟨#[]⟩).size=n:=by intro i hi;rw[BN] at hi;rw[NT T n k i hi,Zdq,h];have C:(i+1)*n<=k*n:=Ze4 n hi;grind
def J6(t:Qq)(N:Nat):Qq:=t++XG (N-t.size)
def Lv(t:Qq)(N:Nat)(h:t.size<=N):(J6 t N).size=N:=by unfold J6;rw[ZdS,DN];omega
def CK(k l:Nat)(C:1<=k):l<=k*Yg k l:=by
 unfold Yg;have h:=Zei l k;split
 .have:=ZfN l (show k>0 by omega);grind
 .simp_all
def To(k l:Nat)(C:1<=k):k*Yg k l<=l+k:=by unfold Yg;have h:=Zei l k;grind
def G7(k l:Nat)(h:1<=k):Yg k l<=l+1:=by unfold Yg;have:=ZfF l k;grind
def Y5(k m:Nat)(t:Qq):List Qq:=WL (gen k) (WM (J6 t (k*Yg k t.size)) (Yg k t.size) k) (Yg k t.size) k (k+m)
open Go.RowKit
end
section
open Go.RowKit
variable{A:Nat->Nat->BitVec 8}{B K i k n s:Nat}{L:List (Bool×ByteArray)}{a:Option Addr}{e:Ending}{v:Value}{w w':World}{xs:List Value}
def BK(w:Qs)(a:Qm)(L:List (Bool×Qq)):Prop:=∀j (h:j<L.length),∃g o,a=some ⟨g,o,none⟩/\w.cell? ⟨g,o+j*2,none⟩=some (.bool L[j].1)/\w.cell? ⟨g,o+j*2+1,none⟩=some (.string L[j].2)
def YJ(L:List (Bool×Qq))(j:Nat):Bool×Qq:=L.getD j (false,⟨#[]⟩)
def Z4w(L:List (Bool×Qq))(j:Nat)(h:j<L.length):L[j]=YJ L j:=by unfold YJ;rw[Z7,Z8 h,ZdE]
def BK.at_(h:BK w a L){j:Nat}(J:j<L.length):∃g o,a=some ⟨g,o,none⟩/\g<w.heap.size/\w.cell? ⟨g,o+j*2,none⟩=some (.bool (YJ L j).1)/\w.cell? ⟨g,o+j*2+1,none⟩=some (.string (YJ L j).2):=by obtain⟨g,o,ha,C,F⟩:=h j J;rw[Z4w L j J] at C F;exact⟨g,o,ha,J7 C,C,F⟩
def whF(L:List (Bool×Qq))(i:Nat):Qj:=(List.range i).filter λj=>(YJ L j).1
def hvF(L:List (Bool×Qq))(i:Nat):List Qq:=(whF L i).map λj=>(YJ L j).2
def My(h:(YJ L i).1=true):whF L (i+1)=whF L i++[i]:=by unfold whF;rw[Zds,ZdQ];grind
def Mx(h:(YJ L i).1=false):whF L (i+1)=whF L i:=by unfold whF;rw[Zds,ZdQ];grind
def Z2q(h:(YJ L i).1=true):hvF L (i+1)=hvF L i++[(YJ L i).2]:=by unfold hvF;rw[My h,Zo];rfl
def Z2o(h:(YJ L i).1=false):hvF L (i+1)=hvF L i:=by unfold hvF;rw[Mx h]
def GY(L:List (Bool×Qq))(i:Nat):(hvF L i).length=(whF L i).length:=by simp[hvF]
def TQ(L:List (Bool×Qq))(i:Nat):(whF L i).length<=i:=by unfold whF;grind
def Gc{j:Nat}(h:j∈whF L i):j<i/\(YJ L j).1=true:=by unfold whF at h;simp_all
def Z86(L:List (Bool×Qq))(i:Nat):(whF L i).Nodup:=by exact List.Pairwise.filter (λj=>(YJ L j).1) Zf6
def Rv{e B2 e2 s2 n2:Nat}{v2:Qt}{F:Qk}(M:w.ownsRow B e s v n xs)(J:w.ownsRow B2 e2 s2 v2 n2 F)(af:e≠e2)(O:w.grownBy w' v.ownBlock):w'.ownsRow B2 e2 s2 v2 n2 F:=by
 refine⟨J.1,?_⟩;rcases J.2 with h|⟨g,cap,cur,hv,hb,hh,r⟩
 .simp_all
 .refine Zy ⟨g,cap,cur,hv,hb,(O.block g (Zdb.1 hh).1 ?_).trans hh,r⟩;intro e1;rcases M.2 with ⟨C,_⟩|⟨g1,U,Z,C,_,ae,_⟩
  .rw[C] at e1;cases e1
  .rw[C] at e1;simp[Value.ownBlock] at e1;simp_all
def Sp(Z9Z:List Qq)(u:Qq):QR (Z9Z++[u])=QR Z9Z++[.string u]:=by simp[QR]
def BY{e:Nat}(h:w.ownsRow B e s v n xs):∃a c,v=.slice a n c:=by
 rcases h.2 with ⟨hv,C⟩|⟨g,cap,cur,hv,_⟩
 .simp_all
 .simp_all
def Z2A:(prog.info? 3).map (λi=>(i.zero,i.size,i.bytes))=some (some (.int .i64 0),1,8):=Qy
def Z4F{r c:Nat}{L:List Int}(hx:MS w r c A L e w')(h:∀i,i<L.length->0<=L.getD i 0/\L.getD i 0<r):∃g,e=.returned (.tuple #[Xj L.length c g,.nilIface])/\w.heap.size<=g/\YH w' g 0 L.length c (λi j=>A (L.getD i 0).toNat j)/\Below w w w':=by
 obtain⟨hx,hb⟩:=hx;rcases hx with ⟨⟨i,hi,J⟩,_⟩|⟨_,g,he,F,C⟩
 .simp_all
 .exact⟨g,he,F,Z8S C,hb⟩
def Z2B{N:Nat}(hx:MN w N A e w')(O:Inj N A):∃g B,Ak N A B/\e=.returned (.tuple #[Xj N N g,.nilIface])/\w.heap.size<=g/\YH w' g 0 N N B/\Below w w w':=by
 obtain⟨hx,hb⟩:=hx;rcases hx with ⟨h,_⟩|⟨_,g,B,C,F,J,M⟩
 .simp_all
 .exact⟨g,B,C,F,J,Z8S M,hb⟩
def Yd.take{ss:List Qq}(h:Yd w a ss)(k:Nat):Yd w a (ss.take k):=λj C=>by rw[Zg] at C;obtain⟨g,o,ha,hc⟩:=h j Qw;grind
def Z2p(h:∀j,j<K->(YJ L j).1=true->(YJ L j).2.size=n)(k:Nat):∀i,i<((hvF L K).take k).length->(((hvF L K).take k).getD i ⟨#[]⟩).size=n:=by intro i hi;rw[Z7,Z8 hi,ZdE];have hm:((hvF L K).take k)[i]∈hvF L K:=Qx;obtain⟨j,J,he⟩:=Zz.1 hm;have C:=Gc J;have F:=h j C.1 C.2;rw[he] at F;exact F
def Z5p{P P' B:Nat->Nat->BitVec 8}(h:∀i j,i<k->P i j=P' i j)(hB:Ak k P B):Ak k P' B:=λi l hi hl=>by rw[<-hB i l hi hl];unfold Wr;simp_all
def Ip(L:Qj)(k i:Nat)(h:i<k):(L.take k).getD i 0=L.getD i 0:=by simp_all
def Z3r(L:Qj)(i:Nat):(L.map λ(x:Nat)=>(x:Int)).getD i 0=(L.getD i 0:Int):=by grind
def LH{m:Nat}(hK:K=k+m)(h:K<=255)(hc:k<=(whF L K).length):Inj k (λi j=>gen k (((whF L K).take k).getD i 0) j):=Z2x k m Qw _ QB ((Z86 L K).sublist (List.take_sublist _ _)) (λa ha=>by have:=Gc (Zdh ha);omega)
def Ei(k:Nat)(L:List (Bool×Qq))(K i j:Nat):Qo:=gen k ((whF L K).getD i 0) j
def EL(k m n:Nat)(L:List (Bool×Qq))(code:Int)(T:List Qq):Prop:=
 ((∃j,j<k+m/\(YJ L j).1=true/\(YJ L j).2.size≠n)/\code=19/\T=[])∨
 ((∀j,j<k+m->(YJ L j).1=true->(YJ L j).2.size=n)/\(whF L (k+m)).length<k/\code=17/\T=[])∨
 ((∀j,j<k+m->(YJ L j).1=true->(YJ L j).2.size=n)/\k<=(whF L (k+m)).length/\code=0/\∃B,Ak k (Ei k L (k+m)) B/\T=WL (gen k) (WL B ((hvF L (k+m)).take k) n k k) n k (k+m))
def Z5l(k m l:Nat)(pa:Qm)(pc:Nat)(L:List (Bool×Qq))(w:Qs)(h1:1<=k)(h2:k+m<=255)(h3:l<=9223372036854775807)(hl:L.length=k+m)(hP:BK w pa L)(cy:∀j,j<k+m->(YJ L j).1=true->(YJ L j).2.size<=100000):Calls prog 112 #[(k:Int),(m:Int),(l:Int),.slice pa (k+m) pc] w λe w'=>∃code T a' ai ev,EL k m (Yg k l) L code T/\e=.returned (.tuple #[.slice a' T.length ai,ev])/\Yz w w' ev code/\(Yd w' a' T/\T.length<=ai/\ai<=9223372036854775807)/\Below w w w':=by
 have H:=ZI (Di (c:=l) h1 h2);obtain⟨n,hn⟩:=ZL (Yg k l);obtain⟨K,hK⟩:=ZL (k+m);have k1:K<=255:=Qw;have k2:k<=K:=Qw;have hb:((K:Int) !=(k:Int)+(m:Int))=false:=by simp;omega
 have ib:n<=9223372036854775807:=by rw[hn];unfold Yg;have h4:=Zei l k;have h5:l / k<=k*(l / k):=Zfl _ Qw;split<;>omega
 obtain⟨j0,fh,fq,ft,fu⟩:=ZE C8;obtain⟨i9,fg,fm,fo,fp⟩:=ZE Z2A;unfold EL;rw[<-hn,<-hK];rw[<-hK] at hl cy;have HN:=ZI hn;have HK:=ZI hK;have HL:=ZI hl;have HP:=ZI hP;have dm:=ZI cy;clear hn hK hl hP cy;go_enter func112,ntmps112;go_wp2_with (first|(go_at_call 119;refine(BU k m l _).mono ?_;rintro e w1 ⟨rfl,rfl⟩;rw[H.o])|(go_at_call 113;refine(DG k l _ h1 Qw h3).mono ?_;rintro e w1 ⟨rfl,rfl⟩;rw[<-HN.o]));obtain⟨w0,fj⟩:∃w0:Qs,w0=w:=⟨_,rfl⟩;subst fj;go_loopw [12,13,39] (λhv wv ii wr=>∃i:Nat,i<=K/\ii=(i:Int)/\(∀j,j<i->(YJ L j).1=true->(YJ L j).2.size=n)/\wr.ownsRow w0 9 1 hv (whF L i).length (QR (hvF L i))/\wr.ownsRow w0 3 1 wv (whF L i).length (Jw (whF L i))/\Below w0 w0 wr) (λ_ _ ii _=>K- (intOf ii).toNat)
 .exact⟨0,Qw,rfl,λj h=>Qw,ZA _ _ _ _,ZA _ _ _ _,Zu _ _⟩
 obtain⟨i,hi,rfl,aw,Z,M,O⟩:=hrel;have af:=ZI aw;clear aw;by_cases bz:i<K
 .obtain⟨pg,po,rfl,ek,c0,c1⟩:=HP.o.at_ (j:=i) (by rw[HL.o];exact bz);have d0:=(O.cell (p:=⟨pg,po+i*2,none⟩) ek).trans c0;have d1:=(O.cell (p:=⟨pg,po+i*2+1,none⟩) ek).trans c1;obtain⟨b,cr⟩:=ZL (YJ L i).1;obtain⟨t,ht⟩:=ZL (YJ L i).2;rw[<-cr] at d0;rw[<-ht] at d1;have HB:=ZI cr;have HT:=ZI ht;clear c0 c1 cr ht;cases b
  .have S1:=ZN Z M O;clear Z M O;go_wp2;go_roundw
   .refine⟨i+1,Qw,QC,λj hj bj=> ?_,by rw[Mx HB.o.symm,Z2o HB.o.symm];exact S1.1,by rw[Mx HB.o.symm];exact S1.2.1,S1.2.2⟩;by_cases e:j=i
    .rw[e,<-HB.o] at bj;cases bj
    .exact af.o j Qw bj
   simp[intOf];omega
  .have ic:t.size<=100000:=by rw[HT.o];exact dm.o i bz HB.o.symm
   by_cases bm:t.size=n
   .have fi:((t.size:Int) !=(n:Int))=false:=(by simp[bm]);have cj:=ZI bm;have hz:=O.size;have fa:=TQ L i;obtain⟨c,hc⟩:=ZL (whF L i).length;rw[<-hc] at Z M fa;have S1:=ZN Z M O;have HC:=ZI hc;clear Z M O bm hc;go_wp2_with (first|(at_builtin;have C:=S1.o;clear S1;refine ZdO _ rfl (.tmp 57) (.tmp 63) 96 rfl w0.heap.size 9 j0 _ 1 16 underlying96 fh fq ft fu rfl Qw _ c (QR (hvF L i)) rfl (C.1.alloc _) ⟨wr,0,none⟩ 1 1 [.string t] rfl rfl (Zdy (cs:= #[.string t]) (t:=9) (fr:=(0,0)) (ZB wr _)) (by simp[Value.oneCell']) (by unfold maxLen;omega) Qw (Zq hz Qx) ?_;intro v' w7 M ae ag;clear ag;have S2:=ZN M (Rv (C.1.alloc _) (C.2.1.alloc _) Qz ae) (FE (C.1.alloc _) (C.2.2.alloc hz _) (Zq hz Qx) ae);have cz:=S2.2.2.size;clear C M ae)|(at_builtin;have C:=S2.o;clear S2;refine ZdO _ rfl (.tmp 65) (.tmp 67) 46 rfl w0.heap.size 3 i9 _ 1 8 underlying46 fg fm fo fp rfl Qw _ c (Jw (whF L i)) rfl (C.2.1.alloc _) ⟨w7,0,none⟩ 1 1 [.int .i64 (i:Int)] rfl rfl (Zdy (cs:= #[.int .i64 (i:Int)]) (t:=3) (fr:=(0,0)) (ZB w7 _)) (by simp[Value.oneCell']) (by unfold maxLen;omega) Qw (Zq cz Qx) ?_;intro v8 w8 M ae ag;clear ag;have S3:=ZX (Rv (C.2.1.alloc _) (C.1.alloc _) Qz ae) M (FE (C.2.1.alloc _) (C.2.2.alloc cz _) (Zq cz Qx) ae);clear C M ae));go_roundw
    .have e1:(whF L (i+1)).length=c+1:=by rw[My HB.o.symm,Zb,HC.o];rfl
     refine⟨i+1,Qw,QC,λj hj bj=> ?_,?_,?_,S3.3⟩
     .by_cases e:j=i
      .rw[e,<-HT.o];exact cj.o
      .exact af.o j Qw bj
     .rw[e1,Z2q HB.o.symm,Sp,<-HT.o];exact S3.1
     .rw[e1,My HB.o.symm,Z2s];exact S3.2
    simp[intOf];omega
   .have fi:((t.size:Int) !=(n:Int))=true:=by simp;omega
    have S1:=ZI O;have cj:=ZI bm;clear Z M O bm;go_wp2_with (go_at_call 114;refine(Cs 19 Qz _).mono ?_;rintro e w2 ⟨ev,rfl,he,hb⟩;have S2:=ZM (he.mono S1.o.size) (S1.o.trans (hb.mono S1.o.size));clear he hb);go_ret2;exact⟨19,[],none,0,ev,Zv ⟨⟨i,bz,HB.o.symm,by rw[<-HT.o];exact cj.o⟩,rfl,rfl⟩,rfl,S2.1,⟨λj hj=>by simp at hj,Qx,Qx⟩,S2.2⟩
 .obtain rfl:K=i:=by omega
  clear bz hi;obtain⟨c,hc⟩:=ZL (whF L K).length;have fy:c<=K:=by rw[hc];exact TQ L K
  rw[<-hc] at Z M;obtain⟨ha,az,rfl⟩:=BY Z;have HC:=ZI hc;by_cases ez:c<k
  .have S1:=ZI O;clear Z M O hc;go_wp2_with (go_at_call 114;refine(Cs 17 Qz _).mono ?_;rintro e w2 ⟨ev,rfl,he,hb⟩;have S2:=ZM (he.mono S1.o.size) (S1.o.trans (hb.mono S1.o.size));clear he hb);go_ret2;exact⟨17,[],none,0,ev,Zy (Zv ⟨af.o,by rw[<-HC.o];exact ez,rfl,rfl⟩),rfl,S2.1,⟨λj hj=>by simp at hj,Qx,Qx⟩,S2.2⟩
  .have bf:k<=c:=(by omega);obtain⟨gh,rfl,_,gj,gy⟩:=Rx Z Qw;obtain⟨wa,bq,rfl⟩:=BY M;obtain⟨gw,rfl,_,ie,ig⟩:=Rx M Qw;have eh:=Yd.own Z;have dy:=Xv.own M;obtain⟨qa,cu⟩:=ZL (K*k);obtain⟨J,cw⟩:=ZL (k*k);have ij:qa<=255*255:=by rw[cu];exact ZdA k1 Qw
   have ik:J<=255*255:=by rw[cw];exact ZdA Qw Qw
   obtain⟨R,hR⟩:∃R:List Int,R=((whF L K).take k).map λ(x:Nat)=>(x:Int):=⟨_,rfl⟩;have dx:R.length=k:=by rw[hR,Zf,Zg,<-hc];omega
   have au:∀j,R.getD j 0=(((whF L K).take k).getD j 0:Int):=λj=>(by rw[hR,Z3r]);have aq:∀i,i<R.length->0<=R.getD i 0/\R.getD i 0<K:=λi hi=>by
    rw[au];have ah:((whF L K).take k).getD i 0∈(whF L K).take k:=by rw[Z7,Z8 (by rw[Zg,<-hc];omega),ZdE];exact Zl _
    have:=Gc (Zdh ah);omega
   have dt:(λi j=>gen k (R.getD i 0).toNat j)=λi j=>gen k (((whF L K).take k).getD i 0) j:=by
    funext i j
    rw[au,Ze6]
   have hI:Inj k (λi j=>gen k (R.getD i 0).toNat j):=by rw[dt];exact LH HK.o k1 (by rw[<-hc];exact bf)
   have du:∀x,Xv x gw 0 (whF L K)->∀j,j<R.length->x.cell? ⟨gw,0+j,none⟩=(R.getD j 0:Int):=λx hx j hj=>by rw[au,Ip _ _ _ Qw];exact hx j (by rw[<-hc];omega)
   have dw:∀B,Ak k (λi j=>gen k (R.getD i 0).toNat j) B->Ak k (Ei k L K) B:=λB hB=>Z5p (λi j hi=>by
    show gen k (R.getD i 0).toNat j=gen k ((whF L K).getD i 0) j
    rw[au,Ze6,Ip _ _ _ hi]) hB
   have dp:((hvF L K).take k).length=k:=by rw[Zg,GY,<-hc];omega
   have dq:=Z2p af.o k;have S1:=ZI (Bun.of (F:=λx=>Yd x (some ⟨gh,0,none⟩) (hvF L K)/\Xv x gw 0 (whF L K)) (λx hx=>⟨eh.after hx,dy.after hx⟩) O);obtain⟨P,hP⟩:∃P:Nat->Nat->BitVec 8,P=λi j=>gen k (R.getD i 0).toNat j:=⟨_,rfl⟩;have ef:n<=100000:=by have e0:0<((hvF L K).take k).length:=Qw;have ah:(hvF L K)[0]'(by rw[GY,<-hc];omega)∈hvF L K:=Zl _;unfold hvF at ah;obtain⟨j,hj,_⟩:=Zz.1 ah;have h5:=Gc hj;have h6:=dm.o j h5.1 h5.2;rw[af.o j h5.1 h5.2] at h6;exact h6
   rw[<-hP] at hI;have dj:=ZI cu;have bu:=ZI cw;have ak:=ZI dx;have eo:=ZI aq;have HI:=ZI hI;have ew:=ZI du;have ey:=ZI dw;have de:=ZI dp;have df:=ZI dq;have dh:=ZI hP;have eu:=ZI bf;clear Z M O hc eh dy cu cw hR dx au aq dt hI du dw dp dq hP;go_wp2_with (go_at_call 159;have C:=S1.o;clear S1;refine(LK k m _ h1 h2).mono ?_;rintro e w1 ⟨ga,he,hg,aj,hb⟩;have bg:e=.returned (.tuple #[.agg #[(K:Int),(k:Int),.slice ga qa qa],.nilIface]):=(by rw[he,dj.o,HK.o];rfl);subst bg;clear he;rw[<-HK.o] at aj;have dz:=(C.after hb).add (λ_ h=>(Z8S aj).after h);have U:=Z2 w1 250 [.int .i64 K,.int .i64 k,.slice ga qa qa];obtain⟨x0,x1,x2⟩:=QN U;have SB:=ZI dz;have SX:=ZM U ((Zu w1 w1).alloc (Zt _) (.cells #[(K:Int),(k:Int),.slice ga qa qa] 250));clear C hb aj hg dz U);have e1:0<=(k:Int):=Qw;have e2:(k:Int)<=(bq:Int):=Qw;have e3:((k:Int)).toNat=k:=Qw;have e4:(k:Int)<=(az:Int):=Qw;go_region_law
    (first|(go_simp;go_at_call 160;have C:=SX.o;clear SX;have ay:=C.2.drew;have hF:=SB.o.after ay;have hp:=Z4G K k ga 0 qa qa gw 0 bq (gen k) R _ Qw Qw Qw Qw dj.o (Zt _) Qw (by rw[ak.o];omega) (by rw[ak.o];omega) hF.here.2 (ew.o _ hF.here.1.2);rw[ak.o] at hp;refine hp.mono ?_;rintro e fw hx;obtain⟨gp,he,fc,ct,hb⟩:=Z4F hx eo.o;have bg:e=.returned (.tuple #[.agg #[(k:Int),(k:Int),.slice gp J J],.nilIface]):=(by rw[he,ak.o,bu.o];rfl);subst bg;clear he hx hp;rw[ak.o,<-dh.o] at ct;have bh:gp≠w1.heap.size:=(by have h8:(w1.alloc (.cells #[(K:Int),(k:Int),.slice ga qa qa] 250)).drew.heap.size=w1.heap.size+1:=(by show(w1.alloc _).heap.size=_;simp);omega);have U:=Row.after C.1.drew hb;have ia:=QN U;obtain⟨f0,f1,f2⟩:=Jg U;have hy:=Xc (a:=.int .i64 k) (b:=.int .i64 k) (c:=.slice gp J J) U;obtain⟨y0,y1,y2⟩:=QN hy;have SY:=ZN hy (Xs (a:=.int .i64 k) (b:=.int .i64 k) (c:=.slice gp J J) (C.2.drew.trans (hb.mono C.2.drew.size)) (Zt w1)) (ct.fr ((((Fr.refl [w1.heap.size] fw).setCell (p:=⟨w1,0,none⟩) (Zv Qx) (.int .i64 k)).setCell (p:=⟨w1.heap.size,1,none⟩) (Zv Qx) (.int .i64 k)).setCell (p:=⟨w1.heap.size,2,none⟩) (Zv Qx) (.slice gp J J)) (by simp only[Z6];exact bh));clear C ay hF ct hb U bh fc))
   clear e1 e2 e3 x0 x1 x2;go_wp2_with (go_at_call 161;have C:=SY.o;clear SY;refine(Z2D k gp 0 J J P _ h1 Qw bu.o (Zt _) Qw C.2.2).mono ?_;intro e fx hx;obtain⟨gz,B,hB,he,fe,ee,hb⟩:=Z2B hx HI.o;have bg:e=.returned (.tuple #[.agg #[(k:Int),(k:Int),.slice gz J J],.nilIface]):=(by rw[he,bu.o];rfl);subst bg;clear he hx;have bh:gz≠w1.heap.size:=(by have h8:=C.1.lt;omega);have U:=Row.after C.1 hb;obtain⟨v0,v1,v2⟩:=QN U;obtain⟨f3,f4,f5⟩:=Jg U;have hy:=Xc (a:=.int .i64 k) (b:=.int .i64 k) (c:=.slice gz J J) U;obtain⟨z0,z1,z2⟩:=QN hy;have SZ:=ZN hy (Xs (a:=.int .i64 k) (b:=.int .i64 k) (c:=.slice gz J J) (C.2.1.trans (hb.mono C.2.1.size)) (Zt w1)) (ee.fr ((((Fr.refl [w1.heap.size] fx).setCell (p:=⟨w1,0,none⟩) (Zv Qx) (.int .i64 k)).setCell (p:=⟨w1.heap.size,1,none⟩) (Zv Qx) (.int .i64 k)).setCell (p:=⟨w1.heap.size,2,none⟩) (Zv Qx) (.slice gz J J)) (by simp only[Z6];exact bh));have er:=ZI hB;clear C ee hb U bh fe hy hB);clear f0 f1 f2 f3 f4 f5 v0 v1 v2 y0 y1 y2;have e1:0<=(k:Int):=Qw;have e3:((k:Int)).toNat=k:=Qw;go_region_law (first|(go_simp;go_at_call 162;have C:=SZ.o;clear SZ;have ay:=C.2.1.drew;have hF:=SB.o.after ay;refine(Uw k k gz 0 J J az n (some ⟨gh,0,none⟩) B ((hvF L K).take k) _ h1 Qw h1 Qw bu.o (Zt _) Qw de.o df.o ef (C.2.2.after ((Zu _ _).drew)) (Yd.take hF.here.1.1 k)).mono ?_;rintro e im ⟨gq,cq,rfl,ht,hb⟩;have SW:=ZM ht (hF.after hb).bel;clear C ay hF ht hb));go_wp2_with (go_at_call 121;have C:=SW.o;clear SW;refine(N3 k m cq n _ (WL B ((hvF L K).take k) n k k) _ h1 h2 (Bz _ _ _ _ _) (LJ B ((hvF L K).take k) n k k df.o (by rw[de.o];exact Zt _)) ef C.1).mono ?_;rw[<-HK.o];rintro e iq ⟨g8,cn,rfl,hs,hb⟩;have S4:=ZM hs (C.2.trans (hb.mono C.2.size));clear C hs hb);go_ret2;exact⟨0,_,some ⟨g8,0,none⟩,cn,.nilIface,Zy (Zy ⟨af.o,by rw[<-HC.o];exact eu.o,rfl,B,ey.o B (by rw[<-dh.o];exact er.o),rfl⟩),by rw[Bz];rfl,Z9k _ _,⟨S4.1.1,by rw[Bz];exact S4.1.2.1,S4.1.2.2⟩,S4.2⟩
