/-
  Part 5 of the proof: lemmas about what the program computes.
-/
import Derived.StillTailTactics
import Derived.RegionTactic
import Derived.BigRegion
import Derived.ChangeAlike
import Derived.Outline
import Derived.Test.YthppfllkocphbaaGreatDoorQ01
namespace Go.Proofs.YthppfllkocphbaaGreatDoor
set_option linter.unusedVariables false
set_option linter.unusedSimpArgs false
set_option maxHeartbeats 25600000
set_option maxRecDepth 100000
open Tryz
section
def xt(a:BitVec 8):BitVec 8:=(a<<<1)^^^(if a.msb then 29#8 else 0#8)
theorem Zjk(a b:BitVec 8):xt (a^^^b)=xt a^^^xt b:=by
 unfold xt
 rw[BitVec.shiftLeft_xor_distrib,BitVec.msb_xor]
 cases a.msb<;>cases b.msb
 ·simp
 ·simp;ac_rfl
 ·simp;ac_rfl
 ·simp
  have h:a<<<1^^^29#8^^^(b<<<1^^^29#8)=(a<<<1^^^b<<<1)^^^(29#8^^^29#8):=by ac_rfl
  rw[h];simp
theorem ZiD:xt 0#8=0#8:=by decide
def xts:Nat->BitVec 8->BitVec 8
 |0,a=>a
 |n+1,a=>xts n (xt a)
theorem ZbJ(n:Nat)(a b:BitVec 8):xts n (a^^^b)=xts n a^^^xts n b:=by
 induction n generalizing a b with
 |zero=>rfl
 |succ n ih=>simp only[xts];rw[Zjk,ih]
theorem Zad(n:Nat):xts n 0#8=0#8:=by
 induction n with
 |zero=>rfl
 |succ n ih=>simp only[xts];rw[ZiD,ih]
theorem Z5l(m n:Nat)(a:BitVec 8):xts (m+n) a=xts m (xts n a):=by
 induction n generalizing a with
 |zero=>rfl
 |succ n ih=>rw[<-Nat.add_assoc,xts,xts,ih]
theorem ZgU(m n:Nat)(a:BitVec 8):xts m (xts n a)=xts n (xts m a):=by
 rw[<-Z5l,<-Z5l,Nat.add_comm]
def tk(c:Bool)(a:BitVec 8):BitVec 8:=if c then a else 0#8
def gm(a b:BitVec 8):BitVec 8:=
 tk (b.getLsbD 0) a^^^tk (b.getLsbD 1) (xts 1 a)^^^tk (b.getLsbD 2) (xts 2 a)^^^tk (b.getLsbD 3) (xts 3 a)^^^
 tk (b.getLsbD 4) (xts 4 a)^^^tk (b.getLsbD 5) (xts 5 a)^^^tk (b.getLsbD 6) (xts 6 a)^^^tk (b.getLsbD 7) (xts 7 a)
theorem Zjd(c:Bool)(a b:BitVec 8):tk c (a^^^b)=tk c a^^^tk c b:=by cases c<;>simp[tk]
theorem Zij(c d:Bool)(a:BitVec 8):tk (c^^d) a=tk c a^^^tk d a:=by cases c<;>cases d<;>simp[tk]
theorem Zjl(n:Nat)(c:Bool)(a:BitVec 8):xts n (tk c a)=tk c (xts n a):=by cases c<;>simp[tk,Zad]
theorem WK(a b c:BitVec 8):gm a (b^^^c)=gm a b^^^gm a c:=by
 simp only[gm,BitVec.getLsbD_xor,Zij];ac_rfl
theorem XS(a b c:BitVec 8):gm (a^^^b) c=gm a c^^^gm b c:=by
 simp only[gm,ZbJ,Zjd];ac_rfl
theorem Ze4(n:Nat)(a b:BitVec 8):gm (xts n a) b=xts n (gm a b):=by
 simp only[gm,ZbJ,Zjl,ZgU n]
theorem Qm(b:BitVec 8):gm 0#8 b=0#8:=by
 simp only[gm,Zad];simp[tk]
theorem Zj(a:BitVec 8):gm a 0#8=0#8:=by
 simp[gm,tk]
theorem Qp(b:BitVec 8):gm 1#8 b=b:=by
 have h:∀n,n<256->gm 1#8 (BitVec.ofNat 8 n)=BitVec.ofNat 8 n:=by decide+kernel
 have:=h b.toNat b.isLt
 simpa using this
theorem Ye(a:BitVec 8):gm a 1#8=a:=by
 simp[gm,tk]
def ex(n:Nat):BitVec 8:=xts n 1#8
theorem ZiN:ex 255=1#8:=by decide+kernel
theorem Z8r(n:Nat)(b:BitVec 8):gm (ex n) b=xts n b:=by
 rw[ex,Ze4,Qp]
theorem Z1P(m n:Nat):gm (ex m) (ex n)=ex (m+n):=by
 rw[Z8r,ex,ex,Z5l]
theorem ZiE(a:BitVec 8):xts 255 a=a:=by
 rw[<-Z8r,ZiN,Qp]
theorem Zcm(n:Nat):ex (n+255)=ex n:=by
 rw[ex,Z5l,ZiE];rfl
theorem Z4l(n:Nat):ex (n%255)=ex n:=by
 have h:∀q r,ex (255*q+r)=ex r:=by
  intro q r
  induction q with
  |zero=>simp
  |succ q ih=>rw[show 255*(q+1)+r=(255*q+r)+255 by omega,Zcm,ih]
 conv=>rhs;rw[<-Nat.div_add_mod n 255]
 rw[h]
def ZiS:Nat->Nat->BitVec 8->BitVec 8->Nat
 |0,i,_,_=>i
 |f+1,i,x,a=>if x=a then i else ZiS f (i+1) (xt x) a
def lg(a:BitVec 8):Nat:=ZiS 255 0 1#8 a
theorem Z7H:∀n,n<256->n≠0->(lg (BitVec.ofNat 8 n)<255/\ex (lg (BitVec.ofNat 8 n))=BitVec.ofNat 8 n):=by decide+kernel
theorem Z3d(a:BitVec 8)(h:a≠0#8):ex (lg a)=a:=by
 have:=(Z7H a.toNat a.isLt (by intro e;apply h;apply BitVec.eq_of_toNat_eq;simpa using e)).2
 simpa using this
theorem Z7U:∀n,n<255->(lg (ex n)=n/\ex n≠0#8):=by decide+kernel
theorem Zjs(n:Nat):ex n≠0#8:=by
 rw[<-Z4l];exact(Z7U _ (Nat.mod_lt _ (by omega))).2
theorem Wd(a b:BitVec 8):gm a b=gm b a:=by
 by_cases ha:a=0#8
 ·subst ha;rw[Qm,Zj]
 by_cases hb:b=0#8
 ·subst hb;rw[Qm,Zj]
 rw[<-Z3d a ha,<-Z3d b hb,Z1P,Z1P,Nat.add_comm]
theorem Yl(a b c:BitVec 8):gm (gm a b) c=gm a (gm b c):=by
 by_cases ha:a=0#8
 ·subst ha;simp only[Qm]
 rw[<-Z3d a ha,Z8r,Ze4,Z8r]
theorem Jq(a b:BitVec 8):gm a b=0#8↔a=0#8∨b=0#8:=by
 constructor
 ·intro h
  by_cases ha:a=0#8
  ·exact Or.inl ha
  by_cases hb:b=0#8
  ·exact Or.inr hb
  rw[<-Z3d a ha,<-Z3d b hb,Z1P] at h
  exact absurd h (Zjs _)
 ·rintro(rfl|rfl)
  ·exact Qm _
  ·exact Zj _
def pw(a:BitVec 8):Nat->BitVec 8
 |0=>1#8
 |n+1=>gm (pw a n) a
theorem ZcS(m n:Nat):pw (ex m) n=ex (m*n):=by
 induction n with
 |zero=>rfl
 |succ n ih=>rw[pw,ih,Z1P,Nat.mul_succ]
theorem Zj4(a:BitVec 8)(h:a≠0#8):pw a 255=1#8:=by
 rw[<-Z3d a h,ZcS,<-Z4l,Nat.mul_mod_left];rfl
def iv(a:BitVec 8):BitVec 8:=pw a 254
theorem Z0X(a:BitVec 8)(h:a≠0#8):gm a (iv a)=1#8:=by
 rw[Wd,iv,<-Zj4 a h];rfl
def Z1g(c:Bool)(a:BitVec 16):BitVec 16:=if c then a else 0#16
def rs(k:Nat)(p:BitVec 16):BitVec 16:=p^^^Z1g (p.getLsbD (k+8)) (285#16<<<k)
theorem Zhv(a b:BitVec 8):gm a b=tk (b.getLsbD 0) a^^^gm (xt a) (b>>>1):=by
 simp only[gm,BitVec.getLsbD_ushiftRight,xts]
 simp[tk]
 ac_rfl
theorem Zjw(a:BitVec 8)(n:Nat):pw (gm a a) n=pw a (2*n):=by
 induction n with
 |zero=>rfl
 |succ n ih=>rw[pw,ih,show 2*(n+1)=2*n+1+1 from rfl,pw,pw,Yl]
def pwi(a:BitVec 8)(n:Int):BitVec 8:=if a=0#8 then(if n=0 then 1#8 else 0#8) else pw a (n%255).toNat
theorem Zj3(A P T:BitVec 8)(k:Nat)(h:gm P (pw A k)=T)(b:Bool)(hb:(k%2==1)=b):gm (if b then gm P A else P) (pw (gm A A) (k / 2))=T:=by
 rw[Zjw]
 cases b
 ·have e:2*(k / 2)=k:=by simp at hb;omega
  simp[e,h]
 ·have e:k=2*(k / 2)+1:=by simp at hb;omega
  rw[e,pw] at h
  simp only[if_true]
  rw[Yl,Wd A,h]
end
section
open Go.RowKit
variable{n:Nat}
@[irreducible] def nv (x:BitVec 8):Int:=(x.toNat:Int)
@[irreducible] def bv (a:Int):BitVec 8:=BitVec.ofInt 8 a
@[irreducible] def nw (x:BitVec 16):Int:=(x.toNat:Int)
theorem Yo(x:BitVec 8):nv x=(x.toNat:Int):=by unfold nv;rfl
theorem JO(x:BitVec 8):0<=nv x:=by rw[Yo];omega
theorem JN(x:BitVec 8):nv x<256:=by rw[Yo];have:=x.isLt;omega
theorem Z6D{a:Int}(h0:0<=a)(h1:a<256):nv (bv a)=a:=by
 rw[Yo];unfold bv
 rw[BitVec.toNat_ofInt];omega
theorem YS(x:BitVec 8):bv (nv x)=x:=by
 rw[Yo];unfold bv
 rw[BitVec.ofInt_natCast,BitVec.ofNat_toNat];simp
theorem Z6E{x y:BitVec 8}(h:nv x=nv y):x=y:=by rw[<-YS x,h,YS]
theorem Zh1(h:n<256):nv (BitVec.ofNat 8 n)=(n:Int):=by
 rw[Yo,BitVec.toNat_ofNat];omega
theorem Z5T(_h:n<256):bv (n:Int)=BitVec.ofNat 8 n:=by
 unfold bv;rw[BitVec.ofInt_natCast]
theorem ZcJ(u:UInt8):nv u.toBitVec=(u.toNat:Int):=by rw[Yo];rfl
theorem Jl(x y:BitVec 8):bits .xor .u8 (nv x) (nv y)=nv (x^^^y):=by
 have hx:=x.isLt
 have hy:=y.isLt
 rw[Yo,Yo,Yo,u8_xor_nat _ _ (by omega) (by omega),BitVec.toNat_xor]
theorem Z0b:nv 0#8=0:=by rw[Yo];rfl
theorem Z0r:nv 1#8=1:=by rw[Yo];rfl
theorem YV(x:BitVec 8):nv x=0↔x=0#8:=by
 constructor
 ·intro h;apply Z6E;rw[h,Z0b]
 ·rintro rfl;exact Z0b
theorem ZjC(x y:BitVec 8):(nv x==nv y)=(x==y):=by
 rw[Bool.eq_iff_iff];simp only[beq_iff_eq]
 exact⟨Z6E,fun h=>by rw[h]⟩
theorem ZeT(x:BitVec 8)(k:Nat):(bits .and .u8 (nv x / 2^k) 1==1)=x.getLsbD k:=by
 have hx:=x.isLt
 have e:nv x / 2^k=((x.toNat / 2^k:Nat):Int):=by rw[Yo,Int.natCast_ediv,Int.natCast_pow];rfl
 have h1:x.toNat / 2^k<256:=Nat.lt_of_le_of_lt (Nat.div_le_self _ _) (by omega)
 rw[e]
 have h2:=u8_and_nat (x.toNat / 2^k) 1 h1 (by omega)
 rw[show((1:Int))=((1:Nat):Int) from rfl,h2,Nat.and_one_is_mod,BitVec.getLsbD,Nat.testBit_eq_decide_div_mod_eq,Bool.eq_iff_iff]
 simp only[beq_iff_eq,decide_eq_true_eq]
 omega
theorem ZiZ(x:BitVec 8)(k:Nat):nv x / 2^k=nv (x>>>k):=by
 rw[Yo,Yo,BitVec.toNat_ushiftRight,Nat.shiftRight_eq_div_pow,Int.natCast_ediv,Int.natCast_pow];rfl
theorem Zg4(x:BitVec 8)(h:128<=nv x):bits .xor .u8 (nv x*2%256) 29=nv (xt x):=by
 have hx:=x.isLt
 rw[Yo] at h
 have e:nv x*(2:Int)%(256:Int)=nv (x<<<1):=by
  rw[Yo,Yo,BitVec.toNat_shiftLeft,Nat.shiftLeft_eq];omega
 have m:x.msb=true:=by rw[BitVec.msb_eq_decide];simp;omega
 rw[e,show(29:Int)=nv 29#8 from by rw[Yo];rfl,Jl,xt,m];rfl
theorem Zg5(x:BitVec 8)(h:nv x<128):nv x*2=nv (xt x):=by
 rw[Yo] at h
 have e:nv x*(2:Int)=nv (x<<<1):=by
  rw[Yo,Yo,BitVec.toNat_shiftLeft,Nat.shiftLeft_eq];omega
 have m:x.msb=false:=by rw[BitVec.msb_eq_decide];simp;omega
 rw[e,xt,m];simp
theorem Z5z(a b:Nat)(ha:a<9223372036854775808)(hb:b<9223372036854775808):bits .and .i64 (a:Int) (b:Int)=((a&&&b:Nat):Int):=by
 have h1:(BitVec.ofInt 64 (a:Int)).toNat=a:=by rw[BitVec.ofInt_natCast,BitVec.toNat_ofNat];omega
 have h2:(BitVec.ofInt 64 (b:Int)).toNat=b:=by rw[BitVec.ofInt_natCast,BitVec.toNat_ofNat];omega
 have hl:a&&&b<=a:=Nat.and_le_left
 show IntKind.i64.wrap ((BitVec.ofInt 64 (a:Int)&&&BitVec.ofInt 64 (b:Int)).toNat:Int)=_
 rw[BitVec.toNat_and,h1,h2]
 refine Zk2 _ ⟨?_,?_⟩<;>omega
theorem Zil(n:Int):(n.tmod 255<0->n%255=n.tmod 255+255)/\(0<=n.tmod 255->n%255=n.tmod 255)/\n.tmod 255<255/\ -255<n.tmod 255:=by
 have t1:=Int.tmod_lt_of_pos n (show(0:Int)<255 by omega)
 have t2:=Int.lt_tmod_of_pos n (show(0:Int)<255 by omega)
 have e:=Int.mul_tdiv_add_tmod n 255
 generalize n.tdiv 255=q at*
 generalize n.tmod 255=r at*
 omega
theorem Zhz(k:Nat)(h:k<255):(bits .and .i64 (k:Int) 1==1)=(k%2==1):=by
 have h2:=Z5z k 1 (by omega) (by omega)
 rw[show((1:Int))=((1:Nat):Int) from rfl,h2,Nat.and_one_is_mod,Bool.eq_iff_iff]
 simp only[beq_iff_eq]
 omega
end
section
open Go.RowKit
variable{a b:Int}{k:IntKind}
theorem Z7s(h:a=b):Value.int k a=.int k b:=by rw[h]
theorem ZeR(a:Int)(h0:0<=a)(h1:a<256)(w:World):
  Calls prog 273 #[.int .u8 a] w fun e w'=>e=.returned (.int .u8 (nv (xt (bv a))))/\w=w':=by
 obtain⟨A,rfl⟩:∃A,a=nv A:=⟨bv a,(Z6D h0 h1).symm⟩
 rw[YS]
 by_cases h:128<=nv A
 ·go_enter func273,ntmps273
  go_wp2
  go_ret
  exact⟨YP (Zg4 A h),rfl⟩
 ·go_enter func273,ntmps273
  go_wp2
  go_ret
  exact⟨YP (Zg5 A (by omega)),rfl⟩
theorem ZiX(A B P T:BitVec 8)(h:P^^^gm A B=T)(b:Bool)(hb:B.getLsbD 0=b):(if b then P^^^A else P)^^^gm (xt A) (B>>>1)=T:=by
 rw[<-h,Zhv A B,hb]
 cases b
 ·simp[tk]
 ·simp[tk,BitVec.xor_assoc]
theorem Z7g(a b:Int)(h0:0<=a)(h1:a<256)(h2:0<=b)(h3:b<256)(w:World):
  Calls prog 255 #[.int .u8 a,.int .u8 b] w fun e w'=>e=.returned (.int .u8 (nv (gm (bv a) (bv b))))/\w=w':=by
 obtain⟨A0,rfl⟩:∃A,a=nv A:=⟨bv a,(Z6D h0 h1).symm⟩
 obtain⟨B0,rfl⟩:∃A,b=nv A:=⟨bv b,(Z6D h2 h3).symm⟩
 rw[YS,YS]
 go_enter func255,ntmps255
 go_wp2
 go_loop [0,1,5] (fun a b p=>∃A B P:BitVec 8,a=.int .u8 (nv A)/\b=.int .u8 (nv B)/\p=.int .u8 (nv P)/\P^^^gm A B=gm A0 B0) (fun _ b _=>(intOf b).toNat)
 case atStart=>exact⟨A0,B0,0#8,rfl,rfl,by rw[Z0b],by simp⟩
 case round=>
  obtain⟨A,B,P,rfl,rfl,rfl,hrel⟩:=hrel
  have H:=Zka hrel;clear hrel
  have ha:=JO A
  have ha':=JN A
  have hb:=JO B
  have ae:=JN B
  by_cases hz:0<nv B
  ·cases hl:B.getLsbD 0
   all_goals
    have hk:=ZeT B 0
    rw[hl] at hk
    have HL:=Zka hl;clear hl
    simp only[Int.pow_zero,Int.ediv_one] at hk
    go_wp2_with (go_at_call 273;refine(ZeR _ (by omega) (by omega) _).mono ?_;rintro e w' ⟨rfl,rfl⟩)
    go_round
    case measure=>simp[intOf];omega
    case rel=>exact⟨xt A,B>>>1,_,by rw[YS],Z7s (ZiZ B 1),(by first|exact Z7s (Jl P A)|rfl),ZiX A B P _ H.out _ HL.out⟩
  ·go_wp2
   go_ret
   have hB:B=0#8:=(YV B).1 (by omega)
   exact⟨YP (by rw[<-H.out,hB,Zj];simp),rfl⟩
theorem ZhU(a n:Int)(h0:0<=a)(h1:a<256)(h2: -9223372036854775808<=n)(h3:n<=9223372036854775807)(w:World):
  Calls prog 272 #[.int .u8 a,.int .i64 n] w fun e w'=>e=.returned (.int .u8 (nv (pwi (bv a) n)))/\w=w':=by
 obtain⟨A0,rfl⟩:∃A,a=nv A:=⟨bv a,(Z6D h0 h1).symm⟩
 rw[YS]
 by_cases hA:nv A0=0
 ·have eA:A0=0#8:=(YV A0).1 hA
  subst eA
  rw[Z0b]
  by_cases hn:n=0
  ·subst hn
   go_enter func272,ntmps272
   go_wp2
   go_ret
   exact⟨YP (by simp[pwi,Z0r]),rfl⟩
  ·have aj:(n==0)=false:=by simpa using hn
   have HN:=Zka hn;clear hn
   go_enter func272,ntmps272
   go_wp2
   go_ret
   exact⟨YP (by simp[pwi,HN.out,Z0b]),rfl⟩
 ·have ah:(nv A0==0)=false:=by simpa using hA
  have hz:A0≠0#8:=fun e=>hA ((YV A0).2 e)
  have HT:Hid (pwi A0 n=pw A0 (n%255).toNat):=by unfold Hid;simp[pwi,hz]
  have HZ:=Zka hA;clear hA hz
  obtain⟨t1,t2,t3,t4⟩:=Zil n
  generalize hT:pwi A0 n=T at*
  have T1:=Zka t1
  have T2:=Zka t2
  clear t1 t2
  have HS:Hid (T=pw A0 (n%255).toNat):=HT
  clear HT hT
  by_cases ag:n.tmod 255<0
  all_goals
   go_enter func272,ntmps272
   go_wp2
   go_loop [0,1,5] (fun a n p=>∃ (A P:BitVec 8) (k:Nat),k<255/\a=.int .u8 (nv A)/\n=.int .i64 k/\p=.int .u8 (nv P)/\gm P (pw A k)=T) (fun _ n _=>(intOf n).toNat)
   case atStart=>exact⟨A0,1#8,(n%255).toNat,by omega,rfl,Z7s (by first|(rw[T1.out (by omega)];omega)|(rw[T2.out (by omega)];omega)),by rw[Z0r],by rw[Qp,HS.out]⟩
   case round=>
    obtain⟨A,P,k,hk,rfl,rfl,rfl,hrel⟩:=hrel
    have H:=Zka hrel;clear hrel
    have ha:=JO A
    have ha':=JN A
    have hb:=JO P
    have ai:=JN P
    by_cases hz:0<k
    ·cases hl:(k%2==1)
     all_goals
      have af:=Zhz k hk
      rw[hl] at af
      have HL:=Zka hl;clear hl
      go_wp2_with (go_at_call 255;refine(Z7g _ _ (by omega) (by omega) (by omega) (by omega) _).mono ?_;rintro e w' ⟨rfl,rfl⟩)
      go_round
      case measure=>simp[intOf];omega
      case rel=>exact⟨gm A A,_,k / 2,by omega,by rw[YS],by go_num,(by first|(rw[YS,YS];rfl)|rfl),Zj3 A P T k H.out _ HL.out⟩
    ·go_wp2
     go_ret
     have ae:k=0:=by omega
     exact⟨YP (by rw[<-H.out,ae,pw,Ye]),rfl⟩
def ivv(a:BitVec 8):BitVec 8:=if a=0#8 then 0#8 else iv a
theorem Z7c(a:Int)(h0:0<=a)(h1:a<256)(w:World):
  Calls prog 252 #[.int .u8 a] w fun e w'=>e=.returned (.tuple #[.int .u8 (nv (ivv (bv a))),.bool (bv a !=0#8)])/\w=w':=by
 obtain⟨A0,rfl⟩:∃A,a=nv A:=⟨bv a,(Z6D h0 h1).symm⟩
 rw[YS]
 by_cases hA:nv A0=0
 ·have eA:A0=0#8:=(YV A0).1 hA
  subst eA
  rw[Z0b]
  go_enter func252,ntmps252
  go_wp2
  go_ret2
  exact⟨by simp[ivv,Z0b],rfl⟩
 ·have ae:(nv A0==0)=false:=by simpa using hA
  have hz:A0≠0#8:=fun e=>hA ((YV A0).2 e)
  have HZ:=Zka hz;clear hA hz
  go_enter func252,ntmps252
  go_wp2_with (go_at_call 272;refine(ZhU _ _ (by omega) (by omega) (by omega) (by omega) _).mono ?_;rintro e w' ⟨rfl,rfl⟩)
  go_ret2
  exact⟨by simp[ivv,HZ.out,pwi,iv,YS],rfl⟩
end
section
open Go.RowKit
theorem Zeb(a:BitVec 8)(h:a≠0#8):iv a≠0#8:=by
 intro e
 have:=Z0X a h
 rw[e,Zj] at this
 exact absurd this (by decide)
def scl(t:BitVec 8)(a b:List UInt8):List UInt8:=List.zipWith (fun x y=>UInt8.ofBitVec (x.toBitVec^^^gm t y.toBitVec)) a b
theorem Z3x(t:BitVec 8)(a b:List UInt8)(h:a.length=b.length):(scl t a b).length=a.length:=by simp[scl,h]
def Z0q{α:Type}(k:Nat)(a a':List α):List α:=a'.take k++a.drop k
theorem Z0Z{α:Type}(k:Nat)(a a':List α)(h:a'.length=a.length):(Z0q k a a').length=a.length:=by
 simp[Z0q,h];omega
theorem Z7W{α:Type}(a a':List α):Z0q 0 a a'=a:=by simp[Z0q]
theorem Z9o{α:Type}(a a':List α)(k:Nat)(h:a'.length=a.length)(hk:a.length<=k):Z0q k a a'=a':=by
 unfold Z0q
 rw[ZjT (by omega),List.drop_of_length_le (by omega),Zk7]
theorem Z9q{α:Type}(k:Nat)(a a':List α)(h:a'.length=a.length)(hk:k<a'.length):(Z0q k a a').set k a'[k]=Z0q (k+1) a a':=by
 unfold Z0q
 apply List.ext_getElem?
 intro j
 rw[List.getElem?_set]
 have hl:k<(List.take k a'++List.drop k a).length:=by simp;omega
 by_cases e:k=j
 ·subst e
  rw[if_pos rfl,if_pos hl,ZjH (by simp;omega),List.getElem?_take,if_pos (by omega)]
  simp
 ·rw[if_neg e]
  by_cases hj:j<k
  ·rw[ZjH (by simp;omega),ZjH (by simp;omega),List.getElem?_take,List.getElem?_take,if_pos hj,if_pos (by omega)]
  ·rw[ZjP (by simp;omega),ZjP (by simp;omega),List.getElem?_drop,List.getElem?_drop]
   congr 1
   simp
   omega
theorem Z9p{α:Type}(k:Nat)(a a':List α)(h:a'.length=a.length)(hk:k<a.length):(Z0q k a a')[k]? =some a[k]:=by
 unfold Z0q
 rw[ZjP (by simp;omega),List.getElem?_drop]
 simp
 rw[show k+(k-min k a'.length)=k by omega]
 simp[hk]
theorem ZbB(t:BitVec 8)(a b:List UInt8)(k:Nat)(h1:k<a.length)(h2:k<b.length):(scl t a b)[k]'(by simp[scl];omega)=UInt8.ofBitVec (a[k].toBitVec^^^gm t b[k].toBitVec):=by
 simp[scl]
def Z2h(t:BitVec 8):List Value:=(List.range 256).map fun j=>.int .u8 (nv (gm t (BitVec.ofNat 8 j)))
theorem WO(t:BitVec 8):(Z2h t).length=256:=by simp[Z2h]
theorem Z4E(t:BitVec 8)(j:Nat)(h:j<256):(Z2h t)[j]'(by rw[WO];exact h)=.int .u8 (nv (gm t (BitVec.ofNat 8 j))):=by simp[Z2h]
def Z0J:List Value:=List.replicate 256 (.int .u8 0)
theorem YN:Z0J.length=256:=by unfold Z0J;exact List.length_replicate
theorem Zjy:Tryz.zeroCells327=Z0J.toArray:=by kernel_rfl
attribute [local irreducible] Z0J Z2h Z0q
theorem ZeF(s t:ByteArray)(c:Int)(w:World)(h:s.size=t.size)(hs:s.size<=9223372036854775807)(h0:0<=c)(h1:c<256):
  Calls prog 228 #[.string s,.string t,.int .u8 c] w fun e w'=>e=.returned (.tuple #[.string ⟨(scl (bv c) s.data.toList t.data.toList).toArray⟩,.bool true])/\Below w.heap.size w w':=by
 have cy:((s.size:Int) !=(t.size:Int))=false:=by simp[h]
 have hl:s.data.toList.length=s.size:=by simp
 have ah:t.data.toList.length=t.size:=by simp
 have HL:=Zka hl
 have HT:=Zka ah
 have H:=Zka h;clear h hl ah
 go_enter func228,ntmps228
 go_wp2
 go_loopw [17] (fun i wr=>∃k:Nat,k<=256/\i=.int .i64 k/\Row wr w.heap.size 327 (Z0q k Z0J (Z2h (bv c)))/\Below w.heap.size w wr) (fun i _=>256- (intOf i).toNat)
 case atStart=>exact⟨0,by omega,rfl,by rw[Z7W,Zjy];exact Row.new _ _ _,Zk9.alloc Zk8 _⟩
 case round=>
  obtain⟨k,hk,rfl,ae,au⟩:=hrel
  by_cases ah:k<256
  ·have aj:∃v,wr.cell? ⟨w.heap.size,k,none⟩=some v:=⟨_,ae.cell (Z9p k Z0J (Z2h (bv c)) (by rw[WO,YN]) (by rw[YN];exact ah))⟩
   obtain⟨v,aj⟩:=aj
   have ax:wr.frozen? ⟨w.heap.size,k,none⟩=false:=ae.free (by rw[Z0Z _ _ _ (by rw[WO,YN]),YN];exact ah)
   have al:=Zka ae
   clear ae
   go_wp2_with (go_at_call 255;refine(Z7g _ _ h0 h1 (by omega) (by omega) _).mono ?_;rintro e w' ⟨rfl,rfl⟩)
   go_roundw
   case measure=>simp[intOf];omega
   case rel=>
    refine⟨k+1,by omega,by go_num,?_,au.setCell Zk8 _⟩
    have hm:=al.out.set k (.int .u8 (nv (gm (bv c) (bv (k:Int)))))
    rw[Z5T ah,<-Z4E _ _ ah,Z9q k _ _ (by rw[WO,YN]) (by rw[WO];exact ah),Z4E _ _ ah,<-Z5T ah] at hm
    exact hm
  ·obtain rfl:k=256:=by omega
   rw[Z9o _ _ _ (by rw[WO,YN]) (by rw[YN];omega)] at ae
   have HP:=Zka ae
   have hB:=ae.lt
   clear ae
   go_wp2_with (refine Z25 rfl 9 75 5 _ rfl s rfl underlying9 underlying75 underlying5 ?_;intro g cap r w1 hg ae cu aq)
   obtain⟨S,hS⟩:∃S,S=s.data.toList:=⟨_,rfl⟩
   obtain⟨T,hT⟩:∃S,S=t.data.toList:=⟨_,rfl⟩
   obtain⟨S',bf⟩:∃S',S'=scl (bv c) S T:=⟨_,rfl⟩
   rw[<-hS] at ae
   have bj:S.length=s.size:=by rw[hS];exact HL.out
   have cn:T.length=s.size:=by rw[hT,H.out];exact HT.out
   have b9:S'.length=s.size:=by rw[bf,Z3x _ _ _ (by omega),bj]
   have HS:=Zka hS
   have bq:=Zka hT
   have bm:=Zka bf
   have ak:=Zka bj
   have ct:=Zka cn
   have af:=Zka b9
   have HR:=Zka ae
   have bu:=HP.out.after aq
   have cr:=Zka bu
   have bz:=au.trans (aq.mono (by omega))
   clear hS hT bf bj cn b9 ae bu au aq
   obtain⟨wo,rfl⟩:∃wo:World,wo=wr:=⟨_,rfl⟩
   go_loopw [31] (fun i wr=>∃k:Nat,k<=s.size/\i=.int .i64 k/\Row wr w.heap.size 327 (Z2h (bv c))/\Row wr g 5 (Z3 (Z0q k S S')++r)/\Below w.heap.size w wr) (fun i _=>s.size- (intOf i).toNat)
   case atStart=>exact⟨0,by omega,rfl,cr.out,by rw[Z7W];exact HR.out,bz⟩
   case round=>
    obtain⟨k,hk,rfl,ai,ae,au⟩:=hrel
    by_cases ah:k<s.size
    ·have ay:k<S.length:=by rw[ak.out];exact ah
     have az:k<T.length:=by rw[ct.out];exact ah
     have ag:k<t.size:=by rw[<-H.out];exact ah
     have aj:wr.cell? ⟨g,k,none⟩=some (.int .u8 (nv (S[k]'ay).toBitVec)):=by
      refine ae.cell ?_
      have hm:=Z0Z k S S' (by rw[ak.out,af.out])
      rw[ZjH (by rw[Zh];omega),YR _ _ (by omega),ZcJ]
      have:=Z9p k S S' (by rw[ak.out,af.out]) ay
      rw[ZjF (by omega)] at this
      simp only[ZjJ] at this
      rw[this]
     have ax:wr.frozen? ⟨g,k,none⟩=false:=ae.free (by
      have hm:=Z0Z k S S' (by rw[ak.out,af.out])
      simp[Zh,hm];omega)
     have bz:((t[k]'ag).toNat:Int)<256:=by have:=(t[k]'ag).toNat_lt;omega
     have cz:wr.cell? ⟨w.heap.size,(t[k]'ag).toNat,none⟩=some (.int .u8 (nv (gm (bv c) (T[k]'az).toBitVec))):=by
      refine ai.cell ?_
      have hx:(t[k]'ag).toNat<256:=by omega
      rw[ZjF (by rw[WO];exact hx),Z4E _ _ hx]
      have e:T[k]'az=t[k]'ag:=by simp only[bq.out];exact Xq t k ag _
      rw[e,show BitVec.ofNat 8 (t[k]'ag).toNat=(t[k]'ag).toBitVec from by
       apply BitVec.eq_of_toNat_eq;simp]
     have al:=Zka ae
     have aw:=Zka ai
     clear ae ai
     go_wp2_with fail
     go_still_tail 11,(by kernel_rfl)
     change wpList _ _ _ _ _ wr.drew
     go_wp2
     go_roundw
     case measure=>simp[intOf];omega
     case rel=>
      refine⟨k+1,by omega,by go_num,(aw.out.other (by show w.heap.size≠g;omega) _).drew,?_,(au.setCell (by show w.heap.size<=g;omega) _).drew⟩
      rw[Jl]
      have hm:=al.out.set k (.int .u8 (nv ((S[k]'ay).toBitVec^^^gm (bv c) (T[k]'az).toBitVec)))
      have cw:=Z0Z k S S' (by rw[ak.out,af.out])
      have bh:k<S'.length:=by rw[af.out];exact ah
      have bg:nv ((S[k]'ay).toBitVec^^^gm (bv c) (T[k]'az).toBitVec)=((S'[k]'bh).toNat:Int):=by
       rw[<-ZcJ]
       congr 1
       have e:=ZbB (bv c) S T k ay az
       have e2:S'[k]'bh=(scl (bv c) S T)[k]'(by simp[scl];omega):=by simp only[bm.out]
       rw[e2,e]
      rw[bg] at hm⊢
      rw[List.set_append_left _ _ (by rw[Zh];omega),Z34,Z9q k S S' (by rw[ak.out,af.out]) bh] at hm
      exact hm.drew
    ·obtain rfl:k=s.size:=by omega
     rw[Z9o S S' _ (by rw[ak.out,af.out]) (by rw[ak.out];omega)] at ae
     have cj:=Qv (P:=prog) wr 75 9 5 underlying75 underlying5 underlying9 ae 0 s.size cap S' af.out (by rw[List.drop_zero,<-af.out,List.take_left' (by rw[Zh])])
     clear ae ai
     go_wp2
     go_ret2
     exact⟨by rw[bm.out,HS.out,bq.out];rfl,au⟩
end
section
variable{A B M:Nat->Nat->BitVec 8}{a b:BitVec 8}{f:Nat->BitVec 8}{j k n r:Nat}{l:List (BitVec 8×BitVec 8)}{p:Nat->Nat}
def sm:Nat->(Nat->BitVec 8)->BitVec 8
 |0,_=>0#8
 |n+1,f=>sm n f^^^f n
theorem ZQ{g:Nat->BitVec 8}(h:∀j,j<n->f j=g j):sm n f=sm n g:=by
 induction n with
 |zero=>rfl
 |succ n ih=>rw[sm,sm,ih (fun j hj=>h j (by omega)),h n (by omega)]
theorem Z2O(n:Nat)(f g:Nat->BitVec 8):sm n (fun j=>f j^^^g j)=sm n f^^^sm n g:=by
 induction n with
 |zero=>simp[sm]
 |succ n ih=>simp only[sm,ih];ac_rfl
theorem Z4V(c:BitVec 8)(n:Nat)(f:Nat->BitVec 8):sm n (fun j=>gm c (f j))=gm c (sm n f):=by
 induction n with
 |zero=>rw[sm,sm,Zj]
 |succ n ih=>rw[sm,sm,ih,WK]
theorem Z2P(h:∀j,j<n->f j=0#8):sm n f=0#8:=by
 induction n with
 |zero=>rfl
 |succ n ih=>rw[sm,ih (fun j hj=>h j (by omega)),h n (by omega)];simp
theorem Xu(hk:k<n)(h:∀j,j<n->j≠k->f j=0#8):sm n f=f k:=by
 induction n with
 |zero=>omega
 |succ n ih=>
  rw[sm]
  by_cases e:k=n
  ·subst e
   rw[Z2P (fun j hj=>h j (by omega) (by omega))];simp
  ·rw[ih (by omega) (fun j hj ae=>h j (by omega) ae),h n (by omega) (fun e'=>e e'.symm)];simp
theorem ZbE(n m:Nat)(f:Nat->Nat->BitVec 8):sm n (fun i=>sm m (f i))=sm m (fun j=>sm n (fun i=>f i j)):=by
 induction n with
 |zero=>rw[sm];exact(Z2P fun j _=>rfl).symm
 |succ n ih=>
  rw[sm,ih,<-Z2O]
  exact ZQ fun j _=>rfl
theorem Z9Z{m:Nat}(ae:n<=m){f:Nat->BitVec 8}(h:∀j,n<=j->j<m->f j=0#8):sm m f=sm n f:=by
 induction m with
 |zero=>have:n=0:=by omega
        subst this;rfl
 |succ m ih=>
  by_cases e:n=m+1
  ·subst e;rfl
  ·rw[sm,ih (by omega) (fun j h1 h2=>h j h1 (by omega)),h m (by omega) (by omega)];simp
def Ker(r c:Nat)(M:Nat->Nat->BitVec 8)(x:Nat->BitVec 8):Prop:=∀i,i<r->sm c (fun j=>gm (M i j) (x j))=0#8
def QZ(M:Nat->Nat->BitVec 8)(t s:Nat)(a:BitVec 8):Nat->Nat->BitVec 8:=fun i j=>if i=t then M t j^^^gm a (M s j) else M i j
theorem Zi5(c:Nat)(u v x:Nat->BitVec 8)(a:BitVec 8):sm c (fun j=>gm (u j^^^gm a (v j)) (x j))=sm c (fun j=>gm (u j) (x j))^^^gm a (sm c (fun j=>gm (v j) (x j))):=by
 rw[<-Z4V,<-Z2O]
 exact ZQ fun j _=>by rw[XS,Yl]
theorem Z3i{c:Nat}{t s:Nat}(hs:s<r)(ht:t<r)(h:s≠t∨a≠1#8)(x:Nat->BitVec 8):Ker r c (QZ M t s a) x↔Ker r c M x:=by
 have hd:sm c (fun j=>gm (QZ M t s a t j) (x j))=sm c (fun j=>gm (M t j) (x j))^^^gm a (sm c (fun j=>gm (M s j) (x j))):=by
  rw[<-Zi5]
  exact ZQ fun j _=>by simp[QZ]
 have hn:∀i,i≠t->sm c (fun j=>gm (QZ M t s a i j) (x j))=sm c (fun j=>gm (M i j) (x j)):=fun i hi=>ZQ fun j _=>by simp[QZ,hi]
 constructor
 ·intro hk i hi
  by_cases e:i=t
  ·subst e
   have h1:=hk i hi
   rw[hd] at h1
   by_cases es:s=i
   ·subst es
    have ha:a≠1#8:=by rcases h with h|h;exact absurd rfl h;exact h
    have h2:gm (1#8^^^a) (sm c (fun j=>gm (M s j) (x j)))=0#8:=by rw[XS,Qp];exact h1
    rcases(Jq _ _).1 h2 with h3|h3
    ·exfalso;apply ha
     have:(1#8^^^a)^^^a=0#8^^^a:=by rw[h3]
     rw[BitVec.xor_assoc] at this;simpa using this.symm
    ·exact h3
   ·have h2:=hk s hs
    rw[hn s es] at h2
    rw[h2,Zj] at h1
    simpa using h1
  ·rw[<-hn i e];exact hk i hi
 ·intro hk i hi
  by_cases e:i=t
  ·subst e
   rw[hd,hk i hi,hk s hs,Zj];simp
  ·rw[hn i e];exact hk i hi
structure WS(r:Nat)(M:Nat->Nat->BitVec 8)(j k:Nat)(p:Nat->Nat):Prop where
 le:k<=r
 lt:∀t,t<k->p t<j
 inc:∀s t,s<t->t<k->p s<p t
 unit:∀t i,t<k->i<r->M i (p t)=if i=t then 1#8 else 0#8
 below:∀i c,k<=i->i<r->c<j->M i c=0#8
 left:∀t c,t<k->c<p t->M t c=0#8
theorem Zcy(r:Nat)(M:Nat->Nat->BitVec 8)(p:Nat->Nat):WS r M 0 0 p:=
 ⟨by omega,fun t h=>by omega,fun s t _ h=>by omega,fun t i h=>by omega,fun i c _ _ h=>by omega,fun t c h=>by omega⟩
theorem Ze5(g:WS r M j k p)(h:∀i,k<=i->i<r->M i j=0#8):WS r M (j+1) k p:=
 ⟨g.le,fun t ht=>by have:=g.lt t ht;omega,g.inc,g.unit,fun i c h1 h2 h3=>by
  by_cases e:c=j
  ·subst e;exact h i h1 h2
  ·exact g.below i c h1 h2 (by omega),g.left⟩
theorem Ze6{N M':Nat->Nat->BitVec 8}(g:WS r M j k p)(hk:k<r)
  (h1:∀i c,i<k->N i c=M i c) (h2:∀i c,k<=i->i<r->c<j->N i c=0#8) (h3:N k j=1#8)
  (h4:∀i c,i<r->M' i c=if i=k then N k c else N i c^^^gm (N i j) (N k c)):WS r M' (j+1) (k+1) (fun t=>if t=k then j else p t):=by
 refine⟨by omega,fun t ht=> ?_,fun s t hs ht=> ?_,fun t i ht hi=> ?_,fun i c ag af hc=> ?_,fun t c ht hc=> ?_⟩
 ·by_cases e:t=k
  ·simp[e]
  ·have:=g.lt t (by omega);simp[e];omega
 ·by_cases e:t=k
  ·have:=g.lt s (by omega)
   have e2:¬s=k:=by omega
   simp[e,e2];exact this
  ·have e2:¬s=k:=by omega
   simp[e,e2];exact g.inc s t hs (by omega)
 ·rw[h4 _ _ hi]
  by_cases e:t=k
  ·subst e
   simp only[if_true]
   by_cases e2:i=t
   ·simp[e2,h3]
   ·simp[e2,h3,Ye]
  ·have ae:t<k:=by omega
   have hp:=g.lt t ae
   simp only[e,if_false]
   by_cases e2:i=k
   ·subst e2
    simp only[if_true]
    rw[h2 i _ (by omega) hi hp,if_neg (by omega)]
   ·simp only[e2,if_false]
    rw[h2 k _ (by omega) hk hp,Zj]
    by_cases e3:i<k
    ·rw[h1 _ _ e3,g.unit t i ae hi];simp
    ·rw[h2 i _ (by omega) hi hp,if_neg (by omega)];simp
 ·rw[h4 _ _ af,if_neg (by omega)]
  by_cases e:c=j
  ·subst e
   rw[h3,Ye];simp
  ·rw[h2 i c (by omega) af (by omega),h2 k c (by omega) hk (by omega),Zj];simp
 ·by_cases e:t=k
  ·subst e
   simp only[if_true] at hc
   rw[h4 _ _ (by omega),if_pos rfl]
   exact h2 t c (by omega) (by omega) hc
  ·simp only[e,if_false] at hc
   have ae:t<k:=by omega
   have hp:=g.lt t ae
   rw[h4 _ _ (by omega),if_neg e,h1 _ _ ae,g.left t c ae hc,h2 k c (by omega) hk (by omega),Zj];simp
theorem Z99(h:∀s t,s<t->t<k->p s<p t):∀t,t<k->t<=p t:=by
 intro t
 induction t with
 |zero=>omega
 |succ t ih=>intro ht;have:=ih (by omega);have:=h t (t+1) (by omega) ht;omega
theorem Z9a(h:∀s t,s<t->t<k->p s<p t){s t:Nat}(ae:s<=t)(ht:t<k):p s<=p t:=by
 by_cases e:s=t
 ·rw[e];omega
 ·have:=h s t (by omega) ht;omega
theorem Z7M(g:WS r M j r p)(hj:j<=r):∀i c,i<r->c<r->M i c=if i=c then 1#8 else 0#8:=by
 have hp:∀d t,t<r->r=t+1+d->p t=t:=by
  intro d
  induction d with
  |zero=>intro t ht e;have:=g.lt t ht;have:=Z99 g.inc t ht;omega
  |succ d ih=>
   intro t ht e
   have h1:=ih (t+1) (by omega) (by omega)
   have h2:=g.inc t (t+1) (by omega) (by omega)
   have:=Z99 g.inc t ht;omega
 intro i c hi hc
 have h:=g.unit c i hc hi
 rwa[hp (r-c-1) c hc (by omega)] at h
theorem Z90(g:WS r M j k p)(hj:j<=n){c:Nat}(hc:c<j)(hn:∀t,t<k->p t≠c):
  ∃x:Nat->BitVec 8,x c=1#8/\(∀c',c<c'->x c'=0#8)/\Ker r n M x:=by
 let y:Nat->BitVec 8:=fun c'=>sm k (fun t=>if p t=c' then M t c else 0#8)
 have y0:∀c',c<=c'->y c'=0#8:=fun c' h=>Z2P fun t ht=>by
  by_cases e:p t=c'
  ·rw[if_pos e];exact g.left t c ht (by have:=hn t ht;omega)
  ·rw[if_neg e]
 refine⟨fun c'=>if c'=c then 1#8 else y c',by simp,fun c' h=>by show(if c'=c then 1#8 else y c')=0#8;rw[if_neg (by omega)];exact y0 c' (by omega),fun i hi=> ?_⟩
 have e1:sm n (fun c'=>gm (M i c') (if c'=c then 1#8 else y c'))=sm n (fun c'=>(if c'=c then M i c else 0#8)^^^gm (M i c') (y c')):=ZQ fun c' _=>by
  by_cases e:c'=c
  ·subst e;rw[if_pos rfl,if_pos rfl,y0 c' (by omega),Zj,Ye];simp
  ·rw[if_neg e,if_neg e];simp
 rw[e1,Z2O,Xu (k:=c) (by omega) (fun c' _ h=>by rw[if_neg h]),if_pos rfl]
 have e2:sm n (fun c'=>gm (M i c') (y c'))=sm k (fun t=>gm (M i (p t)) (M t c)):=by
  have:sm n (fun c'=>gm (M i c') (y c'))=sm n (fun c'=>sm k (fun t=>gm (M i c') (if p t=c' then M t c else 0#8))):=ZQ fun c' _=>(Z4V _ _ _).symm
  rw[this,ZbE]
  refine ZQ fun t ht=> ?_
  rw[Xu (k:=p t) (by have:=g.lt t ht;omega) (fun c' _ h=>by rw[if_neg (fun e=>h e.symm),Zj]),if_pos rfl]
 rw[e2]
 by_cases ae:i<k
 ·rw[Xu (k:=i) ae (fun t ht h=>by rw[g.unit t i ht hi,if_neg (fun e=>h e.symm),Qm]),g.unit i i ae hi,if_pos rfl,Qp];simp
 ·rw[Z2P (fun t ht=>by rw[g.unit t i ht hi,if_neg (by omega),Qm]),g.below i c (by omega) hi hc];simp
theorem Z7N(g:WS r M n k p)(hk:k<n):∃x:Nat->BitVec 8,(∃c,c<n/\x c≠0#8)/\Ker r n M x:=by
 have ae:∃c,c<n/\∀t,t<k->p t≠c:=by
  by_cases h:∃t,t<k/\p t≠t
  ·obtain⟨t,ht,hp⟩:=h
   have ah:∃t,t<k/\p t≠t/\∀s,s<t->p s=s:=by
    induction t using Nat.strongRecOn with
    |ind t ih=>
     by_cases h':∃s,s<t/\p s≠s
     ·obtain⟨s,hs,ai⟩:=h'
      exact ih s hs (by omega) ai
     ·refine⟨t,ht,hp,fun s hs=> ?_⟩
      by_cases e:p s=s
      ·exact e
      ·exact absurd ⟨s,hs,e⟩ h'
   obtain⟨t,ht,hp,af⟩:=ah
   have aj:=Z99 g.inc t ht
   refine⟨t,by omega,fun s hs=> ?_⟩
   by_cases e:s<t
   ·rw[af s e];omega
   ·have:=Z9a g.inc (s:=t) (t:=s) (by omega) hs;omega
  ·refine⟨k,hk,fun t ht=> ?_⟩
   by_cases e:p t=t
   ·rw[e];omega
   ·exact absurd ⟨t,ht,e⟩ h
 obtain⟨c,hc,hn⟩:=ae
 obtain⟨x,hx,_,ag⟩:=Z90 g (Nat.le_refl n) hc hn
 exact⟨x,⟨c,hc,by rw[hx];decide⟩,ag⟩
def idm(i k:Nat):BitVec 8:=if i=k then 1#8 else 0#8
def Ys(n:Nat)(A B:Nat->Nat->BitVec 8)(i k:Nat):BitVec 8:=sm n (fun j=>gm (A i j) (B j k))
def aug(n:Nat)(A:Nat->Nat->BitVec 8)(i j:Nat):BitVec 8:=if j<n then A i j else idm i (j-n)
def Inj(n:Nat)(A:Nat->Nat->BitVec 8):Prop:=∀x,Ker n n A x->∀c,c<n->x c=0#8
def Z1f(n:Nat)(A B:Nat->Nat->BitVec 8):Prop:=∀i k,i<n->k<n->Ys n A B i k=idm i k
theorem Za0(a b:Nat)(f:Nat->BitVec 8):sm (a+b) f=sm a f^^^sm b (fun j=>f (a+j)):=by
 induction b with
 |zero=>simp[sm]
 |succ b ih=>rw[<-Nat.add_assoc,sm,ih,sm];ac_rfl
theorem Z3q(n m:Nat)(A B C:Nat->Nat->BitVec 8)(i k:Nat):Ys m (Ys n A B) C i k=Ys n A (Ys m B C) i k:=by
 unfold Ys
 have e1:sm m (fun j=>gm (sm n (fun l=>gm (A i l) (B l j))) (C j k))=sm m (fun j=>sm n (fun l=>gm (gm (A i l) (B l j)) (C j k))):=ZQ fun j _=>by
  rw[Wd,<-Z4V];exact ZQ fun l _=>Wd _ _
 have e2:sm n (fun l=>gm (A i l) (sm m (fun j=>gm (B l j) (C j k))))=sm n (fun l=>sm m (fun j=>gm (gm (A i l) (B l j)) (C j k))):=ZQ fun l _=>by
  rw[<-Z4V];exact ZQ fun j _=>(Yl _ _ _).symm
 rw[e1,e2,ZbE]
theorem Z3T(n:Nat)(A:Nat->Nat->BitVec 8)(i k:Nat)(hi:i<n):Ys n idm A i k=A i k:=by
 unfold Ys
 rw[Xu (k:=i) hi (fun j _ h=>by unfold idm;rw[if_neg (fun e=>h e.symm),Qm])]
 unfold idm;rw[if_pos rfl,Qp]
theorem Z7f(n:Nat)(A:Nat->Nat->BitVec 8)(i k:Nat)(hk:k<n):Ys n A idm i k=A i k:=by
 unfold Ys
 rw[Xu (k:=k) hk (fun j _ h=>by unfold idm;rw[if_neg h,Zj])]
 unfold idm;rw[if_pos rfl,Ye]
theorem Z2e{A':Nat->Nat->BitVec 8}{i:Nat}(h:∀j,j<n->A i j=A' i j):Ys n A B i k=Ys n A' B i k:=ZQ fun j hj=>by rw[h j hj]
theorem WB(h:a^^^b=0#8):a=b:=by
 have:(a^^^b)^^^b=0#8^^^b:=by rw[h]
 rw[BitVec.xor_assoc] at this
 simpa using this
theorem Z40{C:Nat->Nat->BitVec 8}(hi:Inj n A)(h:∀i k,i<n->k<n->Ys n A B i k=Ys n A C i k):∀i k,i<n->k<n->B i k=C i k:=by
 intro i k ae hk
 apply WB
 refine hi (fun j=>B j k^^^C j k) (fun r hr=> ?_) i ae
 have e:sm n (fun j=>gm (A r j) (B j k^^^C j k))=Ys n A B r k^^^Ys n A C r k:=by
  unfold Ys;rw[<-Z2O];exact ZQ fun j _=>WK _ _ _
 rw[e,h r k hr hk];simp
theorem Z9j(hi:Inj n A)(h:Z1f n A B):Z1f n B A:=by
 have:=Z40 (B:=Ys n B A) (C:=idm) hi (fun i k ae hk=>by
  rw[<-Z3q,Z7f n A i k hk]
  rw[Z2e (A':=idm) (fun j hj=>h i j ae hj),Z3T n A i k ae])
 exact this
theorem Z5C{x:Nat->BitVec 8}:Ker n (n+n) (aug n A) (fun j=>if j<n then x j else 0#8)↔Ker n n A x:=by
 have e:∀i,sm (n+n) (fun j=>gm (aug n A i j) (if j<n then x j else 0#8))=sm n (fun j=>gm (A i j) (x j)):=by
  intro i
  rw[Z9Z (n:=n) (by omega) (fun j h _=>by rw[if_neg (by omega),Zj])]
  exact ZQ fun j hj=>by simp[aug,hj]
 constructor
 ·intro h i hi;rw[<-e];exact h i hi
 ·intro h i hi;rw[e];exact h i hi
theorem Z91(g:WS n M j n p)(hj:j<=n)(hk:∀x,Ker n (n+n) M x↔Ker n (n+n) (aug n A) x):
  Inj n A/\Z1f n A (fun i k=>M i (n+k)):=by
 have hf:=Z7M g hj
 have hid:∀i (x:Nat->BitVec 8),i<n->sm n (fun c=>gm (M i c) (x c))=x i:=fun i x hi=>by
  rw[Xu (k:=i) hi (fun c hc h=>by rw[hf i c hi hc,if_neg (fun e=>h e.symm),Qm]),hf i i hi hi,if_pos rfl,Qp]
 constructor
 ·intro x hx c hc
  have h1:=(hk _).2 (Z5C.2 hx) c hc
  rw[Z9Z (n:=n) (by omega) (fun j h _=>by rw[if_neg (by omega),Zj])] at h1
  have h2:sm n (fun c'=>gm (M c c') (if c'<n then x c' else 0#8))=sm n (fun c'=>gm (M c c') (x c')):=ZQ fun j hj=>by rw[if_pos hj]
  rw[h2,hid c x hc] at h1
  exact h1
 ·intro i k hi ae
  have nl:∀c,¬n+c<n:=fun c=>by omega
  let x:Nat->BitVec 8:=fun c=>if c<n then M c (n+k) else idm k (c-n)
  have h1:Ker n (n+n) M x:=by
   intro r hr
   rw[Za0]
   have a1:sm n (fun c=>gm (M r c) (x c))=M r (n+k):=by
    rw[ZQ (g:=fun c=>gm (M r c) (M c (n+k))) (fun c hc=>by simp[x,hc])]
    exact hid r (fun c=>M c (n+k)) hr
   have a2:sm n (fun c=>gm (M r (n+c)) (x (n+c)))=M r (n+k):=by
    rw[Xu (k:=k) ae (fun c _ h=>by simp[x,nl,idm,h.symm,Zj])]
    simp[x,nl,idm,Ye]
   rw[a1,a2];simp
  have h2:=(hk x).1 h1 i hi
  rw[Za0] at h2
  have b1:sm n (fun c=>gm (aug n A i c) (x c))=Ys n A (fun i k=>M i (n+k)) i k:=ZQ fun c hc=>by simp[aug,x,hc]
  have b2:sm n (fun c=>gm (aug n A i (n+c)) (x (n+c)))=idm i k:=by
   rw[Xu (k:=k) ae (fun c _ h=>by simp[x,nl,idm,h.symm,Zj])]
   simp[aug,x,nl,idm,Ye]
  rw[b1,b2] at h2
  exact WB h2
theorem Z8j(g:WS n M n k p)(af:k<n)(hk:∀x,Ker n (n+n) M x↔Ker n (n+n) (aug n A) x):¬Inj n A:=by
 intro hi
 obtain⟨x,⟨c,hc,hx⟩,hker⟩:=Z7N g af
 apply hx
 refine hi x (Z5C.1 ((hk _).1 fun i ae=> ?_)) c hc
 rw[Z9Z (n:=n) (by omega) (fun j h _=>by rw[if_neg (by omega),Zj])]
 rw[ZQ (g:=fun c=>gm (M i c) (x c)) (fun c hc=>by rw[if_pos hc])]
 exact hker i ae
def ls(f:BitVec 8->BitVec 8->BitVec 8):List (BitVec 8×BitVec 8)->BitVec 8
 |[]=>0#8
 |p::l=>f p.1 p.2^^^ls f l
theorem Z66{f g:BitVec 8->BitVec 8->BitVec 8}(h:∀p,p∈l->f p.1 p.2=g p.1 p.2):ls f l=ls g l:=by
 induction l with
 |nil=>rfl
 |cons p l ih=>rw[ls,ls,h p (by simp),ih (fun q hq=>h q (by simp[hq]))]
theorem Zek(f g:BitVec 8->BitVec 8->BitVec 8)(l:List (BitVec 8×BitVec 8)):ls (fun a b=>f a b^^^g a b) l=ls f l^^^ls g l:=by
 induction l with
 |nil=>simp[ls]
 |cons p l ih=>simp only[ls,ih];ac_rfl
theorem Zej(c:BitVec 8)(f:BitVec 8->BitVec 8->BitVec 8)(l:List (BitVec 8×BitVec 8)):ls (fun a b=>gm c (f a b)) l=gm c (ls f l):=by
 induction l with
 |nil=>simp[ls,Zj]
 |cons p l ih=>simp only[ls,ih,WK]
theorem Zbw{f:BitVec 8->BitVec 8->BitVec 8}(h:∀p,p∈l->f p.1 p.2=0#8):ls f l=0#8:=by
 rw[Z66 (g:=fun _ _=>0#8) h]
 induction l with
 |nil=>rfl
 |cons p l ih=>rw[ls,ih (fun q hq=>h q (by simp[hq]))];simp
theorem ZiT(f:BitVec 8->BitVec 8->BitVec 8)(g:BitVec 8×BitVec 8->BitVec 8×BitVec 8)(l:List (BitVec 8×BitVec 8)):ls f (l.map g)=ls (fun a b=>f (g (a,b)).1 (g (a,b)).2) l:=by
 induction l with
 |nil=>rfl
 |cons p l ih=>rw[ZjY,ls,ls,ih]
theorem ZhB(a:BitVec 8)(h:a≠0#8):iv a≠0#8:=by
 intro e
 have:=Z0X a h
 rw[e,Zj] at this
 exact absurd this (by decide)
theorem Z1e(h:a≠b):a^^^b≠0#8:=fun e=>h (WB e)
theorem ZcT(z y y0:BitVec 8)(h:z≠y):gm (z^^^y0) (iv (z^^^y))=1#8^^^gm (y0^^^y) (iv (z^^^y)):=by
 have e:z^^^y0=(z^^^y)^^^(y0^^^y):=by
  have:(z^^^y)^^^(y0^^^y)=(z^^^y0)^^^(y^^^y):=by ac_rfl
  rw[this];simp
 rw[e,XS,Z0X _ (Z1e h)]
theorem Zgn(z z0 y:BitVec 8)(h:z≠y)(h0:z0≠y):iv (z^^^y)^^^iv (z0^^^y)=gm (z^^^z0) (gm (iv (z0^^^y)) (iv (z^^^y))):=by
 have e:z^^^z0=(z^^^y)^^^(z0^^^y):=by
  have:(z^^^y)^^^(z0^^^y)=(z^^^z0)^^^(y^^^y):=by ac_rfl
  rw[this];simp
 rw[e,XS]
 rw[Wd (iv (z0^^^y)) (iv (z^^^y)),<-Yl,Z0X _ (Z1e h),Qp,Wd (iv (z^^^y)) (iv (z0^^^y)),<-Yl,Z0X _ (Z1e h0),Qp,BitVec.xor_comm]
theorem ZiM:∀ (n:Nat) (L:List (BitVec 8×BitVec 8)) (Z:List (BitVec 8)),L.length=n->n<=Z.length->(L.map (·.1)).Nodup->Z.Nodup->(∀z,z∈Z->∀p,p∈L->z≠p.1)->
  (∀z,z∈Z->ls (fun y x=>gm x (iv (z^^^y))) L=0#8)->∀p,p∈L->p.2=0#8:=by
 intro n
 induction n with
 |zero=>intro L Z hl _ _ _ _ _ p hp;have:L=[]:=List.length_eq_zero_iff.1 hl;subst this;simp at hp
 |succ n ih=>
  intro L Z hl hz hL hZ ag heq
  match L,hl,Z,hz with
  |(y0,x0)::L,hl,z0::Z,hz=>
   have au:L.length=n:=by simpa using hl
   have aw:n<=Z.length:=by simpa using hz
   have hy:∀p,p∈L->y0≠p.1:=by
    intro p hp e
    have h:=(List.nodup_cons.1 (by simpa using hL:(y0::L.map (·.1)).Nodup)).1
    exact h (by rw[e];exact List.mem_map_of_mem hp)
   have al:(L.map (·.1)).Nodup:=(List.nodup_cons.1 (by simpa using hL:(y0::L.map (·.1)).Nodup)).2
   have ak:=List.nodup_cons.1 hZ
   -- each equation, times (z + y0)
   have hmul:∀z,z∈z0::Z->(x0^^^ls (fun _ x=>x) L)^^^ls (fun y x=>gm (gm x (y0^^^y)) (iv (z^^^y))) L=0#8:=by
    intro z ae
    have h:=heq z ae
    have ax:z≠y0:=ag z ae (y0,x0) (by simp)
    have h1:gm (z^^^y0) (ls (fun y x=>gm x (iv (z^^^y))) ((y0,x0)::L))=0#8:=by rw[h,Zj]
    rw[ls,WK,<-Zej] at h1
    have e1:gm (z^^^y0) (gm x0 (iv (z^^^y0)))=x0:=by
     rw[Wd x0,<-Yl,Z0X _ (Z1e ax),Qp]
    have e2:ls (fun y x=>gm (z^^^y0) (gm x (iv (z^^^y)))) L=ls (fun y x=>x^^^gm (gm x (y0^^^y)) (iv (z^^^y))) L:=Z66 fun p hp=>by
     have aj:=ag z ae p (by simp[hp])
     rw[Wd p.2 (iv _),<-Yl,ZcT z p.1 y0 aj,XS,Qp,Wd (gm (y0^^^p.1) (iv (z^^^p.1))) p.2,Yl]
    simp only at h1
    rw[e1,e2,Zek] at h1
    rw[<-h1];ac_rfl
   have h0:=hmul z0 (by simp)
   -- the equation of z0 taken away, divided by (z + z0)
   have ah:∀z,z∈Z->ls (fun y x=>gm x (iv (z^^^y))) (L.map fun p=>(p.1,gm (gm p.2 (y0^^^p.1)) (iv (z0^^^p.1))))=0#8:=by
    intro z ae
    have h:=hmul z (by simp[ae])
    have ay:z≠z0:=fun e=>ak.1 (e▸ae)
    have h2:ls (fun y x=>gm (gm x (y0^^^y)) (iv (z^^^y))) L=ls (fun y x=>gm (gm x (y0^^^y)) (iv (z0^^^y))) L:=by
     have a:=WB h
     have b:=WB h0
     rw[<-a,<-b]
    have h3:ls (fun y x=>gm (gm x (y0^^^y)) (iv (z^^^y))^^^gm (gm x (y0^^^y)) (iv (z0^^^y))) L=0#8:=by
     rw[Zek,h2];simp
    have h4:ls (fun y x=>gm (z^^^z0) (gm (gm (gm x (y0^^^y)) (iv (z0^^^y))) (iv (z^^^y)))) L=0#8:=by
     rw[<-h3]
     refine Z66 fun p hp=> ?_
     have aj:=ag z (by simp[ae]) p (by simp[hp])
     have ai:=ag z0 (by simp) p (by simp[hp])
     rw[<-WK,Zgn z z0 p.1 aj ai,Yl (gm p.2 (y0^^^p.1)),<-Yl (z^^^z0),Wd (z^^^z0) (gm p.2 (y0^^^p.1)),Yl]
    rw[Zej] at h4
    rcases(Jq _ _).1 h4 with h5|h5
    ·exact absurd h5 (Z1e ay)
    ·rw[ZiT];exact h5
   have aq:=ih (L.map fun p=>(p.1,gm (gm p.2 (y0^^^p.1)) (iv (z0^^^p.1)))) Z (by simp[au]) aw (by simpa[List.map_map,Function.comp_def] using al) ak.2 (by
    intro z ae p hp
    obtain⟨q,hq,rfl⟩:=List.mem_map.1 hp
    exact ag z (by simp[ae]) q (by simp[hq])) ah
   have af:∀p,p∈L->p.2=0#8:=by
    intro p hp
    have h:=aq _ (List.mem_map_of_mem hp)
    simp only at h
    rcases(Jq _ _).1 h with h|h
    ·rcases(Jq _ _).1 h with h|h
     ·exact h
     ·exact absurd h (Z1e (hy p hp))
    ·exact absurd h (ZhB _ (Z1e (ag z0 (by simp) p (by simp[hp]))))
   intro p hp
   rcases ZjV.1 hp with rfl|hp
   ·rw[Zbw (fun p hp=>af p hp),Zbw (fun p hp=>by rw[af p hp,Qm,Qm])] at h0
    simpa using h0
   ·exact af p hp
def ZfK(a:BitVec 8):BitVec 8:=if a=0#8 then 0#8 else iv a
def cau(k i j:Nat):BitVec 8:=ZfK (BitVec.ofNat 8 (k+i)^^^BitVec.ofNat 8 j)
def gen(k i j:Nat):BitVec 8:=if i<k then idm i j else cau k (i-k) j
theorem Z1r{a b:Nat}(ha:a<256)(hb:b<256)(h:BitVec.ofNat 8 a=BitVec.ofNat 8 b):a=b:=by
 have:=congrArg BitVec.toNat h
 simp only[BitVec.toNat_ofNat] at this
 omega
theorem Zic(n:Nat)(f:Nat->BitVec 8)(g:BitVec 8->BitVec 8->BitVec 8)(x:Nat->BitVec 8)(q:Nat->Bool)(h1:∀j,j<n->q j=false->f j=0#8)(h2:∀j,j<n->q j=true->f j=g (BitVec.ofNat 8 j) (x j)):
  sm n f=ls g (((List.range n).filter q).map fun j=>(BitVec.ofNat 8 j,x j)):=by
 induction n with
 |zero=>rfl
 |succ n ih=>
  have ae:∀a b,ls g (a++b)=ls g a^^^ls g b:=by
   intro a b
   induction a with
   |nil=>simp[ls]
   |cons p a iha=>rw[List.cons_append,ls,ls,iha];ac_rfl
  rw[sm,ih (fun j hj=>h1 j (by omega)) (fun j hj=>h2 j (by omega)),List.range_succ,List.filter_append,ZjZ,ae]
  congr 1
  cases hq:q n with
  |false=>rw[h1 n (by omega) hq];simp[hq,ls]
  |true=>rw[h2 n (by omega) hq];simp[hq,ls]
theorem Z1i{α:Type}(p:α->Bool)(l:List α):(l.filter p).length+(l.filter fun a=> !p a).length=l.length:=by
 induction l with
 |nil=>rfl
 |cons a l ih=>cases h:p a<;>simp[h]<;>omega
theorem Z2f{α:Type}[DecidableEq α]:∀ (l l':List α),l.Nodup->(∀a,a∈l->a∈l')->l.length<=l'.length
 |[],_,_,_=>by simp
 |a::l,l',hn,hs=>by
  have h1:=List.nodup_cons.1 hn
  have ha:=hs a (by simp)
  have h2:=Z2f l (l'.erase a) h1.2 (fun b hb=>by
   have ae:b≠a:=fun e=>h1.1 (e▸hb)
   exact(List.mem_erase_of_ne ae).2 (hs b (by simp[hb])))
  rw[List.length_erase_of_mem ha] at h2
  have:=List.length_pos_of_mem ha
  simp only[ZjM];omega
theorem ZhA(k m:Nat)(aq:k+m<=256)(R:List Nat)(hl:R.length=k)(hn:R.Nodup)(hr:∀a,a∈R->a<k+m):Inj k (fun i j=>gen k (R.getD i 0) j):=by
 intro x hx
 have ah:∀a,a∈R->sm k (fun j=>gm (gen k a j) (x j))=0#8:=by
  intro a ha
  obtain⟨i,hi,rfl⟩:=List.getElem_of_mem ha
  have:=hx i (by omega)
  rw[show R[i]=R.getD i 0 from by simp[hi]]
  exact this
 have ag:∀a,a∈R->a<k->x a=0#8:=by
  intro a ha ai
  have h:=ah a ha
  rw[Xu (k:=a) ai (fun j _ ak=>by unfold gen idm;rw[if_pos ai,if_neg (fun e=>ak e.symm),Qm])] at h
  unfold gen idm at h
  rw[if_pos ai,if_pos rfl,Qp] at h
  exact h
 let q:Nat->Bool:=fun j=> !(R.contains j)
 let L:=((List.range k).filter q).map fun j=>(BitVec.ofNat 8 j,x j)
 let H:=R.filter fun a=> !(decide (a<k))
 let Z:=H.map fun a=>BitVec.ofNat 8 a
 have hH:∀a,a∈H->a∈R/\k<=a:=by
  intro a ha
  have:=List.mem_filter.1 ha
  simp at this
  exact this
 have hq:∀j,q j=true↔j∉R:=by intro j;simp[q]
 have hlen:L.length<=Z.length:=by
  have h1:=Z1i (fun a=>decide (a<k)) R
  have h2:=Z1i (fun j=>R.contains j) (List.range k)
  have h3:(R.filter fun a=>decide (a<k)).length<=((List.range k).filter fun j=>R.contains j).length:=by
   refine Z2f _ _ (List.Nodup.sublist List.filter_sublist hn) (fun a ha=> ?_)
   have:=List.mem_filter.1 ha
   simp at this
   exact List.mem_filter.2 ⟨by simp;exact this.2,by simp;exact this.1⟩
  have h4:L.length=((List.range k).filter q).length:=by simp[L]
  have h5:Z.length=(R.filter fun a=> !(decide (a<k))).length:=by simp[Z,H]
  have h6:((List.range k).filter q).length=((List.range k).filter fun j=> !(R.contains j)).length:=rfl
  simp only[List.length_range] at h2
  omega
 have af:L.map (·.1)=((List.range k).filter q).map fun j=>BitVec.ofNat 8 j:=by simp[L,List.map_map,Function.comp_def]
 have ae:∀ (l:List Nat),l.Nodup->(∀a,a∈l->a<256)->(l.map fun j=>BitVec.ofNat 8 j).Nodup:=by
  intro l
  induction l with
  |nil=>intro _ _;simp
  |cons a l ih=>
   intro h1 h2
   have h3:=List.nodup_cons.1 h1
   rw[ZjY]
   refine List.nodup_cons.2 ⟨fun hm=> ?_,ih h3.2 (fun b hb=>h2 b (by simp[hb]))⟩
   obtain⟨b,hb,e⟩:=List.mem_map.1 hm
   have:=Z1r (h2 b (by simp[hb])) (h2 a (by simp)) e
   exact h3.1 (this▸hb)
 have aj:=ZiM L.length L Z rfl hlen (by
  rw[af]
  exact ae _ (List.Nodup.sublist List.filter_sublist List.nodup_range) (fun a ha=>by have:=(List.mem_filter.1 ha).1;simp at this;omega)) (ae _ (List.Nodup.sublist List.filter_sublist hn) (fun a ha=>by have:=hr a (hH a ha).1;omega)) (by
  intro z hz p hp e
  obtain⟨a,ha,rfl⟩:=List.mem_map.1 hz
  obtain⟨j,hj,rfl⟩:=List.mem_map.1 hp
  have h1:=hH a ha
  have h2:=hr a h1.1
  have h3:=(List.mem_filter.1 hj).1
  simp at h3
  have:=Z1r (by omega) (by omega) e
  omega) (by
  intro z hz
  obtain⟨a,ha,rfl⟩:=List.mem_map.1 hz
  have h1:=hH a ha
  have h2:=hr a h1.1
  rw[<-ah a h1.1]
  refine(Zic k _ _ x q (fun j hj al=> ?_) (fun j hj _=> ?_)).symm
  ·have:j∈R:=by
    by_cases hm:j∈R
    ·exact hm
    ·have:=(hq j).2 hm;rw[al] at this;exact absurd this (by decide)
   rw[ag j this hj,Zj]
  ·unfold gen cau ZfK
   rw[if_neg (by omega),show k+(a-k)=a from by omega,if_neg (Z1e (fun e=>by have:=Z1r (by omega) (by omega) e;omega)),Wd])
 intro c hc
 by_cases hm:c∈R
 ·exact ag c hm hc
 ·exact aj (BitVec.ofNat 8 c,x c) (List.mem_map.2 ⟨c,List.mem_filter.2 ⟨by simp;exact hc,(hq c).2 hm⟩,rfl⟩)
end
section
open Go.RowKit
variable{c n r:Nat}{w:World}
def Za(l:List (BitVec 8)):List Value:=l.map fun x=>.int .u8 (nv x)
theorem Qg(l:List (BitVec 8)):(Za l).length=l.length:=by simp[Za]
theorem X8(l:List (BitVec 8))(j:Nat)(h:j<l.length):(Za l)[j]? =some (.int .u8 (nv l[j])):=by simp[Za,h]
def tab(n:Nat)(f:Nat->BitVec 8):List (BitVec 8):=(List.range n).map f
theorem Zk(n:Nat)(f:Nat->BitVec 8):(tab n f).length=n:=by simp[tab]
theorem Yn(n:Nat)(f:Nat->BitVec 8)(j:Nat)(h:j<n):(tab n f)[j]'(by rw[Zk];exact h)=f j:=by simp[tab]
theorem Wc{f g:Nat->BitVec 8}(h:∀j,j<n->f j=g j):tab n f=tab n g:=by
 unfold tab;exact List.map_congr_left fun j hj=>h j (List.mem_range.1 hj)
theorem Z7p(f:Nat->BitVec 8)(k:Nat)(x:BitVec 8):(tab n f).set k x=tab n (fun j=>if j=k then x else f j):=by
 apply List.ext_getElem
 ·simp[Zk]
 ·intro i h1 h2
  have hi:i<n:=by rw[Zk] at h2;exact h2
  rw[List.getElem_set,Yn _ _ _ hi,Yn _ _ _ hi]
  by_cases e:k=i
  ·rw[if_pos e,if_pos e.symm]
  ·rw[if_neg e,if_neg (fun h=>e h.symm)]
theorem Z3r(l:List (BitVec 8))(k:Nat)(x:BitVec 8):(Za l).set k (.int .u8 (nv x))=Za (l.set k x):=by simp[Za,List.map_set]
theorem ZgJ(n:Nat):tab n (fun _=>0#8)=List.replicate n 0#8:=by
 simp[tab,List.map_const']
theorem ZaS(n:Nat):Za (List.replicate n 0#8)=Z3 (List.replicate n 0):=by
 simp[Za,Z3,Z0b]
theorem QD{p:Addr}{v:Value}(h:w.cell? p=some v):p.block<w.heap.size:=by
 unfold World.cell? at h
 by_cases h9:p.block<w.heap.size
 ·exact h9
 ·rw[Array.getElem?_eq_none (by omega)] at h;cases h
theorem Z55{w':World}{Ls:List Nat}(hf:Fr Ls w w'){g o:Nat}{v:Value}(hg:g∉Ls)(hc:w.cell? ⟨g,o,none⟩=some v):w'.cell? ⟨g,o,none⟩=some v:=by
 have hl:=QD hc
 have hk:=hf.block g hl hg
 unfold World.cell? at hc⊢
 simp only at hc⊢
 rw[hk];exact hc
structure Mt where
 rows:Int
 cols:Int
 cells:List (BitVec 8)
def Mt.val(m:Mt)(a:Option Addr)(cap:Nat):Value:=.agg #[.int .i64 m.rows,.int .i64 m.cols,.slice a m.cells.length cap]
def Mt.right(m:Mt):Bool:=decide (1<=m.rows/\m.rows<=255/\1<=m.cols/\m.cols<=255/\(m.cells.length:Int)=m.rows*m.cols)
def mat(r c:Nat)(M:Nat->Nat->BitVec 8):Mt:=⟨r,c,tab (r*c) (fun j=>M (j / c) (j%c))⟩
theorem Jr(i j:Nat)(h:j<c):(i*c+j) / c=i:=by
 rw[Nat.mul_comm,Nat.mul_add_div (by omega),Nat.div_eq_of_lt h];omega
theorem Js(i j:Nat)(h:j<c):(i*c+j)%c=j:=by
 rw[Nat.mul_comm,Nat.mul_add_mod,Nat.mod_eq_of_lt h]
theorem Z6A{i j:Nat}(hi:i<r)(hj:j<c):i*c+j<r*c:=by
 have:(i+1)*c<=r*c:=Nat.mul_le_mul_right c hi
 rw[Nat.add_mul] at this;omega
theorem Z1Z{k:Nat}(h:k<r*c):k / c<r:=Nat.div_lt_of_lt_mul (by rw[Nat.mul_comm];exact h)
theorem Zeo{M N:Nat->Nat->BitVec 8}(h:∀i j,i<r->j<c->M i j=N i j):mat r c M=mat r c N:=by
 unfold mat
 congr 1
 refine Wc fun j hj=>h _ _ (Z1Z hj) (Nat.mod_lt _ ?_)
 rcases Nat.eq_zero_or_pos c with rfl|hc
 ·simp at hj
 ·exact hc
section
variable{w:World}{g N i:Nat}{f:Nat->BitVec 8}{sp:List Value}
theorem QV(h:Row w g 5 (Za (tab N f)++sp))(hi:i<N):w.cell? ⟨g,i,none⟩=some (.int .u8 (nv (f i))):=
 h.cell (by rw[ZjH (by rw[Qg,Zk];exact hi),X8 _ _ (by rw[Zk];exact hi),Yn _ _ _ hi])
theorem Z4W(h:ZC w g 5 (Za (tab N f)))(hi:i<N):w.cell? ⟨g,i,none⟩=some (.int .u8 (nv (f i))):=
 h.row.cell (by rw[X8 _ _ (by rw[Zk];exact hi),Yn _ _ _ hi])
theorem Z4X(h:ZC w g 5 (Za (tab N f)))(hi:i<N):w.frozen? ⟨g,i,none⟩=false:=
 h.row.free (by rw[Qg,Zk];exact hi)
theorem Z3E(h:ZC w g 5 (Za (tab N f)))(x:BitVec 8):ZC (w.setCell ⟨g,i,none⟩ (.int .u8 (nv x))) g 5 (Za (tab N (fun j=>if j=i then x else f j))):=by
 have hm:=h.set i (.int .u8 (nv x))
 rw[Z3r,Z7p] at hm
 exact hm
end
end
section
open Go.RowKit
theorem Z4t(n:Int)(w:World):
  Calls prog 253 #[.int .i64 n] w fun e w'=>e=.returned (.bool (decide (1<=n/\n<=255)))/\w=w':=by
 by_cases h1:1<=n
 ·by_cases h2:n<=255
  ·go_enter func253,ntmps253
   go_wp2
   go_ret
   exact⟨by simp[h1,h2],rfl⟩
  ·go_enter func253,ntmps253
   go_wp2
   go_ret
   exact⟨by simp;omega,rfl⟩
 ·go_enter func253,ntmps253
  go_wp2
  go_ret
  exact⟨by simp;omega,rfl⟩
theorem Zez(m:Mt)(a:Option Addr)(cap:Nat)(w:World)(hl:m.cells.length<=maxLen):
  Calls prog 223 #[m.val a cap] w fun e w'=>e=.returned (.bool m.right)/\Below w.heap.size w w':=by
 obtain⟨r,c,l⟩:=m
 show Calls prog 223 #[.agg #[.int .i64 r,.int .i64 c,.slice a l.length cap]] w _
 simp only at hl
 unfold maxLen at hl
 have hR:(⟨r,c,l⟩:Mt).right=(decide (1<=r/\r<=255)&&(decide (1<=c/\c<=255)&&decide ((l.length:Int)=r*c))):=by
  unfold Mt.right;simp only
  rw[Bool.eq_iff_iff];simp only[decide_eq_true_eq,Bool.and_eq_true];exact⟨fun⟨a,b,c,d,e⟩=>⟨⟨a,b⟩,⟨c,d⟩,e⟩,fun⟨⟨a,b⟩,⟨c,d⟩,e⟩=>⟨a,b,c,d,e⟩⟩
 rw[hR]
 have HR:=Zka hR
 clear hR
 obtain⟨b1,ag⟩:∃b,b=decide (1<=r/\r<=255):=⟨_,rfl⟩
 obtain⟨b2,ah⟩:∃b,b=decide (1<=c/\c<=255):=⟨_,rfl⟩
 rw[<-ag,<-ah]
 have ae:=Zka ag
 have af:=Zka ah
 have hp:b1=true->b2=true->0<=r*c/\r*c<=65025:=by
  intro e1 e2
  rw[ag,decide_eq_true_eq] at e1
  rw[ah,decide_eq_true_eq] at e2
  exact⟨Int.mul_nonneg (by omega) (by omega),Int.le_trans (Int.mul_le_mul e1.2 e2.2 (by omega) (by omega)) (by omega)⟩
 clear ag ah
 cases b1
 ·clear hp
  go_enter func223,ntmps223
  go_wp2_with (go_at_call 253;refine(Z4t _ _).mono ?_;rintro e w' ⟨he,rfl⟩;have h9:=ae.out;clear ae;rw[<-h9] at he;subst he;clear h9)
  go_ret
  exact⟨rfl,Zk9.alloc Zk8 _⟩
 ·cases b2
  ·clear hp
   go_enter func223,ntmps223
   go_wp2_with (first
    |(go_at_call 253;have h9:=ae.out;clear ae;refine(Z4t r _).mono ?_;rintro e w' ⟨he,rfl⟩;rw[<-h9] at he;subst he;clear h9)
    |(go_at_call 253;have h9:=af.out;clear af;refine(Z4t c _).mono ?_;rintro e w' ⟨he,rfl⟩;rw[<-h9] at he;subst he;clear h9))
   go_ret
   exact⟨rfl,Zk9.alloc Zk8 _⟩
  ·obtain⟨p0,p1⟩:=hp rfl rfl
   clear hp
   go_enter func223,ntmps223
   go_wp2_with (first
    |(go_at_call 253;have h9:=ae.out;clear ae;refine(Z4t r _).mono ?_;rintro e w' ⟨he,rfl⟩;rw[<-h9] at he;subst he;clear h9)
    |(go_at_call 253;have h9:=af.out;clear af;refine(Z4t c _).mono ?_;rintro e w' ⟨he,rfl⟩;rw[<-h9] at he;subst he;clear h9))
   go_ret
   refine⟨?_,Zk9.alloc Zk8 _⟩
   congr 2
theorem Z5g(r c i g o n cap:Nat)(w:World)(hi:i<r)(hr:r<=255)(hc:1<=c)(af:c<=510)(hn:n=r*c)(ag:n<=cap)(ae:cap<=9223372036854775807):
  Calls prog 226 #[.agg #[.int .i64 r,.int .i64 c,.slice (some ⟨g,o,none⟩) n cap],.int .i64 i] w fun e w'=>e=.returned (.slice (some ⟨g,o+i*c,none⟩) c (cap-i*c))/\Below w.heap.size w w':=by
 have h1:i*c+c<=n:=by
  rw[hn]
  have:(i+1)*c<=r*c:=Nat.mul_le_mul_right c hi
  rw[Nat.add_mul] at this;omega
 have h2:n<=255*510:=by rw[hn];exact Nat.mul_le_mul hr af
 obtain⟨q,hq⟩:∃q:Nat,q=i*c:=⟨_,rfl⟩
 have e1:(i:Int)*(c:Int)=(q:Int):=by rw[hq];simp
 have e2:((i:Int)+1)*(c:Int)=((q+c:Nat):Int):=by rw[Int.add_mul,e1];simp
 rw[<-hq] at h1⊢
 clear hn hq
 go_enter func226,ntmps226
 go_wp2
 go_ret
 exact⟨by rw[show q+c-q=c from by omega];rfl,Zk9.alloc Zk8 _⟩
theorem ZU(r c i g n cap:Nat)(w:World)(hi:i<r)(hr:r<=255)(hc:1<=c)(ag:c<=510)(hn:n=r*c)(af:n<=cap)(ae:cap<=9223372036854775807):
  Calls prog 226 #[.agg #[.int .i64 r,.int .i64 c,.slice (some ⟨g,0,none⟩) n cap],.int .i64 i] w fun e w'=>∃q,q=i*c/\q+c<=n/\e=.returned (.slice (some ⟨g,q,none⟩) c (cap-q))/\Below w.heap.size w w':=by
 refine(Z5g r c i g 0 n cap w hi hr hc ag hn af ae).mono ?_
 rintro e w' ⟨rfl,hb⟩
 refine⟨i*c,rfl,?_,by rw[Nat.zero_add],hb⟩
 rw[hn]
 have:(i+1)*c<=r*c:=Nat.mul_le_mul_right c hi
 rw[Nat.add_mul] at this;omega
def Xh(r c g:Nat):Value:=.agg #[.int .i64 r,.int .i64 c,.slice (some ⟨g,0,none⟩) (r*c) (r*c)]
theorem Z0R(r c:Nat)(w:World)(h1:r<=510)(h2:c<=510):
  Calls prog 225 #[.int .i64 r,.int .i64 c] w fun e w'=>∃g,e=.returned (Xh r c g)/\w.heap.size<=g/\ZC w' g 5 (Za (tab (r*c) fun _=>0#8))/\Below w.heap.size w w':=by
 obtain⟨i0,hi,af,ag,ah⟩:=info_parts Xw
 have h3:r*c<=510*510:=Nat.mul_le_mul h1 h2
 obtain⟨q,hq⟩:∃q:Nat,q=r*c:=⟨_,rfl⟩
 have e1:(r:Int)*(c:Int)=(q:Int):=by rw[hq];simp
 unfold Xh
 rw[<-hq] at h3⊢
 have ae:=fun W=>WD (P:=prog) 75 5 i0 underlying75 hi af ag ah q (by omega) W
 rw[<-ZaS,<-ZgJ] at ae
 obtain⟨Z,hZ⟩:∃Z,Z=Za (tab q fun _=>0#8):=⟨_,rfl⟩
 rw[<-hZ] at ae⊢
 clear hi af ag ah hq hZ
 go_enter func225,ntmps225
 go_wp2
 exact bodyPost_ret (v:=.agg #[.int .i64 r,.int .i64 c,.slice (some ⟨w.heap.size+1,0,none⟩) q q]) (by simp[results,Tryz.results225,go_sem]) rfl ⟨_,rfl,by omega,by have h:=ZC.new (w.alloc (.cells #[.int .i64 r,.int .i64 c,.slice (some ⟨w.heap.size+1,0,none⟩) q q] 250)) 5 Z;rw[show(w.alloc (.cells #[.int .i64 r,.int .i64 c,.slice (some ⟨w.heap.size+1,0,none⟩) q q] 250)).heap.size=w.heap.size+1 from by simp] at h;exact h,(Zk9.alloc Zk8 _).alloc (by simp) _⟩
def Zh5(w:World)(b:Nat)(c:Int):Prop:=Row w b 141 [.int .i64 c,.int .i64 0,.nilIface]
def Qb(B:Nat)(w:World)(v:Value)(c:Int):Prop:=(v=.nilIface/\c=0)∨(c≠0/\∃b,v=.iface 139 (.pointer (some ⟨b,0,none⟩))/\B<=b/\Zh5 w b c)
theorem Qb.ok0(B:Nat)(w:World):Qb B w .nilIface 0:=Or.inl ⟨rfl,rfl⟩
theorem Qb.mono{B B':Nat}{w:World}{v:Value}{c:Int}(h:Qb B w v c)(hB:B'<=B):Qb B' w v c:=by
 rcases h with h|⟨hc,b,h1,h2,h3⟩
 ·exact Or.inl h
 ·exact Or.inr ⟨hc,b,h1,by omega,h3⟩
theorem Yb(c:Int)(hc:c≠0)(w:World):
  Calls prog 224 #[.int .i64 c] w fun e w'=>∃v,e=.returned v/\Qb w.heap.size w' v c/\Below w.heap.size w w':=by
 have HC:=Zka hc
 clear hc
 go_enter func224,ntmps224
 go_wp2
 go_ret
 exact⟨_,rfl,Or.inr ⟨HC.out,w.heap.size,rfl,Zk8,Row.new w _ [.int .i64 c,.int .i64 0,.nilIface]⟩,Zk9.alloc Zk8 _⟩
def Z0E(f:Nat->BitVec 8)(o n:Nat)(t:BitVec 8)(of:Nat->BitVec 8)(j:Nat):BitVec 8:=if o<=j/\j<o+n then f j^^^gm t (of (j-o)) else f j
theorem Zdu(f:Nat->BitVec 8)(o:Nat)(t:BitVec 8)(of:Nat->BitVec 8):Z0E f o 0 t of=f:=by
 funext j;unfold Z0E;rw[if_neg (by omega)]
theorem Zdt(f:Nat->BitVec 8)(o k:Nat)(t:BitVec 8)(of:Nat->BitVec 8):(fun j=>if j=o+k then f (o+k)^^^gm t (of k) else Z0E f o k t of j)=Z0E f o (k+1) t of:=by
 funext j;unfold Z0E
 by_cases e:j=o+k
 ·subst e
  rw[if_pos rfl,if_pos ⟨by omega,by omega⟩,show o+k-o=k from by omega]
 ·rw[if_neg e]
  by_cases h:o<=j/\j<o+k
  ·rw[if_pos h,if_pos ⟨h.1,by omega⟩]
  ·rw[if_neg h,if_neg (by omega)]
theorem Z2B(g o n cap g2 o2 n2 aj N:Nat)(f of:Nat->BitVec 8)(sp:List Value)(t:Int)(w:World)(h0:0<=t)(h1:t<256)(ae:Row w g 5 (Za (tab N f)++sp))(hN:o+n<=N)(hn:n<=n2)(au:n<=100000)
  (aq:∀j,j<n->w.cell? ⟨g2,o2+j,none⟩=some (.int .u8 (nv (of j)))) (hd:g2≠g∨o<=o2∨o2+n<=o):
  Calls prog 254 #[.slice (some ⟨g,o,none⟩) n cap,.slice (some ⟨g2,o2,none⟩) n2 aj,.int .u8 t] w fun e w'=>e=.returned (.tuple #[])/\Row w' g 5 (Za (tab N (Z0E f o n (bv t) of))++sp)/\Fr [g] w w':=by
 have HR:=Zka ae
 have ak:=Zka aq
 clear ae aq
 go_enter func254,ntmps254
 go_wp2
 go_loopw [9] (fun i wr=>∃k:Nat,k<=n/\i=.int .i64 k/\Row wr g 5 (Za (tab N (Z0E f o k (bv t) of))++sp)/\Fr [g] w wr) (fun i _=>n- (intOf i).toNat)
 case atStart=>exact⟨0,by omega,rfl,by rw[Zdu];exact HR.out,Fr.refl _ _⟩
 case round=>
  obtain⟨k,hk,rfl,ae,ah⟩:=hrel
  by_cases al:k<n
  ·have ag:∀i,i<N->wr.cell? ⟨g,i,none⟩=some (.int .u8 (nv (Z0E f o k (bv t) of i))):=fun i hi=>ae.cell (by rw[ZjH (by rw[Qg,Zk];exact hi),X8 _ _ (by rw[Zk];exact hi),Yn _ _ _ hi])
   have c1:wr.cell? ⟨g,o+k,none⟩=some (.int .u8 (nv (f (o+k)))):=by
    rw[ag (o+k) (by omega)];unfold Z0E;rw[if_neg (by omega)]
   have c2:wr.cell? ⟨g2,o2+k,none⟩=some (.int .u8 (nv (of k))):=by
    by_cases e:g2=g
    ·subst e
     have hl:o2+k<N∨¬o2+k<N:=by omega
     have h9:=ak.out k al
     by_cases hl:o2+k<N
     ·rw[ag _ hl]
      have h8:w.cell? ⟨g2,o2+k,none⟩=some (.int .u8 (nv (f (o2+k)))):=HR.out.cell (by rw[ZjH (by rw[Qg,Zk];exact hl),X8 _ _ (by rw[Zk];exact hl),Yn _ _ _ hl])
      rw[<-h9,h8];unfold Z0E;rw[if_neg (by omega)]
     ·have hx:=HR.out
      obtain⟨fz,hh,_⟩:=hx
      obtain⟨ax,aw,_⟩:=ae
      rw[cell_of_row _ _ _ _ _ _ hh] at h9
      rw[cell_of_row _ _ _ _ _ _ aw]
      rw[<-h9]
      simp only[List.getElem?_toArray]
      rw[ZjP (by rw[Qg,Zk];omega),ZjP (by rw[Qg,Zk];omega)]
      simp only[Qg,Zk]
    ·exact Z55 ah (by simpa using e) (ak.out k al)
   have hf:wr.frozen? ⟨g,o+k,none⟩=false:=ae.free (by rw[ZjI,Qg,Zk];omega)
   have af:=Zka ae
   have ai:=Zka ah
   have ay:k<n2:=by omega
   clear ae ah ag hd
   go_wp2_with fail
   go_still_tail 12,(by kernel_rfl)
   still_call (XJ (Z7g _ _ h0 h1 (JO _) (JN _) _))
   repeat still_step
   refine wpStill_nil ?_
   change wpList _ _ _ _ _ wr.drew
   go_wp2
   go_roundw
   case measure=>simp[intOf];omega
   case rel=>
    refine⟨k+1,by omega,by go_num,?_,(ai.out.setCell (Or.inl (by simp)) _).drew⟩
    rw[YS,Jl]
    have hm:=af.out.set (o+k) (.int .u8 (nv (f (o+k)^^^gm (bv t) (of k))))
    rw[List.set_append_left _ _ (by rw[Qg,Zk];omega),Z3r,Z7p,Zdt] at hm
    exact hm.drew
  ·obtain rfl:k=n:=by omega
   have af:=Zka ae
   have ai:=Zka ah
   clear ae ah hd
   go_wp2
   go_end0
   exact⟨rfl,af.out,ai.out⟩
end
end Go.Proofs.YthppfllkocphbaaGreatDoor
