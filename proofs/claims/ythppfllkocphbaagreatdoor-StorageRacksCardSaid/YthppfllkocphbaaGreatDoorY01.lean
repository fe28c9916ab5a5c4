/- Part 2: lemmas about what the program computes. -/
import Derived.Deep.QuietTactic
import Derived.BigQuiet
import Derived.Deep.RegionHeld3
import Derived.Lib.IndexBytes
import Derived.Lib.Builder
import Derived.Lib.AppendStr
import Derived.Lib.MakeNoZero
import Derived.Laws.Externs
import Derived.RegionTactic
import Derived.BigRegion
import Derived.ChangeAlike
import Derived.Test.YthppfllkocphbaaGreatDoorY00
import Derived.Test.YthppfllkocphbaaGreatDoorYS
namespace Go.Proofs.YthppfllkocphbaaGreatDoor
set_option linter.unusedVariables false
set_option linter.unusedSimpArgs false
set_option maxHeartbeats 25600000
set_option maxRecDepth 100000
open Tryz
section
open Go.RowKit
theorem La{a b:Value}(h:a=b):Ending.returned a=.returned b:=by rw[h]
theorem Cw{k:IntKind}{a b:Int}(h:a=b):Value.int k a=.int k b:=by rw[h]
theorem UO(b:UInt8):(b.toNat:Int)=uv (Cc b):=by unfold Cc;have:=b.toNat_lt;rw[MG (by omega)]
theorem N5(n:Nat)(r:BitVec 32):Xq (n+1) r=XO (Xq n r):=by
 induction n generalizing r with
 |zero=>rfl
 |succ n ih=>rw[Xq,ih (XO r),Xq]
theorem Um(x:BitVec 32)(h:x.getLsbD 0=true):bits .xor .u32 (uv (x>>>1)) 2197175160=uv (XO x):=by unfold XO;rw[h,show(2197175160:Int)=uv 0x82F63B78#32 from by rw[QD];rfl,Cv];rfl
theorem Ul(x:BitVec 32)(h:x.getLsbD 0=false):uv (x>>>1)=uv (XO x):=by unfold XO;rw[h];rfl
theorem Z06(r:BitVec 32)(b:UInt8)(w:World):Calls prog 241 #[.int .u32 (uv r),.int .u8 (b.toNat:Int)] w λe w'=>e=.returned (.int .u32 (uv (Xr r b)))/\w=w':=by
 have h:=b.toNat_lt;obtain⟨y,U⟩:=Z5H (Cc b);have e1:=UO b;have e2:Xr r b=Xq 8 (r^^^y):=by rw[<-U];rfl
 have y0:=ER y;have y1:=EQ y;have M:=Cv r y;have O:=Z5F M;clear M;go_enter func241,ntmps241;go_wp2;go_loop [0,9] (λZ i=>∃k:Nat,k<=8/\i=.int .i64 k/\Z=.int .u32 (uv (Xq k (r^^^y)))) (λ_ i=>8- (intOf i).toNat)
 case atStart=>exact⟨0,by omega,rfl,Cw O.out⟩
 case round=>
  obtain⟨k,hk,rfl,rfl⟩:=hrel;have hs:=N5 k (r^^^y);obtain⟨x,hx⟩:=Z5H (Xq k (r^^^y));rw[hx] at hs⊢;by_cases ae:k<8
  .cases hl:x.getLsbD 0
   .have h:=Z0n x;rw[hl] at h;have F:=Z5F hs;clear hs;have C:=Z5F hl;clear hl;have J:=Z5F hx;clear hx;go_wp2;go_round
    case measure=>simp[intOf];omega
    case rel=>exact⟨k+1,by omega,by go_num,by rw[F.out,<-Ul x C.out,<-Gh x 1];rfl⟩
   .have h:=Z0n x;rw[hl] at h;have F:=Z5F hs;clear hs;have C:=Z5F hl;clear hl;have J:=Z5F hx;clear hx;go_wp2;go_round
    case measure=>simp[intOf];omega
    case rel=>exact⟨k+1,by omega,by go_num,by rw[F.out,<-Um x C.out,<-Gh x 1];rfl⟩
  .obtain rfl:k=8:=(by omega);have J:=Z5F hx;clear hx hs;go_wp2;go_ret;exact⟨by rw[J.out];rfl,rfl⟩
def DA(q:BitVec 32)(l:List UInt8):BitVec 32:=l.foldl Xr q
theorem Ij(sum:BitVec 32)(s:ByteArray)(w:World)(hs:s.size<=maxLen):Calls prog 186 #[.int .u32 (uv sum),.string s] w λe w'=>e=.returned (.int .u32 (uv (XT sum s.data.toList)))/\w=w':=by
 unfold maxLen at hs;go_enter func186,ntmps186;go_wp2;have e0:bits BinOp.xor IntKind.u32 IntKind.u32.max (uv sum)=uv (~~~ sum):=by rw[show IntKind.u32.max=uv 0xFFFFFFFF#32 from by rw[QD];rfl,Cv];rfl
 rw[e0];have C:∀q:BitVec 32,bits BinOp.xor IntKind.u32 IntKind.u32.max (uv q)=uv (~~~ q):=by intro q;rw[show IntKind.u32.max=uv 0xFFFFFFFF#32 from by rw[QD];rfl,Cv];rfl
 have F:=Z5F C;clear C;go_loop [0,10] (λM i=>∃k:Nat,k<=s.size/\i=.int .i64 k/\M=.int .u32 (uv (DA (~~~ sum) (s.data.toList.take k)))) (λ_ i=>s.size- (intOf i).toNat)
 case atStart=>exact⟨0,by omega,rfl,by simp[DA]⟩
 case round=>
  obtain⟨k,U,rfl,rfl⟩:=hrel;by_cases O:k<s.size
  .have h:DA (~~~ sum) (s.data.toList.take (k+1))=Xr (DA (~~~ sum) (s.data.toList.take k)) s[k]:=by unfold DA;rw[Z5f (by simp_all),List.foldl_append,Z5B,List.foldl_nil];rfl
   obtain⟨x,hx⟩:=Z5H (DA (~~~ sum) (s.data.toList.take k));have J:=Z5F h;clear h hx;go_wp2_with (go_at_call 241;refine(Z06 _ _ _).mono ?_;rintro e w' ⟨rfl,rfl⟩);go_round
   case measure=>simp[intOf];omega
   case rel=>exact⟨k+1,by omega,by go_num,by rw[J.out]⟩
  .obtain rfl:k=s.size:=(by omega);have Z:s.data.toList.take s.size=s.data.toList:=Z5o (by simp);go_wp2;go_ret;exact⟨La (Cw (F.out _)),rfl⟩
theorem DM(s:ByteArray)(w:World)(hs:s.size<=maxLen):Calls prog 130 #[.string s] w λe w'=>e=.returned (.int .u32 (uv (crc s.data.toList)))/\w=w':=by
 have z:(0:Int)=uv 0#32:=by rw[QD];rfl
 have Z:=Z5F z;clear z;go_enter func130,ntmps130;go_wp2_with (go_at_call 186;rw[Z.out];refine(Ij 0#32 _ _ hs).mono ?_;rintro e w' ⟨rfl,rfl⟩);go_ret;exact⟨rfl,rfl⟩
def s32(n:Nat):ByteArray:=⟨(Z4 n).toArray⟩
theorem Y3(n:Nat):(s32 n).size=4:=rfl
theorem Ey(n:Nat):(s32 n).data.toList=Z4 n:=rfl
theorem JB(n:Nat)(F:n<9223372036854775808)(w:World):Calls prog 181 #[.int .i64 (n:Int)] w λe w'=>e=.returned (.string (s32 n))/\Below w.heap.size w w':=by
 go_enter func181,ntmps181;have hc:=λ(W:World) (h:Row W w.heap.size 5 (Z3 (Z4 n)))=>Qo (P:=prog) W 75 9 5 underlying75 underlying5 underlying9 h 0 4 4 (Z4 n) rfl (by simp[Z3,Z4]);go_wp2;have C:=Row.new w 5 (Z3 (Z4 n));have eb:(Z3 (Z4 n)).toArray= #[Value.int IntKind.u8 (↑n / 16777216%256),Value.int IntKind.u8 (↑n / 65536%256),Value.int IntKind.u8 (↑n / 256%256),Value.int IntKind.u8 (↑n%256)]:=by simp[Z3,Z4]
 rw[eb] at C;rw[hc _ C];go_wp2;go_ret;exact⟨rfl,Z5E.alloc Z5D _⟩
theorem K4(a b:Nat)(ha:a<9223372036854775808)(F:b<9223372036854775808):bits .or .i64 (a:Int) (b:Int)=((a|||b:Nat):Int):=by
 have h:(BitVec.ofInt 64 (a:Int)).toNat=a:=by grind
 have C:(BitVec.ofInt 64 (b:Int)).toNat=b:=by grind
 have hl:a|||b<2^63:=Nat.or_lt_two_pow (by omega) (by omega);show IntKind.i64.wrap ((BitVec.ofInt 64 (a:Int)|||BitVec.ofInt 64 (b:Int)).toNat:Int)=_;rw[BitVec.toNat_or,h,C];refine Z5x _ ⟨?_,?_⟩<;>omega
theorem O1(k a b:Nat)(h:b<2^k)(ha:a*2^k<4611686018427387904)(C:k<=32):bits .or .i64 ((a*2^k:Nat):Int) (b:Int)=((a*2^k+b:Nat):Int):=by have F:b<4294967296:=Z5v h (Nat.pow_le_pow_right (n:=2) (by omega) C);rw[K4 _ _ (by omega) (by omega),<-Nat.shiftLeft_eq,Nat.shiftLeft_add_eq_or_of_lt h]
theorem Er(a b c d:Nat)(ha:a<256)(h:b<256)(hc:c<256)(C:d<256):IntKind.i64.wrap (a:Int)=(a:Int)/\IntKind.i64.wrap (b:Int)=(b:Int)/\IntKind.i64.wrap (c:Int)=(c:Int)/\IntKind.i64.wrap (d:Int)=(d:Int)/\ IntKind.i64.wrap ((a:Int)*16777216)=(a:Int)*16777216/\IntKind.i64.wrap ((b:Int)*65536)=(b:Int)*65536/\IntKind.i64.wrap ((c:Int)*256)=(c:Int)*256/\ bits .or .i64 ((a:Int)*16777216) ((b:Int)*65536)=(a:Int)*16777216+(b:Int)*65536/\ bits .or .i64 ((a:Int)*16777216+(b:Int)*65536) ((c:Int)*256)=(a:Int)*16777216+(b:Int)*65536+(c:Int)*256/\ bits .or .i64 ((a:Int)*16777216+(b:Int)*65536+(c:Int)*256) (d:Int)=(a:Int)*16777216+(b:Int)*65536+(c:Int)*256+d:=by
 refine⟨Z5x _ (by omega),Z5x _ (by omega),Z5x _ (by omega),Z5x _ (by omega),Z5x _ (by omega),Z5x _ (by omega),Z5x _ (by omega),?_,?_,?_⟩
 .have:=O1 24 a (b*65536) (by omega) (by omega) (by omega);simp_all
 .have:=O1 16 (a*256+b) (c*256) (by omega) (by omega) (by omega);grind
 .have:=O1 8 (a*65536+b*256+c) d (by omega) (by omega) (by omega);grind
theorem Eu(s:ByteArray)(hs:4<=s.size)(w:World):Calls prog 214 #[.string s] w λe w'=>e=.returned (.int .i64 (Yw s.data.toList:Int))/\∃q,w'=w.drewN q:=by
 have i0:0<s.size:=by omega
 have i1:(1:Int)<(s.size:Int):=by omega
 have i2:(2:Int)<(s.size:Int):=by omega
 have i3:(3:Int)<(s.size:Int):=by omega
 have hr:(Yw s.data.toList:Int)=(s[0].toNat:Int)*16777216+(s[1].toNat:Int)*65536+(s[2].toNat:Int)*256+(s[3].toNat:Int):=by
  have g:∀i (h:i<s.size),s.data.toList.getD i 0=s[i]:=by intro i h;have C:i<s.data.toList.length:=(by simp_all);rw[Z59,Z5a C];rfl
  unfold Yw;rw[g 0 (by omega),g 1 (by omega),g 2 (by omega),g 3 (by omega)];omega
 obtain⟨e1,e2,J,M,O,U,Z,e8,e9,F⟩:=Er s[0].toNat s[1].toNat s[2].toNat s[3].toNat s[0].toNat_lt s[1].toNat_lt s[2].toNat_lt s[3].toNat_lt;go_enter func214,ntmps214;go_wp2;go_quiet (fail);go_wp2;go_ret;exact⟨La (Cw (by omega)),_,rfl⟩
end
section
open Go.RowKit
variable{s:ByteArray}{w:World}
theorem Zv{B:Nat}{a:World}(h:Below B a w)(q:Nat):Below B a (w.drewN q):=⟨h.os,h.tape,h.output,h.size,h.block⟩
theorem Wc{w':World}{base:Nat}{e:TypeId}{size:Nat}{v:Value}{n:Nat}{xs:List Value}(h:w.ownsRow base e size v n xs)(C:Below w.heap.size w w'):w'.ownsRow base e size v n xs:=Qa h (Fr.of_below (L:=[]) C) (by simp)
theorem Ew(s:ByteArray)(hs:4<=s.size)(w:World):Calls prog 214 #[.string s] w λe w'=>e=.returned (.int .i64 (Yw s.data.toList:Int))/\Below w.heap.size w w':=(Eu s hs w).mono λ_ _ ⟨he,q,hw⟩=>⟨he,by rw[hw];exact Zv Z5E q⟩
theorem E9(c a:Int)(hc:c≠0)(w:World):Calls prog 180 #[.int .i64 c,.int .i64 a] w λe w'=>∃v,e=.returned v/\Zk w' w.heap.size c v/\v≠.nilIface/\Below w.heap.size w w':=by go_enter func180,ntmps180;go_wp2;go_ret;exact⟨_,rfl,Or.inr ⟨hc,1,⟨w.heap.size,a,.nilIface,rfl,Z5D,Row.new w _ [.int .i64 c,.int .i64 a,.nilIface],Or.inl rfl⟩⟩,by simp,Z5E.alloc Z5D _⟩
def FV(e n:Int):Bool:=decide (0<=e)&&(decide (e<=4611686018427387904)&&(decide (0<=n)&&decide (n<=4294967295)))
theorem Av(e n:Int)(w:World):Calls prog 213 #[.int .i64 e,.int .i64 n] w λr w'=>r=.returned (.bool (FV e n))/\w=w':=by
 go_enter func213,ntmps213;go_wp2
 all_goals go_ret
 all_goals (refine⟨?_,rfl⟩;unfold FV;simp_all)
 all_goals (intros;omega)
theorem LH(e n:Nat)(he:e<=4611686018427387904)(h:n<=4294967295):FV e n=true:=by unfold FV;simp;omega
def Zf(n:Nat):Nat:=(24+n+63) / 64*64
theorem I7(n:Nat)(h:n<=1000000000000)(w:World):Calls prog 215 #[.int .i64 n] w λe w'=>e=.returned (.int .i64 (Zf n:Int))/\w=w':=by go_enter func215,ntmps215;go_wp2;go_ret;refine⟨La (Cw ?_),rfl⟩;unfold Zf;omega
theorem Kv(s:ByteArray)(e n:Int)(w:World)(h:s.size=0∨s.data.toList.getD 0 0≠1):Calls prog 154 #[.string s,.int .i64 e,.int .i64 n] w λr w'=>∃v,r=.returned (.tuple #[.string ⟨#[]⟩,.int .i64 0,v])/\Zk w' w.heap.size 20 v/\v≠.nilIface/\Below w.heap.size w w':=by
 have hs0:24<=s.size->∃U:0<s.size,((s[0].toNat:Int) !=1)=true:=by
  intro O;refine⟨by omega,?_⟩;rcases h with h|h
  .omega
  .have:s.data.toList.getD 0 0=s[0]:=by
    have J:0<s.data.toList.length:=by simp;omega
    rw[Z59,Z5a J];exact Aw s 0 (by omega) J
   rw[this] at h;simp only[bne_iff_ne,ne_eq];intro e1;apply h
   exact UInt8.toNat_inj.1 (by have:s[0].toNat=1:=by omega
                               rw[this];rfl)
 have H:=Z5F hs0;clear hs0 h;cases C:FV e n
 .go_enter func154,ntmps154;go_wp2_with (first|(go_at_call 213;refine(Av _ _ _).mono ?_;rw[C];rintro e w' ⟨rfl,rfl⟩)|(go_at_call 180;refine(E9 _ _ (by omega) _).mono ?_;rintro e w' ⟨v,rfl,hv,F,M⟩));go_ret3;simp_all
 .by_cases O:s.size<24
  .go_enter func154,ntmps154;go_wp2_with (first|(go_at_call 213;refine(Av _ _ _).mono ?_;rw[C];rintro e w' ⟨rfl,rfl⟩)|(go_at_call 180;refine(E9 _ _ (by omega) _).mono ?_;rintro e w' ⟨v,rfl,hv,F,M⟩));go_ret3;simp_all
  .obtain⟨U,Z⟩:=H.out (by omega);go_enter func154,ntmps154;go_wp2_with (first|(go_at_call 213;refine(Av _ _ _).mono ?_;rw[C];rintro e w' ⟨rfl,rfl⟩)|(go_at_call 180;refine(E9 _ _ (by omega) _).mono ?_;rintro e w' ⟨v,rfl,hv,F,M⟩));go_ret3;simp_all
def J6(e n len:Nat):List UInt8:=Z4 len++Z4 n++Z4 (e / 4294967296)++Z4 e
def B6(e n:Nat)(p:List UInt8):Nat:=(XT (crc (J6 e n p.length)) p).toNat
def Zh(e n:Nat)(p:List UInt8):List UInt8:=[1,0,0,0]++J6 e n p.length++Z4 (B6 e n p)++p++List.replicate (Zf p.length- (24+p.length)) 0
theorem I6(n:Nat):24+n<=Zf n:=by unfold Zf;omega
theorem Jf(n:Nat):Zf n%64=0:=by unfold Zf;omega
theorem Wd(e n:Nat)(p:List UInt8):(Zh e n p).length=Zf p.length:=by have:=I6 p.length;simp[Zh,J6,Zw];omega
theorem IN{a m r:List UInt8}(h:s.data.toList=a++m++r)(i j:Nat)(hi:i=a.length)(C:j=a.length+m.length):s.extract i j=⟨m.toArray⟩:=by apply ByteArray.ext;apply Array.toList_inj.1;simp_all
theorem Z3O(a b c:Nat):(⟨(Z4 a++Z4 b++Z4 c).toArray⟩:ByteArray)=s32 a++s32 b++s32 c:=by rfl
theorem We{l:List UInt8}(h:s.data.toList=l):s.size=l.length:=by rw[<-h];simp
theorem VR(e n:Nat)(p r:List UInt8):(Zh e n p++r=[1,0,0,0]++(Z4 p.length++(Z4 n++Z4 (e / 4294967296)++Z4 e++(Z4 (B6 e n p)++(p++(List.replicate (Zf p.length- (24+p.length)) 0++r)))))):=by simp[Zh,J6]
theorem Ml(s:ByteArray)(e n:Nat)(p r:List UInt8)(w:World)(h:s.data.toList=Zh e n p++r)(he:e<=4000000000)(hn:n<=4000000000)(hp:p.length<=60000)(hs:s.size<=140737488355328):Calls prog 154 #[.string s,.int .i64 e,.int .i64 n] w λx w'=>x=.returned (.tuple #[.string ⟨p.toArray⟩,.int .i64 (Zf p.length:Int),.nilIface])/\Below w.heap.size w w':=by
 have hr:=LH e n (by omega) (by omega);have hlen:s.size=Zf p.length+r.length:=by rw[We h,Z5d,Wd]
 have au:=I6 p.length;have ak:24<=s.size:=by omega
 have h0:0<s.size:=by omega
 have h1:((s[0].toNat:Int) !=1)=false:=by
  have:s.data.toList.getD 0 0=s[0]:=by
   have h2:0<s.data.toList.length:=by simp;omega
   rw[Z59,Z5a h2];exact Aw s 0 (by omega) h2
  rw[h] at this;have e1:s[0]=1:=by rw[<-this];rfl
  rw[e1];rfl
 rw[VR] at h;obtain⟨E,hE⟩:=Z5H (e / 4294967296);rw[hE] at h;have Z:=Z5F hE;clear hE;obtain⟨t4,i4⟩:=Z5H (s.extract 4 s.size);have d4:t4.data.toList=Z4 p.length++(Z4 n++Z4 (E)++Z4 e++(Z4 (B6 e n p)++(p++(List.replicate (Zf p.length- (24+p.length)) 0++r)))):=by rw[<-i4,Lib.extract_to_end,h];rfl
 have aw:Yw t4.data.toList=p.length:=by rw[d4,Yx _ (by omega)]
 have bj:4<=t4.size:=by rw[We d4];simp[Zw]
 have i8:s.extract 8 20=s32 n++s32 (E)++s32 e:=by rw[<-Z3O];exact IN (a:=[1,0,0,0]++Z4 p.length) (r:=Z4 (B6 e n p)++(p++(List.replicate (Zf p.length- (24+p.length)) 0++r))) (by rw[h];simp) 8 20 rfl rfl
 obtain⟨t20,J⟩:=Z5H (s.extract 20 s.size);have d20:t20.data.toList=Z4 (B6 e n p)++(p++(List.replicate (Zf p.length- (24+p.length)) 0++r)):=by rw[<-J,Lib.extract_to_end,h];rfl
 obtain⟨c,hc⟩:=Z5H (XT (crc (J6 e n p.length)) p);have af:((Yw t20.data.toList:Nat):Int)=uv c:=by rw[d20,Yx _ (by unfold B6;exact BitVec.isLt _),QD];unfold B6;rw[hc]
 have ai:4<=t20.size:=by rw[We d20];simp[Zw]
 obtain⟨O,M⟩:=Z5H (s.extract 4 20);have F:O=⟨(J6 e n p.length).toArray⟩:=by rw[<-M];exact IN (a:=[1,0,0,0]) (m:=J6 e n p.length) (r:=Z4 (B6 e n p)++(p++(List.replicate (Zf p.length- (24+p.length)) 0++r))) (by rw[h];simp[J6,Z.out]) 4 20 rfl rfl
 have ip:s.extract 24 (24+p.length)=⟨p.toArray⟩:=
  IN (a:=[1,0,0,0]++J6 e n p.length++Z4 (B6 e n p)) (r:=List.replicate (Zf p.length- (24+p.length)) 0++r) (by rw[h];simp[J6,Z.out]) _ _ rfl rfl
 have aj:O.size<=maxLen:=by rw[F];show 16<=_;unfold maxLen;omega
 have lp:(⟨p.toArray⟩:ByteArray).size<=maxLen:=by show p.length<=_;unfold maxLen;omega
 have bq:(⟨p.toArray⟩:ByteArray).size<=140737488355328:=by show p.length<=_;omega
 have aq:crc O.data.toList=crc (J6 e n p.length):=by rw[F]
 have b8:=Z5F i4;have bg:=Z5F aw;have HL:=Z5F hlen;have H:=Z5F h;have D4:=Z5J d4 d20;have az:=Z5F F;have HC:=Z5F hc;have ah:=Z5F af;have b7:=Z5F aq;have b9:=Z5F i8;have ag:=Z5F J;have ae:=Z5F M;have bf:=Z5F ip;clear i4 aw hlen h d4 d20 F hc af aq i8 J M ip;have c0:=ER c;have c1:=EQ c;go_enter func154,ntmps154;go_wp2_with (first|(go_at_call 213;refine(Av _ _ _).mono ?_;rw[hr];rintro e w' ⟨rfl,rfl⟩)|(go_at_call 214;rw[b8.out];refine(Eu _ bj _).mono ?_;rw[bg.out];rintro e w' ⟨rfl,q,rfl⟩));have i20:(20:Int)<=(s.size:Int):=by omega
 have cn:(24:Int)+(p.length:Int)<=(s.size:Int):=by have:=HL.out;omega
 obtain⟨w1,U⟩:=Z5I (w.drewN q);have bh:Below w.heap.size w w1:=by rw[U];exact Zv Z5E _
 rw[<-U];clear U;have HH:=Z5N he hn hp hs au ak;have g1:decide ((60000:Int)<(p.length:Int))=false:=decide_eq_false (by omega);have g2:decide (s.size<Zf p.length)=false:=decide_eq_false (by rw[HL.out];omega);have cj:(e:Int) / 4294967296=(E:Int):=by have:=Z.out;omega
 have bu:∀W,(Op.stringOp .add (s32 n) (s32 (E))).run prog W=.ok (.string (s32 n++s32 (E))) W:=λW=>run_string_add_sum W _ _ (by rw[Y3,Y3];omega);have bz:∀W,(Op.stringOp .add (s32 n++s32 (E)) (s32 e)).run prog W=.ok (.string (s32 n++s32 (E)++s32 e)) W:=λW=>run_string_add_sum W _ _ (by rw[ByteArray.size_append,Y3,Y3,Y3];omega);have wc:IntKind.i64.wrap (uv c)=uv c:=Z5x _ (by omega);have wp1:IntKind.i64.wrap (24+(p.length:Int))=24+(p.length:Int):=Z5x _ (by omega);have wp2:0<=24+(p.length:Int):=by omega
 have wp3:(24:Int)<=24+(p.length:Int):=by omega
 have wp4:(24+(p.length:Int)).toNat=24+p.length:=by omega
 have k8:=b9.out;have cr:=ag.out;have bm:=ae.out;have kp:=bf.out;clear he hn hp hs au ak;go_region_held3 (λw'=>Below w.heap.size w w') (first|assumption|exact bh.drew)
  (first|(go_at_call 215;refine(I7 _ (by have:=HH.out;omega) _).mono ?_;rintro e w8 ⟨rfl,rfl⟩)|(go_at_call 181;refine(JB _ (by have:=HH.out;omega) _).mono ?_;rintro e w8 ⟨rfl,C⟩;have al:Below w.heap.size w w8:=Below.trans (by assumption) (C.mono (Below.size (by assumption)));clear C)|(go_at_call 214;refine(Eu _ ai _).mono ?_;rw[ah.out];rintro e w8 ⟨rfl,q8,rfl⟩;have al:=Zv (B:=w.heap.size) (a:=w) (by assumption) q8)|(go_at_call 130;refine(DM _ _ aj).mono ?_;rw[b7.out];rintro e w8 ⟨rfl,rfl⟩)|(go_at_call 186;refine(Ij _ _ _ lp).mono ?_;rw[show(⟨p.toArray⟩:ByteArray).data.toList=p from rfl,HC.out];rintro e w8 ⟨rfl,rfl⟩))
 all_goals go_wp2_with (first|(go_at_call 216;refine(Fp _ _ bq).mono ?_;rintro e w8 ⟨rfl,C⟩;have al:Below w.heap.size w w8:=Below.trans (by assumption) (C.mono (Below.size (by assumption)));clear C)|(go_at_call 215;refine(I7 _ (by have:=HH.out;omega) _).mono ?_;rintro e w8 ⟨rfl,rfl⟩))
 all_goals go_ret3
 all_goals exact⟨rfl,by assumption⟩
end
abbrev Bs:=List UInt8
def str(l:Bs):ByteArray:=⟨l.toArray⟩
theorem Zn(l:Bs):(str l).data.toList=l:=rfl
theorem Z5(l:Bs):(str l).size=l.length:=by rfl
theorem OI(s:ByteArray):str s.data.toList=s:=rfl
theorem GE{a b:Bs}(h:str a=str b):a=b:=by have:=congrArg (λs:ByteArray=>s.data.toList) h;simpa[str] using this
def QF:ByteArray:=str (List.replicate 64 0)
def ZQ(l:Bs)(i:Nat):ByteArray:=str (sec l i)
def wrs(a:Nat)(l:Bs):List DOp:=(List.range (l.length / 64)).map λi=>.wr (a+i) (ZQ l i)
def ZM:Bs:=[106,111,117,114,110,97,108]
structure Jn where
 half:Nat
 second:Bool
 epoch:Nat
 many:Nat
 next:Nat
 closed:Bool
def Jn.at_(J:Jn)(second:Bool)(k:Nat):Nat:=if second then k+J.half else k
def ZC(l:Bs):Bs:=0::l.drop 1
def Jn.clean(J:Jn)(second:Bool)(k:Nat):List DOp:=if J.half<=k then[] else[.wr (J.at_ second k) QF]
def Jn.lay(J:Jn)(second:Bool)(k:Nat)(l:Bs):List DOp:=
 wrs (J.at_ second k) (ZC l)++J.clean second (k+l.length / 64)++[.fl]++wrs (J.at_ second k) (l.take 64)++[.fl]
def Jn.format(half:Nat):List DOp:=
 let J:Jn:=⟨half,false,1,0,1,false⟩
 J.clean true 0++J.lay false 0 (Zh 1 0 ZM)
def Jn.first(half:Nat):Jn:=⟨half,false,1,0,1,false⟩
def Jn.appendOps(J:Jn)(r:Bs):List DOp:=J.lay J.second J.next (Zh J.epoch (J.many+1) r)
def Jn.appended(J:Jn)(r:Bs):Jn:={J with many:=J.many+1,next:=J.next+Zf r.length / 64}
def Jn.resetOps(J:Jn)(r:Bs):List DOp:=
 wrs (J.at_ (!J.second) 1) (Zh (J.epoch+1) 1 r)++J.clean (!J.second) (1+Zf r.length / 64)++wrs (J.at_ (!J.second) 0) (ZC (Zh (J.epoch+1) 0 ZM))++[.fl]
  ++wrs (J.at_ (!J.second) 0) (Zh (J.epoch+1) 0 ZM)++[.fl]
def Jn.reset(J:Jn)(r:Bs):Jn:={J with second:= !J.second,epoch:=J.epoch+1,many:=1,next:=1+Zf r.length / 64}
def YK(e m:Nat):List Bs->Bs
 |[]=>[]
 |r::rs=>Zh e (m+1) r++YK e (m+1) rs
def Z50(t:Bs):Prop:=t=[]∨t.getD 0 0≠1
def Uw(t:Bs)(e:Nat)(rs:List Bs):Prop:=∃rest,t=Zh e 0 ZM++(YK e 0 rs++rest)/\Z50 rest
def Zp(rs:List Bs):Nat:=(rs.map λr=>Zf r.length / 64).sum
def Dk.text(D:Dk)(a n:Nat):Bs:=(List.range n).flatMap λi=>(D.reads (a+i)).data.toList
structure Ent where
 size:Nat
 sum:Nat
 runs:List (Nat×Nat)
def Ent.secs(e:Ent):List Nat:=e.runs.flatMap λr=>List.range' r.1 r.2
abbrev Dir:=List (Bs×Ent)
def Dir.get:Dir->Bs->Option Ent
 |[],_=>none
 |x::r,n=>if x.1=n then some x.2 else Dir.get r n
def Dir.del(d:Dir)(n:Bs):Dir:=d.filter λx=>x.1 !=n
def Dir.ins(n:Bs)(e:Ent):Dir->Dir
 |[]=>[(n,e)]
 |x::r=>if n<x.1 then(n,e)::x::r else x::Dir.ins n e r
def Dir.put(d:Dir)(n:Bs)(e:Ent):Dir:=Dir.ins n e (d.del n)
def Dir.Sorted(d:Dir):Prop:=d.Pairwise λa b=>a.1<b.1
def Dir.names(d:Dir):List Bs:=d.map (·.1)
def Dir.secs(d:Dir):List Nat:=d.flatMap λx=>x.2.secs
structure Ac where
 kind:Nat
 name:Bs
 «to»:Bs
 value:Bs
def Ac.wrong(a:Ac):Bool:=
 if a.kind=3 then !(decide (1<=a.to.length)&&decide (a.to.length<=220))|| !a.value.isEmpty|| !(decide (1<=a.name.length)&&decide (a.name.length<=220))
 else if a.kind=2 then !a.value.isEmpty|| !(decide (1<=a.name.length)&&decide (a.name.length<=220))|| !a.to.isEmpty
 else if a.kind=1 then !(decide (1<=a.name.length)&&decide (a.name.length<=220))|| !a.to.isEmpty||decide (12000<a.value.length)
 else true
abbrev Z1:=List (Bs×Nat)
def Z1.del(f:Z1)(n:Bs):Z1:=f.filter λx=>x.1 !=n
def Z1.has(f:Z1)(n:Bs):Bool:=f.any λx=>x.1==n
def Wt(v:Bs):Nat:=(crc v).toNat
def Wh(k:Nat)(a:Ac)(d:Dir)(f:Z1):Option (Dir×Z1):=
 match a.kind with
 |1=>some ((d.del a.name).put a.name ⟨a.value.length,Wt a.value,[]⟩,f.del a.name++[(a.name,k)])
 |2=>match d.get a.name with
  |some _=>some (d.del a.name,f.del a.name)
  |none=>none
 |3=>match d.get a.name with
  |some e=>if a.to=a.name∨f.has a.name=true then none else some ((d.del a.name).put a.to e,(f.del a.name).del a.to)
  |none=>none
 |_=>none
def Qi:List Ac->Nat->Dir->Z1->Option (Dir×Z1)
 |[],_,d,f=>some (d,f)
 |a::r,k,d,f=>match Wh k a d f with
  |some (d',f')=>Qi r (k+1) d' f'
  |none=>none
def ZJ(n:Nat):Nat:=(n+63) / 64
def W7(rs:List (Nat×Nat))(a:Nat):List (Nat×Nat):=
 match rs.getLast? with
 |some (f,m)=>if f+m=a then rs.dropLast++[(f,m+1)] else rs++[(a,1)]
 |none=>[(a,1)]
def ZZ(l:List Nat):List (Nat×Nat):=l.foldl W7 []
def Wu(used:List Bool):List Nat:=(List.range used.length).filter λi=> !used.getD i true
def Yn(free:List Nat):Z1->Dir->Option Dir
 |[],d=>some d
 |x::r,d=>match d.get x.1 with
  |some e=>if ZJ e.size<=free.length then Yn (free.drop (ZJ e.size)) r (d.put x.1 {e with runs:=ZZ (free.take (ZJ e.size))}) else none
  |none=>none
def Ja(v:Bs):ByteArray:=str (v.take 64++List.replicate (64- (v.take 64).length) 0)
def Qd:List Nat->Bs->List DOp
 |[],_=>[]
 |a::r,v=>.wr a (Ja v)::Qd r (v.drop 64)
def Yb(d:Dir)(acts:List Ac)(f:Z1):List DOp:=
 f.flatMap λx=>match d.get x.1 with
  |some e=>Qd e.secs (acts.getD x.2 ⟨0,[],[],[]⟩).value
  |none=>[]
def Q3(d:Dir)(acts:List Ac)(f:Z1):List DOp:=if(Yb d acts f).isEmpty then[] else Yb d acts f++[.fl]
def Qr(l:List (Nat×Nat)):Bs:=l.flatMap λr=>Z4 r.1++Z4 r.2
def Ent.tail(e:Ent):Bs:=Z4 e.size++Z4 e.sum++Qr e.runs
def XH:Bs:=[97,108,108]
def WS:Bs:=[115,111,109,101]
def Ya(d:Dir):Bs:=Zz (XH::d.map λx=>Zz [x.1,x.2.tail])
def Dir.both(a b:Dir):Dir:=b.foldl (λd x=>d.put x.1 x.2) a
def chg(was now:Dir)(f:Z1)(n:Bs):Option (Bs×Option Ent):=
 match now.get n with
 |some e=>match was.get n with
  |some o=>if f.has n=false/\e.tail=o.tail then none else some (n,some e)
  |none=>some (n,some e)
 |none=>some (n,none)
def QM(was now:Dir)(f:Z1):List (Bs×Option Ent):=(was.both now).names.filterMap (chg was now f)
def QT(x:Bs×Option Ent):Bs:=match x.2 with
 |some e=>Zz [x.1,e.tail]
 |none=>Zz [x.1]
def Jb(l:List (Bs×Option Ent)):Bs:=Zz (WS::l.map QT)
structure Sto where
 n:Nat
 half:Nat
 j:Jn
 dir:Dir
 used:List Bool
def Q6(n half:Nat)(d:Dir):List Bool:=(List.range n).map λi=>decide (i<2*half)||d.secs.contains i
structure Ent.Ok(n half:Nat)(e:Ent):Prop where
 many:∀r∈e.runs,1<=r.2/\2*half<=r.1/\r.1+r.2<=n
 secs:e.secs.length=ZJ e.size
 size:e.size<=12000
 sum:e.sum<4294967296
structure Dir.Ok(n half:Nat)(d:Dir):Prop where
 sorted:d.Sorted
 ent:∀x∈d,Ent.Ok n half x.2
 name:∀x∈d,1<=x.1.length/\x.1.length<=220
 apart:d.secs.Nodup
def Sto.plan(S:Sto)(acts:List Ac):Option (Dir×Z1):=
 match Qi acts 0 S.dir [] with
 |some (d,f)=>match Yn (Wu S.used) f d with
  |some d'=>some (d',f)
  |none=>none
 |none=>none
def Sto.jOps(S:Sto)(d:Dir)(f:Z1):List DOp:=
 if Zf (Jb (QM S.dir d f)).length / 64<=S.j.half-S.j.next then S.j.appendOps (Jb (QM S.dir d f)) else S.j.resetOps (Ya d)
def Sto.jNew(S:Sto)(d:Dir)(f:Z1):Jn:=
 if Zf (Jb (QM S.dir d f)).length / 64<=S.j.half-S.j.next then S.j.appended (Jb (QM S.dir d f)) else S.j.reset (Ya d)
def Sto.ops(S:Sto)(acts:List Ac)(d:Dir)(f:Z1):List DOp:=Q3 d acts f++S.jOps d f
def Sto.done(S:Sto)(d:Dir)(f:Z1):Sto:={S with j:=S.jNew d f,dir:=d,used:=Q6 S.n S.half d}
def Dk.value(D:Dk)(e:Ent):Bs:=(e.secs.flatMap λa=>(D.reads a).data.toList).take e.size
def WX(P:Pw)(D:Dk):Int:=if P.gone then 10 else if D.dead then 11 else 0
theorem Dir.get_some_mem{d:Dir}{n:Bs}{e:Ent}(h:d.get n=some e):(n,e)∈d:=by
 induction d with
 |nil=>cases h
 |cons x r ih=>unfold Dir.get at h;grind
theorem Dir.get_none{d:Dir}{n:Bs}:d.get n=none↔∀x∈d,x.1≠n:=by
 induction d with
 |nil=>simp[Dir.get]
 |cons x r ih=>unfold Dir.get;grind
theorem Bp(a:Bs):¬a<a:=List.lt_irrefl a
theorem MX{a b c:Bs}(h:a<b)(k:b<c):a<c:=List.lt_trans h k
theorem Z4l(a b:Bs):a<b∨a=b∨b<a:=by grind
theorem Dir.mem_get{d:Dir}(hs:d.Sorted){n:Bs}{e:Ent}(h:(n,e)∈d):d.get n=some e:=by
 induction d with
 |nil=>cases h
 |cons x r ih=>
  obtain⟨C,F⟩:=List.pairwise_cons.1 hs;unfold Dir.get;rcases Z5q.1 h with e1|hm
  .grind
  .have:x.1≠n:=by intro e1;have:=C _ hm;rw[e1] at this;exact Bp _ this
   rw[if_neg this];exact ih F hm
theorem Dir.get_del(d:Dir)(n m:Bs):(d.del n).get m=if m=n then none else d.get m:=by
 unfold Dir.del
 induction d with
 |nil=>simp[Dir.get]
 |cons x r ih=>
  rw[List.filter_cons];by_cases hx:x.1=n
  .have:(x.1 !=n)=false:=(by simp[hx]);rw[this];simp;rw[Dir.get];grind
  .have:(x.1 !=n)=true:=(by simp[hx]);rw[this];simp;rw[Dir.get,Dir.get];grind
theorem Dir.get_ins{d:Dir}(n:Bs)(e:Ent)(m:Bs)(h:d.get n=none):(Dir.ins n e d).get m=if m=n then some e else d.get m:=by
 induction d with
 |nil=>simp[Dir.ins,Dir.get,eq_comm]
 |cons x r ih=>
  unfold Dir.ins;split
  .rw[Dir.get];grind
  .rw[Dir.get] at h⊢;split at h
   .grind
   .rename_i hx;rw[Dir.get];grind
theorem Dir.get_put(d:Dir)(n:Bs)(e:Ent)(m:Bs):(d.put n e).get m=if m=n then some e else d.get m:=by unfold Dir.put;rw[Dir.get_ins n e m (by rw[Dir.get_del,if_pos rfl]),Dir.get_del];simp_all
theorem Dir.sorted_del{d:Dir}(h:d.Sorted)(n:Bs):(d.del n).Sorted:=List.Pairwise.filter _ h
theorem Dir.mem_ins{d:Dir}{n:Bs}{e:Ent}{x:Bs×Ent}:x∈Dir.ins n e d↔x=(n,e)∨x∈d:=by
 induction d with
 |nil=>simp[Dir.ins]
 |cons y r ih=>unfold Dir.ins;grind
theorem Dir.mem_del{d:Dir}{n:Bs}{x:Bs×Ent}:x∈d.del n↔x∈d/\x.1≠n:=by simp[Dir.del]
theorem Dir.mem_put{d:Dir}{n:Bs}{e:Ent}{x:Bs×Ent}:x∈d.put n e↔x=(n,e)∨(x∈d/\x.1≠n):=by unfold Dir.put;rw[Dir.mem_ins,Dir.mem_del]
theorem Dir.sorted_ins{d:Dir}(h:d.Sorted)(n:Bs)(e:Ent)(O:d.get n=none):(Dir.ins n e d).Sorted:=by
 induction d with
 |nil=>simp[Dir.ins,Dir.Sorted]
 |cons x r ih=>
  obtain⟨U,M⟩:=List.pairwise_cons.1 h;have J:=Dir.get_none.1 O;unfold Dir.ins;split
  .rename_i F;refine List.pairwise_cons.2 ⟨λy C=> ?_,h⟩;grind
  .rename_i F;refine List.pairwise_cons.2 ⟨λy C=> ?_,ih M (Dir.get_none.2 λy C=>J y (Z5n _ C))⟩;rcases Dir.mem_ins.1 C with rfl|C
   .grind
   .grind
theorem Dir.sorted_put{d:Dir}(h:d.Sorted)(n:Bs)(e:Ent):(d.put n e).Sorted:=Dir.sorted_ins (Dir.sorted_del h n) n e (by rw[Dir.get_del,if_pos rfl])
theorem Dir.ext{a b:Dir}(ha:a.Sorted)(J:b.Sorted)(h:∀n,a.get n=b.get n):a=b:=by
 induction a generalizing b with
 |nil=>
  cases b with
  |nil=>rfl
  |cons y r=>have:=h y.1;simp[Dir.get] at this
 |cons x r ih=>
  cases b with
  |nil=>have:=h x.1;simp[Dir.get] at this
  |cons y s=>
   obtain⟨M,a2⟩:=List.pairwise_cons.1 ha;obtain⟨b1,b2⟩:=List.pairwise_cons.1 J;have key:x.1=y.1:=by
    rcases Z4l x.1 y.1 with k|k|k
    .exfalso;have e1:=h x.1;rw[Dir.get,if_pos rfl] at e1;have:=Dir.get_some_mem e1.symm;grind
    .omega
    .exfalso;have e1:=h y.1;rw[Dir.get.eq_2 y.1 y s,if_pos rfl] at e1;have:=Dir.get_some_mem e1;grind
   have e0:=h x.1;rw[Dir.get,Dir.get] at e0;have F:x=y:=(by grind);subst F;rw[ih a2 b2];intro n;by_cases C:x.1=n
   .subst C;rw[Dir.get_none.2,Dir.get_none.2]
    .grind
    .grind
   .have:=h n;rwa[Dir.get,if_neg C,Dir.get,if_neg C] at this
section
variable{n:Nat}
def DOp.app(D:Dk):DOp->Dk
 |.wr a s=>{D with wait:=D.wait++[(a,s)]}
 |.fl=>D.flushed
def ZU(l:List DOp)(D:Dk):Dk:=l.foldl DOp.app D
def DOp.In(n:Nat):DOp->Prop
 |.wr a s=>a<n/\s.size=64
 |.fl=>True
def DOp.rd(R:Nat->ByteArray):DOp->Nat->ByteArray
 |.wr a s=>λb=>if a=b then s else R b
 |.fl=>R
def Zt(l:List DOp)(R:Nat->ByteArray):Nat->ByteArray:=l.foldl DOp.rd R
def Pw.lets(P:Pw)(k:Nat):Prop:=P.gone=false/\(P.fuse<0∨(k:Int)<=P.fuse)
def Pw.less(P Q:Pw)(k:Nat):Prop:=Q.gone=false/\Q.fuse=(if P.fuse<0 then P.fuse else P.fuse-k)
theorem EV(a b:List DOp)(D:Dk):ZU (a++b) D=ZU b (ZU a D):=by simp[ZU]
theorem Q1(a b:List DOp)(R:Nat->ByteArray):Zt (a++b) R=Zt b (Zt a R):=by simp[Zt]
theorem CQ{P:Pw}{D:Dk}{a:Nat}(C:P.gone=false)(h:D.dead=false)(hl:D.has.length=64*n)(ha:a<n):rdy P D a=0:=by rw[Cq C h hl,if_neg (by omega)]
structure Dk.Fit(D:Dk)(n:Nat):Prop where
 len:D.has.length=64*n
 n1:1<=n
 pend:∀x,x∈D.wait->x.1<n/\x.2.size=64
theorem Dk.ok.fit{D:Dk}(h:D.ok n):D.Fit n:=⟨h.len,h.n1,λx hx=>⟨h.at_ x hx,h.size x hx⟩⟩
theorem Dk.Fit.app{D:Dk}(h:D.Fit n)(o:DOp)(C:o.In n):(o.app D).Fit n:=by
 cases o with
 |wr a s=>exact⟨h.len,h.n1,by intro x hx;simp[DOp.app] at hx;rcases hx with hx|rfl;exact h.pend x hx;exact C⟩
 |fl=>exact⟨JU _ _ n h.len h.pend,h.n1,by simp[DOp.app,Dk.flushed]⟩
theorem Dk.Fit.apps{D:Dk}{l:List DOp}(h:D.Fit n)(hl:∀o∈l,o.In n):(ZU l D).Fit n:=by
 induction l generalizing D with
 |nil=>exact h
 |cons o l ih=>exact ih (h.app o (hl o (by simp))) (λq C=>hl q (by grind))
theorem C8(D:Dk)(o:DOp):(o.app D).dead=D.dead:=by cases o<;>rfl
theorem OX(D:Dk)(l:List DOp):(ZU l D).dead=D.dead:=by
 induction l generalizing D with
 |nil=>rfl
 |cons o l ih=>exact(ih _).trans (C8 D o)
theorem DS{P:Pw}(C:P.gone=false)(F:P.fuse<0∨1<=P.fuse):P.can=true/\P.act.gone=false/\P.act.fuse=if P.fuse<0 then P.fuse else P.fuse-1:=by
 have h:P.fuse≠0:=by omega
 refine⟨by simp[Pw.can,h],?_,?_⟩
 .unfold Pw.act;rw[if_neg h];exact C
 .unfold Pw.act;rw[if_neg h];grind
theorem Lf{P:Pw}{D:Dk}{o:DOp}(h:D.Fit n)(F:P.gone=false)(M:D.dead=false)(J:o.In n)(O:P.fuse<0∨1<=P.fuse):o.code P D=0/\o.pow P D=P.act/\o.dk P D=o.app D:=by
 have hc:=(DS F O).1;cases o with
 |wr a s=>
  have C:=CQ F M h.len J.1;have e1:YB P D a s=0:=by unfold YB;rw[if_pos C,if_pos J.2,hc];rfl
  refine⟨e1,?_,?_⟩
  .show Xx P D a s=_;unfold Xx;rw[if_pos ⟨C,J.2⟩]
  .show wdk P D a s=_;unfold wdk;rw[if_pos e1];rfl
 |fl=>
  have C:rdy P D 0=0:=CQ F M h.len (a:=0) (by have:=h.n1;omega);have e1:X9 P D=0:=by unfold X9;rw[if_pos C,hc];rfl
  refine⟨e1,?_,?_⟩
  .show JV P D=_;unfold JV;rw[if_pos C]
  .show fdk P D=_;unfold fdk;rw[if_pos e1];rfl
theorem OH{P:Pw}{D:Dk}{o:DOp}(h:D.Fit n)(O:P.gone=false)(J:D.dead=false)(F:o.In n)(M:P.fuse=0):o.code P D=10/\(o.pow P D).gone=true/\o.dk P D=D:=by
 have hc:P.can=false:=by simp[Pw.can,M]
 have ha:P.act.gone=true:=by unfold Pw.act;rw[if_pos M]
 cases o with
 |wr a s=>
  have C:=CQ O J h.len F.1;have e1:YB P D a s=10:=by unfold YB;rw[if_pos C,if_pos F.2,hc];rfl
  refine⟨e1,?_,?_⟩
  .show(Xx P D a s).gone=_;unfold Xx;rw[if_pos ⟨C,F.2⟩];exact ha
  .show wdk P D a s=_;unfold wdk;rw[e1];rfl
 |fl=>
  have C:rdy P D 0=0:=CQ O J h.len (a:=0) (by have:=h.n1;omega);have e1:X9 P D=10:=by unfold X9;rw[if_pos C,hc];rfl
  refine⟨e1,?_,?_⟩
  .show(JV P D).gone=_;unfold JV;rw[if_pos C];exact ha
  .show fdk P D=_;unfold fdk;rw[e1];rfl
theorem By{l:List DOp}{P:Pw}{D:Dk}(h:D.Fit n)(J:D.dead=false)(C:∀o∈l,o.In n)(hl:P.lets l.length):∃Q,Z2 l P D=(0,Q,ZU l D)/\P.less Q l.length:=by
 induction l generalizing P D with
 |nil=>exact⟨P,rfl,hl.1,by split<;>simp⟩
 |cons o l ih=>
  obtain⟨M,U⟩:=hl;simp at U;have F:P.fuse<0∨1<=P.fuse:=by omega
  obtain⟨e1,e2,O⟩:=Lf h M J (C o (by simp)) F;obtain⟨_,a2,a3⟩:=DS M F;obtain⟨Q,Z,q2,q3⟩:=ih (P:=P.act) (D:=o.app D) (h.app o (C o (by simp))) (by rw[C8,J]) (λq hq=>C q (by grind)) ⟨a2,by rw[a3];split<;>omega⟩;refine⟨Q,?_,q2,?_⟩
  .simp[Z2];rw[if_pos e1,e2,O,Z];rfl
  .grind
theorem U2{l:List DOp}{P:Pw}{D:Dk}(h:D.Fit n)(M:D.dead=false)(C:∀o∈l,o.In n)(O:P.gone=false)(k:Nat)(F:P.fuse=k)(hl:k<l.length):∃Q,Z2 l P D=(10,Q,ZU (l.take k) D)/\Q.gone=true:=by
 induction l generalizing P D k with
 |nil=>simp at hl
 |cons o l ih=>
  match k,F,hl with
  |0,F,_=>obtain⟨e1,e2,J⟩:=OH h O M (C o (by simp)) F;exact⟨o.pow P D,by simp[Z2];rw[e1,J];rfl,e2⟩
  |k+1,F,hl=>have U:P.fuse<0∨1<=P.fuse:=(by omega);obtain⟨e1,e2,J⟩:=Lf h O M (C o (by simp)) U;obtain⟨_,a2,a3⟩:=DS O U;obtain⟨Q,Z,q2⟩:=ih (P:=P.act) (D:=o.app D) (h.app o (C o (by simp))) (by rw[C8,M]) (λq hq=>C q (by grind)) a2 k (by omega) (by simp_all);exact⟨Q,by simp[Z2];rw[if_pos e1,e2,J,Z];rfl,q2⟩
theorem UD{D:Dk}(h:D.Fit n)(o:DOp):(o.app D).reads=o.rd D.reads:=by
 cases o with
 |wr a s=>funext b;show Dk.reads {D with wait:=D.wait++[(a,s)]} b=_;rw[Oa,O9];rfl
 |fl=>
  funext b
  exact EY D.wait D.has n b h.len h.pend
theorem Xo{D:Dk}{l:List DOp}(h:D.Fit n)(C:∀o∈l,o.In n):(ZU l D).reads=Zt l D.reads:=by
 induction l generalizing D with
 |nil=>rfl
 |cons o l ih=>show(ZU l (o.app D)).reads=_;rw[ih (h.app o (C o (by simp))) (λq F=>C q (by grind)),UD h o];rfl
theorem CD(l:List DOp)(D:Dk):(ZU (l++[.fl]) D).wait=[]:=by rw[EV];rfl
theorem BV{D:Dk}(h:D.wait=[])(a:Nat):D.reads a=D.lasts a:=by rw[Oa,h];rfl
end
section
variable{J:Jn}{R R':Nat->ByteArray}{a b e m:Nat}{rs:List Bs}
def WW(s:ByteArray):UInt8:=s.data.toList.getD 0 0
def JF(R:Nat->ByteArray)(e:Nat):Nat->Nat->List Bs->Prop
 |_,_,[]=>True
 |a,m,r::rs=>(∀q,q<Zf r.length / 64->R (a+q)=ZQ (Zh e (m+1) r) q)/\JF R e (a+Zf r.length / 64) (m+1) rs
structure Z2B(R:Nat->ByteArray)(base half e:Nat)(rs:List Bs):Prop where
 head:R base=str (Zh e 0 ZM)
 recs:JF R e (base+1) 0 rs
 fits:1+Zp rs<=half
 stop:1+Zp rs<half->WW (R (base+(1+Zp rs)))≠1
def Hq(R:Nat->ByteArray)(base e:Nat):Prop:=WW (R base)≠1∨∃e',e'<e/\R base=str (Zh e' 0 ZM)
structure Yp(R:Nat->ByteArray)(J:Jn)(rs:List Bs):Prop where
 on:Z2B R (J.at_ J.second 0) J.half J.epoch rs
 off:Hq R (J.at_ (!J.second) 0) J.epoch
 many:J.many=rs.length
 next:J.next=1+Zp rs
 epoch:1<=J.epoch
theorem Z03(l:Bs)(i n:Nat)(h:l.length=64*n)(hi:i<n):(ZQ l i).size=64:=by unfold ZQ;rw[Z5,ED l n i h hi]
theorem Dv:QF.size=64:=by rfl
theorem Xz:WW QF≠1:=by unfold WW QF;rw[Zn];decide
theorem Qf(l:Bs)(h:l≠[]):(ZC l).length=l.length:=by
 cases l with
 |nil=>exact absurd rfl h
 |cons x r=>simp[ZC]
theorem Ua(l:Bs)(i:Nat)(hi:1<=i):sec (ZC l) i=sec l i:=by
 unfold sec;cases l with
 |nil=>obtain⟨m,hm⟩:∃m,i*64=m+1:=⟨i*64-1,by omega⟩;rw[hm];simp[ZC]
 |cons x r=>obtain⟨m,hm⟩:∃m,i*64=m+1:=⟨i*64-1,by omega⟩;rw[hm];simp[ZC]
theorem XW(l:Bs):WW (ZQ (ZC l) 0)≠1:=by unfold WW ZQ sec;rw[Zn];simp[ZC]
theorem JD(a:Nat)(l:Bs):(wrs a l).length=l.length / 64:=by simp[wrs]
theorem Gj{n:Nat}{l:Bs}(hl:l.length%64=0)(h:a+l.length / 64<=n):∀o∈wrs a l,o.In n:=by intro o C;simp[wrs] at C;obtain⟨i,hi,rfl⟩:=C;exact⟨by omega,Z03 l i (l.length / 64) (by omega) hi⟩
theorem Z1Z{o:DOp}(h:∀a s,o=.wr a s->a≠b):o.rd R b=R b:=by
 cases o with
 |wr a s=>show(if a=b then s else R b)=_;rw[if_neg (h a s rfl)]
 |fl=>rfl
theorem JJ{l:List DOp}(h:∀a s,.wr a s∈l->a≠b):Zt l R b=R b:=by
 induction l generalizing R with
 |nil=>rfl
 |cons o l ih=>show Zt l (o.rd R) b=_;rw[ih (λa s hm=>h a s (by grind)),Z1Z (λa s e=>h a s (by simp_all))]
theorem Cp(a:Nat)(l:Bs)(R:Nat->ByteArray)(b:Nat):Zt (wrs a l) R b=if a<=b/\b<a+l.length / 64 then ZQ l (b-a) else R b:=by
 unfold wrs;generalize l.length / 64=m
 induction m with
 |zero=>rw[if_neg (by simp)];rfl
 |succ m ih=>rw[List.range_succ,Z5u,Q1];show(if a+m=b then ZQ l m else _)=_;grind
theorem JF.congr(h:JF R e a m rs)(C:∀b,a<=b->b<a+Zp rs->R' b=R b):JF R' e a m rs:=by
 induction rs generalizing a m with
 |nil=>trivial
 |cons r rs ih=>obtain⟨F,M⟩:=h;have hl:Zp (r::rs)=Zf r.length / 64+Zp rs:=rfl;exact⟨λq O=>by rw[C _ (by simp) (by omega)];exact F q O,ih M (λb U Z=>C b (by omega) (by omega))⟩
theorem AZ(a b:List Bs):Zp (a++b)=Zp a+Zp b:=by simp[Zp]
theorem JF.snoc{r:Bs}(h:JF R e a m rs)(F:∀q,q<Zf r.length / 64->R (a+Zp rs+q)=ZQ (Zh e (m+rs.length+1) r) q):JF R e a m (rs++[r]):=by
 induction rs generalizing a m with
 |nil=>exact⟨λq C=>F q C,trivial⟩
 |cons x rs ih=>obtain⟨M,O⟩:=h;refine⟨M,ih O (λq C=> ?_)⟩;have:=F q C;rw[show Zp (x::rs)=Zf x.length / 64+Zp rs from rfl] at this;grind
theorem Yp.congr(h:Yp R J rs)(F:∀b,b<2*J.half->R' b=R b)(h1:1<=J.half):Yp R' J rs:=by
 have C:∀s k,k<J.half->J.at_ s k<2*J.half:=λs k hk=>by unfold Jn.at_;split<;>omega
 have M:∀s k,J.at_ s 0+k=J.at_ s k:=λs k=>by unfold Jn.at_;split<;>omega
 have e0:=F _ (C J.second 0 (by omega));have e1:=F _ (C (!J.second) 0 (by omega));have O:=h.on.fits;refine⟨⟨by rw[e0];exact h.on.head,h.on.recs.congr (λb U Z=>F b ?_),O,λhs=> ?_⟩,?_,h.many,h.next,h.epoch⟩
 .have:=C J.second (J.half-1) (by omega);grind
 .have:=C J.second (1+Zp rs) (by omega);rw[<-M] at this;rw[F _ this];exact h.on.stop hs
 .unfold Hq;rw[e1];exact h.off
theorem XE(e n:Nat)(r:Bs):Zh e n r≠[]:=by unfold Zh;simp
theorem Jk(e n:Nat)(r:Bs):(Zh e n r).length / 64=Zf r.length / 64/\(Zh e n r).length%64=0:=by rw[Wd];exact⟨rfl,Jf _⟩
theorem Br(n:Nat):1<=Zf n / 64:=by unfold Zf;omega
theorem QP(e:Nat):(Zh e 0 ZM).length=64:=by rfl
theorem RU(l:Bs)(h:l.length=64):sec l 0=l:=by unfold sec;rw[Nat.zero_mul,List.drop_zero,Z5o (by omega)]
theorem OB(l:Bs):sec (l.take 64) 0=sec l 0:=by unfold sec;rw[Nat.zero_mul,List.drop_zero,List.drop_zero,List.take_take];rfl
theorem VV(J:Jn)(s:Bool)(k:Nat)(l:Bs)(R:Nat->ByteArray)(hl:l.length%64=0)(C:l≠[])(b:Nat):Zt (J.lay s k l) R b=if J.at_ s k<=b/\b<J.at_ s k+l.length / 64 then ZQ l (b-J.at_ s k) else if b=J.at_ s (k+l.length / 64)/\k+l.length / 64<J.half then QF else R b:=by
 have M:64<=l.length:=by
  have:0<l.length:=by grind
  omega
 have F:J.at_ s (k+l.length / 64)=J.at_ s k+l.length / 64:=by unfold Jn.at_;split<;>omega
 have O:(l.take 64).length=64:=by simp_all
 unfold Jn.lay;rw[Q1,Q1,Q1,Q1];show Zt (wrs (J.at_ s k) (l.take 64)) _ b=_;rw[Cp];by_cases h:b=J.at_ s k
 .rw[if_pos (by omega),if_pos (by omega),h,Nat.sub_self];unfold ZQ;rw[OB]
 .rw[if_neg (by omega)];show Zt (J.clean s (k+l.length / 64)) _ b=_;have hw:∀R,Zt (wrs (J.at_ s k) (ZC l)) R b=if J.at_ s k<=b/\b<J.at_ s k+l.length / 64 then ZQ l (b-J.at_ s k) else R b:=by
   intro R;rw[Cp,Qf l C];split
   .unfold ZQ;rw[Ua _ _ (by omega)]
   .rfl
  unfold Jn.clean;by_cases hc:J.half<=k+l.length / 64
  .rw[if_pos hc,show Zt [] (Zt (wrs (J.at_ s k) (ZC l)) R) b=Zt (wrs (J.at_ s k) (ZC l)) R b from rfl,hw];grind
  .rw[if_neg hc];show(if J.at_ s (k+l.length / 64)=b then QF else Zt (wrs (J.at_ s k) (ZC l)) R b)=_;grind
theorem Yp.append(h:Yp R J rs)(r:Bs)(hr:Zf r.length / 64<=J.half-J.next):Yp (Zt (J.appendOps r) R) (J.appended r) (rs++[r]):=by
 have hn:=h.next
 have Z:=h.on.fits;obtain⟨m1,m2⟩:=Jk J.epoch (J.many+1) r;have key:=λb=>VV J J.second J.next (Zh J.epoch (J.many+1) r) R m2 (XE _ _ _) b
 change∀b,Zt (J.appendOps r) R b=_ at key;have C:∀s k,J.at_ s k=J.at_ s 0+k:=λs k=>by unfold Jn.at_;split<;>omega
 have M:J.at_ (!J.second) 0+J.half<=J.at_ J.second 0∨J.at_ J.second 0+J.half<=J.at_ (!J.second) 0:=by unfold Jn.at_;cases J.second<;>simp
 have F:Zp (rs++[r])=Zp rs+Zf r.length / 64:=by rw[AZ];rfl
 have same:∀b,(b<J.at_ J.second 0+J.next∨J.at_ J.second 0+J.half<=b)->Zt (J.appendOps r) R b=R b:=by grind
 refine⟨⟨?_,?_,?_,?_⟩,?_,?_,?_,h.epoch⟩
 .show Zt (J.appendOps r) R (J.at_ J.second 0)=_;rw[same _ (by omega)];exact h.on.head
 .show JF _ J.epoch (J.at_ J.second 0+1) 0 (rs++[r]);refine(h.on.recs.congr (λb O U=>same b (by omega))).snoc (λq hq=> ?_);rw[key,C J.second J.next,if_pos (by omega)];rw[show J.at_ J.second 0+1+Zp rs+q- (J.at_ J.second 0+J.next)=q from by omega,h.many,Nat.zero_add]
 .show 1+Zp (rs++[r])<=J.half;omega
 .intro hs;change 1+Zp (rs++[r])<J.half at hs;show WW (Zt (J.appendOps r) R (J.at_ J.second 0+(1+Zp (rs++[r]))))≠1;rw[key,C J.second J.next,C J.second (J.next+_),if_neg (by omega),if_pos (by omega)];exact Xz
 .show Hq _ (J.at_ (!J.second) 0) J.epoch;have e:=same (J.at_ (!J.second) 0) (by omega);unfold Hq;rw[e];exact h.off
 .show J.many+1=_;rw[h.many,Z5d];rfl
 .show J.next+Zf r.length / 64=_;rw[F];omega
theorem Yp.reset(h:Yp R J rs)(r:Bs)(hr:1+Zf r.length / 64<=J.half):Yp (Zt (J.resetOps r) R) (J.reset r) [r]:=by
 obtain⟨m1,m2⟩:=Jk (J.epoch+1) 1 r;have C:∀s k,J.at_ s k=J.at_ s 0+k:=λs k=>by unfold Jn.at_;split<;>omega
 have U:J.at_ (!J.second) 0+J.half<=J.at_ J.second 0∨J.at_ J.second 0+J.half<=J.at_ (!J.second) 0:=by unfold Jn.at_;cases J.second<;>simp
 have hh:(Zh (J.epoch+1) 0 ZM).length / 64=1:=by rw[QP]
 have hu:(ZC (Zh (J.epoch+1) 0 ZM)).length / 64=1:=by rw[Qf _ (XE _ _ _),QP]
 have key:∀b,Zt (J.resetOps r) R b=if b=J.at_ (!J.second) 0 then str (Zh (J.epoch+1) 0 ZM)
   else if b=J.at_ (!J.second) 0+(1+Zf r.length / 64)/\1+Zf r.length / 64<J.half then QF
   else if J.at_ (!J.second) 0+1<=b/\b<J.at_ (!J.second) 0+1+Zf r.length / 64 then ZQ (Zh (J.epoch+1) 1 r) (b- (J.at_ (!J.second) 0+1)) else R b:=by
  intro b;unfold Jn.resetOps;rw[Q1,Q1,Q1,Q1,Q1];show Zt (wrs (J.at_ (!J.second) 0) (Zh (J.epoch+1) 0 ZM)) _ b=_;rw[Cp];by_cases F:b=J.at_ (!J.second) 0
  .rw[if_pos (by omega),if_pos F,F,Nat.sub_self];unfold ZQ;rw[RU _ (QP _)]
  .rw[if_neg (by omega),if_neg F];show Zt (wrs (J.at_ (!J.second) 0) (ZC (Zh (J.epoch+1) 0 ZM))) _ b=_;rw[Cp,if_neg (by omega)];unfold Jn.clean;by_cases hc:J.half<=1+Zf r.length / 64
   .rw[if_pos hc,if_neg (by omega)];show Zt (wrs (J.at_ (!J.second) 1) (Zh (J.epoch+1) 1 r)) R b=_;rw[Cp,m1,C (!J.second) 1]
   .rw[if_neg hc];show(if J.at_ (!J.second) (1+Zf r.length / 64)=b then QF else Zt (wrs (J.at_ (!J.second) 1) (Zh (J.epoch+1) 1 r)) R b)=_;rw[C (!J.second) (1+_)];by_cases M:b=J.at_ (!J.second) 0+(1+Zf r.length / 64)
    .simp_all
    .rw[if_neg (λe=>M e.symm),if_neg (λe=>M e.1),Cp,m1,C (!J.second) 1]
 have O:Zp [r]=Zf r.length / 64:=by rfl
 refine⟨⟨?_,⟨λq Z=> ?_,trivial⟩,?_,λhs=> ?_⟩,?_,rfl,?_,?_⟩
 .show Zt (J.resetOps r) R (J.at_ (!J.second) 0)=str (Zh (J.epoch+1) 0 ZM);simp_all
 .show Zt (J.resetOps r) R (J.at_ (!J.second) 0+1+q)=ZQ (Zh (J.epoch+1) 1 r) q;grind
 .show 1+Zp [r]<=J.half;omega
 .change 1+Zp [r]<J.half at hs;show WW (Zt (J.resetOps r) R (J.at_ (!J.second) 0+(1+Zp [r])))≠1;rw[key,if_neg (by simp),O,if_pos ⟨rfl,by omega⟩];exact Xz
 .refine Or.inr ⟨J.epoch,by show J.epoch<J.epoch+1;omega,?_⟩;show Zt (J.resetOps r) R (J.at_ (!!J.second) 0)=_;rw[Bool.not_not,key,if_neg (by omega),if_neg (by omega),if_neg (by omega)];exact h.on.head
 .rfl
 .show 1<=J.epoch+1;omega
theorem Yp.format(R:Nat->ByteArray)(half:Nat)(hh:2<=half):Yp (Zt (Jn.format half) R) (Jn.first half) []:=by
 have key:=λb=>VV ⟨half,false,1,0,1,false⟩ false 0 (Zh 1 0 ZM) (Zt (Jn.clean ⟨half,false,1,0,1,false⟩ true 0) R) (by rfl) (XE _ _ _) b;rw[QP] at key;have e:∀b,Zt (Jn.format half) R b=_:=λb=>by
  have:Zt (Jn.format half) R=Zt (Jn.lay ⟨half,false,1,0,1,false⟩ false 0 (Zh 1 0 ZM)) (Zt (Jn.clean ⟨half,false,1,0,1,false⟩ true 0) R):=by unfold Jn.format;rw[Q1]
  rw[this,key]
 simp[Jn.at_] at e;refine⟨⟨?_,trivial,?_,λhs=> ?_⟩,Or.inl ?_,rfl,rfl,?_⟩
 .show Zt (Jn.format half) R 0=_;rw[e];unfold ZQ;rw[RU _ (QP _)];rfl
 .show 1+0<=half;omega
 .show WW (Zt (Jn.format half) R (0+(1+0)))≠1;rw[e,if_neg (by simp),if_pos (by omega)];exact Xz
 .show WW (Zt (Jn.format half) R (0+half))≠1;rw[Nat.zero_add,e,if_neg (by omega),if_neg (by omega)];unfold Jn.clean;rw[if_neg (by grind)];show WW (if 0+half=half then QF else R half)≠1;rw[if_pos (by simp)];exact Xz
 .exact Nat.le_refl 1
end
section
open Go.RowKit
variable{B d j n p:Nat}{D:Dk}{L:List Nat}{P:Pw}{a b:ByteArray}{w:World}
theorem Z4I(h:a=b):Ending.returned (.string a)=.returned (.string b):=by rw[h]
def JAt(w:World)(j d:Nat)(J:Jn):Prop:=Row w j 225 [.pointer (some ⟨d,0,none⟩),.int .i64 0,.int .i64 J.half,.bool J.second,.int .i64 J.epoch,.int .i64 J.many,.int .i64 J.next,.bool J.closed]
theorem JAt.after{w':World}{J:Jn}(h:JAt w j d J)(C:Below w.heap.size w w'):JAt w' j d J:=Row.after h C
theorem JAt.did{X:List Nat}{P1:Pw}{D1:Dk}{w1:World}{L1:List Nat}{J:Jn}(h:Did B p d n L X P1 D1 w w1 L1)(C:PD B w p d n P D L)(M:JAt w j d J)(F:j∉X):JAt w1 j d J:=h.row C M F (by simp) (by simp) (by simp) (by simp)
structure Jn.Fit(J:Jn):Prop where
 half:J.half<=100000
 epoch:J.epoch<=3000000000
 many:J.many<=100000
 next:J.next<=100000
theorem Z4T(J:Jn)(s:Bool)(k:Nat):J.at_ s k<=k+J.half:=by unfold Jn.at_;split<;>omega
theorem Gs(j d:Nat)(J:Jn)(s:Bool)(k:Nat)(w:World)(h:JAt w j d J)(C:k<=100000000)(hh:J.half<=100000):Calls prog 212 #[.pointer (some ⟨j,0,none⟩),.bool s,.int .i64 k] w λe w'=>e=.returned (.int .i64 (J.at_ s k:Nat))/\w=w':=by
 have c1:=h.cell (j:=1) rfl;have c2:=h.cell (j:=2) rfl;cases s
 .go_enter func212,ntmps212;go_wp2;go_ret;exact⟨Wm (by rfl),rfl⟩
 .go_enter func212,ntmps212;go_wp2;go_ret;exact⟨Wm (by rfl),rfl⟩
theorem YU(h:a.data.toList=b.data.toList):a=b:=ByteArray.ext (Array.toList_inj.1 h)
theorem Lg(a b:ByteArray):a++b=str (a.data.toList++b.data.toList):=by rfl
theorem Gg(s:ByteArray)(w:World)(hs:1<=s.size)(hm:s.size<=1000000):Calls prog 245 #[.string s] w λe w'=>e=.returned (.string (str (ZC s.data.toList)))/\w=w':=by go_enter func245,ntmps245;go_wp2;go_ret;exact⟨Z4I (YU (by rw[Zn];simp[ZC];exact Z5o (by simp))),rfl⟩
theorem UL(w:World):Calls prog 250 #[] w λe w'=>e=.returned (.string QF)/\Below w.heap.size w w':=by
 obtain⟨i0,hi,M,O,U⟩:=info_parts Xw;obtain⟨q,Z⟩:∃q:Nat,q=64:=⟨64,rfl⟩;have F:=λW=>WF (P:=prog) 75 5 i0 underlying75 hi M O U q (by omega) W;have C:=λ(W:World) (h:Row W w.heap.size 5 (Z3 (List.replicate q 0)))=>Qo (P:=prog) W 75 9 5 underlying75 underlying5 underlying9 h 0 q q (List.replicate q 0) (by simp) (by rw[List.drop_zero,Z5o (by simp[Zj])]);have af:=C _ (Row.new w 5 (Z3 (List.replicate q 0)));have J:(64:Int)=(q:Int):=by omega
 have ae:=F w;rw[<-J] at ae;have HQ:=Z5F Z;clear hi M O U F C Z J;go_enter func250,ntmps250;go_wp2;go_ret;refine⟨?_,Z5E.alloc Z5D _⟩;rw[HQ.out];rfl
theorem QI(s:ByteArray):s.data.toList.length=s.size:=by rfl
theorem Re(s:ByteArray)(i:Nat):s.extract (64*i) (64*i+64)=ZQ s.data.toList i:=by apply YU;rw[Lib.extract_data];unfold ZQ sec;rw[Zn,Nat.mul_comm,show i*64+64-i*64=64 from by omega]
theorem Nc(s:ByteArray)(a:Nat)(ha:a+64<=s.size):(s.extract a s.size).extract 0 64=s.extract a (a+64):=by apply YU;rw[Lib.extract_data,Lib.extract_data,Lib.extract_data,List.drop_zero,List.take_take];simp
theorem Z2y(a:Nat)(l:Bs)(i:Nat)(hi:i<l.length / 64):(wrs a l).take (i+1)=(wrs a l).take i++[.wr (a+i) (ZQ l i)]:=by
 have hl:i<(wrs a l).length:=by rw[JD];exact hi
 rw[Z5f hl];simp[wrs]
theorem Az(B p d n j:Nat)(P:Pw)(D:Dk)(L:List Nat)(J:Jn)(sd:Bool)(k:Nat)(s:ByteArray)(w:World)(h:PD B w p d n P D L)(hB:B<=w.heap.size)(Z:JAt w j d J)(hm:s.size%64=0)(hs:s.size<=1000000)(hk:k<=100000)(hh:J.half<=100000)(bm:D.wait.length<=1000000000):Calls prog 244 #[.pointer (some ⟨j,0,none⟩),.bool sd,.int .i64 k,.string s] w (Ans w.heap.size (Z2 (wrs (J.at_ sd k) s.data.toList) P D).1 (Ran B p d n L [] (wrs (J.at_ sd k) s.data.toList) P D w)):=by
 obtain⟨m,aw⟩:∃m,s.size=64*m:=⟨s.size / 64,by omega⟩;have b9:s.data.toList.length / 64=m:=by rw[QI s,aw];omega
 have ct:m<=100000:=by omega
 obtain⟨ops,ho⟩:=Z5H (wrs (J.at_ sd k) s.data.toList);have bf:ops.length=m:=by rw[<-ho,JD,b9]
 have ai:∀i,i<m->ops.take (i+1)=ops.take i++[.wr (J.at_ sd k+i) (ZQ s.data.toList i)]:=λi hi=>by rw[<-ho];exact Z2y _ _ i (by omega)
 have cr:=Z4T J sd k;have af:∀i,J.at_ sd (k+i)=J.at_ sd k+i:=λi=>by unfold Jn.at_;split<;>omega
 have ae:ops.take m=ops:=Z5o (by omega);rw[ho];have H:=Z5J h Z;have HB:=Z5F hB;have ak:=Z5K ai af ae;have b7:=Z5F aw;have HO:=Z5J ho bf;clear h Z hB ai af ae hm b9 ho bf aw;go_enter func244,ntmps244;go_wp2;go_loopw [2,3] (λkk ss wr=>∃i,i<=m/\kk=.int .i64 ((k+i:Nat):Int)/\ss=.string (s.extract (64*i) s.size)/\∃F C Lr,Z2 (ops.take i) P D=(0,F,C)/\Did B p d n L [] F C w wr Lr) (λkk _ _=>k+m- (intOf kk).toNat)
 case atStart=>exact⟨0,by omega,by simp,by rw[Nat.mul_zero];congr 1;apply YU;rw[Lib.extract_to_end];rfl,P,D,L,rfl,Did.same H.out.1 [] Z5E⟩
 case round=>
  obtain⟨i,hi,rfl,rfl,F,C,Lr,O,U⟩:=hrel;by_cases bq:i<m
  .have bh:(s.extract (64*i) s.size).size=s.size-64*i:=by rw[ByteArray.size_extract];omega
   have az:=b7.out;have bu:0<s.size-64*i:=(by omega);have cn:(64:Int)<=((s.size-64*i:Nat):Int):=(by omega);have au:(s.extract (64*i) s.size).extract 0 64=ZQ s.data.toList i:=(by rw[Nc s _ (by omega),Re]);have bz:(Z2 (ops.take i) P D).2.2.wait.length<=1000000000+i:=by have:=Kk (ops.take i) P D;have:=List.length_take_le i ops;omega
   rw[O] at bz;have Z:JAt wr j d J:=JAt.did U H.out.1 H.out.2 (by simp);have bj:B<=wr.heap.size:=Z5w HB.out U.fr.size;have c0:=Z.cell (j:=0) rfl;clear az;go_wp2_with fail;have S0:=Z5J Z U;go_still_tail 10,(by kernel_rfl)
   still_call (XJ (Gs j d J sd (k+i) _ S0.out.1 (by omega) hh))
   repeat still_step
   refine wpStill_nil ?_;change wpList _ _ _ _ _ wr.drew;have b8:Did B p d n L [] F C w wr.drew Lr:=S0.out.2.after (Z5E.drew);have ai:=ak.out.1 i bq;have al:=ak.out.2.1 i;rw[al];have S1:=Z5K b8 ai al;have ag:=U;clear ai al b8 c0 Z U;go_wp2_with fail;refine(PD.write S1.out.1.pd (show B<=wr.drew.heap.size from bj) ((J.at_ sd k+i:Nat):Int) (ZQ s.data.toList i) (by omega)).mono ?_;rintro e w1 ⟨ev,rfl,he,L1,aq⟩;have aj:Did B p d n L [] (Xx F C ((J.at_ sd k+i:Nat):Int) (ZQ s.data.toList i)) (wdk F C ((J.at_ sd k+i:Nat):Int) (ZQ s.data.toList i)) w w1 L1:=S1.out.1.trans aq;rcases he.split with ⟨hc,rfl⟩|⟨hc,b,rfl⟩
   .have ah:Z2 (ops.take (i+1)) P D=(0,Xx F C ((J.at_ sd k+i:Nat):Int) (ZQ s.data.toList i),wdk F C ((J.at_ sd k+i:Nat):Int) (ZQ s.data.toList i)):=by rw[S1.out.2.1,Hf _ _ P F D C O];exact congrArg (λc=>(c,_,_)) hc
    have bg:(s.extract (64*i) s.size).extract 64 (s.size-64*i)=s.extract (64*(i+1)) s.size:=by apply YU;rw[Lib.extract_data,Lib.extract_to_end,Lib.extract_to_end,List.drop_drop,Z5o (by simp;omega)];congr 1
    have M:=Z5K ah aj bg;clear ah aj bg he aq hc O;go_wp2;go_roundw
    case rel=>exact⟨i+1,by omega,by go_num,by rw[<-M.out.2.2],_,_,L1,M.out.1,M.out.2.1⟩
    case measure=>simp[intOf];omega
   .have ah:Z2 ops P D=(YB F C ((J.at_ sd k+i:Nat):Int) (ZQ s.data.toList i),Xx F C ((J.at_ sd k+i:Nat):Int) (ZQ s.data.toList i),wdk F C ((J.at_ sd k+i:Nat):Int) (ZQ s.data.toList i)):=by refine Mz ops (i+1) P _ D _ _ ?_ hc;rw[S1.out.2.1,Hf _ _ P F D C O];rfl
    have M:=Z5K ah aj he;have cj:=ag.fr.size;clear ah aj he aq hc O au bh;go_wp2;go_ret;refine⟨_,rfl,?_,L1,?_⟩
    .rw[M.out.1];exact M.out.2.2.base cj
    .rw[M.out.1];exact M.out.2.1
  .obtain rfl:i=m:=(by omega);have bh:(s.extract (64*i) s.size).size=0:=by rw[ByteArray.size_extract,b7.out];omega
   have ae:=ak.out.2.2;rw[ae] at O;have M:=Z5J O U;clear O U ae;go_wp2;go_ret;rw[show Z2 ops P D=(0,F,C) from M.out.1];exact⟨_,rfl,Zk.nil _ _,Lr,by rw[M.out.1];exact M.out.2⟩
theorem Fn(B p d n j:Nat)(P:Pw)(D:Dk)(L:List Nat)(J:Jn)(sd:Bool)(k:Nat)(w:World)(h:PD B w p d n P D L)(hB:B<=w.heap.size)(O:JAt w j d J)(hk:k<=100000)(hh:J.half<=100000)(ae:D.wait.length<=1000100000):Calls prog 209 #[.pointer (some ⟨j,0,none⟩),.bool sd,.int .i64 k] w (Ans w.heap.size (Z2 (J.clean sd k) P D).1 (Ran B p d n L [] (J.clean sd k) P D w)):=by
 have c0:=O.cell (j:=0) rfl;have c2:=O.cell (j:=2) rfl;have H:=Z5J h O;have HB:=Z5F hB;by_cases U:J.half<=k
 .have e:J.clean sd k=[]:=by unfold Jn.clean;rw[if_pos U]
  rw[e];go_enter func209,ntmps209;go_wp2;go_ret;exact⟨_,rfl,Zk.nil _ _,L,Did.same H.out.1 [] Z5E⟩
 .have e:J.clean sd k=[.wr (J.at_ sd k) QF]:=by unfold Jn.clean;rw[if_neg U]
  rw[e];go_enter func209,ntmps209;go_wp2_with fail;have M:=Z5J (H.out.1.after ((Below.refl w.heap.size w).drew)) (JAt.after H.out.2 ((Below.refl w.heap.size w).drew));go_region_held3 (λw'=>w'.cell? ⟨j,0,none⟩=some (.pointer (some ⟨d,0,none⟩))) (first|assumption|exact S1.out.1.2.cell (j:=0) rfl|exact S2.out.cell (j:=0) rfl)
   (first|((go_at_call 212;refine(Gs j d J sd k _ M.out.2 (by omega) hh).mono ?_;rintro e w1 ⟨rfl,rfl⟩))|((go_at_call 250;refine(UL _).mono ?_;rintro e w1 ⟨rfl,C⟩;have S1:=Z5J (Z5G (M.out.1.after C) (JAt.after M.out.2 C)) C;clear C))|((go_at_call 190;refine(PD.write S1.out.1.1 (Z5w HB.out S1.out.2.size) _ QF (by omega)).mono ?_;rintro e w2 ⟨ev,rfl,he,L1,F⟩;have S2:=Z5F (JAt.did F S1.out.1.1 S1.out.1.2 (by simp));have Z:=Z5J he (F.from (w0:=w) (((Below.refl w.heap.size w).drew).trans S1.out.2));have af:=S1.out.2.size;clear he F)))
  go_wp2;go_ret;refine⟨_,rfl,?_,Ran.one ⟨L1,Z.out.2⟩⟩;rw[AJ];exact Z.out.1.base af
theorem PD.flush1(h:PD B w p d n P D L)(hB:B<=w.heap.size):Calls prog 191 #[.pointer (some ⟨d,0,none⟩)] w (Ans w.heap.size (Z2 [.fl] P D).1 (Ran B p d n L [] [.fl] P D w)):=(PD.flush h hB).mono λe w' ⟨ev,he,hv,C⟩=>⟨ev,he,by rw[AJ];exact hv,Ran.one C⟩
theorem RL(B p d n j:Nat)(P:Pw)(D:Dk)(L:List Nat)(J:Jn)(sd:Bool)(k:Nat)(s:ByteArray)(w:World)(h:PD B w p d n P D L)(hB:B<=w.heap.size)(hj:JAt w j d J)(hm:s.size%64=0)(h1:64<=s.size)(hs:s.size<=100000)(hk:k<=50000)(hh:J.half<=100000)(au:D.wait.length<=1000000):Calls prog 195 #[.pointer (some ⟨j,0,none⟩),.bool sd,.int .i64 k,.string s] w (Ans w.heap.size (Z2 (J.lay sd k s.data.toList) P D).1 (Ran B p d n L [] (J.lay sd k s.data.toList) P D w)):=by
 have ai:s.data.toList≠[]:=by intro e;have:=QI s;rw[e] at this;simp at this;omega
 have ah:(ZC s.data.toList).length=s.size:=by rw[Qf _ ai,QI]
 have ak:(str (ZC s.data.toList)).size=s.size:=by rw[Z5,ah]
 have aj:s.data.toList.length / 64=s.size / 64:=by rfl
 have hx:s.extract 0 64=str (s.data.toList.take 64):=by apply YU;rw[Lib.extract_data,Zn];rfl
 have al:(str (s.data.toList.take 64)).size=64:=by rw[Z5,Z5j,QI];omega
 have b9:(64:Int)<=s.size:=by omega
 unfold Jn.lay;rw[aj];obtain⟨A1,ae⟩:=Z5H (wrs (J.at_ sd k) (ZC s.data.toList));obtain⟨A2,af⟩:=Z5H (J.clean sd (k+s.size / 64));obtain⟨A4,ag⟩:=Z5H (wrs (J.at_ sd k) (s.data.toList.take 64));have bg:A1.length<=5000:=by rw[<-ae,JD,ah];omega
 have bh:A2.length<=1:=by rw[<-af];unfold Jn.clean;split<;>simp
 rw[ae,af,ag];have c0:=hj.cell (j:=0) rfl;have H:=Z5J h hj;have O:=Z5F hB;have HA:=Z5K ae af ag;have HU:=Z5J ak al;clear h hj hB ae af ag ak al ah aj ai;go_enter func195,ntmps195;go_wp2_with (go_at_call 245;refine(Gg s _ (by omega) (by omega)).mono ?_;rintro e w' ⟨rfl,rfl⟩);refine(Az B p d n j P D L J sd k _ w H.out.1 O.out H.out.2 (by rw[HU.out.1];exact hm) (by rw[HU.out.1];omega) (by omega) hh (by omega)).mono ?_;rw[Zn,HA.out.1];rintro e w1 ⟨ev,rfl,he,F⟩;have T0:=Stg.start H.out.1 [] (Below.refl _ w);rcases he.split with ⟨hc,rfl⟩|⟨hc,b,rfl⟩
 case inr=>have C:=Z5J hc (T0.fail he F);clear hc he F T0;go_wp2;go_ret;exact Q8 (ZR (ZR (ZR C.out.1))) (Q8 (ZR (ZR C.out.1)) (Q8 (ZR C.out.1) (Q8 C.out.1 C.out.2)))
 obtain⟨P1,D1,L1,M⟩:=T0.next hc F
 rw[List.nil_append] at M;have S1:=Z5F M;have c1:=(JAt.did M.did H.out.1 H.out.2 (by simp)).cell (j:=0) rfl;have aw:=M.size;have bf:=M.few;clear T0 hc he F M c0;go_wp2_with fail;refine(Fn B p d n j P1 D1 L1 J sd (k+s.size / 64) w1 S1.out.did.pd (Z5w O.out aw) (JAt.did S1.out.did H.out.1 H.out.2 (by simp)) (by omega) hh (by omega)).mono ?_;rw[HA.out.2.1];rintro e w2 ⟨ev,rfl,he,F⟩;rcases he.split with ⟨hc,rfl⟩|⟨hc,b,rfl⟩
 case inr=>have C:=Z5J (S1.out.code_ne hc) (S1.out.fail he F);clear hc he F;go_wp2;go_ret;exact Q8 (ZR (ZR C.out.1)) (Q8 (ZR C.out.1) (Q8 C.out.1 C.out.2))
 obtain⟨P2,D2,L2,T2⟩:=S1.out.next hc F
 have S2:=Z5F T2;have c2:=(JAt.did T2.did H.out.1 H.out.2 (by simp)).cell (j:=0) rfl;have az:=T2.size;clear hc he F T2 c1;go_wp2_with fail;refine(PD.flush1 S2.out.did.pd (Z5w O.out az)).mono ?_;rintro e w3 ⟨ev,rfl,he,F⟩;rcases he.split with ⟨hc,rfl⟩|⟨hc,b,rfl⟩
 case inr=>have C:=Z5J (S2.out.code_ne hc) (S2.out.fail he F);clear hc he F;go_wp2;go_ret;exact Q8 (ZR C.out.1) (Q8 C.out.1 C.out.2)
 obtain⟨P3,D3,L3,Z⟩:=S2.out.next hc F
 have U:=Z5F Z;have c3:=(JAt.did Z.did H.out.1 H.out.2 (by simp)).cell (j:=0) rfl;have b7:=Z.size;have aq:=Z.few;simp only[Z5d,Z5h,List.length_nil] at aq;clear hc he F Z c2;go_wp2_with fail;refine(Az B p d n j P3 D3 L3 J sd k _ w3 U.out.did.pd (Z5w O.out b7) (JAt.did U.out.did H.out.1 H.out.2 (by simp)) (by rw[HU.out.2]) (by rw[HU.out.2];omega) (by omega) hh (by omega)).mono ?_;rw[Zn,HA.out.2.2];rintro e w4 ⟨ev,rfl,he,F⟩;rcases he.split with ⟨hc,rfl⟩|⟨hc,b,rfl⟩
 case inr=>have C:=Z5J (U.out.code_ne hc) (U.out.fail he F);go_wp2;go_ret;exact Q8 C.out.1 C.out.2
 obtain⟨P4,D4,L4,T4⟩:=U.out.next hc F
 have S4:=Z5F T4;have c4:=(JAt.did T4.did H.out.1 H.out.2 (by simp)).cell (j:=0) rfl;have b8:=T4.size;go_wp2_with fail;refine(PD.flush1 S4.out.did.pd (Z5w O.out b8)).mono ?_;rintro e w5 ⟨ev,rfl,he,F⟩;have C:=Z5F (S4.out.fail he F);go_wp2;go_ret;exact C.out
end
section
open Go.RowKit
variable{B b:Nat}{l:List UInt8}{w w':World}
theorem RF:(prog.info? 258).map (·.size)=some 2:=by kernel_rfl
theorem Z2S:liesAt prog prog.depth 258 (2 / prog.cellsOf 258) 0 258 1=true:=by kernel_rfl
theorem De(b:Nat)(w:World)(C:w.cell? ⟨b,0,none⟩=some (.pointer (some ⟨b,0,none⟩))):Calls prog 229 #[.pointer (some ⟨b,0,none⟩)] w λe w'=>e=.returned (.tuple #[])/\w'=w:=by obtain⟨j,h,_⟩:=Option.map_eq_some_iff.1 RF;go_enter func229,ntmps229;go_wp2;rw[Lib.run_neq_ptr_same w _ underlying256 h];go_wp2;go_end0;simp
theorem Ca(b:Nat)(w:World)(M:w.cell? ⟨b,0,none⟩=some (.pointer none))(h:w.shape? b=some (258,2))(F:w.frozen? ⟨b,0,none⟩=false):Calls prog 229 #[.pointer (some ⟨b,0,none⟩)] w λe w'=>e=.returned (.tuple #[])/\w'=w.setCell ⟨b,0,none⟩ (.pointer (some ⟨b,0,none⟩)):=by obtain⟨j,C,J⟩:=Option.map_eq_some_iff.1 RF;go_enter func229,ntmps229;go_wp2;rw[Lib.run_to_unsafe w ⟨b,0,none⟩ underlying256 underlying236 C (by omega) h (Nat.zero_lt_succ 1)];go_wp2;rw[run_callFunc_extern func256 (by kernel_rfl) (by kernel_rfl) (by kernel_rfl) (e:=Extern.AbiNoEscape.same) (by kernel_rfl)];rw[Lib.run_noEscape];go_wp2;rw[Lib.run_from_unsafe w ⟨b,0,none⟩ underlying236 underlying256 C h Z2S];go_wp2;go_end0;simp
theorem Sy(B b:Nat)(bs:List Value)(w:World)(h:Lib.IsBuilder 258 5 B b bs w):Calls prog 229 #[.pointer (some ⟨b,0,none⟩)] w λe w'=>e=.returned (.tuple #[])/\(Lib.BuilderAt 258 5 B b (.pointer (some ⟨b,0,none⟩)) bs w'/\Below B w w'):=by
 rcases h with h|h
 .refine(Ca b w h.cell0 h.shape h.frozen0).mono ?_;rintro e w' ⟨rfl,rfl⟩;exact⟨rfl,h.used _,(Below.refl B w).setCell (p:=⟨b,0,none⟩) h.1 _⟩
 .refine(De b w h.cell0).mono ?_;rintro e w' ⟨rfl,rfl⟩;exact⟨rfl,h,Below.refl B _⟩
theorem SG(B b:Nat)(bs:List Value)(s:ByteArray)(w:World)(h:Lib.IsBuilder 258 5 B b bs w)(hlen:bs.length+s.size<=140737488355328)(ak:B<=w.heap.size):Calls prog 164 #[.pointer (some ⟨b,0,none⟩),.string s] w λe w'=>e=.returned (.tuple #[.int .i64 s.size,.nilIface])/\(Lib.BuilderAt 258 5 B b (.pointer (some ⟨b,0,none⟩)) (bs++Lib.strCells s) w'/\Below B w w'):=by
 obtain⟨i0,hi,ah,ai,aj⟩:=info_parts Xw;go_enter func164,ntmps164;go_wp2_with (go_at_call 229;refine(Sy B b bs _ h).mono ?_);rintro e w1 ⟨rfl,h1,O⟩;obtain⟨hB,v,ae,M,ag⟩:=h1;have c1:w1.cell? ⟨b,1,none⟩=some v:=by rw[Lib.cell_of_heap ae];rfl
 go_wp2_with (at_builtin;refine Lib.wpList_append_own_string _ rfl _ _ 75 9 rfl B 5 i0 underlying75 underlying9 hi ah ai aj _ _ _ rfl M s rfl ?c3 ?c4 ?c5 ?_)
 case c3=>unfold maxLen;omega
 case c4=>omega
 case c5=>have:=O.size;omega
 intro v' w2 J F _;have af:b<w1.heap.size:=by grind
 have C:w2.heap[b]? =some (.cells #[.pointer (some ⟨b,0,none⟩),v] 258 (0,0)):=by rw[F.block b af (λe=>ag e.symm)];omega
 have d1:w2.cell? ⟨b,1,none⟩=some v:=by rw[Lib.cell_of_heap C];rfl
 have f1:w2.frozen? ⟨b,1,none⟩=false:=Lib.frozen_of_heap C 1;obtain⟨U,Z,cap,rfl⟩:∃U Z cap,v'=.slice U Z cap:=by
  rcases J.2 with ⟨hv,_⟩|⟨g,cap,cur,hv,_⟩
  .simp_all
  .simp_all
 go_wp2;go_ret2;refine⟨rfl,?_,?_⟩
 .exact Lib.BuilderAt.put (T:=258) (e:=5) hB C (bs':=bs++Lib.strCells s) (by simpa[Lib.strCells_length] using J) (by simp)
 .exact(O.grown F (by omega) (λk hk=>(M.lt k hk).1)).setCell (p:=⟨b,1,none⟩) hB _
def Bld(w:World)(B b:Nat)(l:List UInt8):Prop:=Lib.IsBuilder 258 5 B b (Lib.byteCells l) w
theorem Bld.new(w:World):Bld (w.alloc (.cells #[.pointer none,.slice none 0 0] 258)) w.heap.size w.heap.size []:=Lib.fresh_isBuilder 258 5 w
theorem Bld.fr(h:Bld w B b l){L:List Nat}(J:Fr L w w')(F:∀i,i∈L->i<B):Bld w' B b l:=by
 have k:∀p,Lib.BuilderAt 258 5 B b p (Lib.byteCells l) w->Lib.BuilderAt 258 5 B b p (Lib.byteCells l) w':=by
  rintro p ⟨hB,v,U,C,O⟩;have M:b<w.heap.size:=by grind
  refine⟨hB,v,(J.block b M (λhm=>by have:=F b hm;omega)).trans U,Qa C J (λg Z hm=> ?_),O⟩;have:=F g hm;have:=(C.lt g Z).1;omega
 exact h.imp (k _) (k _)
theorem Bld.after(h:Bld w B b l)(C:Below w.heap.size w w'):Bld w' B b l:=h.fr (Fr.of_below (L:=[]) C) (by simp)
theorem Aq(B b:Nat)(l:List UInt8)(s:ByteArray)(w:World)(h:Bld w B b l)(hlen:l.length+s.size<=140737488355328)(C:B<=w.heap.size):Calls prog 164 #[.pointer (some ⟨b,0,none⟩),.string s] w λe w'=>e=.returned (.tuple #[.int .i64 s.size,.nilIface])/\Bld w' B b (l++s.data.toList)/\Below B w w':=by
 refine(SG B b _ s w h (by simpa[Lib.byteCells] using hlen) C).mono ?_;rintro e w' ⟨rfl,hw,F⟩;refine⟨rfl,Or.inr ?_,F⟩;have:Lib.byteCells l++Lib.strCells s=Lib.byteCells (l++s.data.toList):=by simp[Lib.byteCells,Lib.strCells]
 simp_all
theorem Df(B b:Nat)(l:List UInt8)(w:World)(h:Bld w B b l)(C:B<=w.heap.size):Calls prog 165 #[.pointer (some ⟨b,0,none⟩)] w λe w'=>e=.returned (.string ⟨l.toArray⟩)/\Below B w w':=Tryz.Builder_String_any B b l w h C
end
def xt(a:BitVec 8):BitVec 8:=(a<<<1)^^^(if a.msb then 29#8 else 0#8)
theorem Z4P(a b:BitVec 8):xt (a^^^b)=xt a^^^xt b:=by unfold xt;grind
theorem Z4d:xt 0#8=0#8:=by rfl
def xts:Nat->BitVec 8->BitVec 8
 |0,a=>a
 |n+1,a=>xts n (xt a)
theorem Sd(n:Nat)(a b:BitVec 8):xts n (a^^^b)=xts n a^^^xts n b:=by
 induction n generalizing a b with
 |zero=>rfl
 |succ n ih=>simp[xts];rw[Z4P,ih]
theorem OU(n:Nat):xts n 0#8=0#8:=by
 induction n with
 |zero=>rfl
 |succ n ih=>simp[xts];rw[Z4d,ih]
theorem GG(m n:Nat)(a:BitVec 8):xts (m+n) a=xts m (xts n a):=by
 induction n generalizing a with
 |zero=>rfl
 |succ n ih=>rw[<-Nat.add_assoc,xts,xts,ih]
theorem Z2z(m n:Nat)(a:BitVec 8):xts m (xts n a)=xts n (xts m a):=by rw[<-GG,<-GG,Nat.add_comm]
def tk(c:Bool)(a:BitVec 8):BitVec 8:=if c then a else 0#8
def gm(a b:BitVec 8):BitVec 8:=
 tk (b.getLsbD 0) a^^^tk (b.getLsbD 1) (xts 1 a)^^^tk (b.getLsbD 2) (xts 2 a)^^^tk (b.getLsbD 3) (xts 3 a)^^^
 tk (b.getLsbD 4) (xts 4 a)^^^tk (b.getLsbD 5) (xts 5 a)^^^tk (b.getLsbD 6) (xts 6 a)^^^tk (b.getLsbD 7) (xts 7 a)
theorem Z4L(c:Bool)(a b:BitVec 8):tk c (a^^^b)=tk c a^^^tk c b:=by cases c<;>simp[tk]
theorem Z3Z(c d:Bool)(a:BitVec 8):tk (c^^d) a=tk c a^^^tk d a:=by cases c<;>cases d<;>simp[tk]
theorem Z4Q(n:Nat)(c:Bool)(a:BitVec 8):xts n (tk c a)=tk c (xts n a):=by cases c<;>simp[tk,OU]
theorem WK(a b c:BitVec 8):gm a (b^^^c)=gm a b^^^gm a c:=by simp[gm,Z3Z];ac_rfl
theorem XX(a b c:BitVec 8):gm (a^^^b) c=gm a c^^^gm b c:=by simp[gm,Sd,Z4L];ac_rfl
theorem Vi(n:Nat)(a b:BitVec 8):gm (xts n a) b=xts n (gm a b):=by simp[gm,Sd,Z4Q,Z2z n]
theorem Qg(b:BitVec 8):gm 0#8 b=0#8:=by simp[gm,OU];simp[tk]
theorem Zm(a:BitVec 8):gm a 0#8=0#8:=by simp[gm,tk]
theorem Qj(b:BitVec 8):gm 1#8 b=b:=by
 have h:∀n,n<256->gm 1#8 (BitVec.ofNat 8 n)=BitVec.ofNat 8 n:=by decide+kernel
 have:=h b.toNat b.isLt;simp_all
theorem Yd(a:BitVec 8):gm a 1#8=a:=by simp[gm,tk]
def ex(n:Nat):BitVec 8:=xts n 1#8
theorem Z4p:ex 255=1#8:=by decide+kernel
theorem ME(n:Nat)(b:BitVec 8):gm (ex n) b=xts n b:=by rw[ex,Vi,Qj]
theorem Cj(m n:Nat):gm (ex m) (ex n)=ex (m+n):=by rw[ME,ex,ex,GG]
theorem Z4e(a:BitVec 8):xts 255 a=a:=by rw[<-ME,Z4p,Qj]
theorem Tg(n:Nat):ex (n+255)=ex n:=by rw[ex,GG,Z4e];rfl
theorem Fx(n:Nat):ex (n%255)=ex n:=by
 have h:∀q r,ex (255*q+r)=ex r:=by
  intro q r
  induction q with
  |zero=>simp
  |succ q ih=>rw[show 255*(q+1)+r=(255*q+r)+255 by omega,Tg,ih]
 conv=>rhs;rw[<-Nat.div_add_mod n 255]
 rw[h]
def Z4u:Nat->Nat->BitVec 8->BitVec 8->Nat
 |0,i,_,_=>i
 |f+1,i,x,a=>if x=a then i else Z4u f (i+1) (xt x) a
def lg(a:BitVec 8):Nat:=Z4u 255 0 1#8 a
theorem LE:∀n,n<256->n≠0->(lg (BitVec.ofNat 8 n)<255/\ex (lg (BitVec.ofNat 8 n))=BitVec.ofNat 8 n):=by decide+kernel
theorem E5(a:BitVec 8)(h:a≠0#8):ex (lg a)=a:=by have:=(LE a.toNat a.isLt (by intro e;apply h;apply BitVec.eq_of_toNat_eq;simpa using e)).2;simp_all
theorem LS:∀n,n<255->(lg (ex n)=n/\ex n≠0#8):=by decide+kernel
theorem Z4X(n:Nat):ex n≠0#8:=by rw[<-Fx];exact(LS _ (Nat.mod_lt _ (by omega))).2
theorem Wi(a b:BitVec 8):gm a b=gm b a:=by
 by_cases ha:a=0#8
 .subst ha;rw[Qg,Zm]
 by_cases h:b=0#8
 .subst h;rw[Qg,Zm]
 rw[<-E5 a ha,<-E5 b h,Cj,Cj,Nat.add_comm]
theorem Yj(a b c:BitVec 8):gm (gm a b) c=gm a (gm b c):=by
 by_cases ha:a=0#8
 .subst ha;simp[Qg]
 rw[<-E5 a ha,ME,Vi,ME]
theorem Ju(a b:BitVec 8):gm a b=0#8↔a=0#8∨b=0#8:=by
 constructor
 .intro h;by_cases ha:a=0#8
  .simp_all
  by_cases C:b=0#8
  .simp_all
  rw[<-E5 a ha,<-E5 b C,Cj] at h;exact absurd h (Z4X _)
 .rintro(rfl|rfl)
  .exact Qg _
  .exact Zm _
def pw(a:BitVec 8):Nat->BitVec 8
 |0=>1#8
 |n+1=>gm (pw a n) a
theorem TQ(m n:Nat):pw (ex m) n=ex (m*n):=by
 induction n with
 |zero=>rfl
 |succ n ih=>rw[pw,ih,Cj,Nat.mul_succ]
theorem Z4G(a:BitVec 8)(h:a≠0#8):pw a 255=1#8:=by rw[<-E5 a h,TQ,<-Fx,Nat.mul_mod_left];rfl
def iv(a:BitVec 8):BitVec 8:=pw a 254
theorem Be(a:BitVec 8)(h:a≠0#8):gm a (iv a)=1#8:=by rw[Wi,iv,<-Z4G a h];rfl
def BG(c:Bool)(a:BitVec 16):BitVec 16:=if c then a else 0#16
def rs(k:Nat)(p:BitVec 16):BitVec 16:=p^^^BG (p.getLsbD (k+8)) (285#16<<<k)
theorem Z3c(a b:BitVec 8):gm a b=tk (b.getLsbD 0) a^^^gm (xt a) (b>>>1):=by simp[gm,xts];simp[tk];grind
theorem Z51(a:BitVec 8)(n:Nat):pw (gm a a) n=pw a (2*n):=by
 induction n with
 |zero=>rfl
 |succ n ih=>rw[pw,ih,show 2*(n+1)=2*n+1+1 from rfl,pw,pw,Yj]
def pwi(a:BitVec 8)(n:Int):BitVec 8:=if a=0#8 then(if n=0 then 1#8 else 0#8) else pw a (n%255).toNat
theorem Z4F(A P T:BitVec 8)(k:Nat)(h:gm P (pw A k)=T)(b:Bool)(C:(k%2==1)=b):gm (if b then gm P A else P) (pw (gm A A) (k / 2))=T:=by
 rw[Z51];cases b
 .grind
 .have e:k=2*(k / 2)+1:=by simp at C;omega
  rw[e,pw] at h;simp;rw[Yj,Wi A,h]
section
open Go.RowKit
variable{n:Nat}
@[irreducible] def nv (x:BitVec 8):Int:=(x.toNat:Int)
@[irreducible] def bv (a:Int):BitVec 8:=BitVec.ofInt 8 a
@[irreducible] def nw (x:BitVec 16):Int:=(x.toNat:Int)
theorem Ym(x:BitVec 8):nv x=(x.toNat:Int):=by unfold nv;rfl
theorem AE(x:BitVec 8):0<=nv x:=by rw[Ym];omega
theorem AD(x:BitVec 8):nv x<256:=by rw[Ym];have:=x.isLt;omega
theorem Kb{a:Int}(h:0<=a)(C:a<256):nv (bv a)=a:=by rw[Ym];unfold bv;rw[BitVec.toNat_ofInt];omega
theorem Wg(x:BitVec 8):bv (nv x)=x:=by rw[Ym];unfold bv;simp
theorem NW{x y:BitVec 8}(h:nv x=nv y):x=y:=by rw[<-Wg x,h,Wg]
theorem Z2G(h:n<256):nv (BitVec.ofNat 8 n)=(n:Int):=by rw[Ym,BitVec.toNat_ofNat];omega
theorem Hx(h:n<256):bv (n:Int)=BitVec.ofNat 8 n:=by unfold bv;rw[BitVec.ofInt_natCast]
theorem TE(u:UInt8):nv u.toBitVec=(u.toNat:Int):=by rw[Ym];rfl
theorem Ag(x y:BitVec 8):bits .xor .u8 (nv x) (nv y)=nv (x^^^y):=by rw[Ym,Ym,Ym,u8_xor_nat _ _ (by omega) (by omega),BitVec.toNat_xor]
theorem Ad:nv 0#8=0:=by rw[Ym];rfl
theorem Co:nv 1#8=1:=by rw[Ym];rfl
theorem YX(x:BitVec 8):nv x=0↔x=0#8:=by
 constructor
 .intro h;apply NW;rw[h,Ad]
 .rintro rfl;exact Ad
theorem Z0i(x:BitVec 8)(k:Nat):(bits .and .u8 (nv x / 2^k) 1==1)=x.getLsbD k:=by
 have e:nv x / 2^k=((x.toNat / 2^k:Nat):Int):=by rw[Ym,Int.natCast_ediv,Int.natCast_pow];rfl
 have h:x.toNat / 2^k<256:=Nat.lt_of_le_of_lt (Nat.div_le_self _ _) (by omega);rw[e];have C:=u8_and_nat (x.toNat / 2^k) 1 h (by omega);rw[show((1:Int))=((1:Nat):Int) from rfl,C,Nat.and_one_is_mod,BitVec.getLsbD,Nat.testBit_eq_decide_div_mod_eq,Bool.eq_iff_iff];grind
theorem Z4A(x:BitVec 8)(k:Nat):nv x / 2^k=nv (x>>>k):=by rw[Ym,Ym,BitVec.toNat_ushiftRight,Nat.shiftRight_eq_div_pow,Int.natCast_ediv,Int.natCast_pow];rfl
theorem Z1D(x:BitVec 8)(h:128<=nv x):bits .xor .u8 (nv x*2%256) 29=nv (xt x):=by
 rw[Ym] at h;have e:nv x*(2:Int)%(256:Int)=nv (x<<<1):=by rw[Ym,Ym,BitVec.toNat_shiftLeft,Nat.shiftLeft_eq];omega
 have m:x.msb=true:=by grind
 rw[e,show(29:Int)=nv 29#8 from by rw[Ym];rfl,Ag,xt,m];rfl
theorem Z1E(x:BitVec 8)(h:nv x<128):nv x*2=nv (xt x):=by
 rw[Ym] at h;have e:nv x*(2:Int)=nv (x<<<1):=by rw[Ym,Ym,BitVec.toNat_shiftLeft,Nat.shiftLeft_eq];omega
 have m:x.msb=false:=by grind
 rw[e,xt,m];simp
theorem GY(a b:Nat)(ha:a<9223372036854775808)(F:b<9223372036854775808):bits .and .i64 (a:Int) (b:Int)=((a&&&b:Nat):Int):=by
 have h:(BitVec.ofInt 64 (a:Int)).toNat=a:=by grind
 have C:(BitVec.ofInt 64 (b:Int)).toNat=b:=by grind
 have hl:a&&&b<=a:=Nat.and_le_left;show IntKind.i64.wrap ((BitVec.ofInt 64 (a:Int)&&&BitVec.ofInt 64 (b:Int)).toNat:Int)=_;rw[BitVec.toNat_and,h,C];refine Z5x _ ⟨?_,?_⟩<;>omega
theorem Z41(n:Int):(n.tmod 255<0->n%255=n.tmod 255+255)/\(0<=n.tmod 255->n%255=n.tmod 255)/\n.tmod 255<255/\ -255<n.tmod 255:=by grind
theorem Z3h(k:Nat)(h:k<255):(bits .and .i64 (k:Int) 1==1)=(k%2==1):=by have C:=GY k 1 (by omega) (by omega);grind
end
section
open Go.RowKit
variable{a b:Int}{k:IntKind}
theorem Lk(h:a=b):Value.int k a=.int k b:=by rw[h]
theorem Z0g(a:Int)(C:0<=a)(F:a<256)(w:World):Calls prog 273 #[.int .u8 a] w λe w'=>e=.returned (.int .u8 (nv (xt (bv a))))/\w=w':=by
 obtain⟨A,rfl⟩:∃A,a=nv A:=⟨bv a,(Kb C F).symm⟩;rw[Wg];by_cases h:128<=nv A
 .go_enter func273,ntmps273;go_wp2;go_ret;exact⟨Wm (Z1D A h),rfl⟩
 .go_enter func273,ntmps273;go_wp2;go_ret;exact⟨Wm (Z1E A (by omega)),rfl⟩
theorem Z4y(A B P T:BitVec 8)(h:P^^^gm A B=T)(b:Bool)(C:B.getLsbD 0=b):(if b then P^^^A else P)^^^gm (xt A) (B>>>1)=T:=by
 rw[<-h,Z3c A B,C];cases b
 .simp[tk]
 .simp[tk,BitVec.xor_assoc]
theorem KZ(a b:Int)(M:0<=a)(O:a<256)(U:0<=b)(Z:b<256)(w:World):Calls prog 255 #[.int .u8 a,.int .u8 b] w λe w'=>e=.returned (.int .u8 (nv (gm (bv a) (bv b))))/\w=w':=by
 obtain⟨h,rfl⟩:∃A,a=nv A:=⟨bv a,(Kb M O).symm⟩;obtain⟨C,rfl⟩:∃A,b=nv A:=⟨bv b,(Kb U Z).symm⟩;rw[Wg,Wg];go_enter func255,ntmps255;go_wp2;go_loop [0,1,5] (λa b p=>∃A B P:BitVec 8,a=.int .u8 (nv A)/\b=.int .u8 (nv B)/\p=.int .u8 (nv P)/\P^^^gm A B=gm h C) (λ_ b _=>(intOf b).toNat)
 case atStart=>exact⟨h,C,0#8,rfl,rfl,by rw[Ad],by simp⟩
 case round=>
  obtain⟨A,B,P,rfl,rfl,rfl,hrel⟩:=hrel;have H:=Z5F hrel;clear hrel;have ha:=AE A;have ae:=AD A;have hb:=AE B;have af:=AD B;by_cases hz:0<nv B
  .cases hl:B.getLsbD 0
   all_goals
    have F:=Z0i B 0;rw[hl] at F;have J:=Z5F hl;clear hl;simp only[Int.pow_zero,Int.ediv_one] at F;go_wp2_with (go_at_call 273;refine(Z0g _ (by omega) (by omega) _).mono ?_;rintro e w' ⟨rfl,rfl⟩);go_round
    case measure=>simp[intOf];omega
    case rel=>exact⟨xt A,B>>>1,_,by rw[Wg],Lk (Z4A B 1),(by first|exact Lk (Ag P A)|rfl),Z4y A B P _ H.out _ J.out⟩
  .go_wp2;go_ret;have hB:B=0#8:=(YX B).1 (by omega);exact⟨Wm (by rw[<-H.out,hB,Zm];simp),rfl⟩
theorem Z3D(a n:Int)(h0:0<=a)(h1:a<256)(h2: -9223372036854775808<=n)(h3:n<=9223372036854775807)(w:World):Calls prog 272 #[.int .u8 a,.int .i64 n] w λe w'=>e=.returned (.int .u8 (nv (pwi (bv a) n)))/\w=w':=by
 obtain⟨h,rfl⟩:∃A,a=nv A:=⟨bv a,(Kb h0 h1).symm⟩;rw[Wg];by_cases C:nv h=0
 .have eA:h=0#8:=(YX h).1 C;subst eA;rw[Ad];by_cases F:n=0
  .subst F;go_enter func272,ntmps272;go_wp2;go_ret;exact⟨Wm (by simp[pwi,Co]),rfl⟩
  .have ai:(n==0)=false:=(by simpa using F);have HN:=Z5F F;clear F;go_enter func272,ntmps272;go_wp2;go_ret;exact⟨Wm (by simp[pwi,HN.out,Ad]),rfl⟩
 .have af:(nv h==0)=false:=by simpa using C
  have J:h≠0#8:=λe=>C ((YX h).2 e);have M:Hid (pwi h n=pw h (n%255).toNat):=by unfold Hid;simp[pwi,J]
  have HZ:=Z5F C;clear C J;obtain⟨t1,t2,t3,t4⟩:=Z41 n;generalize hT:pwi h n=T at*
  have T1:=Z5F t1;have T2:=Z5F t2;clear t1 t2;have HS:Hid (T=pw h (n%255).toNat):=M;clear M hT;by_cases ae:n.tmod 255<0
  all_goals
   go_enter func272,ntmps272;go_wp2;go_loop [0,1,5] (λa n p=>∃ (A P:BitVec 8) (k:Nat),k<255/\a=.int .u8 (nv A)/\n=.int .i64 k/\p=.int .u8 (nv P)/\gm P (pw A k)=T) (λ_ n _=>(intOf n).toNat)
   case atStart=>exact⟨h,1#8,(n%255).toNat,by omega,rfl,Lk (by first|(rw[T1.out (by omega)];omega)|(rw[T2.out (by omega)];omega)),by rw[Co],by rw[Qj,HS.out]⟩
   case round=>
    obtain⟨A,P,k,hk,rfl,rfl,rfl,hrel⟩:=hrel;have H:=Z5F hrel;clear hrel;have ha:=AE A;have ag:=AD A;have hb:=AE P;have ah:=AD P;by_cases J:0<k
    .cases hl:(k%2==1)
     all_goals
      have U:=Z3h k hk;rw[hl] at U;have Z:=Z5F hl;clear hl;go_wp2_with (go_at_call 255;refine(KZ _ _ (by omega) (by omega) (by omega) (by omega) _).mono ?_;rintro e w' ⟨rfl,rfl⟩);go_round
      case measure=>simp[intOf];omega
      case rel=>exact⟨gm A A,_,k / 2,by omega,by rw[Wg],by go_num,(by first|(rw[Wg,Wg];rfl)|rfl),Z4F A P T k H.out _ Z.out⟩
    .go_wp2;go_ret;have O:k=0:=(by omega);exact⟨Wm (by rw[<-H.out,O,pw,Yd]),rfl⟩
def ivv(a:BitVec 8):BitVec 8:=if a=0#8 then 0#8 else iv a
theorem KU(a:Int)(O:0<=a)(U:a<256)(w:World):Calls prog 252 #[.int .u8 a] w λe w'=>e=.returned (.tuple #[.int .u8 (nv (ivv (bv a))),.bool (bv a !=0#8)])/\w=w':=by
 obtain⟨h,rfl⟩:∃A,a=nv A:=⟨bv a,(Kb O U).symm⟩;rw[Wg];by_cases C:nv h=0
 .have M:h=0#8:=(YX h).1 C;subst M;rw[Ad];go_enter func252,ntmps252;go_wp2;go_ret2;exact⟨by simp[ivv,Ad],rfl⟩
 .have Z:(nv h==0)=false:=by simpa using C
  have F:h≠0#8:=λe=>C ((YX h).2 e);have J:=Z5F F;clear C F;go_enter func252,ntmps252;go_wp2_with (go_at_call 272;refine(Z3D _ _ (by omega) (by omega) (by omega) (by omega) _).mono ?_;rintro e w' ⟨rfl,rfl⟩);go_ret2;exact⟨by simp[ivv,J.out,pwi,iv,Wg],rfl⟩
end
section
open Go.RowKit
theorem Vq(a:BitVec 8)(h:a≠0#8):iv a≠0#8:=by intro e;have:=Be a h;rw[e,Zm] at this;exact absurd this (by decide)
def scl(t:BitVec 8)(a b:List UInt8):List UInt8:=List.zipWith (λx y=>UInt8.ofBitVec (x.toBitVec^^^gm t y.toBitVec)) a b
theorem Ez(t:BitVec 8)(a b:List UInt8)(h:a.length=b.length):(scl t a b).length=a.length:=by simp[scl,h]
def AC{α:Type}(k:Nat)(a a':List α):List α:=a'.take k++a.drop k
theorem Bg{α:Type}(k:Nat)(a C:List α)(h:C.length=a.length):(AC k a C).length=a.length:=by simp[AC,h];omega
theorem LZ{α:Type}(a h:List α):AC 0 a h=a:=by simp[AC]
theorem NQ{α:Type}(a C:List α)(k:Nat)(h:C.length=a.length)(F:a.length<=k):AC k a C=C:=by unfold AC;rw[Z5o (by omega),List.drop_of_length_le (by omega),Z5C]
theorem NS{α:Type}(k:Nat)(a C:List α)(h:C.length=a.length)(J:k<C.length):(AC k a C).set k C[k]=AC (k+1) a C:=by
 unfold AC;apply List.ext_getElem?;intro j;rw[List.getElem?_set];have hl:k<(List.take k C++List.drop k a).length:=by simp;omega
 by_cases e:k=j
 .subst e;rw[if_pos rfl,if_pos hl,Z5c (by simp;omega),List.getElem?_take,if_pos (by omega)];simp
 .rw[if_neg e];by_cases F:j<k
  .rw[Z5c (by simp;omega),Z5c (by simp;omega),List.getElem?_take,List.getElem?_take,if_pos F,if_pos (by omega)]
  .rw[Z5k (by simp;omega),Z5k (by simp;omega),List.getElem?_drop,List.getElem?_drop];congr 1;simp;omega
theorem NR{α:Type}(k:Nat)(a C:List α)(h:C.length=a.length)(F:k<a.length):(AC k a C)[k]? =some a[k]:=by unfold AC;rw[Z5k (by simp;omega),List.getElem?_drop];simp;rw[show k+(k-min k C.length)=k by omega];simp[F]
theorem RT(t:BitVec 8)(a b:List UInt8)(k:Nat)(h:k<a.length)(C:k<b.length):(scl t a b)[k]'(by simp[scl];omega)=UInt8.ofBitVec (a[k].toBitVec^^^gm t b[k].toBitVec):=by simp[scl]
def CN(t:BitVec 8):List Value:=(List.range 256).map λj=>.int .u8 (nv (gm t (BitVec.ofNat 8 j)))
theorem WN(t:BitVec 8):(CN t).length=256:=by simp[CN]
theorem FO(t:BitVec 8)(j:Nat)(h:j<256):(CN t)[j]'(by rw[WN];exact h)=.int .u8 (nv (gm t (BitVec.ofNat 8 j))):=by simp[CN]
def AX:List Value:=List.replicate 256 (.int .u8 0)
theorem YQ:AX.length=256:=by unfold AX;exact List.length_replicate
theorem Z53:Tryz.zeroCells327=AX.toArray:=by kernel_rfl
attribute [local irreducible] AX CN AC
theorem Z02(s t:ByteArray)(c:Int)(w:World)(h:s.size=t.size)(hs:s.size<=9223372036854775807)(h0:0<=c)(h1:c<256):Calls prog 228 #[.string s,.string t,.int .u8 c] w λe w'=>e=.returned (.tuple #[.string ⟨(scl (bv c) s.data.toList t.data.toList).toArray⟩,.bool true])/\Below w.heap.size w w':=by
 have cj:((s.size:Int) !=(t.size:Int))=false:=by simp[h]
 have hl:s.data.toList.length=s.size:=by simp
 have F:t.data.toList.length=t.size:=by simp
 have HL:=Z5F hl;have HT:=Z5F F;have H:=Z5F h;clear h hl F;go_enter func228,ntmps228;go_wp2;go_loopw [17] (λi wr=>∃k:Nat,k<=256/\i=.int .i64 k/\Row wr w.heap.size 327 (AC k AX (CN (bv c)))/\Below w.heap.size w wr) (λi _=>256- (intOf i).toNat)
 case atStart=>exact⟨0,by omega,rfl,by rw[LZ,Z53];exact Row.new _ _ _,Z5E.alloc Z5D _⟩
 case round=>
  obtain⟨k,hk,rfl,C,Z⟩:=hrel;by_cases F:k<256
  .have af:∃v,wr.cell? ⟨w.heap.size,k,none⟩=some v:=⟨_,C.cell (NR k AX (CN (bv c)) (by rw[WN,YQ]) (by rw[YQ];exact F))⟩;obtain⟨v,af⟩:=af;have aj:wr.frozen? ⟨w.heap.size,k,none⟩=false:=C.free (by rw[Bg _ _ _ (by rw[WN,YQ]),YQ];exact F);have ag:=Z5F C;clear C;go_wp2_with (go_at_call 255;refine(KZ _ _ h0 h1 (by omega) (by omega) _).mono ?_;rintro e w' ⟨rfl,rfl⟩);go_roundw
   case measure=>simp[intOf];omega
   case rel=>refine⟨k+1,by omega,by go_num,?_,Z.setCell Z5D _⟩;have hm:=ag.out.set k (.int .u8 (nv (gm (bv c) (bv (k:Int)))));rw[Hx F,<-FO _ _ F,NS k _ _ (by rw[WN,YQ]) (by rw[WN];exact F),FO _ _ F,<-Hx F] at hm;exact hm
  .obtain rfl:k=256:=(by omega);rw[NQ _ _ _ (by rw[WN,YQ]) (by rw[YQ];omega)] at C;have HP:=Z5F C;have hB:=C.lt;clear C;go_wp2_with (refine Cx rfl 9 75 5 _ rfl s rfl underlying9 underlying75 underlying5 ?_;intro g cap r w1 hg C bu ah);obtain⟨S,hS⟩:=Z5I s.data.toList;obtain⟨T,hT⟩:=Z5I t.data.toList;obtain⟨J,au⟩:=Z5I (scl (bv c) S T);rw[<-hS] at C;have b7:S.length=s.size:=by rw[hS];exact HL.out
   have bj:T.length=s.size:=by rw[hT,H.out];exact HT.out
   have aq:J.length=s.size:=(by rw[au,Ez _ _ _ (by omega),b7]);have HS:=Z5F hS;have b9:=Z5F hT;have b8:=Z5F au;have U:=Z5F b7;have bq:=Z5F bj;have M:=Z5F aq;have HR:=Z5F C;have bf:=HP.out.after ah;have bm:=Z5F bf;have bg:=Z.trans (ah.mono (by omega));clear hS hT au b7 bj aq C bf Z ah;obtain⟨wo,rfl⟩:∃wo:World,wo=wr:=⟨_,rfl⟩;go_loopw [31] (λi wr=>∃k:Nat,k<=s.size/\i=.int .i64 k/\Row wr w.heap.size 327 (CN (bv c))/\Row wr g 5 (Z3 (AC k S J)++r)/\Below w.heap.size w wr) (λi _=>s.size- (intOf i).toNat)
   case atStart=>exact⟨0,by omega,rfl,bm.out,by rw[LZ];exact HR.out,bg⟩
   case round=>
    obtain⟨k,hk,rfl,ae,C,Z⟩:=hrel;by_cases F:k<s.size
    .have ak:k<S.length:=by rw[U.out];exact F
     have al:k<T.length:=by rw[bq.out];exact F
     have O:k<t.size:=by rw[<-H.out];exact F
     have af:wr.cell? ⟨g,k,none⟩=some (.int .u8 (nv (S[k]'ak).toBitVec)):=by refine C.cell ?_;have hm:=Bg k S J (by rw[U.out,M.out]);rw[Z5c (by rw[Zj];omega),YV _ _ (by omega),TE];have:=NR k S J (by rw[U.out,M.out]) ak;rw[Z5a (by omega)] at this;simp only[Z5e] at this;rw[this]
     have aj:wr.frozen? ⟨g,k,none⟩=false:=C.free (by
      have hm:=Bg k S J (by rw[U.out,M.out])
      simp[Zj,hm];omega)
     have bg:((t[k]'O).toNat:Int)<256:=by have:=(t[k]'O).toNat_lt;omega
     have cn:wr.cell? ⟨w.heap.size,(t[k]'O).toNat,none⟩=some (.int .u8 (nv (gm (bv c) (T[k]'al).toBitVec))):=by
      refine ae.cell ?_;have hx:(t[k]'O).toNat<256:=(by omega);rw[Z5a (by rw[WN];exact hx),FO _ _ hx];have e:T[k]'al=t[k]'O:=by simp only[b9.out];exact Aw t k O _
      rw[e,show BitVec.ofNat 8 (t[k]'O).toNat=(t[k]'O).toBitVec from by
       apply BitVec.eq_of_toNat_eq;simp]
     have ag:=Z5F C;have ai:=Z5F ae;clear C ae;go_wp2_with fail;go_still_tail 11,(by kernel_rfl);change wpList _ _ _ _ _ wr.drew;go_wp2;go_roundw
     case measure=>simp[intOf];omega
     case rel=>
      refine⟨k+1,by omega,by go_num,(ai.out.other (by show w.heap.size≠g;omega) _).drew,?_,(Z.setCell (by show w.heap.size<=g;omega) _).drew⟩;rw[Ag];have hm:=ag.out.set k (.int .u8 (nv ((S[k]'ak).toBitVec^^^gm (bv c) (T[k]'al).toBitVec)));have bz:=Bg k S J (by rw[U.out,M.out]);have az:k<J.length:=by rw[M.out];exact F
      have aw:nv ((S[k]'ak).toBitVec^^^gm (bv c) (T[k]'al).toBitVec)=((J[k]'az).toNat:Int):=by rw[<-TE];congr 1;have e:=RT (bv c) S T k ak al;have e2:J[k]'az=(scl (bv c) S T)[k]'(by simp[scl];omega):=(by simp only[b8.out]);rw[e2,e]
      rw[aw] at hm⊢;rw[List.set_append_left _ _ (by rw[Zj];omega),DV,NS k S J (by rw[U.out,M.out]) az] at hm;exact hm.drew
    .obtain rfl:k=s.size:=(by omega);rw[NQ S J _ (by rw[U.out,M.out]) (by rw[U.out];omega)] at C;have bh:=Qo (P:=prog) wr 75 9 5 underlying75 underlying5 underlying9 C 0 s.size cap J M.out (by rw[List.drop_zero,<-M.out,List.take_left' (by rw[Zj])]);clear C ae;go_wp2;go_ret2;exact⟨by rw[b8.out,HS.out,b9.out];rfl,Z⟩
end
section
variable{A B M:Nat->Nat->BitVec 8}{a b:BitVec 8}{f:Nat->BitVec 8}{j k n r:Nat}{l:List (BitVec 8×BitVec 8)}{p:Nat->Nat}
def sm:Nat->(Nat->BitVec 8)->BitVec 8
 |0,_=>0#8
 |n+1,f=>sm n f^^^f n
theorem Q4{g:Nat->BitVec 8}(h:∀j,j<n->f j=g j):sm n f=sm n g:=by
 induction n with
 |zero=>rfl
 |succ n ih=>rw[sm,sm,ih (λj C=>h j (by omega)),h n (by omega)]
theorem DJ(n:Nat)(f g:Nat->BitVec 8):sm n (λj=>f j^^^g j)=sm n f^^^sm n g:=by
 induction n with
 |zero=>simp[sm]
 |succ n ih=>simp[sm,ih];ac_rfl
theorem G5(c:BitVec 8)(n:Nat)(f:Nat->BitVec 8):sm n (λj=>gm c (f j))=gm c (sm n f):=by
 induction n with
 |zero=>rw[sm,sm,Zm]
 |succ n ih=>rw[sm,sm,ih,WK]
theorem DK(h:∀j,j<n->f j=0#8):sm n f=0#8:=by
 induction n with
 |zero=>rfl
 |succ n ih=>rw[sm,ih (λj C=>h j (by omega)),h n (by omega)];simp
theorem Xu(F:k<n)(h:∀j,j<n->j≠k->f j=0#8):sm n f=f k:=by
 induction n with
 |zero=>omega
 |succ n ih=>
  rw[sm];by_cases e:k=n
  .subst e;rw[DK (λj C=>h j (by omega) (by omega))];simp
  .grind
theorem RX(n m:Nat)(f:Nat->Nat->BitVec 8):sm n (λi=>sm m (f i))=sm m (λj=>sm n (λi=>f i j)):=by
 induction n with
 |zero=>rw[sm];exact(DK λj _=>rfl).symm
 |succ n ih=>rw[sm,ih,<-DJ];rfl
theorem OD{m:Nat}(F:n<=m){f:Nat->BitVec 8}(h:∀j,n<=j->j<m->f j=0#8):sm m f=sm n f:=by
 induction m with
 |zero=>have:n=0:=by omega
        simp_all
 |succ m ih=>
  by_cases e:n=m+1
  .simp_all
  .rw[sm,ih (by omega) (λj C J=>h j C (by omega)),h m (by omega) (by omega)];simp
def Ker(r c:Nat)(M:Nat->Nat->BitVec 8)(x:Nat->BitVec 8):Prop:=∀i,i<r->sm c (λj=>gm (M i j) (x j))=0#8
def Y8(M:Nat->Nat->BitVec 8)(t s:Nat)(a:BitVec 8):Nat->Nat->BitVec 8:=λi j=>if i=t then M t j^^^gm a (M s j) else M i j
theorem Z3K(c:Nat)(u v x:Nat->BitVec 8)(a:BitVec 8):sm c (λj=>gm (u j^^^gm a (v j)) (x j))=sm c (λj=>gm (u j) (x j))^^^gm a (sm c (λj=>gm (v j) (x j))):=by rw[<-G5,<-DJ];exact Q4 λj _=>by rw[XX,Yj]
theorem Ec{c:Nat}{t s:Nat}(hs:s<r)(Z:t<r)(h:s≠t∨a≠1#8)(x:Nat->BitVec 8):Ker r c (Y8 M t s a) x↔Ker r c M x:=by
 have U:sm c (λj=>gm (Y8 M t s a t j) (x j))=sm c (λj=>gm (M t j) (x j))^^^gm a (sm c (λj=>gm (M s j) (x j))):=by rw[<-Z3K];exact Q4 λj _=>by simp[Y8]
 have O:∀i,i≠t->sm c (λj=>gm (Y8 M t s a i j) (x j))=sm c (λj=>gm (M i j) (x j)):=λi hi=>Q4 λj _=>by simp[Y8,hi]
 constructor
 .intro C i hi;by_cases e:i=t
  .subst e;have J:=C i hi;rw[U] at J;by_cases es:s=i
   .subst es;have ha:a≠1#8:=(by simp_all);have F:gm (1#8^^^a) (sm c (λj=>gm (M s j) (x j)))=0#8:=by rw[XX,Qj];exact J
    rcases(Ju _ _).1 F with h3|h3
    .exfalso;apply ha;have:(1#8^^^a)^^^a=0#8^^^a:=(by grind);rw[BitVec.xor_assoc] at this;simpa using this.symm
    .omega
   .have F:=C s hs;rw[O s es] at F;rw[F,Zm] at J;simp_all
  .rw[<-O i e];exact C i hi
 .intro C i hi;by_cases e:i=t
  .subst e;rw[U,C i hi,C s hs,Zm];simp
  .rw[O i e];exact C i hi
structure WV(r:Nat)(M:Nat->Nat->BitVec 8)(j k:Nat)(p:Nat->Nat):Prop where
 le:k<=r
 lt:∀t,t<k->p t<j
 inc:∀s t,s<t->t<k->p s<p t
 unit:∀t i,t<k->i<r->M i (p t)=if i=t then 1#8 else 0#8
 below:∀i c,k<=i->i<r->c<j->M i c=0#8
 left:∀t c,t<k->c<p t->M t c=0#8
theorem Tq(r:Nat)(M:Nat->Nat->BitVec 8)(p:Nat->Nat):WV r M 0 0 p:=⟨by omega,λt h=>by omega,λs t _ h=>by omega,λt i h=>by omega,λi c _ _ h=>by omega,λt c h=>by omega⟩
theorem Vj(g:WV r M j k p)(h:∀i,k<=i->i<r->M i j=0#8):WV r M (j+1) k p:=
 ⟨g.le,λt J=>by have:=g.lt t J;omega,g.inc,g.unit,λi c C F O=>by
  by_cases e:c=j
  .subst e;exact h i C F
  .exact g.below i c C F (by omega),g.left⟩
theorem Vk{N M':Nat->Nat->BitVec 8}(g:WV r M j k p)(J:k<r)(Z:∀i c,i<k->N i c=M i c)(C:∀i c,k<=i->i<r->c<j->N i c=0#8)(h3:N k j=1#8)(F:∀i c,i<r->M' i c=if i=k then N k c else N i c^^^gm (N i j) (N k c)):WV r M' (j+1) (k+1) (λt=>if t=k then j else p t):=by
 refine⟨by omega,λt O=> ?_,λs t hs O=> ?_,λt i O hi=> ?_,λi c ae U hc=> ?_,λt c O hc=> ?_⟩
 .by_cases e:t=k
  .grind
  .have:=g.lt t (by omega);simp[e];omega
 .by_cases e:t=k
  .have:=g.lt s (by omega);grind
  .have e2:¬s=k:=(by omega);simp[e,e2];exact g.inc s t hs (by omega)
 .rw[F _ _ hi];by_cases e:t=k
  .subst e;by_cases e2:i=t
   .simp_all
   .simp[h3,Yd]
  .have h:t<k:=(by omega);have hp:=g.lt t h;simp[e];by_cases e2:i=k
   .grind
   .simp[e2];rw[C k _ (by omega) J hp,Zm];by_cases e3:i<k
    .rw[Z _ _ e3,g.unit t i h hi];simp
    .grind
 .rw[F _ _ U,if_neg (by omega)];by_cases e:c=j
  .subst e;rw[h3,Yd];simp
  .rw[C i c (by omega) U (by omega),C k c (by omega) J (by omega),Zm];simp
 .by_cases e:t=k
  .simp_all
  .simp[e] at hc;have h:t<k:=(by omega);have hp:=g.lt t h;rw[F _ _ (by omega),if_neg e,Z _ _ h,g.left t c h hc,C k c (by omega) J (by omega),Zm];simp
theorem Nv(h:∀s t,s<t->t<k->p s<p t):∀t,t<k->t<=p t:=by
 intro t
 induction t with
 |zero=>omega
 |succ t ih=>intro C;have:=ih (by omega);have:=h t (t+1) (by omega) C;omega
theorem Nw(h:∀s t,s<t->t<k->p s<p t){s t:Nat}(F:s<=t)(C:t<k):p s<=p t:=by
 by_cases e:s=t
 .simp_all
 .have:=h s t (by omega) C;omega
theorem LJ(g:WV r M j r p)(U:j<=r):∀i c,i<r->c<r->M i c=if i=c then 1#8 else 0#8:=by
 have F:∀d t,t<r->r=t+1+d->p t=t:=by
  intro d
  induction d with
  |zero=>intro t C e;have:=g.lt t C;have:=Nv g.inc t C;omega
  |succ d ih=>intro t C e;have J:=ih (t+1) (by omega) (by omega);have O:=g.inc t (t+1) (by omega) (by omega);have:=Nv g.inc t C;omega
 intro i c hi hc;have h:=g.unit c i hc hi;rwa[F (r-c-1) c hc (by omega)] at h
theorem Nl(g:WV r M j k p)(U:j<=n){c:Nat}(hc:c<j)(Z:∀t,t<k->p t≠c):∃x:Nat->BitVec 8,x c=1#8/\(∀C,c<C->x C=0#8)/\Ker r n M x:=by
 let y:Nat->BitVec 8:=λC=>sm k (λt=>if p t=C then M t c else 0#8);have O:∀C,c<=C->y C=0#8:=λC h=>DK λt F=>by
  by_cases e:p t=C
  .rw[if_pos e];exact g.left t c F (by grind)
  .simp_all
 refine⟨λC=>if C=c then 1#8 else y C,by simp,λC h=>by show(if C=c then 1#8 else y C)=0#8;rw[if_neg (by omega)];exact O C (by omega),λi hi=> ?_⟩;have e1:sm n (λC=>gm (M i C) (if C=c then 1#8 else y C))=sm n (λC=>(if C=c then M i c else 0#8)^^^gm (M i C) (y C)):=Q4 λC _=>by
  by_cases e:C=c
  .subst e;rw[if_pos rfl,if_pos rfl,O C (by omega),Zm,Yd];simp
  .simp_all
 rw[e1,DJ,Xu (k:=c) (by omega) (λC _ h=>by rw[if_neg h]),if_pos rfl];have e2:sm n (λC=>gm (M i C) (y C))=sm k (λt=>gm (M i (p t)) (M t c)):=by have:sm n (λC=>gm (M i C) (y C))=sm n (λC=>sm k (λt=>gm (M i C) (if p t=C then M t c else 0#8))):=Q4 λC _=>(G5 _ _ _).symm;rw[this,RX];refine Q4 λt F=> ?_;rw[Xu (k:=p t) (by have:=g.lt t F;omega) (λC _ h=>by rw[if_neg (λe=>h e.symm),Zm]),if_pos rfl]
 rw[e2];by_cases J:i<k
 .rw[Xu (k:=i) J (λt F h=>by rw[g.unit t i F hi,if_neg (λe=>h e.symm),Qg]),g.unit i i J hi,if_pos rfl,Qj];simp
 .rw[DK (λt F=>by rw[g.unit t i F hi,if_neg (by omega),Qg]),g.below i c (by omega) hi hc];simp
theorem LK(g:WV r M n k p)(U:k<n):∃x:Nat->BitVec 8,(∃c,c<n/\x c≠0#8)/\Ker r n M x:=by
 have F:∃c,c<n/\∀t,t<k->p t≠c:=by
  by_cases h:∃t,t<k/\p t≠t
  .obtain⟨t,C,hp⟩:=h;have O:∃t,t<k/\p t≠t/\∀s,s<t->p s=s:=by
    induction t using Nat.strongRecOn with
    |ind t ih=>grind
   obtain⟨t,C,hp,ae⟩:=O;have af:=Nv g.inc t C;refine⟨t,by omega,λs hs=> ?_⟩;by_cases e:s<t
   .grind
   .have:=Nw g.inc (s:=t) (t:=s) (by omega) hs;omega
  .refine⟨k,U,λt C=> ?_⟩;grind
 obtain⟨c,hc,Z⟩:=F;obtain⟨x,hx,_,J⟩:=Nl g (Nat.le_refl n) hc Z;exact⟨x,⟨c,hc,by rw[hx];decide⟩,J⟩
def idm(i k:Nat):BitVec 8:=if i=k then 1#8 else 0#8
def Yq(n:Nat)(A B:Nat->Nat->BitVec 8)(i k:Nat):BitVec 8:=sm n (λj=>gm (A i j) (B j k))
def aug(n:Nat)(A:Nat->Nat->BitVec 8)(i j:Nat):BitVec 8:=if j<n then A i j else idm i (j-n)
def Inj(n:Nat)(A:Nat->Nat->BitVec 8):Prop:=∀x,Ker n n A x->∀c,c<n->x c=0#8
def BC(n:Nat)(A B:Nat->Nat->BitVec 8):Prop:=∀i k,i<n->k<n->Yq n A B i k=idm i k
theorem OE(a b:Nat)(f:Nat->BitVec 8):sm (a+b) f=sm a f^^^sm b (λj=>f (a+j)):=by
 induction b with
 |zero=>simp[sm]
 |succ b ih=>rw[<-Nat.add_assoc,sm,ih,sm];ac_rfl
theorem Em(n m:Nat)(A B C:Nat->Nat->BitVec 8)(i k:Nat):Yq m (Yq n A B) C i k=Yq n A (Yq m B C) i k:=by
 unfold Yq;have e1:sm m (λj=>gm (sm n (λl=>gm (A i l) (B l j))) (C j k))=sm m (λj=>sm n (λl=>gm (gm (A i l) (B l j)) (C j k))):=Q4 λj _=>by rw[Wi,<-G5];exact Q4 λl _=>Wi _ _
 have e2:sm n (λl=>gm (A i l) (sm m (λj=>gm (B l j) (C j k))))=sm n (λl=>sm m (λj=>gm (gm (A i l) (B l j)) (C j k))):=Q4 λl _=>by rw[<-G5];exact Q4 λj _=>(Yj _ _ _).symm
 rw[e1,e2,RX]
theorem F2(n:Nat)(A:Nat->Nat->BitVec 8)(i k:Nat)(hi:i<n):Yq n idm A i k=A i k:=by unfold Yq;rw[Xu (k:=i) hi (λj _ h=>by unfold idm;rw[if_neg (λe=>h e.symm),Qg])];unfold idm;rw[if_pos rfl,Qj]
theorem KX(n:Nat)(A:Nat->Nat->BitVec 8)(i k:Nat)(C:k<n):Yq n A idm i k=A i k:=by unfold Yq;rw[Xu (k:=k) C (λj _ h=>by unfold idm;rw[if_neg h,Zm])];unfold idm;rw[if_pos rfl,Yd]
theorem CK{A':Nat->Nat->BitVec 8}{i:Nat}(h:∀j,j<n->A i j=A' i j):Yq n A B i k=Yq n A' B i k:=Q4 λj C=>by rw[h j C]
theorem Xs(h:a^^^b=0#8):a=b:=by simp_all
theorem Fa{C:Nat->Nat->BitVec 8}(hi:Inj n A)(h:∀i k,i<n->k<n->Yq n A B i k=Yq n A C i k):∀i k,i<n->k<n->B i k=C i k:=by
 intro i k F J;apply Xs;refine hi (λj=>B j k^^^C j k) (λr O=> ?_) i F;have e:sm n (λj=>gm (A r j) (B j k^^^C j k))=Yq n A B r k^^^Yq n A C r k:=by unfold Yq;rw[<-DJ];exact Q4 λj _=>WK _ _ _
 simp_all
theorem NG(hi:Inj n A)(h:BC n A B):BC n B A:=by
 have:=Fa (B:=Yq n B A) (C:=idm) hi (λi k F O=>by
  rw[<-Em,KX n A i k O]
  rw[CK (A':=idm) (λj J=>h i j F J),F2 n A i k F])
 exact this
theorem Hb{x:Nat->BitVec 8}:Ker n (n+n) (aug n A) (λj=>if j<n then x j else 0#8)↔Ker n n A x:=by
 have e:∀i,sm (n+n) (λj=>gm (aug n A i j) (if j<n then x j else 0#8))=sm n (λj=>gm (A i j) (x j)):=by intro i;rw[OD (n:=n) (by omega) (λj h _=>by rw[if_neg (by omega),Zm])];exact Q4 λj C=>by simp[aug,C]
 constructor
 .intro h i hi;rw[<-e];exact h i hi
 .intro h i hi;rw[e];exact h i hi
theorem Nn(g:WV n M j n p)(Z:j<=n)(O:∀x,Ker n (n+n) M x↔Ker n (n+n) (aug n A) x):Inj n A/\BC n A (λi k=>M i (n+k)):=by
 have J:=LJ g Z;have hid:∀i (x:Nat->BitVec 8),i<n->sm n (λc=>gm (M i c) (x c))=x i:=λi x hi=>by rw[Xu (k:=i) hi (λc hc h=>by rw[J i c hi hc,if_neg (λe=>h e.symm),Qg]),J i i hi hi,if_pos rfl,Qj]
 constructor
 .intro x hx c hc;have C:=(O _).2 (Hb.2 hx) c hc;rw[OD (n:=n) (by omega) (λj h _=>by rw[if_neg (by omega),Zm])] at C;simp_all
 .intro i k hi F;have nl:∀c,¬n+c<n:=by omega
  let x:Nat->BitVec 8:=λc=>if c<n then M c (n+k) else idm k (c-n)
  have C:Ker n (n+n) M x:=by
   intro r hr;rw[OE];have a1:sm n (λc=>gm (M r c) (x c))=M r (n+k):=by rw[Q4 (g:=λc=>gm (M r c) (M c (n+k))) (λc hc=>by simp[x,hc])];simp_all
   have a2:sm n (λc=>gm (M r (n+c)) (x (n+c)))=M r (n+k):=by rw[Xu (k:=k) F (λc _ h=>by simp[x,nl,idm,h.symm,Zm])];simp[x,nl,idm,Yd]
   simp_all
  have U:=(O x).1 C i hi;rw[OE] at U;have b1:sm n (λc=>gm (aug n A i c) (x c))=Yq n A (λi k=>M i (n+k)) i k:=Q4 λc hc=>by simp[aug,x,hc]
  have b2:sm n (λc=>gm (aug n A i (n+c)) (x (n+c)))=idm i k:=by rw[Xu (k:=k) F (λc _ h=>by simp[x,nl,idm,h.symm,Zm])];simp[aug,x,nl,idm,Yd]
  simp_all
theorem Mw(g:WV n M n k p)(F:k<n)(J:∀x,Ker n (n+n) M x↔Ker n (n+n) (aug n A) x):¬Inj n A:=by intro hi;obtain⟨x,⟨c,hc,hx⟩,hker⟩:=LK g F;apply hx;refine hi x (Hb.1 ((J _).1 λi C=> ?_)) c hc;rw[OD (n:=n) (by omega) (λj h _=>by rw[if_neg (by omega),Zm])];rw[Q4 (g:=λc=>gm (M i c) (x c)) (λc hc=>by rw[if_pos hc])];exact hker i C
def ls(f:BitVec 8->BitVec 8->BitVec 8):List (BitVec 8×BitVec 8)->BitVec 8
 |[]=>0#8
 |p::l=>f p.1 p.2^^^ls f l
theorem Ig{f g:BitVec 8->BitVec 8->BitVec 8}(h:∀p,p∈l->f p.1 p.2=g p.1 p.2):ls f l=ls g l:=by
 induction l with
 |nil=>rfl
 |cons p l ih=>rw[ls,ls,h p (by simp),ih (λq C=>h q (by grind))]
theorem VF(f g:BitVec 8->BitVec 8->BitVec 8)(l:List (BitVec 8×BitVec 8)):ls (λa b=>f a b^^^g a b) l=ls f l^^^ls g l:=by
 induction l with
 |nil=>simp[ls]
 |cons p l ih=>simp[ls,ih];ac_rfl
theorem VE(c:BitVec 8)(f:BitVec 8->BitVec 8->BitVec 8)(l:List (BitVec 8×BitVec 8)):ls (λa b=>gm c (f a b)) l=gm c (ls f l):=by
 induction l with
 |nil=>simp[ls,Zm]
 |cons p l ih=>simp[ls,ih,WK]
theorem RM{f:BitVec 8->BitVec 8->BitVec 8}(h:∀p,p∈l->f p.1 p.2=0#8):ls f l=0#8:=by
 rw[Ig (g:=λ_ _=>0#8) h]
 induction l with
 |nil=>rfl
 |cons p l ih=>rw[ls,ih (λq C=>h q (by grind))];simp
theorem Z4v(f:BitVec 8->BitVec 8->BitVec 8)(g:BitVec 8×BitVec 8->BitVec 8×BitVec 8)(l:List (BitVec 8×BitVec 8)):ls f (l.map g)=ls (λa b=>f (g (a,b)).1 (g (a,b)).2) l:=by
 induction l with
 |nil=>rfl
 |cons p l ih=>rw[Z5t,ls,ls,ih]
theorem Z3j(a:BitVec 8)(h:a≠0#8):iv a≠0#8:=by intro e;have:=Be a h;rw[e,Zm] at this;simp_all
theorem BB(h:a≠b):a^^^b≠0#8:=λe=>h (Xs e)
theorem TR(z y C:BitVec 8)(h:z≠y):gm (z^^^C) (iv (z^^^y))=1#8^^^gm (C^^^y) (iv (z^^^y)):=by
 have e:z^^^C=(z^^^y)^^^(C^^^y):=by
  have:(z^^^y)^^^(C^^^y)=(z^^^C)^^^(y^^^y):=by grind
  simp_all
 rw[e,XX,Be _ (BB h)]
theorem Z1X(z z0 y:BitVec 8)(h:z≠y)(C:z0≠y):iv (z^^^y)^^^iv (z0^^^y)=gm (z^^^z0) (gm (iv (z0^^^y)) (iv (z^^^y))):=by
 have e:z^^^z0=(z^^^y)^^^(z0^^^y):=by
  have:(z^^^y)^^^(z0^^^y)=(z^^^z0)^^^(y^^^y):=by grind
  simp_all
 rw[e,XX];rw[Wi (iv (z0^^^y)) (iv (z^^^y)),<-Yj,Be _ (BB h),Qj,Wi (iv (z^^^y)) (iv (z0^^^y)),<-Yj,Be _ (BB C),Qj,BitVec.xor_comm]
theorem Z4o:∀ (n:Nat) (L:List (BitVec 8×BitVec 8)) (Z:List (BitVec 8)),L.length=n->n<=Z.length->(L.map (·.1)).Nodup->Z.Nodup->(∀z,z∈Z->∀p,p∈L->z≠p.1)-> (∀z,z∈Z->ls (λy x=>gm x (iv (z^^^y))) L=0#8)->∀p,p∈L->p.2=0#8:=by
 intro n
 induction n with
 |zero=>intro L Z hl _ _ _ _ _ p F;have:L=[]:=List.length_eq_zero_iff.1 hl;subst this;simp at F
 |succ n ih=>
  intro L Z hl hz hL hZ J heq
  match L,hl,Z,hz with
  |(C,x0)::L,hl,z0::Z,hz=>
   have aw:L.length=n:=(by simpa using hl);have ak:n<=Z.length:=(by simpa using hz);have hy:∀p,p∈L->C≠p.1:=by intro p F e;have h:=(List.nodup_cons.1 (by simpa using hL:(C::L.map (·.1)).Nodup)).1;exact h (by simp_all)
   have au:(L.map (·.1)).Nodup:=(List.nodup_cons.1 (by simpa using hL:(C::L.map (·.1)).Nodup)).2;have ai:=List.nodup_cons.1 hZ
   -- each equation, times (z + C)
   have hmul:∀z,z∈z0::Z->(x0^^^ls (λ_ x=>x) L)^^^ls (λy x=>gm (gm x (C^^^y)) (iv (z^^^y))) L=0#8:=by
    intro z O;have h:=heq z O;have al:z≠C:=J z O (C,x0) (by simp);have U:gm (z^^^C) (ls (λy x=>gm x (iv (z^^^y))) ((C,x0)::L))=0#8:=(by rw[h,Zm]);rw[ls,WK,<-VE] at U;have e1:gm (z^^^C) (gm x0 (iv (z^^^C)))=x0:=(by rw[Wi x0,<-Yj,Be _ (BB al),Qj]);have e2:ls (λy x=>gm (z^^^C) (gm x (iv (z^^^y)))) L=ls (λy x=>x^^^gm (gm x (C^^^y)) (iv (z^^^y))) L:=Ig λp F=>by have ah:=J z O p (by grind);rw[Wi p.2 (iv _),<-Yj,TR z p.1 C ah,XX,Qj,Wi (gm (C^^^p.1) (iv (z^^^p.1))) p.2,Yj]
    simp only at U;rw[e1,e2,VF] at U;rw[<-U];ac_rfl
   have h0:=hmul z0 (by simp)
   -- the equation of z0 taken away, divided by (z + z0)
   have af:∀z,z∈Z->ls (λy x=>gm x (iv (z^^^y))) (L.map λp=>(p.1,gm (gm p.2 (C^^^p.1)) (iv (z0^^^p.1))))=0#8:=by
    intro z O;have h:=hmul z (by simp_all);have aq:z≠z0:=λe=>ai.1 (e▸O);have h2:ls (λy x=>gm (gm x (C^^^y)) (iv (z^^^y))) L=ls (λy x=>gm (gm x (C^^^y)) (iv (z0^^^y))) L:=by have a:=Xs h;have b:=Xs h0;rw[<-a,<-b]
    have h3:ls (λy x=>gm (gm x (C^^^y)) (iv (z^^^y))^^^gm (gm x (C^^^y)) (iv (z0^^^y))) L=0#8:=by rw[VF,h2];simp
    have h4:ls (λy x=>gm (z^^^z0) (gm (gm (gm x (C^^^y)) (iv (z0^^^y))) (iv (z^^^y)))) L=0#8:=by rw[<-h3];refine Ig λp F=> ?_;have ah:=J z (by simp_all) p (by grind);have ag:=J z0 (by simp) p (by grind);rw[<-WK,Z1X z z0 p.1 ah ag,Yj (gm p.2 (C^^^p.1)),<-Yj (z^^^z0),Wi (z^^^z0) (gm p.2 (C^^^p.1)),Yj]
    rw[VE] at h4;rcases(Ju _ _).1 h4 with h5|h5
    .exact absurd h5 (BB aq)
    .rw[Z4v];exact h5
   have aj:=ih (L.map λp=>(p.1,gm (gm p.2 (C^^^p.1)) (iv (z0^^^p.1)))) Z (by simp_all) ak (by grind) ai.2 (by
    intro z O p F;obtain⟨q,hq,rfl⟩:=List.mem_map.1 F
    exact J z (by simp_all) q (by grind)) af
   have ae:∀p,p∈L->p.2=0#8:=by
    intro p F;have h:=aj _ (List.mem_map_of_mem F);simp only at h;rcases(Ju _ _).1 h with h|h
    .rcases(Ju _ _).1 h with h|h
     .exact h
     .exact absurd h (BB (hy p F))
    .exact absurd h (Z3j _ (BB (J z0 (by simp) p (by grind))))
   intro p F;rcases Z5q.1 F with rfl|F
   .rw[RM (λp F=>ae p F),RM (λp F=>by rw[ae p F,Qg,Qg])] at h0;simpa using h0
   .exact ae p F
def Z1i(a:BitVec 8):BitVec 8:=if a=0#8 then 0#8 else iv a
def cau(k i j:Nat):BitVec 8:=Z1i (BitVec.ofNat 8 (k+i)^^^BitVec.ofNat 8 j)
def gen(k i j:Nat):BitVec 8:=if i<k then idm i j else cau k (i-k) j
theorem BS{a b:Nat}(ha:a<256)(C:b<256)(h:BitVec.ofNat 8 a=BitVec.ofNat 8 b):a=b:=by have:=congrArg BitVec.toNat h;grind
theorem Z3R(n:Nat)(f:Nat->BitVec 8)(g:BitVec 8->BitVec 8->BitVec 8)(x:Nat->BitVec 8)(q:Nat->Bool)(C:∀j,j<n->q j=false->f j=0#8)(F:∀j,j<n->q j=true->f j=g (BitVec.ofNat 8 j) (x j)):sm n f=ls g (((List.range n).filter q).map λj=>(BitVec.ofNat 8 j,x j)):=by
 induction n with
 |zero=>rfl
 |succ n ih=>
  have J:∀a b,ls g (a++b)=ls g a^^^ls g b:=by
   intro a b
   induction a with
   |nil=>simp[ls]
   |cons p a iha=>rw[List.cons_append,ls,ls,iha];ac_rfl
  rw[sm,ih (λj O=>C j (by omega)) (λj O=>F j (by omega)),List.range_succ,List.filter_append,Z5u,J];congr 1;cases h:q n with
  |false=>rw[C n (by omega) h];simp[h,ls]
  |true=>rw[F n (by omega) h];simp[h,ls]
theorem BJ{α:Type}(p:α->Bool)(l:List α):(l.filter p).length+(l.filter λa=> !p a).length=l.length:=by
 induction l with
 |nil=>rfl
 |cons a l ih=>cases h:p a<;>simp[h]<;>omega
theorem CL{α:Type}[DecidableEq α]:∀ (l l':List α),l.Nodup->(∀a,a∈l->a∈l')->l.length<=l'.length
 |[],_,_,_=>by simp
 |a::l,l',hn,hs=>by
  have C:=List.nodup_cons.1 hn
  have F:=CL l (l'.erase a) C.2 (λb J=>by
   have h:b≠a:=by grind
   exact(List.mem_erase_of_ne h).2 (hs b (by grind)))
  grind
theorem Z3i(k m:Nat)(al:k+m<=256)(R:List Nat)(hl:R.length=k)(hn:R.Nodup)(hr:∀a,a∈R->a<k+m):Inj k (λi j=>gen k (R.getD i 0) j):=by
 intro x hx;have ag:∀a,a∈R->sm k (λj=>gm (gen k a j) (x j))=0#8:=by intro a ha;obtain⟨i,hi,rfl⟩:=List.getElem_of_mem ha;have:=hx i (by omega);grind
 have ai:∀a,a∈R->a<k->x a=0#8:=by intro a ha U;have h:=ag a ha;rw[Xu (k:=a) U (λj _ aj=>by unfold gen idm;rw[if_pos U,if_neg (λe=>aj e.symm),Qg])] at h;unfold gen idm at h;rw[if_pos U,if_pos rfl,Qj] at h;omega
 let q:Nat->Bool:=λj=> !(R.contains j);let L:=((List.range k).filter q).map λj=>(BitVec.ofNat 8 j,x j);let H:=R.filter λa=> !(decide (a<k));let Z:=H.map λa=>BitVec.ofNat 8 a;have hH:∀a,a∈H->a∈R/\k<=a:=by grind
 have hq:∀j,q j=true↔j∉R:=by intro j;simp[q]
 have hlen:L.length<=Z.length:=by
  have C:=BJ (λa=>decide (a<k)) R;have F:=BJ (λj=>R.contains j) (List.range k);have J:(R.filter λa=>decide (a<k)).length<=((List.range k).filter λj=>R.contains j).length:=by refine CL _ _ (List.Nodup.sublist List.filter_sublist hn) (λa ha=> ?_);simp_all
  grind
 have af:L.map (·.1)=((List.range k).filter q).map λj=>BitVec.ofNat 8 j:=by simp[L,List.map_map,Function.comp_def]
 have ae:∀ (l:List Nat),l.Nodup->(∀a,a∈l->a<256)->(l.map λj=>BitVec.ofNat 8 j).Nodup:=by
  intro l
  induction l with
  |nil=>intro _ _;simp
  |cons a l ih=>intro C F;have J:=List.nodup_cons.1 C;rw[Z5t];refine List.nodup_cons.2 ⟨λhm=> ?_,ih J.2 (λb hb=>F b (by grind))⟩;obtain⟨b,hb,e⟩:=List.mem_map.1 hm;have:=BS (F b (by grind)) (F a (by simp)) e;exact J.1 (this▸hb)
 have ah:=Z4o L.length L Z rfl hlen (by
  rw[af]
  exact ae _ (List.Nodup.sublist List.filter_sublist List.nodup_range) (λa ha=>by have:=(List.mem_filter.1 ha).1;simp at this;omega)) (ae _ (List.Nodup.sublist List.filter_sublist hn) (λa ha=>by have:=hr a (hH a ha).1;omega)) (by
  intro z hz p hp e;obtain⟨a,ha,rfl⟩:=List.mem_map.1 hz;obtain⟨j,O,rfl⟩:=List.mem_map.1 hp;have C:=hH a ha;have F:=hr a C.1;have J:=(List.mem_filter.1 O).1;simp at J;have:=BS (by omega) (by omega) e
  omega) (by
  intro z hz;obtain⟨a,ha,rfl⟩:=List.mem_map.1 hz;have C:=hH a ha;have F:=hr a C.1;rw[<-ag a C.1];refine(Z3R k _ _ x q (λj O ak=> ?_) (λj O _=> ?_)).symm
  .have:j∈R:=by
    by_cases hm:j∈R
    .exact hm
    .have:=(hq j).2 hm;rw[ak] at this;exact absurd this (by simp)
   rw[ai j this O,Zm]
  .unfold gen cau Z1i
   rw[if_neg (by omega),show k+(a-k)=a from by omega,if_neg (BB (λe=>by have:=BS (by omega) (by omega) e;omega)),Wi])
 intro c hc;by_cases hm:c∈R
 .simp_all
 .exact ah (BitVec.ofNat 8 c,x c) (List.mem_map.2 ⟨c,List.mem_filter.2 ⟨by simp;exact hc,(hq c).2 hm⟩,rfl⟩)
end
section
open Go.RowKit
def Zd(l:List (BitVec 8)):List Value:=l.map λx=>.int .u8 (nv x)
theorem Qe(l:List (BitVec 8)):(Zd l).length=l.length:=by simp[Zd]
theorem Xb(l:List (BitVec 8))(j:Nat)(h:j<l.length):(Zd l)[j]? =some (.int .u8 (nv l[j])):=by simp[Zd,h]
def tab(n:Nat)(f:Nat->BitVec 8):List (BitVec 8):=(List.range n).map f
theorem Zq(n:Nat)(f:Nat->BitVec 8):(tab n f).length=n:=by simp[tab]
theorem Yk(n:Nat)(f:Nat->BitVec 8)(j:Nat)(h:j<n):(tab n f)[j]'(by rw[Zq];exact h)=f j:=by simp[tab]
theorem Wf{n:Nat}{f g:Nat->BitVec 8}(h:∀j,j<n->f j=g j):tab n f=tab n g:=by unfold tab;exact List.map_congr_left λj C=>h j (List.mem_range.1 C)
theorem Lh{n:Nat}(f:Nat->BitVec 8)(k:Nat)(x:BitVec 8):(tab n f).set k x=tab n (λj=>if j=k then x else f j):=by
 apply List.ext_getElem
 .simp[Zq]
 .intro i C h;have hi:i<n:=by rw[Zq] at h;exact h
  rw[List.getElem_set,Yk _ _ _ hi,Yk _ _ _ hi];grind
theorem Eo(l:List (BitVec 8))(k:Nat)(x:BitVec 8):(Zd l).set k (.int .u8 (nv x))=Zd (l.set k x):=by simp[Zd,List.map_set]
theorem Z2n(n:Nat):tab n (λ_=>0#8)=List.replicate n 0#8:=by simp[tab,List.map_const']
theorem PL(n:Nat):Zd (List.replicate n 0#8)=Z3 (List.replicate n 0):=by simp[Zd,Z3,Ad]
theorem QB{w:World}{p:Addr}{v:Value}(h:w.cell? p=some v):p.block<w.heap.size:=by unfold World.cell? at h;grind
theorem Gl{w w':World}{Ls:List Nat}(h:Fr Ls w w'){g o:Nat}{v:Value}(C:g∉Ls)(hc:w.cell? ⟨g,o,none⟩=some v):w'.cell? ⟨g,o,none⟩=some v:=by have hl:=QB hc;have F:=h.block g hl C;unfold World.cell? at hc⊢;simp_all
structure Mt where
 rows:Int
 cols:Int
 cells:List (BitVec 8)
def Mt.val(m:Mt)(a:Option Addr)(cap:Nat):Value:=.agg #[.int .i64 m.rows,.int .i64 m.cols,.slice a m.cells.length cap]
def Mt.right(m:Mt):Bool:=decide (1<=m.rows/\m.rows<=255/\1<=m.cols/\m.cols<=255/\(m.cells.length:Int)=m.rows*m.cols)
def mat(r c:Nat)(M:Nat->Nat->BitVec 8):Mt:=⟨r,c,tab (r*c) (λj=>M (j / c) (j%c))⟩
theorem Jv{c:Nat}(i j:Nat)(h:j<c):(i*c+j) / c=i:=by rw[Nat.mul_comm,Nat.mul_add_div (by omega),Nat.div_eq_of_lt h];omega
theorem Jw{c:Nat}(i j:Nat)(h:j<c):(i*c+j)%c=j:=by rw[Nat.mul_comm,Nat.mul_add_mod,Nat.mod_eq_of_lt h]
theorem K5{r c:Nat}{i j:Nat}(hi:i<r)(h:j<c):i*c+j<r*c:=by have:(i+1)*c<=r*c:=Nat.mul_le_mul_right c hi;grind
theorem Cs{r c k:Nat}(h:k<r*c):k / c<r:=Nat.div_lt_of_lt_mul (by grind)
theorem VJ{r c:Nat}{M N:Nat->Nat->BitVec 8}(h:∀i j,i<r->j<c->M i j=N i j):mat r c M=mat r c N:=by unfold mat;congr 1;refine Wf λj C=>h _ _ (Cs C) (Nat.mod_lt _ ?_);grind
section
variable{w:World}{g N i:Nat}{f:Nat->BitVec 8}{sp:List Value}
theorem Wr(h:Row w g 5 (Zd (tab N f)++sp))(hi:i<N):w.cell? ⟨g,i,none⟩=some (.int .u8 (nv (f i))):=h.cell (by rw[Z5c (by rw[Qe,Zq];exact hi),Xb _ _ (by rw[Zq];exact hi),Yk _ _ _ hi])
theorem G6(h:ZD w g 5 (Zd (tab N f)))(hi:i<N):w.cell? ⟨g,i,none⟩=some (.int .u8 (nv (f i))):=h.row.cell (by rw[Xb _ _ (by rw[Zq];exact hi),Yk _ _ _ hi])
theorem G7(h:ZD w g 5 (Zd (tab N f)))(hi:i<N):w.frozen? ⟨g,i,none⟩=false:=h.row.free (by rw[Qe,Zq];exact hi)
theorem EK(h:ZD w g 5 (Zd (tab N f)))(x:BitVec 8):ZD (w.setCell ⟨g,i,none⟩ (.int .u8 (nv x))) g 5 (Zd (tab N (λj=>if j=i then x else f j))):=by have hm:=h.set i (.int .u8 (nv x));rw[Eo,Lh] at hm;omega
end
