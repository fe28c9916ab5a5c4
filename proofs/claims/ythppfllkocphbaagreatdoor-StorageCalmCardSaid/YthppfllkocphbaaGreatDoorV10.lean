/- Part 11: lemmas. -/
import Derived.Test.YthppfllkocphbaaGreatDoorV06
import Derived.Test.YthppfllkocphbaaGreatDoorV09
namespace Go.Proofs.YthppfllkocphbaaGreatDoor
set_option linter.all false
set_option maxHeartbeats 25600000
set_option maxRecDepth 100000
open Tryz
open Go renaming World->Qs,Value->Qt,TypeId->Qu,Ending->Qv
open Go.RowKit Go.Shelf
def Ea(n:Nat)(h:n<=4294967295)(w:Qs):Calls prog 80 #[(n:Int)] w λe w'=>e=.returned (.string (s32 n))/\Below w w w':=by go_enter func80,ntmps80;go_wp2_with (go_at_call 125;go_fit (LG n h _);rintro e w' ⟨rfl,hb⟩);go_ret;simp_all
def KI(s:Qq)(h:s.size=4)(w:Qs):Calls prog 111 #[.string s] w λe w'=>e=.returned (Wz s.data.toList:Int)/\Below w w w':=by rw[Sj s h];have⟨e1,e2,F,J,M,O,U,Z,e9,C⟩:=I3 s[0].toNat s[1].toNat s[2].toNat s[3].toNat s[0].toNat_lt s[1].toNat_lt s[2].toNat_lt s[3].toNat_lt;go_enter func111,ntmps111;go_wp2;go_quiet (fail);go_wp2;go_ret;exact⟨Ex (Bf Qw),YE (Zu _ _) _⟩
def Ii(name:Bs)(J:name.length<=220)(g c:Nat)(l:List Bs)(sp:Qk)(w:Qs)(h:Row w g 9 (QS (l.map str)++sp))(O:(Y8 l).length<=9000):Calls prog 82 #[name,.slice g l.length c] w λe w'=>e=.returned (.tuple #[.string (str (WW name (Y8 l))),.nilIface])/\Below w w w':=by have M:(Y8 l).length<=60000:=Qw;go_enter func82,ntmps82;go_wp2_with (first|(go_at_call 126;go_fit (Fq g c l sp _ h M);rintro e w1 ⟨rfl,C⟩;have S1:=ZI C)|(go_at_call 127;go_fit (Z6D name (Y8 l) _ J O);rintro e w2 ⟨rfl,F⟩;have U:=ZI (S1.o.trans (F.mono S1.o.size))));go_ret2;exact⟨rfl,U.o⟩
variable{H:Bs->Option Bs}{T:Tab}{a:Ac}{b l:List Ac}{g i k m:Nat}{ns:List Bs}{x:Bs}
def nmC:Bs:=[33]
def nmN:Bs:=[110]
def nmT:Bs:=[116]
def nmS(key:Bs):Bs:=115::key
def nmD(key:Bs):Bs:=100::key
def G5:Bs:=[115,101,116]
def YQ(k m i g:Nat):Bs:=WW nmC (Y8 [G5,QI k,QI m,QI i,QI g])
def shT(k m:Nat)(v:Bs)(i:Nat):Bs:=((Y5 k m (str v)).getD i ⟨#[]⟩).data.toList
def shL(k m i:Nat)(key v:Bs):Bs:=WW (nmD key) (Y8 [QI i,QI v.length,shT k m v i])
def AN(g:Nat)(gone:List Bs):Bs:=WW nmT (Y8 (QI g::gone))
structure Chg where
 key:Bs
 val:Option Bs
def XU(k m i:Nat)(c:Chg):Option Ac:=c.val.map λv=>⟨1,nmS c.key,[],shL k m i c.key v⟩
def Y4(l:List Chg):List Bs:=l.filterMap λc=>match c.val with|none=>some c.key|some _=>none
def Wg(k m i g:Nat)(l:List Chg):List Ac:=⟨1,nmN,[],YQ k m i (g+1)⟩::(l.filterMap (XU k m i)++[⟨1,nmT,[],AN (g+1) (Y4 l)⟩])
def isS(n:Bs):Bool:=n.head? ==some 115
def mv1(n:Bs):Ac:=⟨3,n,100::n.drop 1,[]⟩
def dr1(n:Bs):Ac:=⟨2,n,[],[]⟩
def Yv(d:Dir)(gone:List Bs):List Ac:=(d.names.filter isS).map mv1++((gone.filter λkey=>(d.get (nmD key)).isSome).map λkey=>dr1 (nmD key))++[⟨3,nmN,nmC,[]⟩,dr1 nmT]
def acts0(d:Dir):List Ac:=(d.names.filter isS).map dr1++([nmN,nmT].filter λn=>(d.get n).isSome).map dr1
def upH(H:Bs->Option Bs)(l:List Chg):Bs->Option Bs:=λkey=>match l.find? (λc=>c.key==key) with
 |some c=>c.val
 |none=>H key
theorem LN(h:∀a∈l,a.kind=1){m:Bs}(hm:∀a∈l,a.name≠m):∀T:Tab,l.foldl Ac.on T m=T m:=by
 induction l with
 |nil=>intro T;rfl
 |cons a r ih=>intro T;rw[ZdI,ih (λb hb=>h b QA) (λb hb=>hm b QA)];unfold Ac.on;grind
def LM(C:∀a∈l,a.kind=1)(h:(l.map (·.name)).Nodup){a:Ac}(ha:a∈l):∀T:Tab,l.foldl Ac.on T a.name=some (some a.value):=by
 induction l with
 |nil=>cases ha
 |cons b r ih=>
  intro T;rw[Zn,ZdR] at h;rw[ZdI];rcases Zk.1 ha with rfl|ha
  .rw[LN (λb hb=>C b QA) (λb hb e=>h.1 QB)];unfold Ac.on;simp_all
  .simp_all
theorem LK{m:Bs}:∀T:Tab,(ns.map dr1).foldl Ac.on T m=if m∈ns then none else T m:=by
 induction ns with
 |nil=>intro T;simp
 |cons n r ih=>
  intro T;rw[Zn,ZdI,ih];by_cases h:m∈r
  .grind
  .rw[Zw h];show(if m=n then none else T m)=_;simp_all
def FG(T:Tab)(x m:Bs):(mv1 (nmS x)).on T m=if m=nmD x then T (nmS x) else if m=nmS x then none else T m:=rfl
theorem LL{xs:List Bs}(C:xs.Nodup){m:Bs}:∀T:Tab,((xs.map nmS).map mv1).foldl Ac.on T m=match m with
  |100::x=>if x∈xs then T (nmS x) else T m
  |115::x=>if x∈xs then none else T m
  |_=>T m:=by
 induction xs with
 |nil=>intro T;simp;split<;>rfl
 |cons y r ih=>
  intro T;rw[ZdR] at C;rw[Zn,Zn,ZdI,ih C.2];split
  .rename_i x;rw[FG,FG];by_cases hx:x∈r
   .have h:x≠y:=λe=>C.1 (e▸hx);rw[Zx hx,Zw (by simp[nmS,nmD]),Zw (by simp[nmS];exact h),Zx QA]
   .rw[Zw hx];by_cases h:x=y
    .subst h;simp[nmD]
    .rw[Zw (by simp[nmD];exact h),Zw (by simp[nmS]),Zw QB]
  .rename_i x;rw[FG];by_cases hx:x∈r
   .grind
   .rw[Zw hx,Zw (by simp[nmD])];by_cases h:x=y
    .subst h;simp[nmS]
    .rw[Zw (by simp[nmS];exact h),Zw QB]
  .rename_i F J;rw[FG,Zw (show¬m=nmD y from λe=>F _ e),Zw (show¬m=nmS y from λe=>J _ e)]
def BD:Tab->List Ac->Prop
 |_,[]=>True
 |T,a::r=>T a.name≠none/\(a.kind=2∨(a.kind=3/\a.to≠a.name))/\BD (a.on T) r
def RM{a:List Ac}:∀{T:Tab},BD T a->BD (a.foldl Ac.on T) b->BD T (a++b):=by
 induction a with
 |nil=>intro T _ h;exact h
 |cons x r ih=>intro T h k;exact⟨h.1,h.2.1,ih h.2.2 k⟩
theorem Z0V:∀{k:Nat} {d:Dir} {T:Tab},(∀m,d.get m=none↔T m=none)->BD T l->∃F,Wi l k d []=some (F,[])/\∀m,F.get m=none↔l.foldl Ac.on T m=none:=by
 induction l with
 |nil=>intro k d T h _;exact⟨d,rfl,h⟩
 |cons a r ih=>
  intro k d T h ho;have⟨h1,C,Z⟩:=ho;have hg:d.get a.name≠none:=QB;obtain⟨e,he⟩:∃e,d.get a.name=some e:=by
   cases hd:d.get a.name with
   |none=>exact absurd hd hg
   |some e=>exact⟨e,rfl⟩
  rcases C with C|⟨C,ae⟩
  .have⟨F,M,O⟩:=ih (k:=k+1) (d:=d.del a.name) (T:=a.on T) (λm=>by
    unfold Ac.on;rw[C,Z99];simp only;by_cases hm:m=a.name
    .grind
    .rw[Zw hm,Zw hm];exact h m) Z
   refine⟨F,?_,O⟩;have J:Xv k a d []=some (d.del a.name,[]):=by unfold Xv;rw[C];simp only;rw[he];rfl
   rw[Wi,J];exact M
  .have⟨F,M,O⟩:=ih (k:=k+1) (d:=(d.del a.name).put a.to e) (T:=a.on T) (λm=>by
    unfold Ac.on;rw[C,Z9b,Z99];simp only;by_cases hm:m=a.to
    .simp_all
    .rw[Zw hm,Zw hm];by_cases U:m=a.name
     .simp_all
     .rw[Zw U,Zw U];exact h m) Z
   refine⟨F,?_,O⟩;have J:Xv k a d []=some ((d.del a.name).put a.to e,[]):=by unfold Xv;rw[C];simp only;rw[he];simp only;rw[Zw (by simp[QF.has,ae])];rfl
   rw[Wi,J];exact M
def Kx(F:∀a∈l,a.kind=1):∀ (k:Nat) (d:Dir) (f:QF),∃C f',Wi l k d f=some (C,f'):=by
 induction l with
 |nil=>intro k d f;exact⟨d,f,rfl⟩
 |cons a r ih=>
  intro k d f;have⟨C,f',h⟩:=ih (λb hb=>F b QA) (k+1) ((d.del a.name).put a.name ⟨a.value.length,WD a.value,[]⟩) (f.del a.name++[(a.name,k)]);refine⟨C,f',?_⟩;have J:Xv k a d f=some ((d.del a.name).put a.name ⟨a.value.length,WD a.value,[]⟩,f.del a.name++[(a.name,k)]):=by unfold Xv;rw[F a Qx];rfl
  rw[Wi,J];exact h
theorem Z0U{a:List Ac}:∀{k:Nat} {d:Dir} {f:QF},Wi (a++b) k d f=match Wi a k d f with
  |some (d',f')=>Wi b (k+a.length) d' f'
  |none=>none:=by
 induction a with
 |nil=>intro k d f;rfl
 |cons x r ih=>intro k d f;rw[Zef,Wi,Wi];grind
theorem Kw(ha:a.kind=1){k:Nat}{d C:Dir}{f f':QF}(h:Wi (l++[a]) k d f=some (C,f')):f'.by a.name≠none/\C.get a.name≠none:=by
 rw[Z0U] at h;split at h
 .rename_i d1 f1 J;have F:Xv (k+l.length) a d1 f1=some ((d1.del a.name).put a.name ⟨a.value.length,WD a.value,[]⟩,f1.del a.name++[(a.name,k+l.length)]):=by unfold Xv;rw[ha];rfl
  rw[Wi,F] at h;obtain⟨rfl,rfl⟩:=h;rw[Z9p,Z9c,Zx rfl,Z9b,Zx rfl];simp[QF.by]
 .grind
structure Wn(k m i g:Nat)(H:Bs->Option Bs)(T:Tab):Prop where
 Zbl:T nmC=some (some (YQ k m i g))
 next:T nmN=none
 under:T nmT=none
 Zba:∀x,T (nmS x)=none
 none_:∀x,H x=none->T (nmD x)=none
 some_:∀x v,H x=some v->T (nmD x)=none∨T (nmD x)=some none∨T (nmD x)=some (some (shL k m i x v))
 other:∀n,T n≠none->n=nmC∨∃x,n=nmD x
def Xt(k m i:Nat)(H:Bs->Option Bs)(T:Tab):Prop:=∀x v,H x=some v->T (nmD x)=some (some (shL k m i x v))
structure Mid(k m i g:Nat)(H:Bs->Option Bs)(l:List Chg)(T T1:Tab):Prop where
 next:T1 nmN=some (some (YQ k m i (g+1)))
 under:T1 nmT=some (some (AN (g+1) (Y4 l)))
 Zba:∀c∈l,∀v,c.val=some v->T1 (nmS c.key)=some (some (shL k m i c.key v))
 bare:∀x,(∀c∈l,c.key=x->c.val=none)->T1 (nmS x)=none
 rest:∀n,n≠nmN->n≠nmT->(∀x,n≠nmS x)->T1 n=T n
def EC{c:Chg}(h:XU k m i c=some a):∃v,c.val=some v/\a=⟨1,nmS c.key,[],shL k m i c.key v⟩:=by
 unfold XU at h;cases hv:c.val with
 |none=>rw[hv] at h;cases h
 |some v=>rw[hv] at h;exact⟨v,rfl,(ZdZ h).symm⟩
def Nr{l:List Chg}:∀a∈Wg k m i g l,a.kind=1:=by
 intro a ha;unfold Wg at ha;simp at ha;rcases ha with rfl|⟨c,_,hc⟩|rfl
 .rfl
 .obtain⟨v,_,rfl⟩:=EC hc;rfl
 .rfl
def Z7i{l:List Chg}(h:(l.map (·.key)).Nodup):((l.filterMap (XU k m i)).map (·.name)).Nodup:=by
 induction l with
 |nil=>simp
 |cons c r ih=>
  rw[Zn,ZdR] at h;rw[Zgj];cases hs:XU k m i c with
  |none=>exact ih h.2
  |some a=>obtain⟨v,hv,rfl⟩:=EC hs;rw[Zn,ZdR];refine⟨λhm=> ?_,ih h.2⟩;have⟨b,hb,he⟩:=Zz.1 hm;have⟨c2,F,C⟩:=ZeD.1 hb;obtain⟨v2,_,rfl⟩:=EC C;have:c2.key=c.key:=(by simpa[nmS] using he);simp_all
theorem UC{l:List Chg}(F:(l.map (·.key)).Nodup):((Wg k m i g l).map (·.name)).Nodup:=by
 unfold Wg;rw[Zn,Zo,ZdR,ZdP];have hs:∀n∈(l.filterMap (XU k m i)).map (·.name),∃x,n=nmS x:=λn hm=>by obtain⟨b,hb,rfl⟩:=Zz.1 hm;have⟨c2,M,C⟩:=ZeD.1 hb;obtain⟨v2,_,rfl⟩:=EC C;grind
 refine⟨λhm=> ?_,Z7i F,Qx,λx hx y h e=> ?_⟩
 .rcases Zj.1 hm with hm|hm
  .have⟨x,hx⟩:=hs _ hm;simp[nmN,nmS] at hx
  .simp[nmN,nmT] at hm
 .have⟨z,J⟩:=hs _ hx;simp at h;subst h;subst J;simp[nmT,nmS] at e
theorem RA{l:List Chg}(M:(l.map (·.key)).Nodup)(h:Wn k m i g H T):Mid k m i g H l T ((Wg k m i g l).foldl Ac.on T):=by
 have C:=Nr (k:=k) (m:=m) (i:=i) (g:=g) (l:=l);have F:=UC (k:=k) (m:=m) (i:=i) (g:=g) M;have J:∀a∈Wg k m i g l,a.name=nmN∨a.name=nmT∨∃c∈l,∃v,c.val=some v/\a=⟨1,nmS c.key,[],shL k m i c.key v⟩:=λa ha=>by
  unfold Wg at ha;simp at ha;rcases ha with rfl|⟨c,hc,hs⟩|rfl
  .simp
  .obtain⟨v,hv,rfl⟩:=EC hs;exact Zy (Zy ⟨c,hc,v,hv,rfl⟩)
  .simp
 refine⟨?_,?_,λc hc v hv=> ?_,λx hx=> ?_,λn n1 n2 O=> ?_⟩
 .exact LM C F (a:=⟨1,nmN,[],YQ k m i (g+1)⟩) (by unfold Wg;simp) T
 .exact LM C F (a:=⟨1,nmT,[],AN (g+1) (Y4 l)⟩) (by unfold Wg;simp) T
 .refine LM C F (a:=⟨1,nmS c.key,[],shL k m i c.key v⟩) ?_ T;refine Zh _ (Zen _ (ZeD.2 ⟨c,hc,?_⟩));unfold XU;rw[hv];rfl
 .rw[LN C (λa ha e=> ?_)]
  .exact h.Zba x
  .rcases J a ha with h9|h9|⟨c,hc,v,hv,rfl⟩
   .rw[h9] at e;simp[nmN,nmS] at e
   .rw[h9] at e;simp[nmT,nmS] at e
   .have:c.key=x:=(by simpa[nmS] using e);simp_all
 .rw[LN C (λa ha e=> ?_)];grind
def CG(n:Bs):isS n=true↔∃x,n=nmS x:=by
 unfold isS nmS;cases n with
 |nil=>simp
 |cons a r=>simp
def Mv{d:Dir}(hs:d.Zax):∃xs:List Bs,d.names.filter isS=xs.map nmS/\xs.Nodup/\∀x,x∈xs↔d.get (nmS x)≠none:=by
 have F:d.names.filter isS=((d.names.filter isS).map (List.drop 1)).map nmS:=by
  rw[ZeW]
  conv=>lhs;rw[<-List.map_id (d.names.filter isS)]
  refine Zea λn h=> ?_;obtain⟨x,rfl⟩:=(CG n).1 (ZdV.1 h).2;rfl
 have C:(d.names.filter isS).Nodup:=(Z9g hs).sublist Zer;refine⟨_,F,?_,λx=> ?_⟩
 .rw[F] at C;exact(Zev.1 C).imp λO e=>O (by rw[e])
 .constructor
  .intro hx;obtain⟨n,h,rfl⟩:=Zz.1 hx;have⟨J,M⟩:=ZdV.1 h;obtain⟨y,rfl⟩:=(CG n).1 M;exact XI.1 J
  .intro hx;refine Zz.2 ⟨nmS x,ZdV.2 ⟨XI.2 hx,(CG _).2 ⟨x,rfl⟩⟩,rfl⟩
def Z4u{xs:List Bs}:∀{T:Tab},xs.Nodup->(∀x∈xs,T (nmS x)≠none)->BD T ((xs.map nmS).map mv1):=by
 induction xs with
 |nil=>intro T _ _;trivial
 |cons y r ih=>intro T C h;rw[ZdR] at C;refine⟨h y Qx,Zy ⟨rfl,by simp[mv1,nmS]⟩,ih C.2 λx hx=> ?_⟩;rw[FG,Zw (by simp[nmS,nmD]),Zw (by simp[nmS];exact λe=>C.1 QB)];simp_all
theorem RN:∀{T:Tab},ns.Nodup->(∀n∈ns,T n≠none)->BD T (ns.map dr1):=by
 induction ns with
 |nil=>intro T _ _;trivial
 |cons y r ih=>intro T C h;rw[ZdR] at C;refine⟨h y Qx,Zv rfl,ih C.2 λn hx=> ?_⟩;show(if n=y then none else T n)≠none;grind
theorem Do{l:List Chg}:x∈Y4 l↔∃c∈l,c.key=x/\c.val=none:=by unfold Y4;grind
theorem Z2g{l:List Chg}(h:(l.map (·.key)).Nodup):(Y4 l).Nodup:=by
 induction l with
 |nil=>simp[Y4]
 |cons c r ih=>unfold Y4 at ih⊢;grind
theorem EH{l:List Chg}(h:(l.map (·.key)).Nodup){c:Chg}(hc:c∈l):upH H l c.key=c.val:=by
 unfold upH
 induction l with
 |nil=>cases hc
 |cons b r ih=>grind
theorem MP{l:List Chg}(h:∀c∈l,c.key≠x):upH H l x=H x:=by unfold upH;grind
def Z1G(T:Tab)(n:Bs):(dr1 nmT).on ((⟨3,nmN,nmC,[]⟩:Ac).on T) n=if n=nmT then none else if n=nmC then T nmN else if n=nmN then none else T n:=rfl
def FX{l:List Chg}{C:Tab}{d:Dir}(hn:(l.map (·.key)).Nodup)(hr:Wn k m i g H T)(hm:Mid k m i g H l T C)(hs:d.Zax)(hd:∀n,d.get n=none↔C n=none):BD C (Yv d (Y4 l))/\Wn k m i (g+1) (upH H l) ((Yv d (Y4 l)).foldl Ac.on C)/\(Xt k m i H T->Xt k m i (upH H l) ((Yv d (Y4 l)).foldl Ac.on C)):=by
 have⟨xs,e1,e2,e3⟩:=Mv hs;have aw:∀x,x∈xs↔C (nmS x)≠none:=λx=>by rw[e3,ne_eq,ne_eq,hd]
 have⟨ds,ah⟩:=ZK ((Y4 l).filter λkey=>(d.get (nmD key)).isSome);have bz:ds.Nodup:=by rw[<-ah];exact(Z2g hn).sublist Zer
 have ai:∀x,x∈ds↔(x∈Y4 l/\C (nmD x)≠none):=λx=>by rw[<-ah,ZdV,ne_eq,<-hd];cases d.get (nmD x)<;>simp
 have hA:Yv d (Y4 l)=((xs.map nmS).map mv1++(ds.map nmD).map dr1)++[⟨3,nmN,nmC,[]⟩,dr1 nmT]:=by unfold Yv;rw[e1,ah,ZeW (f:=nmD)];rfl
 have af:∀x,x∈xs↔∃c∈l,c.key=x/\∃v,c.val=some v:=λx=>by
  rw[aw];constructor
  .intro h;by_cases hx:∀c∈l,c.key=x->c.val=none
   .exact absurd (hm.bare x hx) h
   .simp[Classical.not_forall] at hx;have⟨c,hc,Z,O⟩:=hx;refine⟨c,hc,Z,?_⟩;cases hv:c.val with
    |none=>exact absurd hv O
    |some v=>exact⟨v,rfl⟩
  .rintro⟨c,hc,rfl,v,hv⟩;rw[hm.Zba c hc v hv];simp
 have ae:∀x,x∈Y4 l->x∉xs:=λx hg hx=>by have⟨c,hc,Z,O⟩:=Do.1 hg;have⟨c',hc',bj,v,bm⟩:=(af x).1 hx;have F:=EH (H:=H) hn hc;have a2:=EH (H:=H) hn hc';rw[Z,O] at F;rw[bj,bm,F] at a2;cases a2
 have⟨U,ag⟩:=ZK (((xs.map nmS).map mv1).foldl Ac.on C);have bf:∀x,U (nmD x)=if x∈xs then C (nmS x) else C (nmD x):=λx=>by rw[<-ag];exact LL e2 C
 have bg:∀x,U (nmS x)=none:=λx=>by
  rw[<-ag];have h9:((xs.map nmS).map mv1).foldl Ac.on C (nmS x)=if x∈xs then none else C (nmS x):=LL e2 C;rw[h9];by_cases hx:x∈xs
  .rw[Zx hx]
  .rw[Zw hx];cases ht:C (nmS x) with
   |none=>rfl
   |some z=>exact absurd ((aw x).2 QB) hx
 have au:∀n,(∀x,n≠nmD x)->(∀x,n≠nmS x)->U n=C n:=λn Z O=>by
  rw[<-ag,LL e2 C];split
  .exact absurd rfl (Z _)
  .exact absurd rfl (O _)
  .rfl
 have⟨M,aq⟩:=ZK (((ds.map nmD).map dr1).foldl Ac.on U);have hb:∀n,M n=if n∈ds.map nmD then none else U n:=λn=>by rw[<-aq];exact LK U
 have bq:∀x,M (nmD x)=if x∈ds then none else U (nmD x):=λx=>by
  rw[hb];have:nmD x∈ds.map nmD↔x∈ds:=by simp[nmD]
  by_cases h:x∈ds
  .rw[Zx h,Zx (this.2 h)]
  .rw[Zw h,Zw (λO=>h (this.1 O))]
 have aj:∀n,(∀x,n≠nmD x)->M n=U n:=λn h=>by rw[hb,Zw (λhm=>by have⟨x,_,e⟩:=Zz.1 hm;exact h x e.symm)]
 have hF:∀n,(Yv d (Y4 l)).foldl Ac.on C n=if n=nmT then none else if n=nmC then M nmN else if n=nmN then none else M n:=λn=>by rw[hA,Zeh,Zeh,ag,aq];exact Z1G M n
 have bh:M nmN=C nmN:=by rw[aj _ (by simp[nmN,nmD]),au _ (by simp[nmN,nmD]) (by simp[nmN,nmS])]
 have bu:M nmT=C nmT:=by rw[aj _ (by simp[nmT,nmD]),au _ (by simp[nmT,nmD]) (by simp[nmT,nmS])]
 have ak:∀x,(Yv d (Y4 l)).foldl Ac.on C (nmD x)=if x∈ds then none else if x∈xs then C (nmS x) else T (nmD x):=λx=>by rw[hF,Zw (by simp[nmD,nmT]),Zw (by simp[nmD,nmC]),Zw (by simp[nmD,nmN]),bq,bf,hm.rest (nmD x) (by simp[nmD,nmN]) (by simp[nmD,nmT]) (by simp[nmD,nmS])]
 have cn:∀x,C (nmD x)=T (nmD x):=λx=>hm.rest (nmD x) (by simp[nmD,nmN]) (by simp[nmD,nmT]) (by simp[nmD,nmS]);have key:∀x,(x∈xs/\x∉ds/\∃v,upH H l x=some v/\C (nmS x)=some (some (shL k m i x v)))∨(x∉xs/\upH H l x=none/\(x∈ds∨T (nmD x)=none))∨(x∉xs/\x∉ds/\upH H l x=H x):=λx=>by
  by_cases hx:x∈xs
  .obtain⟨c,hc,rfl,v,hv⟩:=(af x).1 hx;exact Zv ⟨hx,λh9=>ae _ ((ai _).1 h9).1 hx,v,by rw[EH hn hc,hv],hm.Zba c hc v hv⟩
  .by_cases hg:x∈Y4 l
   .obtain⟨c,hc,rfl,O⟩:=Do.1 hg;refine Zy (Zv ⟨hx,by rw[EH hn hc,O],?_⟩);by_cases ht:T (nmD c.key)=none
    .exact Zy ht
    .exact Zv ((ai _).2 ⟨hg,by rw[cn];exact ht⟩)
   .refine Zy (Zy ⟨hx,λh9=>hg ((ai x).1 h9).1,MP λc hc e=> ?_⟩);cases hv:c.val with
    |none=>exact hg (Do.2 ⟨c,hc,e,hv⟩)
    |some v=>exact hx ((af x).2 ⟨c,hc,e,v,hv⟩)
 refine⟨?_,⟨?_,?_,?_,λx=> ?_,λx hx=> ?_,λx v hx=> ?_,λn J=> ?_⟩,λcr x v hx=> ?_⟩
 .rw[hA];refine RM (RM (Z4u e2 λx hx=>(aw x).1 hx) ?_) ?_
  .rw[ag];refine RN ?_ λn cj=> ?_
   .exact Zev.2 (bz.imp λJ e=>J (by simpa[nmD] using e))
   .obtain⟨x,hx,rfl⟩:=Zz.1 cj;rw[bf,Zw (ae x ((ai x).1 hx).1)];exact((ai x).1 hx).2
  .rw[Zeh,ag,aq];refine⟨by rw[bh,hm.next];simp,Zy ⟨rfl,by simp[nmN,nmC]⟩,?_,Zv rfl,trivial⟩;show(if nmT=nmC then M nmN else if nmT=nmN then none else M nmT)≠none;rw[Zw (by simp[nmT,nmC]),Zw (by simp[nmT,nmN]),bu,hm.under];simp
 .rw[hF,Zw (by simp[nmC,nmT]),Zx rfl,bh,hm.next]
 .rw[hF,Zw (by simp[nmN,nmT]),Zw (by simp[nmN,nmC]),Zx rfl]
 .rw[hF,Zx rfl]
 .rw[hF,Zw (by simp[nmS,nmT]),Zw (by simp[nmS,nmC]),Zw (by simp[nmS,nmN]),aj _ (by simp[nmS,nmD]),bg]
 .rw[ak];rcases key x with ⟨F,a2,v,a3,_⟩|⟨F,a2,a3⟩|⟨F,a2,a3⟩
  .rw[hx] at a3;cases a3
  .rcases a3 with a3|a3
   .rw[Zx a3]
   .by_cases ah:x∈ds
    .rw[Zx ah]
    .rw[Zw ah,Zw F];exact a3
  .rw[Zw a2,Zw F];exact hr.none_ x QB
 .rw[ak];rcases key x with ⟨F,a2,v',a3,a4⟩|⟨F,a2,a3⟩|⟨F,a2,a3⟩
  .rw[hx] at a3;cases a3;rw[Zw a2,Zx F];exact Zy (Zy a4)
  .rw[hx] at a2;cases a2
  .rw[Zw a2,Zw F];exact hr.some_ x v QB
 .rw[hF] at J;by_cases Z:n=nmT
  .rw[Zx Z] at J;exact absurd rfl J
  .rw[Zw Z] at J;by_cases O:n=nmC
   .exact Zv O
   .rw[Zw O] at J;by_cases h3:n=nmN
    .rw[Zx h3] at J;exact absurd rfl J
    .rw[Zw h3] at J;by_cases h4:∃x,n=nmD x
     .exact Zy h4
     .have ay:∀x,n≠nmD x:=λx e=>h4 ⟨x,e⟩;rw[aj _ ay] at J;by_cases h5:∃x,n=nmS x
      .obtain⟨x,rfl⟩:=h5;rw[bg] at J;exact absurd rfl J
      .have az:∀x,n≠nmS x:=λx e=>h5 ⟨x,e⟩;rw[au _ ay az,hm.rest _ h3 Z az] at J;exact hr.other n J
 .rw[ak];rcases key x with ⟨F,a2,v',a3,a4⟩|⟨F,a2,a3⟩|⟨F,a2,a3⟩
  .rw[hx] at a3;cases a3;rw[Zw a2,Zx F];exact a4
  .rw[hx] at a2;cases a2
  .rw[Zw a2,Zw F];exact cr x v (by rw[<-a3];exact hx)
def GE(b k m i g:Nat)(w:Qs)(hk:k<=4294967295)(hm:m<=4294967295)(hi:i<=4294967295)(hg:g<=4294967295)(c0:w.cell? b=(k:Int))(c1:w.cell? ⟨b,1,none⟩=(m:Int)):Calls prog 79 #[b,(i:Int),(g:Int)] w λe w'=>e=.returned (.tuple #[.string (str (YQ k m i g)),.nilIface])/\Below w w w':=by
 have F:∀W:Qs,Calls prog 82 #[.string ⟨#[33]⟩,.slice (some ⟨W,0,none⟩) 5 5] (W.alloc (.cells #[.string ⟨#[115,101,116]⟩,.string (s32 k),.string (s32 m),.string (s32 i),.string (s32 g)] 9)) λe w'=>e=.returned (.tuple #[.string (str (YQ k m i g)),.nilIface])/\Below (W.alloc (.cells #[.string ⟨#[115,101,116]⟩,.string (s32 k),.string (s32 m),.string (s32 i),.string (s32 g)] 9)).heap.size (W.alloc (.cells #[.string ⟨#[115,101,116]⟩,.string (s32 k),.string (s32 m),.string (s32 i),.string (s32 g)] 9)) w':=λW=>by have h9:=Z2 W 9 [.string ⟨#[115,101,116]⟩,.string (s32 k),.string (s32 m),.string (s32 i),.string (s32 g)];exact Ii nmC Qz W.heap.size 5 [G5,QI k,QI m,QI i,QI g] [] _ h9 (by rw[Xo,YR,YR,YR,YR,YR];simp[Yy,Wl,G5])
 have h:∀A C:Qs,(A.cell? b=(k:Int)/\A.cell? ⟨b,1,none⟩=(m:Int)/\Below w w A)->Below A A C->(C.cell? b=(k:Int)/\C.cell? ⟨b,1,none⟩=(m:Int)/\Below w w C):=by rintro A C ⟨M,O,U⟩ hb;exact⟨(hb.cell (Z9 A _ M)).trans M,(hb.cell (Z9 A _ O)).trans O,U.trans (hb.mono U.size)⟩
 have hs0:=h w w.drew ⟨c0,c1,Zu _ _⟩ ((Zu _ _).drew);have Z:=ZI F;have J:=ZI h;go_enter func79,ntmps79;go_wp2;go_region_held3 (λx=>x.cell? b=(k:Int)/\x.cell? ⟨b,1,none⟩=(m:Int)/\Below w w x) (first|exact hs0|(exact J.o _ _ Qw ((Zu _ _).alloc (Zt _) _))|(exact J.o _ _ (by assumption) (by assumption)))
  (first|(go_at_call 80;go_fit (Ea _ (by assumption) _);rintro e w8 ⟨rfl,ae⟩)|(go_at_call 82;go_fit (Z.o _);rintro e w9 ⟨rfl,af⟩))
 rename_i hHeld;go_wp2;go_ret2;exact⟨rfl,hHeld.2.2⟩
def Z4P{W:Qs}{B B':Nat}{e:Qu}{v:Qt}{n:Nat}{xs:Qk}(h:W.ownsRow B e k v n xs)(hB:B'<=B):W.ownsRow B' e k v n xs:=by refine⟨h.1,h.2.imp id ?_⟩;rintro⟨g,cap,cur,C,F,J⟩;exact⟨g,cap,cur,C,Zq hB F,J⟩
def Z4F(s:Nat)(under name:Bs)(l:List Bs)(w:Qs)(U:Calls prog 157 #[s,under] w λr w'=>r=.returned (.tuple #[.string (str (WW name (Y8 l))),.nilIface])/\Below w w w')(hn:name.length<=220)(af:(Y8 l).length<=9000):Calls prog 110 #[s,under,name] w λe w'=>∃a cap,e=.returned (.tuple #[.slice a l.length cap,.nilIface])/\w'.ownsRow w 9 1 (.slice a l.length cap) l.length (QS (l.map str))/\Below w w w':=by
 have Z:(str (Y8 l)).size<=100000:=by rw[QW];omega
 have ae:∀W:Qs,Calls prog 155 #[.string (str (Y8 l))] W λe w'=>∃a cap,e=.returned (.tuple #[.slice a l.length cap,.nilIface])/\w'.ownsRow W 9 1 (.slice a l.length cap) l.length (QS (l.map str))/\Below W W w':=λW=>by have:=Ip (str (Y8 l)) (l.map str) W (by rw[Yp,GN]) Z;simp_all
 have HG:=ZI U;have HS:=ZI ae;go_enter func110,ntmps110;go_wp2_with (first|(go_at_call 157;go_fit HG.o;rintro e w1 ⟨rfl,C⟩;have S1:=ZI C)|(go_at_call 158;go_fit (Z4D name (Y8 l) _ hn af);rintro e w2 ⟨rfl,F⟩;have h:=ZI (S1.o.trans (F.mono S1.o.size)))|(go_at_call 155;go_fit (HS.o _);rintro e w3 ⟨a,cap,rfl,M,J⟩;have O:=ZM M (h.o.trans (J.mono h.o.size))));go_ret2;exact⟨_,_,rfl,Z4P O.1 h.o.size,O.2⟩
def Z4E(s:Nat)(under name:Bs)(c:Int)(hc:c≠0)(w:Qs)(F:Calls prog 157 #[s,under] w λr w'=>∃b,r=.returned (.tuple #[.string ⟨#[]⟩,.iface 139 (b:Nat)])/\QK w' w c (.iface 139 (b:Nat))/\Below w w w'):Calls prog 110 #[s,under,name] w λe w'=>∃b,e=.returned (.tuple #[(),.iface 139 (b:Nat)])/\QK w' w c (.iface 139 (b:Nat))/\Below w w w':=by have J:=ZI F;go_enter func110,ntmps110;go_wp2_with (go_at_call 157;go_fit J.o;rintro e w1 ⟨b,rfl,C,h⟩;have S1:=ZM C h);go_ret2;exact⟨_,rfl,S1.1,S1.2⟩
def GS(n v:Qq)(w:Qs):Calls prog 81 #[.string n,.string v] w λe w'=>e=.returned (.agg #[(1:Int),.string n,.string ⟨#[]⟩,.string v])/\Below w w w':=by go_enter func81,ntmps81;go_wp2;have h:=Z2 w 151 [.int .i64 1,.string n,.string ⟨#[]⟩,.string v];have:=h.c0;have:=h.c1;have:=h.c2;have:=h.c3;exact ZD (v:=.agg #[(1:Int),.string n,.string ⟨#[]⟩,.string v]) (by simp[results,go_sem]) rfl ⟨rfl,(Zu _ w).alloc (Zt _) _⟩
variable{D:Dk}{E:Nat}{K:List Bs}{T1:Tab}{l:List Chg}{n v:Bs}
def WM(K:List Bs):List Bs:=nmC::nmN::nmT::(K.map nmS++K.map nmD)
structure KOk(K:List Bs):Prop where
 few:K.length<=18
 len:∀x∈K,1<=x.length/\x.length<=11
theorem Jd:n∈WM K↔n=nmC∨n=nmN∨n=nmT∨(∃x∈K,n=nmS x)∨∃x∈K,n=nmD x:=by unfold WM;grind
def BB(h:KOk K):∀n∈WM K,1<=n.length/\n.length<=12:=λn C=>by
 rcases Jd.1 C with rfl|rfl|rfl|⟨x,hx,rfl⟩|⟨x,hx,rfl⟩
 .simp[nmC]
 .simp[nmN]
 .simp[nmT]
 .have:=h.len x hx;simp[nmS];omega
 .have:=h.len x hx;simp[nmD];omega
theorem FI(h:KOk K):(WM K).length<=40:=by have:=h.few;unfold WM;grind
def Z4k(h:nmS x∈WM K):x∈K:=by
 rcases Jd.1 h with h|h|h|⟨y,C,h⟩|⟨y,C,h⟩
 .simp[nmS,nmC] at h
 .simp[nmS,nmN] at h
 .simp[nmS,nmT] at h
 .have:x=y:=by simpa[nmS] using h
  simp_all
 .simp[nmS,nmD] at h
structure LOk(K:List Bs)(l:List Chg):Prop where
 nd:(l.map (·.key)).Nodup
 few:l.length<=4
 key:∀c∈l,c.key∈K
 val:∀c∈l,∀v,c.val=some v->v.length<=200
structure QU(K:List Bs)(E:Nat)(D:Dk)(S:Sto):Prop where
 img:∃Zau,Wf 800 100 D.reads S Zau
 sm:Z9i (WM K) S.dir
 wait:D.wait=[]
 ep:S.j.Zar<=E
def QU.sorted{S:Sto}(h:QU K E D S):S.dir.Zax:=by have⟨Zau,hi⟩:=h.img;exact hi.ok.sorted
def QU.mono{E':Nat}{S:Sto}(h:QU K E D S)(he:E<=E'):QU K E' D S:=⟨h.img,h.sm,h.wait,Zq h.ep he⟩
def QU.few{S:Sto}(h:QU K E D S)(hK:KOk K):S.dir.length<=40:=Zq (G9 h.sm h.sorted) (FI hK)
def XA{R:Nat->ByteArray}{d:Dir}:d.get n=none↔stR R d n=none:=by unfold stR;cases d.get n<;>simp
structure Ym(K:List Bs)(S:Sto)(Zan:List Ac)(d:Dir)(f:QF):Prop where
 ZaQ:S.ZaQ Zan=some (d,f)
 room:Cy S d f
 ZaA:∀a∈Zan,a.ZaA=false
 ne:Zan≠[]
 few:Zan.length<=12
 in_:∀o∈S.ops Zan d f,o.In 800
 sm:Z9i (WM K) d
def RQ(S:Sto)(Zan:List Ac)(d:Dir)(f:QF):∃l,S.ops Zan d f=l++[.fl]:=by
 unfold Sto.ops Sto.Zbe;split
 .unfold Jn.ZaM Jn.lay;exact⟨_,(Zd _ _ _).symm⟩
 .unfold Jn.ZaI;exact⟨_,(Zd _ _ _).symm⟩
def RI(S:Sto)(d:Dir)(f:QF):(S.Zbp d f).Zar<=S.j.Zar+1:=by
 unfold Sto.Zbp;split
 .exact ZeE _
 .exact Zt _
def QU.Zan{S:Sto}(h:QU K E D S)(hK:KOk K){Zan:List Ac}(hw:∀a∈Zan,a.ZaA=false)(ha:∀a∈Zan,Ac.Sm (WM K) a)(hl:Zan.length<=12)(M:Zan≠[]){d0:Dir}{f:QF}(hd:Wi Zan 0 S.dir []=some (d0,f))(U:∃m,f.by m≠none∨(S.dir.get m≠none/\d0.get m=none))(O:d0≠[]):∃d,Ym K S Zan d f:=by
 have⟨Zau,hi⟩:=h.img;have⟨d,F,J,h3,h4⟩:=Ob hi (λm hm=>(BB hK m hm).2) (FI hK) h.sm hw ha hl hd U O;have Z:=XR D.reads hi.ok hi.used hw F;refine⟨d,F,J,hw,M,hl,λo C=> ?_,h3⟩;rcases Zj.1 C with C|C
 .exact Oj Z o C
 .have:=La J o C;rw[hi.ZaP] at this;cases o with
  |wr a s=>exact⟨Zp this.1 Qw,this.2⟩
  |fl=>trivial
def QU.did{S:Sto}(h:QU K E D S)(hK:KOk K)(ok:D.ok 800){Zan:List Ac}{d:Dir}{f:QF}(ha:Ym K S Zan d f):QU K (E+1) (Yn (S.ops Zan d f) D) (S.done d f)/\stR (Yn (S.ops Zan d f) D).reads (S.done d f).dir=Zan.foldl Ac.on (stR D.reads S.dir):=by
 have⟨Zau,hi⟩:=h.img;have C:=XR D.reads hi.ok hi.used ha.ZaA ha.ZaQ;have e1:(Yn (S.ops Zan d f) D).reads=Y0 (S.ops Zan d f) D.reads:=Bo ok.fit ha.in_;refine⟨⟨⟨S.Zc7 Zau d f,?_⟩,ha.sm,?_,?_⟩,?_⟩
 .rw[e1];exact hi.Zb2 Qw Qw Qw C ha.room
 .have⟨l,hl⟩:=RQ S Zan d f;rw[hl];exact EY l D
 .exact Zq (RI S d f) (Nat.succ_le_succ h.ep)
 .rw[e1];exact TS hi C ha.room
theorem put_ok(hK:KOk K){n v:Bs}(C:n∈WM K)(hv:v.length<=500)(F:1<=v.length):Ac.ZaA ⟨1,n,[],v⟩=false/\Ac.Sm (WM K) ⟨1,n,[],v⟩:=by have:=BB hK n C;refine⟨?_,C,λh=>by simp at h,hv,λ_=>F⟩;unfold Ac.ZaA;grind
theorem Fg(hK:KOk K){n:Bs}(C:n∈WM K):Ac.ZaA (dr1 n)=false/\Ac.Sm (WM K) (dr1 n):=by have:=BB hK n C;refine⟨?_,C,λh=>by simp[dr1] at h,by simp[dr1],λh=>by simp[dr1] at h⟩;unfold Ac.ZaA dr1;grind
theorem move_ok(hK:KOk K){n t:Bs}(C:n∈WM K)(F:t∈WM K):Ac.ZaA ⟨3,n,t,[]⟩=false/\Ac.Sm (WM K) ⟨3,n,t,[]⟩:=by have:=BB hK n C;have:=BB hK t F;refine⟨?_,C,λ_=>F,Qx,λh=>by simp at h⟩;unfold Ac.ZaA;grind
def Fa(k m i g:Nat):(YQ k m i g).length=111:=by unfold YQ;rw[CS,Xo,YR,YR,YR,YR,YR];simp[Yy,Wl,G5,YU]
def Tz(h:1<=k)(hv:v.length<=200)(i:Nat):(shT k m v i).length<=201:=by
 unfold shT;by_cases hi:i<k+m
 .have C:=CT k m (str v) h i hi;have F:=Gg k (str v).size h;rw[QW] at C F;have:((Y5 k m (str v)).getD i ⟨#[]⟩).data.toList.length=((Y5 k m (str v)).getD i ⟨#[]⟩).size:=by rfl
  omega
 .rw[Z7,Zei (by rw[BL];omega)];simp
def DN{key:Bs}(h:1<=k)(hv:v.length<=200):(shL k m i key v).length<=500/\(Y8 [QI i,QI v.length,shT k m v i]).length<=9000:=by have:=Tz (m:=m) h hv i;unfold shL;rw[CS,Xo,YR,YR,YR];simp[Yy,Wl,YU];omega
def ML(hK:KOk K){g:Nat}{l:List Chg}(h:LOk K l):(AN g (Y4 l)).length<=500/\(Y8 (QI g::Y4 l)).length<=9000:=by
 have:(Y4 l).length<=l.length:=by unfold Y4;exact Zee _ _
 have:=Mo (Y4 l) 11 (λx hx=>by
  have⟨c,hc,hx,_⟩:=Do.1 hx
  rw[<-hx];exact(hK.len _ (h.key c hc)).2)
 have:=h.few;unfold AN;rw[CS,Xo,YR];simp[Wl,YU];omega
theorem QU.first{H:Bs->Option Bs}{S:Sto}(h:QU K E D S)(hK:KOk K)(M:1<=k)(hl:LOk K l):∃d f,Ym K S (Wg k m i g l) d f:=by
 have F:∀a∈Wg k m i g l,a.ZaA=false/\Ac.Sm (WM K) a:=λa ha=>by
  unfold Wg at ha;simp at ha;rcases ha with rfl|⟨c,hc,hs⟩|rfl
  .exact put_ok hK (Jd.2 Qx) (by rw[Fa];omega) (by rw[Fa];omega)
  .obtain⟨v,hv,rfl⟩:=EC hs;exact put_ok hK (Jd.2 (Zy (Zy (Zy (Zv ⟨_,hl.key c hc,rfl⟩))))) (DN M (hl.val c hc v hv)).1 (by unfold shL;rw[CS];omega)
  .exact put_ok hK (Jd.2 Qx) (ML hK hl).1 (by unfold AN;rw[CS];omega)
 have hlen:(Wg k m i g l).length<=12:=by have:=hl.few;unfold Wg;grind
 have⟨d0,f,J⟩:=Kx (Nr (k:=k) (m:=m) (i:=i) (g:=g) (l:=l)) 0 S.dir [];have C:f.by nmT≠none/\d0.get nmT≠none:=by exact Kw rfl J
 have⟨d,ha⟩:=h.Zan hK (λa ha=>(F a ha).1) (λa ha=>(F a ha).2) hlen (by unfold Wg;simp) J ⟨nmT,Zv C.1⟩ (λe=>C.2 (by rw[e];rfl));grind
def QU.live{S:Sto}{Zan:List Ac}(h:QU K E D S)(hK:KOk K)(hw:∀a∈Zan,a.ZaA=false)(ha:∀a∈Zan,Ac.Sm (WM K) a)(hl:Zan.length<=12)(F:Zan≠[])(Z:BD (stR D.reads S.dir) Zan){m:Bs}(J:stR D.reads S.dir m≠none)(M:Zan.foldl Ac.on (stR D.reads S.dir) m=none){m2:Bs}(O:Zan.foldl Ac.on (stR D.reads S.dir) m2≠none):∃d,Ym K S Zan d []:=by have⟨d0,U,C⟩:=Z0V (k:=0) (λm=>XA (R:=D.reads) (d:=S.dir) (n:=m)) Z;refine h.Zan hK hw ha hl F U ⟨m,Zy ⟨λe=>J (XA.1 e),(C m).2 M⟩⟩ (λe=>O ((C m2).1 (by rw[e];rfl)))
def TK{d:Dir}(h:Z9i (WM K) d){n:Bs}(M:n∈d.names.filter isS):∃x∈K,n=nmS x:=by have⟨F,J⟩:=ZdV.1 M;obtain⟨x,rfl⟩:=(CG n).1 J;have⟨y,O,C⟩:=Zz.1 F;exact⟨x,Z4k (by rw[<-C];exact(h y O).1),rfl⟩
def Mid.xs(hm:Mid k m i g H l T T1){d:Dir}(hs:d.Zax)(J:∀n,d.get n=none↔T1 n=none):(d.names.filter isS).length<=l.length:=by
 have⟨xs,e1,e2,C⟩:=Mv hs
 have:=e2.length_le_of_subset (l₂:=l.map (·.key)) (λx hx=>by
  have h:=(C x).1 hx;rw[ne_eq,J] at h;by_cases hc:∀c∈l,c.key=x->c.val=none
  .exact absurd (hm.bare x hc) h
  .simp at hc;have⟨c,hc,F,_⟩:=hc
   exact Zz.2 ⟨c,hc,F⟩)
 simp_all
theorem QU.second{S:Sto}(h:QU K E D S)(hK:KOk K)(hl:LOk K l)(M:Wn k m i g H T)(hm:Mid k m i g H l T (stR D.reads S.dir)):∃d,Ym K S (Yv S.dir (Y4 l)) d []:=by
 obtain⟨O,F,r3⟩:=FX hl.nd M hm h.sorted (λn=>XA);have C:∀a∈Yv S.dir (Y4 l),a.ZaA=false/\Ac.Sm (WM K) a:=λa ha=>by
  unfold Yv at ha;simp only[Zj,Zz,Zk,ZdG,ZgN] at ha;rcases ha with (⟨n,J,rfl⟩|⟨x,hx,rfl⟩)|rfl|rfl
  .obtain⟨x,hx,rfl⟩:=TK h.sm J;exact move_ok hK (Jd.2 (Zy (Zy (Zy (Zv ⟨x,hx,rfl⟩))))) (Jd.2 (Zy (Zy (Zy (Zy ⟨x,hx,rfl⟩)))))
  .obtain⟨c,hc,hx,_⟩:=Do.1 (ZdV.1 hx).1;exact Fg hK (Jd.2 (Zy (Zy (Zy (Zy ⟨x,by rw[<-hx];exact hl.key c hc,rfl⟩)))))
  .exact move_ok hK (Jd.2 Qx) (Jd.2 Qx)
  .exact Fg hK (Jd.2 Qx)
 have hlen:(Yv S.dir (Y4 l)).length<=12:=by
  have U:=hm.xs h.sorted (λn=>XA);have Z:(Y4 l).length<=l.length:=by unfold Y4;exact Zee _ _
  have:=hl.few;unfold Yv;grind
 exact h.live hK (λa ha=>(C a ha).1) (λa ha=>(C a ha).2) hlen (by unfold Yv;simp) O (m:=nmT) (by rw[hm.under];simp) F.under (m2:=nmC) (by rw[F.Zbl];simp)
theorem Z4w(T:Tab){a b:List Bs}(n:Bs):(a.map dr1++b.map dr1).foldl Ac.on T n=if n∈a∨n∈b then none else T n:=by rw[Zeh,LK,LK];grind
theorem Lv{d:Dir}(O:Wn k m i g H T)(hm:Mid k m i g H l T T1)(hs:d.Zax)(Z:∀n,d.get n=none↔T1 n=none):BD T1 (acts0 d)/\∀n,(acts0 d).foldl Ac.on T1 n=T n:=by
 have⟨xs,e1,e2,e3⟩:=Mv hs;have hN:(d.get nmN).isSome=true:=by
  cases M:d.get nmN with
  |none=>have:=(Z nmN).1 M;rw[hm.next] at this;cases this
  |some e=>rfl
 have hT:(d.get nmT).isSome=true:=by
  cases M:d.get nmT with
  |none=>have:=(Z nmT).1 M;rw[hm.under] at this;cases this
  |some e=>rfl
 have hA:acts0 d=(xs.map nmS).map dr1++[nmN,nmT].map dr1:=by unfold acts0;simp_all
 have F:∀n,(n∈xs.map nmS∨n∈[nmN,nmT])↔((∃x,n=nmS x/\T1 n≠none)∨n=nmN∨n=nmT):=QA;rw[hA];refine⟨?_,λn=> ?_⟩
 .rw[<-Zo];refine RN ?_ (λn hn=> ?_)
  .rw[ZdP];refine⟨Zev.2 (e2.imp λaf e=>af (by simpa[nmS] using e)),by simp[nmN,nmT],λa ha b hb e=> ?_⟩;obtain⟨x,hx,rfl⟩:=Zz.1 ha;simp at hb;rcases hb with rfl|rfl
   .simp[nmS,nmN] at e
   .simp[nmS,nmT] at e
  .grind
 .rw[Z4w];by_cases J:n=nmN
  .rw[Zx ((F n).2 (Zy (Zv J))),J,O.next]
  .by_cases C:n=nmT
   .rw[Zx ((F n).2 (Zy (Zy C))),C,O.under]
   .by_cases U:∃x,n=nmS x
    .obtain⟨x,rfl⟩:=U;rw[O.Zba];grind
    .have ae:∀x,n≠nmS x:=λx e=>U ⟨x,e⟩
     rw[Zw (λh=>by
      rcases(F n).1 h with ⟨x,e,_⟩|e|e
      .grind
      .simp_all
      .exact C e),hm.rest n J C ae]
theorem QU.dropped{S:Sto}(h:QU K E D S)(hK:KOk K)(hl:LOk K l)(F:Wn k m i g H T)(hm:Mid k m i g H l T (stR D.reads S.dir)):∃d,Ym K S (acts0 S.dir) d []:=by
 obtain⟨Z,J⟩:=Lv F hm h.sorted (λn=>XA);have M:∀a∈acts0 S.dir,a.ZaA=false/\Ac.Sm (WM K) a:=λa ha=>by
  unfold acts0 at ha;simp only[Zj,Zz] at ha;rcases ha with ⟨n,U,rfl⟩|⟨x,hx,rfl⟩
  .obtain⟨x,hx,rfl⟩:=TK h.sm U;exact Fg hK (Jd.2 (Zy (Zy (Zy (Zv ⟨x,hx,rfl⟩)))))
  .have:=(ZdV.1 hx).1;simp at this;rcases this with rfl|rfl
   .exact Fg hK (Jd.2 Qx)
   .exact Fg hK (Jd.2 Qx)
 have hlen:(acts0 S.dir).length<=12:=by have h1:=hm.xs h.sorted (λn=>XA);have:=hl.few;unfold acts0;grind
 have O:acts0 S.dir≠[]:=by intro e;have C:=J nmN;rw[e,F.next] at C;simp at C;rw[hm.next] at C;cases C
 exact h.live hK (λa ha=>(M a ha).1) (λa ha=>(M a ha).2) hlen O Z (m:=nmN) (by rw[hm.next];simp) (by rw[J,F.next]) (m2:=nmC) (by rw[J,F.Zbl];simp)
def DL(l:List DOp):∀{P:Pw} {D:Dk},(∀o∈l,o.In 800)->D.Fit 800->D.dead=false->(QH l P D).1=0->(QH l P D).2.2=Yn l D:=by
 induction l with
 |nil=>intro P D _ _ _ _;rfl
 |cons o r ih=>
  intro P D J O M h;rw[CQ] at h⊢;by_cases F:o.code P D=0
  .rw[Zx F] at h⊢;have e:o.dk P D=o.app D:=by
    cases o with
    |wr a s=>show wdk P D a s=_;have C:X8 P D a s=0:=F;unfold wdk;rw[Zx C];rfl
    |fl=>show fdk P D=_;have C:Ja P D=0:=F;unfold fdk;rw[Zx C];rfl
   rw[e] at h⊢;exact ih (λq U=>J q QA) (O.app o (J o Qx)) (by rw[EZ];exact M) h
  .simp_all
theorem QU.runs{S:Sto}(h:QU K E D S){n:Bs}{e:Ent}(J:S.dir.get n=some e):Ent.Ok 800 100 e/\e.runs≠[]/\e.runs.length<=1000:=by
 have⟨Zau,hi⟩:=h.img;have C:=hi.ok.get J;have:=h.sm _ (Z4 J);refine⟨C,λe0=> ?_,?_⟩
 .have F:=C.Zat;unfold Ent.Zat Yu at F;grind
 .have F:=Tc e.runs (λr O=>(C.many r O).1);have M:(Yc e.runs).length=Yu e.size:=C.Zat;unfold Yu at M;grind
variable{l':List Chg}
def JS(H:Bs->Option Bs)(l:List Chg):Bs->Option Bs:=l.foldl (λH c x=>if x=c.key then c.val else H x) H
def later(c:Chg)(r:List Chg):Bool:=r.any λo=>o.key==c.key
def Wk:List Chg->List Chg
 |[]=>[]
 |c::r=>if later c r=true then Wk r else c::Wk r
def Lh{c:Chg}{r:List Chg}:later c r=true↔∃o∈r,o.key=c.key:=by unfold later;simp
theorem Lg:∀c∈Wk l,c∈l:=by
 induction l with
 |nil=>intro c h;cases h
 |cons a r ih=>intro c h;unfold Wk at h;grind
theorem Lf(l:List Chg):(Wk l).length<=l.length:=by
 induction l with
 |nil=>exact Zt _
 |cons a r ih=>unfold Wk;grind
def PR(l:List Chg):((Wk l).map (·.key)).Nodup:=by
 induction l with
 |nil=>simp[Wk]
 |cons a r ih=>
  unfold Wk;split
  .omega
  .rename_i h;rw[Zn,ZdR];refine⟨λhm=>h ?_,ih⟩;have⟨c,hc,e⟩:=Zz.1 hm;exact Lh.2 ⟨c,Lg c hc,e⟩
def Fs:∀{H:Bs->Option Bs},(∀c∈l,c.key≠x)->JS H l x=H x:=by
 unfold JS
 induction l with
 |nil=>intro H _;rfl
 |cons c r ih=>intro H h;rw[ZdI,ih (λo C=>h o QA),Zw (λe=>h c Qx e.symm)]
def KQ(H:Bs->Option Bs)(c:Chg)(r:List Chg):JS H (c::r)=JS (λx=>if x=c.key then c.val else H x) r:=rfl
theorem Z1U:∀{H C:Bs->Option Bs},(∃c∈l,c.key=x)->JS H l x=JS C l x:=by
 induction l with
 |nil=>rintro H C ⟨c,hc,_⟩;cases hc
 |cons a r ih=>
  rintro H C ⟨c,hc,rfl⟩;rw[KQ,KQ];by_cases h:∃o∈r,o.key=c.key
  .grind
  .have F:∀o∈r,o.key≠c.key:=λo J e=>h ⟨o,J,e⟩;rw[Fs F,Fs F];grind
def Z81(H:Bs->Option Bs)(l:List Chg)(x:Bs):upH H (Wk l) x=JS H l x:=by
 induction l generalizing H with
 |nil=>rfl
 |cons a r ih=>
  rw[KQ,Wk];by_cases hl:later a r=true
  .rw[Zx hl,ih H];by_cases hx:∃c∈r,c.key=x
   .exact Z1U hx
   .have h:∀c∈r,c.key≠x:=λc hc e=>hx ⟨c,hc,e⟩;rw[Fs h,Fs h]
    rw[Zw (λe=>by
     have⟨o,C,e2⟩:=Lh.1 hl
     exact h o C QA)]
  .rw[Zw hl];have F:∀o∈r,o.key≠a.key:=λo C e=>hl (Lh.2 ⟨o,C,e⟩);unfold upH;rw[ZgY];by_cases hx:x=a.key
   .subst hx;rw[Fs F];simp
   .rw[show(a.key==x)=false from by simpa using λe=>hx e.symm];have J:=ih (λy=>if y=a.key then a.val else H y);rw[<-J];unfold upH;simp_all
def Z82(h:l.Perm l')(F:(l.map (·.key)).Nodup):upH H l=upH H l':=by
 have C:(l'.map (·.key)).Nodup:=QA
 funext x
 by_cases hx:∃c∈l,c.key=x
 .obtain⟨c,hc,rfl⟩:=hx;rw[EH F hc,EH C (h.mem_iff.1 hc)]
 .rw[MP (λc hc e=>hx ⟨c,hc,e⟩),MP (λc hc e=>hx ⟨c,h.mem_iff.2 hc,e⟩)]
def LOk.of(h:l'.Perm (Wk l))(J:l.length<=4)(C:∀c∈l,c.key∈K)(F:∀c∈l,∀v,c.val=some v->v.length<=200):LOk K l':=⟨((h.map (·.key)).nodup_iff).2 (PR l),by have:=Lf l;have:=h.length_eq;omega,λc hc=>C c (Lg c (h.mem_iff.1 hc)),λc hc=>F c (Lg c (h.mem_iff.1 hc))⟩
def MQ(h:l'.Perm (Wk l)):upH H l'=JS H l:=by
 rw[Z82 h (((h.map (·.key)).nodup_iff).2 (PR l))]
 funext x
 exact Z81 H l x
abbrev QY:=List (Bs×Bs)
def Hof(l:QY):Bs->Option Bs:=λx=>(l.find? λp=>p.1==x).map (·.2)
def JV(l:QY)(c:Chg):QY:=(l.filter λp=>p.1 !=c.key)++(match c.val with|some v=>[(c.key,v)]|none=>[])
def J6(l:QY)(cs:List Chg):QY:=cs.foldl JV l
theorem Nb{l:QY}(C:(l.map (·.1)).Nodup){p:Bs×Bs}(h:p∈l):Hof l p.1=some p.2:=by
 unfold Hof
 induction l with
 |nil=>cases h
 |cons q r ih=>grind
def Nc{l:QY}:Hof l x=none↔∀p∈l,p.1≠x:=by unfold Hof;simp
theorem Bj{l:QY}(h:Hof l x=some v):(x,v)∈l:=by unfold Hof at h;rw[ZeI] at h;grind
theorem Pk{l:QY}(h:(l.map (·.1)).Nodup)(c:Chg):((JV l c).map (·.1)).Nodup:=by unfold JV;grind
theorem Uu(l:QY)(c:Chg)(x:Bs):Hof (JV l c) x=if x=c.key then c.val else Hof l x:=by unfold Hof JV;grind
def Na(l:QY)(cs:List Chg):Hof (J6 l cs)=JS (Hof l) cs:=by
 unfold J6 JS
 induction cs generalizing l with
 |nil=>rfl
 |cons c r ih=>
  rw[ZdI,ZdI,ih];congr 1
  funext x
  exact Uu l c x
theorem Z2G(l:QY)(c:Chg):(JV l c).length<=l.length+1:=by unfold JV;grind
theorem PN{l:QY}(J:(l.map (·.1)).Nodup){ks:List Bs}(F:ks.Nodup)(h:∀x,x∈ks↔Hof l x≠none):ks.length=l.length:=by
 have C:∀x,x∈ks↔x∈l.map (·.1):=λx=>by rw[h,ne_eq,Nc];simp
 have:=F.length_le_of_subset (l₂:=l.map (·.1)) (λx hx=>(C x).1 hx);have:=J.length_le_of_subset (l₂:=ks) (λx hx=>(C x).2 hx);grind
variable{B:Nat}{Ds:Nat->Dk}{G:Eg}{Ls Os:Nat->List Nat}{P:Pw}{V:Ev}{bl:List Nat}{f:QF}{w w' w0:World}
def Z0Z(P:Pw)(D:Dk)(o:DOp):(o.dk P D).Zaq=D.Zaq/\(o.dk P D).dead=D.dead:=by
 cases o with
 |wr a s=>show(wdk P D a s).Zaq=_/\(wdk P D a s).dead=_;unfold wdk;split<;>exact⟨rfl,rfl⟩
 |fl=>show(fdk P D).Zaq=_/\(fdk P D).dead=_;unfold fdk;split<;>exact⟨rfl,rfl⟩
theorem XK(l:List DOp):∀ (P:Pw) (D:Dk),(QH l P D).2.2.Zaq=D.Zaq/\(QH l P D).2.2.dead=D.dead:=by
 induction l with
 |nil=>intro P D;exact⟨rfl,rfl⟩
 |cons o r ih=>intro P D;rw[CQ];have:=Z0Z P D o;grind
def Sto.pl(S:Sto)(Zan:List Ac):Dir×QF:=(S.ZaQ Zan).getD ([],[])
def Sto.go(S:Sto)(Zan:List Ac):List DOp:=S.ops Zan (S.pl Zan).1 (S.pl Zan).2
def Sto.nx(S:Sto)(Zan:List Ac):Sto:=S.done (S.pl Zan).1 (S.pl Zan).2
def Ym.pl{S:Sto}{Zan:List Ac}{d:Dir}(h:Ym K S Zan d f):S.pl Zan=(d,f):=by unfold Sto.pl;rw[h.ZaQ];rfl
def Ym.go{S:Sto}{Zan:List Ac}{d:Dir}(h:Ym K S Zan d f):S.go Zan=S.ops Zan d f:=by unfold Sto.go;rw[h.pl]
def Ym.nx{S:Sto}{Zan:List Ac}{d:Dir}(h:Ym K S Zan d f):S.nx Zan=S.done d f:=by unfold Sto.nx;rw[h.pl]
def Ye(B:Nat)(G:Eg)(bl:Qj)(P:Pw)(Ds:Nat->Dk)(w w':Qs):Prop:=
 ∃Ls:Nat->List Nat,(∀i,i<G.n->PD B w' G.p (G.ds i) 800 P (Ds i) (Ls i))/\(∀i j,i<G.n->j<G.n->i≠j->∀k∈Ls i,k∉Ls j)/\(∀i,i<G.n->∀k∈Ls i,k∈bl∨w.heap.size<=k)/\Fr (G.p::bl) w w'
def QG.d(h:QG B G bl V w w'):Ye B G bl V.P V.Ds w w':=by obtain⟨bl',⟨Ls,Os,rfl,e⟩,g,f⟩:=h;exact⟨Ls,e.pd,e.dap,λi hi k C=>g k (WL.2 (Zy (Zv ⟨i,hi,C⟩))),f⟩
def Ye.fr(h:Ye B G bl P Ds w w'){w2:Qs}{Y:Qj}{ts:List Qu}(F:Fr Y w' w2)(ht:QL w' Y ts)(Z:∀e∈ts,e∉Az)(U:∀k∈Y,k∈G.p::bl∨w.heap.size<=k):Ye B G bl P Ds w w2:=by
 have⟨Ls,C,J,M,O⟩:=h
 exact⟨Ls,λi hi=>(C i hi).fr F (ht.Zb5 (C i hi).typed Z),J,M,O.trans F (λk hk ae=>by
  rcases U k hk with h9|h9
  .exact h9
  .omega)⟩
def Ye.after(h:Ye B G bl P Ds w w'){w2:Qs}(hb:Below w' w' w2):Ye B G bl P Ds w w2:=h.fr (Z1 (L:=[]) hb) (ts:=[]) (λk C=>by cases C) Qx Qx
def Ye.from(h:Ye B G bl P Ds w w')(hb:Below w0 w0 w):Ye B G bl P Ds w0 w':=by have⟨Ls,C,F,J,M⟩:=h;exact⟨Ls,C,F,λi hi k O=>(J i hi k O).imp id (λh=>Zq hb.size h),(Z1 (L:=G.p::bl) hb).trans M (λi hi _=>hi)⟩
theorem Ye.trans{J:Ev}{w1 w2:Qs}{C:Qj}(F:EAt B w1 G J C/\(∀k∈C,k∈bl∨w.heap.size<=k)/\Fr (G.p::bl) w w1)(M:Ye B G C P Ds w1 w2):Ye B G bl P Ds w w2:=by
 have⟨Ls,g1,g2,g3,g4⟩:=M;refine⟨Ls,g1,g2,λi hi k O=> ?_,F.2.2.trans g4 (λi hi U=> ?_)⟩
 .rcases g3 i hi k O with h|h
  .simp_all
  .exact Zy (Zq F.2.2.size h)
 .grind
def YJ.Zcj(h:YJ B w G V Ls Os){i:Nat}(hi:i<G.n){X:Qj}(C:∀k∈X,k∈Os i):QL w (X++G.p::Ls i) (Az++AX):=((((h.at_ i hi).typed.mono C (λ_ he=>he):QL w X AX)).mono (λ_ h=>h) (λe he=>Zf8 _ he)).append ((h.pd i hi).typed.mono (λ_ h=>h) (λe he=>Zen _ he))
def YJ.Zck(h:YJ B w G V Ls Os){i:Nat}(hi:i<G.n){X:Qj}{P':Pw}{D':Dk}{L':Qj}(U:Fr (X++G.p::Ls i) w w')(O:∀k∈X,k∈Os i)(J:PD B w' G.p (G.ds i) 800 P' D' L')(M:∀k∈L',k∈Ls i∨w.heap.size<=k):Ye B G (Wx G Ls Os) P' (upd V.Ds i D') w w':=by
 have ae:QL w X AX:=(h.at_ i hi).typed.mono O (λ_ he=>he);have Z:∀j,j<G.n->j≠i->∀k∈Ls j,k∉X++G.p::Ls i:=λj F af k C hm=>by
  rcases Zj.1 hm with hm|hm
  .exact ae.Zb5 ((h.pd j F).Zb3) Qz k hm C
  .rcases Zk.1 hm with rfl|hm
   .exact(h.pd j F).Zb3.Zap (h.pd i hi).pw Qz C
   .exact h.dap j i F hi af k C hm
 refine⟨upd Ls i L',λj F=> ?_,Gy h.dap (λa ha=>(h.pd a ha).Zb3.lt) hi M,λj F k C=> ?_,U.mono (λk C _=> ?_)⟩
 .by_cases e:j=i
  .subst e;simp[QX];exact J
  .simp[QP _ _ e];exact(h.pd j F).Zay U (Z j F e) J.pw J.pok
 .by_cases e:j=i
  .subst e;rw[QX] at C;exact(M k C).imp (λh1=>WL.2 (Zy (Zv ⟨j,F,h1⟩))) id
  .rw[QP _ _ e] at C;exact Zv (WL.2 (Zy (Zv ⟨j,F,C⟩)))
 .rcases Zj.1 C with C|C
  .exact Zh _ (WL.2 (Zy (Zy ⟨i,hi,O k C⟩)))
  .rcases Zk.1 C with rfl|C
   .simp
   .exact Zh _ (WL.2 (Zy (Zv ⟨i,hi,C⟩)))
structure Dc(B:Nat)(G:Eg)(V:Ev)(bl:Qj)(i:Nat)(S:Sto)(Zan:List Ac)(w w':Qs):Prop where
 ok:(QH (S.go Zan) V.P (V.Ds i)).1=0->QG B G bl {V with P:=(QH (S.go Zan) V.P (V.Ds i)).2.1,Ds:=upd V.Ds i (QH (S.go Zan) V.P (V.Ds i)).2.2,Ms:=upd V.Ms i (some (S.nx Zan))} w w'
 bad:Ye B G bl (QH (S.go Zan) V.P (V.Ds i)).2.1 (upd V.Ds i (QH (S.go Zan) V.P (V.Ds i)).2.2) w w'
 set:Row w' G.s 78 [(V.k:Int),(V.m:Int),.slice (some ⟨G.ms,0,none⟩) G.n G.cap,(V.gen:Int),false]
 ms:∃sp,Row w' G.ms 92 (Wv G.n G.xs++sp)
 x1:∀o,Row w (G.xs i) 91 o->Row w' (G.xs i) 91 o
def Dc.from{S:Sto}{Zan:List Ac}(h:Dc B G V bl i S Zan w w')(hb:Below w0 w0 w):Dc B G V bl i S Zan w0 w':=⟨λC=>(h.ok C).from hb,h.bad.from hb,h.set,h.ms,λo F=>h.x1 o (F.after hb)⟩
def Rs{ga oa na ca:Nat}{S:Sto}{Zan:List Ac}{d:Dir}(h:EAt B w G V bl)(hi:i<G.n)(hM:V.Ms i=some S)(O:QU K E (V.Ds i) S)(hK:KOk K)(hE:E<=2000000000)(ha:Ym K S Zan d f)(au:A8 w ga oa Zan)(bf:na=Zan.length)(ay:na<=ca)(ht:Ty w)(hg:0<B){s:Nat}{o:Qk}(hr:Row w (G.xs i) 91 (.pointer (some ⟨G.ds i,0,none⟩):: .pointer s::o)):Calls prog 38 #[s,.slice (some ⟨ga,oa,none⟩) na ca] w (Ans w (QH (S.go Zan) V.P (V.Ds i)).1 (Dc B G V bl i S Zan w)):=by
 have aw:=h.bw;obtain⟨Ls,Os,rfl,C⟩:=h;have ag:=C.at_ i hi;rw[hM] at ag;have⟨M,j,hO,J,U,ae⟩:=ag;obtain rfl:M=s:=by have:=J.c1;have:=hr.c1;simp_all
 have⟨Zau,af⟩:=O.img;have aq:B<=M:=C.bO i hi M QB;have ak:B<=j:=C.bO i hi j QB;have Z:∀k∈[M,j],k∈Os i:=QB;have hl:=XK (S.go Zan) V.P (V.Ds i);have hc:=Kk B G.p (G.ds i) V.P (V.Ds i) (Ls i) M j ga oa na ca S Zau (V.Ds i).reads Zan d f w (C.pd i hi) aw U aq ak au bf ay af ha.ZaQ ha.room ha.ZaA ha.ne ha.few (by rw[O.wait];simp) ht hg (by have:=O.ep;omega) (by have:=O.few hK;omega);rw[<-ha.go,<-ha.nx] at hc;go_fit hc;rintro e w' ⟨ev,rfl,az,⟨L',F⟩,hok⟩;have ai:=C.Zcj hi Z;have⟨sp,ah⟩:=C.mem;have aj:∀o,Row w (G.xs i) 91 o->Row w' (G.xs i) 91 o:=λo J=>by
  refine J.fr F.fr ?_;intro hm;rcases Zj.1 hm with hm|hm
  .simp at hm;rcases hm with e|e
   .have⟨b,uv,r1,_⟩:=U;exact Row.ne J r1 Qx e
   .have⟨b,uv,_,r2,_⟩:=U;exact Row.ne J r2 Qx e
  .exact(C.pd i hi).typed.Zap J Qz hm
 refine⟨ev,rfl,az,λh0=> ?_,C.Zck hi F.fr Z F.pd F.ZaT,C.set.fr F.fr (ai.Zap C.set Qz),⟨sp,ah.fr F.fr (ai.Zap ah Qz)⟩,aj⟩;refine C.step hi (O':=Os i) F.fr Z F.pd ?_ F.ZaT (λk hk=>Zv hk);refine⟨M,j,hO,?_,hok h0,by rw[hl.2];exact ae⟩;rw[hl.1];exact aj _ J
def IF{α:Type}(f:Nat->α)(i:Nat):upd f i (f i)=f:=by
 funext j;unfold upd;split
 .simp_all
 .rfl
def YJ.ZaK(h:YJ B w G V Ls Os){i:Nat}(hi:i<G.n):w.cell? ⟨G.ms,i,none⟩=some (.pointer (some ⟨G.xs i,0,none⟩)):=by have⟨sp,hm⟩:=h.mem;exact hm.cell (by rw[Za (by rw[BG];exact hi)];exact BF _ _ _ hi)
def EAt.Zaz(h:EAt B w G V bl):Row w G.s 78 [(V.k:Int),(V.m:Int),.slice (some ⟨G.ms,0,none⟩) G.n G.cap,(V.gen:Int),false]:=by obtain⟨Ls,Os,rfl,h⟩:=h;exact h.set
def EAt.ZaK(h:EAt B w G V bl){i:Nat}(hi:i<G.n):w.cell? ⟨G.ms,i,none⟩=some (.pointer (some ⟨G.xs i,0,none⟩)):=by obtain⟨Ls,Os,rfl,h⟩:=h;exact h.ZaK hi
def EAt.nle(h:EAt B w G V bl):1<=G.n/\G.n<=16:=by obtain⟨Ls,Os,rfl,h⟩:=h;exact⟨h.n1,h.n16⟩
def C1(B:Nat)(w:Qs)(G:Eg)(V:Ev)(bl:Qj)(i:Nat)(h:EAt B w G V bl)(hi:i<G.n)(S:Sto)(hM:V.Ms i=some S):Calls prog 34 #[G.s,(i:Int)] w λe w'=>e=.returned true/\Below w w w':=by
 have c2:=h.Zaz.c2;have:=h.ZaK hi;obtain⟨Ls,Os,rfl,h⟩:=h;have F:=h.at_ i hi;rw[hM] at F;have⟨s,j,hO,C,ae,Z⟩:=F;have⟨gh,v,hL,J⟩:=(h.pd i hi).dk;have:=C.c0;have:=C.c2;have:=C.c3;have O:∀k,Calls prog 22 #[.pointer (some ⟨G.ds i,0,none⟩)] (w.drewN k) λe w'=>e=.returned false/\w'=w.drewN k:=λk=>by rw[<-Z];exact(BY G.p (G.ds i) gh v (V.Ds i) (w.drewN k) (J.fr (Z1 (L:=[]) (YE (Zu _ _) k)) Qx Qx Qx)).mono λe w' h=>⟨h.1,h.2.symm⟩
 have U:∀k,Calls prog 72 #[.pointer (some ⟨G.ds i,0,none⟩)] (w.drewN k) λe w'=>e=.returned (.int .i64 (V.Ds i).Zaq)/\w'=w.drewN k:=λk=>(Ll G.p (G.ds i) gh v (V.Ds i) (w.drewN k) (J.fr (Z1 (L:=[]) (YE (Zu _ _) k)) Qx Qx Qx)).mono λe w' h=>⟨h.1,h.2.symm⟩;have M:=ZM O U;go_enter func34,ntmps34;go_wp2;go_quiet (first|(go_at_call 22;exact Calls.quiet_of_same (M.1 _))|(go_at_call 72;exact Calls.quiet_of_same (M.2 _)));go_wp2;go_ret;exact⟨rfl,YE (Zu _ _) _⟩
def EAt.gone(h:EAt B w G V bl){i:Nat}(hi:i<G.n)(hM:V.Ms i=none){w':Qs}(O:Fr [G.xs i] w w'){sv:Qt}{lf:Int}{inn:Bool}(hr:Row w' (G.xs i) 91 [.pointer (some ⟨G.ds i,0,none⟩),sv,lf,inn])(U:inn=true->lf<(V.Ds i).Zaq):QG B G bl V w w':=by
 obtain⟨Ls,Os,rfl,h⟩:=h;have F:=h.at_ i hi;rw[hM] at F;have⟨ag,af,ae,M,Z,_⟩:=F;have J:=h.pd i hi;have hx:G.xs i∉G.p::Ls i:=J.typed.Zap Z Qz;have e:V={V with P:=V.P,Ds:=upd V.Ds i (V.Ds i),Ms:=upd V.Ms i none}:=by rw[IF,<-hM,IF]
 rw[e];exact h.step hi (X:=[G.xs i]) (L':=Ls i) (O':=[G.xs i]) (O.mono (λk C _=>Zen _ C)) (λk C=>by rw[M];exact C) (J.fr O (λk C hm=>by rw[Z6] at C;subst C;exact hx hm)) ⟨sv,lf,inn,rfl,hr,U⟩ (λk C=>Zv C) (λk C=>Zv (by rw[M];exact C))
def CF(B:Nat)(w:Qs)(G:Eg)(V:Ev)(bl:Qj)(i:Nat)(h:EAt B w G V bl)(hi:i<G.n)(hM:V.Ms i=none):Calls prog 34 #[G.s,(i:Int)] w λe w'=>e=.returned false/\QG B G bl V w w':=by
 have c2:=h.Zaz.c2;have:=h.ZaK hi;have H:=ZI h;obtain⟨Ls,Os,rfl,h⟩:=h;have af:=h.at_ i hi;rw[hM] at af;have⟨sv,lf,inn,hO,C,F⟩:=af;have⟨gh,v,hL,Z⟩:=(h.pd i hi).dk;have:=C.c0;have:=C.c2;have:=C.c3;have:=C.c1;have:=C.free (j:=1) Qx;have:=C.free (j:=3) Qx;have:(i:Int)<(G.n:Int):=Qw;have⟨O,U⟩:=ZK (V.Ds i).dead;have⟨dl,M⟩:=ZK (V.Ds i).Zaq;have ah:∀k,Calls prog 22 #[.pointer (some ⟨G.ds i,0,none⟩)] (w.drewN k) λe w'=>e=.returned O/\w'=w.drewN k:=λk=>by rw[<-U];exact(BY G.p (G.ds i) gh v (V.Ds i) (w.drewN k) (Z.fr (Z1 (L:=[]) (YE (Zu _ _) k)) Qx Qx Qx)).mono λe w' h=>⟨h.1,h.2.symm⟩
 have ai:∀k,Calls prog 72 #[.pointer (some ⟨G.ds i,0,none⟩)] (w.drewN k) λe w'=>e=.returned (dl:Int)/\w'=w.drewN k:=λk=>by rw[<-M];exact(Ll G.p (G.ds i) gh v (V.Ds i) (w.drewN k) (Z.fr (Z1 (L:=[]) (YE (Zu _ _) k)) Qx Qx Qx)).mono λe w' h=>⟨h.1,h.2.symm⟩
 have J:=ZM ah ai;have HR:=ZM hM C;rw[M] at F;have:=ZM U M;have fin:∀k,QG B G (Wx G Ls Os) V w (w.drewN k):=λk=>QG.same H.o (YE (Zu _ _) k);have ae:∀k,inn=true->QG B G (Wx G Ls Os) V w (((w.drewN k).setCell ⟨G.xs i,3,none⟩ (.bool false)).setCell ⟨G.xs i,1,none⟩ (.pointer none)):=λk _=>by have hf:Fr [G.xs i] w (((w.drewN k).setCell ⟨G.xs i,3,none⟩ (.bool false)).setCell ⟨G.xs i,1,none⟩ (.pointer none)):=((Z1 (L:=[G.xs i]) (YE (Zu _ _) k)).setCell (Zv Qx) _).setCell (Zv Qx) _;exact EAt.gone H.o hi HR.1 hf (((HR.2.drewN k).set 3 (.bool false)).set 1 (.pointer none)) (λh=>by cases h)
 have HF:=ZM fin ae;cases inn with
 |false=>clear F;go_enter func34,ntmps34;go_wp2;go_quiet (first|(go_at_call 22;exact Calls.quiet_of_same (J.1 _))|(go_at_call 72;exact Calls.quiet_of_same (J.2 _)));go_wp2;go_ret;exact⟨rfl,HF.1 _⟩
 |true=>
  have F:=F rfl;cases O with
  |true=>clear F;go_enter func34,ntmps34;go_wp2;go_quiet (first|(go_at_call 22;exact Calls.quiet_of_same (J.1 _))|(go_at_call 72;exact Calls.quiet_of_same (J.2 _)));go_wp2;go_ret;exact⟨rfl,HF.2 _ trivial⟩
  |false=>have ag:dl≠lf:=Qw;have:(dl !=lf)=true:=(by simpa using ag);go_enter func34,ntmps34;go_wp2;go_quiet (first|(go_at_call 22;exact Calls.quiet_of_same (J.1 _))|(go_at_call 72;exact Calls.quiet_of_same (J.2 _)));go_wp2;go_ret;exact⟨rfl,HF.2 _ trivial⟩
def Z2t(B:Nat)(w:Qs)(G:Eg)(V:Ev)(bl:Qj)(i:Nat)(h:EAt B w G V bl)(hi:i<G.n):Calls prog 34 #[G.s,(i:Int)] w λe w'=>e=.returned (.bool (V.Ms i).isSome)/\QG B G bl V w w':=by
 cases hM:V.Ms i with
 |none=>exact CF B w G V bl i h hi hM
 |some S=>exact(C1 B w G V bl i h hi S hM).mono λe w' hx=>⟨hx.1,QG.same h hx.2⟩
def Fm(c a:Int)(hc:c≠0)(w:Qs):Calls prog 31 #[c,a] w λe w'=>∃b,e=.returned (.iface 139 (b:Nat))/\QK w' w c (.iface 139 (b:Nat))/\Row w' b 141 [c,a,.nilIface]/\Below w w w':=by go_enter func31,ntmps31;go_wp2;go_ret;exact⟨w.heap.size,rfl,KM hc (Zt _) (Z2 w _ [.int .i64 c,.int .i64 a,.nilIface]),Z2 w _ [.int .i64 c,.int .i64 a,.nilIface],(Zu _ _).alloc (Zt _) _⟩
def BZ(s:Qq)(w:Qs):Calls prog 66 #[.string s] w λe w'=>e=.returned (.bool (decide (1<=s.size)&&decide (s.size<=200)))/\w=w':=by
 by_cases h:1<=s.size
 .have d1:decide ((s.size:Int)≥1)=true:=by simp;omega
  go_enter func66,ntmps66;go_wp2;go_ret;refine⟨?_,rfl⟩;rw[Zem h];by_cases C:s.size<=200
  .rw[Zem C,Zem Qw];rfl
  .rw[ZC C,ZC Qw];rfl
 .have d1:decide ((s.size:Int)≥1)=false:=by simp;omega
  go_enter func66,ntmps66;go_wp2;go_ret;simp_all
def Z1y(K V:Qq)(g:Bool)(C:1<=K.size)(F:K.size<=200)(J:V.size<=8000)(h:g=true->V=⟨#[]⟩)(w:Qs):Calls prog 33 #[.agg #[.string K,.string V,g]] w λe w'=>e=.returned false/\Below w w w':=by
 have d1:(decide (1<=K.size)&&decide (K.size<=200))=true:=QB;have:decide ((V.size:Int)>8000)=false:=QA;cases g with
 |false=>go_enter func33,ntmps33;go_wp2_with (go_at_call 66;refine(BZ K _).mono ?_;rw[d1];rintro e w' ⟨rfl,rfl⟩);go_ret;exact⟨by first|rfl|simp|simp;omega,(Zu _ _).alloc (Zt _) _⟩
 |true=>obtain rfl:=h rfl;go_enter func33,ntmps33;go_wp2_with (go_at_call 66;refine(BZ K _).mono ?_;rw[d1];rintro e w' ⟨rfl,rfl⟩);go_ret;exact⟨by first|rfl|simp,(Zu _ _).alloc (Zt _) _⟩
def Ky(B:Nat)(w:Qs)(G:Eg)(V:Ev)(bl:Qj)(i:Nat)(h:EAt B w G V bl)(hi:i<G.n):Calls prog 44 #[G.s,(i:Int)] w λe w'=>e=.returned (.bool (V.Ms i).isSome)/\QG B G bl V w w':=by have c2:=h.Zaz.c2;have hh:=Z2t B w G V bl i h hi;have H:=ZI hh;go_enter func44,ntmps44;go_wp2_with (go_at_call 34;go_fit H.o;rintro e w' ⟨rfl,C⟩);go_ret;simp_all
theorem Oz(B:Nat)(w:Qs)(G:Eg)(V:Ev)(bl:Qj)(h:EAt B w G V bl)(ht:Ty w):Calls prog 35 #[G.s] w (Ans w (if V.P.gone then 10 else 0) λw'=>Below w w w'):=by
 have c2:=h.Zaz.c2;have:=h.ZaK h.nle.1;have:=h.nle.1;obtain⟨x0,J⟩:w.cell? ⟨G.xs 0,0,none⟩=some (.pointer (some ⟨G.ds 0,0,none⟩))/\∃L,PD B w G.p (G.ds 0) 800 V.P (V.Ds 0) L:=by
  obtain⟨Ls,Os,rfl,h⟩:=h;refine⟨?_,_,h.pd 0 h.n1⟩;have F:=h.at_ 0 h.n1;cases hM:V.Ms 0 with
  |none=>rw[hM] at F;have⟨sv,lf,inn,_,C,_⟩:=F;exact C.c0
  |some S=>rw[hM] at F;have⟨s,j,_,C,_⟩:=F;exact C.c0
 have⟨L,J⟩:=J;have C:=PD.read J 0;have U:(rdy V.P (V.Ds 0) 0==10)=V.P.gone:=by unfold rdy;grind
 have⟨rc,O⟩:=ZK (rdy V.P (V.Ds 0) 0);have⟨tx,ae⟩:=ZK (AH V.P (V.Ds 0) 0);rw[O,ae] at C;rw[O] at U;have H:=ZM C ht;cases hg:V.P.gone with
 |true=>have hb:rc=10:=QB;subst hb;go_enter func35,ntmps35;go_wp2_with (first|(go_at_call 73;go_fit H.1;rintro e w1 ⟨ev,rfl,he,hb⟩;have S1:=ZM he hb)|(go_at_call 19;go_fit (JQ w 10 10 _ _ S1.1 Qw);rintro e w2 ⟨rfl,rfl⟩)|(go_at_call 49;go_fit (Gn w 10 _ _ S1.1 (H.2.below S1.2));rintro e w3 ⟨v',rfl,hv,M⟩;have Z:=ZM hv M));go_ret;exact⟨_,rfl,Z.1.base (by have:=S1.2.size;omega),S1.2.trans (Z.2.mono S1.2.size)⟩
 |false=>go_enter func35,ntmps35;go_wp2_with (first|(go_at_call 73;go_fit H.1;rintro e w1 ⟨ev,rfl,he,hb⟩;have S1:=ZM he hb)|(go_at_call 19;refine(JQ w rc 10 _ _ S1.1 Qw).mono ?_;rw[U];rintro e w2 ⟨rfl,rfl⟩));go_ret;exact⟨_,rfl,QK.nil _ _,S1.2⟩
def GR(B:Nat)(w:Qs)(G:Eg)(V:Ev)(bl:Qj)(h:EAt B w G V bl)(Z:V.P.gone=false):Calls prog 35 #[G.s] w (Ans w 0 λw'=>Below w w w'):=by
 have c2:=h.Zaz.c2;have:=h.ZaK h.nle.1;have:=h.nle.1;obtain⟨x0,J⟩:w.cell? ⟨G.xs 0,0,none⟩=some (.pointer (some ⟨G.ds 0,0,none⟩))/\∃L,PD B w G.p (G.ds 0) 800 V.P (V.Ds 0) L:=by
  obtain⟨Ls,Os,rfl,h⟩:=h;refine⟨?_,_,h.pd 0 h.n1⟩;have F:=h.at_ 0 h.n1;cases hM:V.Ms 0 with
  |none=>rw[hM] at F;have⟨sv,lf,inn,_,C,_⟩:=F;exact C.c0
  |some S=>rw[hM] at F;have⟨s,j,_,C,_⟩:=F;exact C.c0
 have⟨L,J⟩:=J;have:(0:Int)<(G.n:Int):=Qw;have C:=PD.read J 0;have O:(rdy V.P (V.Ds 0) 0==10)=V.P.gone:=by
  unfold rdy;cases V.P.gone<;>cases (V.Ds 0).dead<;>simp
  split<;>simp
 have⟨rc,M⟩:=ZK (rdy V.P (V.Ds 0) 0);have⟨tx,U⟩:=ZK (AH V.P (V.Ds 0) 0);rw[M,U] at C;rw[M] at O;have H:=ZM C True.intro;rw[Z] at O;go_enter func35,ntmps35;go_wp2_with (first|(go_at_call 73;go_fit H.1;rintro e w1 ⟨ev,rfl,he,hb⟩;have S1:=ZM he hb)|(go_at_call 19;refine(JQ w rc 10 _ _ S1.1 Qz).mono ?_;rw[O];rintro e w2 ⟨rfl,rfl⟩));go_ret;exact⟨_,rfl,QK.nil _ _,S1.2⟩
variable{L:List Nat}{S:Sto}{p s:Nat}
def EAt.mem(h:EAt B w G V bl){i:Nat}(hi:i<G.n){S:Sto}(hM:V.Ms i=some S):∃s,Row w (G.xs i) 91 [.pointer (some ⟨G.ds i,0,none⟩),(s:Nat),.int .i64 (V.Ds i).Zaq,true]/\Wo w s (G.ds i) S/\(V.Ds i).dead=false/\∃L,PD B w G.p (G.ds i) 800 V.P (V.Ds i) L:=by obtain⟨Ls,Os,rfl,h⟩:=h;have C:=h.at_ i hi;rw[hM] at C;have⟨s,j,_,J,hs,F⟩:=C;exact⟨s,J,hs.at_,F,_,h.pd i hi⟩
def FV(C:P.gone=false)(h:D.dead=false):WV P D=0:=by unfold WV;rw[C,h];rfl
section
variable{d:Nat}
theorem Z6U(h:PD B w p d 800 P D L)(J:Wo w s d S)(O:QU K E D S)(Z:P.gone=false)(U:D.dead=false){name v:Bs}(hn:name.length<=1000000)(C:stR D.reads S.dir name=some (some v)):Calls prog 157 #[s,name] w λr w'=>r=.returned (.tuple #[v,.nilIface])/\Below w w w':=by
 unfold stR at C;rw[ZeI] at C;have⟨e,he,hv⟩:=C;unfold JP at hv;split at hv
 .rename_i hc;simp at hv;refine(Tx B p d 800 P D L s S name e 100 w h J hn he (O.runs he).1 (FV Z U)).mono ?_;have hc':WD (D.value e)=e.sum:=hc;have M:D.value e=v:=hv;rw[Zx hc',Zx hc',M];rintro r w' ⟨ev,rfl,F,hb⟩;rw[F.zero];simp_all
 .grind
theorem Z6R(h:PD B w p d 800 P D L)(J:Wo w s d S)(U:QU K E D S)(hg:P.gone=false)(Z:D.dead=false){name:Bs}(M:name.length<=1000000)(C:stR D.reads S.dir name=none∨stR D.reads S.dir name=some none):Calls prog 157 #[s,name] w λr w'=>∃b,r=.returned (.tuple #[.string ⟨#[]⟩,.iface 139 (b:Nat)])/\QK w' w (if S.dir.get name=none then 13 else 14) (.iface 139 (b:Nat))/\Below w w w':=by
 cases F:S.dir.get name with
 |none=>rw[Zx rfl];exact Z6S s d S name w J M F
 |some e=>
  have hc:¬WD (D.value e)=e.sum:=by
   rcases C with C|C
   .rw[stR,F] at C;cases C
   .rw[stR,F] at C;simp at C;unfold JP at C;split at C
    .grind
    .rename_i hc;exact hc
  go_fit (Tx B p d 800 P D L s S name e 100 w h J M F (U.runs F).1 (FV hg Z));rintro r w' ⟨ev,rfl,O,hb⟩;rcases O.split with ⟨h0,_⟩|⟨_,b,rfl⟩
  .omega
  .simp_all
def FL(h:PD B w p d 800 P D L)(C:Wo w s d S)(J:QU K E D S)(U:P.gone=false)(O:D.dead=false){under name:Bs}{l:List Bs}(hu:under.length<=1000000)(Z:name.length<=220)(F:(Y8 l).length<=9000)(M:stR D.reads S.dir under=some (some (WW name (Y8 l)))):Calls prog 110 #[s,under,name] w λe w'=>∃a cap,e=.returned (.tuple #[.slice a l.length cap,.nilIface])/\w'.ownsRow w 9 1 (.slice a l.length cap) l.length (QS (l.map str))/\Below w w w':=Z4F s under name l w (Z6U h C J U O hu M) Z F
def LO(h:PD B w p d 800 P D L)(C:Wo w s d S)(F:QU K E D S)(O:P.gone=false)(M:D.dead=false){under name:Bs}(hu:under.length<=1000000)(J:stR D.reads S.dir under=none∨stR D.reads S.dir under=some none):Calls prog 110 #[s,under,name] w λe w'=>∃b,e=.returned (.tuple #[(),.iface 139 (b:Nat)])/\QK w' w (if S.dir.get under=none then 13 else 14) (.iface 139 (b:Nat))/\Below w w w':=Z4E s under name _ Qw w (Z6R h C F O M hu J)
end
def Z2a(b s k m i g:Nat)(name:Bs)(w:Qs)(hk:k<=4294967295)(hm:m<=4294967295)(hi:i<=4294967295)(hg:g<=4294967295)(c0:w.cell? b=(k:Int))(c1:w.cell? ⟨b,1,none⟩=(m:Int))(ho:Calls prog 110 #[s,name,nmC] w λe w'=>∃a cap,e=.returned (.tuple #[.slice a 5 cap,.nilIface])/\w'.ownsRow w 9 1 (.slice a 5 cap) 5 (QS ([G5,QI k,QI m,QI i,QI g].map str))/\Below w w w'):Calls prog 63 #[b,s,name,(i:Int)] w λe w'=>e=.returned (g:Int)/\Below w w w':=by
 have U:Wz (s32 g).data.toList=g:=by have h9:=I8 g [];rw[ZdJ] at h9;have e9:(s32 g).data.toList=QI g:=rfl;rw[e9,h9];omega
 have af:(s32 g).size=4:=Jh g;have HO:=ZI ho;have HG:=ZM U af;have Z:(str nmC)=⟨#[33]⟩:=rfl;rw[Z] at HO;go_enter func63,ntmps63;go_wp2_with (go_at_call 110;go_fit HO.o;rintro e w1 ⟨a,cap,rfl,ae,M⟩;have⟨gl,ag,sp,hv,ak,ai,aj,hr⟩:=Xf ae Qw;injection hv with hv1 hv2 hv3;subst hv1;have S1:=ZM hr M);have d0:w1.cell? gl=some (.string ⟨#[115,101,116]⟩):=S1.1.c0;have d1:w1.cell? ⟨gl,1,none⟩=some (.string (s32 k)):=S1.1.c1;have d2:w1.cell? ⟨gl,2,none⟩=some (.string (s32 m)):=S1.1.c2;have d3:w1.cell? ⟨gl,3,none⟩=some (.string (s32 i)):=S1.1.c3;have d4:w1.cell? ⟨gl,4,none⟩=some (.string (s32 g)):=S1.1.c4;have e0:w1.cell? b=(k:Int):=(S1.2.cell (Z9 w _ c0)).trans c0;have e1:w1.cell? ⟨b,1,none⟩=(m:Int):=(S1.2.cell (Z9 w _ c1)).trans c1;have J:∀A C:Qs,(A.cell? gl=some (.string ⟨#[115,101,116]⟩)/\A.cell? ⟨gl,1,none⟩=some (.string (s32 k))/\A.cell? ⟨gl,2,none⟩=some (.string (s32 m))/\A.cell? ⟨gl,3,none⟩=some (.string (s32 i))/\A.cell? ⟨gl,4,none⟩=some (.string (s32 g))/\A.cell? b=(k:Int)/\A.cell? ⟨b,1,none⟩=(m:Int)/\Below w1 w1 A)->Below A A C->(C.cell? gl=some (.string ⟨#[115,101,116]⟩)/\C.cell? ⟨gl,1,none⟩=some (.string (s32 k))/\C.cell? ⟨gl,2,none⟩=some (.string (s32 m))/\C.cell? ⟨gl,3,none⟩=some (.string (s32 i))/\C.cell? ⟨gl,4,none⟩=some (.string (s32 g))/\C.cell? b=(k:Int)/\C.cell? ⟨b,1,none⟩=(m:Int)/\Below w1 w1 C):=by rintro A C ⟨h0,h1,h2,h3,h4,h5,h6,F⟩ hb;have key:∀{p:Addr} {v:Qt},A.cell? p=some v->C.cell? p=some v:=λh=>(hb.cell (Z9 A _ h)).trans h;exact⟨key h0,key h1,key h2,key h3,key h4,key h5,key h6,F.trans (hb.mono F.size)⟩
 have hs0:=J w1 w1.drew ⟨d0,d1,d2,d3,d4,e0,e1,Zu _ _⟩ ((Zu _ _).drew);have HK:=ZI J;go_wp2;go_region_held3 (λx=>x.cell? gl=some (.string ⟨#[115,101,116]⟩)/\x.cell? ⟨gl,1,none⟩=some (.string (s32 k))/\x.cell? ⟨gl,2,none⟩=some (.string (s32 m))/\x.cell? ⟨gl,3,none⟩=some (.string (s32 i))/\x.cell? ⟨gl,4,none⟩=some (.string (s32 g))/\x.cell? b=(k:Int)/\x.cell? ⟨b,1,none⟩=(m:Int)/\Below w1 w1 x) (first|exact hs0|(exact HK.o _ _ (by assumption) ((Zu _ _).alloc (Zt _) _))|(exact HK.o _ _ (by assumption) (by assumption)))
  (first|(go_at_call 80;go_fit (Ea _ (by assumption) _);rintro e w8 ⟨rfl,ah⟩))
 rename_i hHeld;obtain⟨-, -, -, -,h4, -, -,F⟩:=hHeld;have hB:=ZI (S1.2.trans (F.mono S1.2.size));go_wp2_with (go_at_call 111;refine(KI (s32 g) HG.2 _).mono ?_;rw[HG.1];rintro e w9 ⟨rfl,O⟩;have S9:=ZI (hB.o.trans (O.mono hB.o.size)));go_ret;exact⟨rfl,S9.o⟩
def Z29(b s i:Nat)(name:Bs)(c:Int)(w:Qs)(J:Calls prog 110 #[s,name,nmC] w λe w'=>∃b,e=.returned (.tuple #[(),.iface 139 (b:Nat)])/\QK w' w c (.iface 139 (b:Nat))/\Below w w w'):Calls prog 63 #[(b:Nat),s,name,(i:Int)] w λe w'=>e=.returned (-1:Int)/\Below w w w':=by have F:=ZI J;go_enter func63,ntmps63;go_wp2_with (go_at_call 110;go_fit F.o;rintro e w1 ⟨q,rfl,C,h⟩;have S1:=ZI h);go_quiet (fail);go_wp2;go_ret;exact⟨rfl,S1.o.trans (YE (Zu _ _) _|>.mono S1.o.size)⟩
variable{av gv lv:Value}{l:List Bs}{wr:World}
def Z2r(n:Bs):Lib.hasPrefix n [115]=isS n:=by
 unfold Lib.hasPrefix isS;cases n with
 |nil=>rfl
 |cons a r=>simp[List.isPrefixOf];exact BEq.comm
def LD(d:Dir):(d.names.filter λn=>Lib.hasPrefix n [115])=d.names.filter isS:=ZfS λn _=>Z2r n
def Z4c(n:Bs)(h:1<=n.length):(⟨#[100]⟩:Qq)++(str n).extract 1 (str n).size=str (100::n.drop 1):=by apply JJ;rw[data_append,Lib.extract_to_end,Yp,Yp];rfl
def Z3k(key:Bs):(⟨#[100]⟩:Qq)++str key=str (nmD key):=by rfl
def Br(key:Bs)(h:key.length<=1000000):∀W,(Op.stringOp .add ⟨#[100]⟩ (str key)).run prog W=.ok (.string (str (nmD key))) W:=λW=>by rw[<-Z3k];exact ZdO _ ⟨#[100]⟩ (str key) (by have:(⟨#[100]⟩:Qq).size=1:=rfl;rw[QW];omega)
structure SeS(s d:Nat)(S:Sto)(w:Qs)(lv gv:Qt)(l gone:List Bs)(av:Qt)(Zan:List Ac)(wr:Qs):Prop where
 st:Wo wr s d S
 own:JK wr w av Zan
 ls:Strs wr w lv l
 gs:∃a cap,gv=.slice a gone.length cap/\Y9 w a (gone.map str)/\∀g o,a=some ⟨g,o,none⟩->g<w.heap.size
 bel:Below w w wr
section
variable{d:Nat}{gone:List Bs}{Zan:List Ac}
def SeS.after(h:SeS s d S w lv gv l gone av Zan wr){w':Qs}(hb:Below wr wr w'):SeS s d S w lv gv l gone av Zan w':=⟨h.st.after hb,Jr h.own hb,h.ls.after hb,h.gs,h.bel.trans (hb.mono h.bel.size)⟩
theorem SeS.next(h:SeS s d S w lv gv l gone av Zan wr){w':Qs}{O:Qt}{M:List Ac}(ho:JK w' w O M)(C:Fr (QV av) wr w'):SeS s d S w lv gv l gone O M w':=by
 have hb:Below w w w':=h.bel.trans (C.below h.bel.size (Ai h.own));have U:=YS h.own;have F:∀{g:Nat} {e:Qu} {x:Qk},Row wr g e x->e≠151->g∉QV av:=λhr he hm=>by have⟨x',J⟩:=U _ hm;exact Row.ne hr J he rfl
 have⟨j,b,uv,Z,r2,r3,g,hv,r4⟩:=h.st;refine⟨⟨j,b,uv,Z.fr C (F Z Qx),Row.fr r2 C (F r2 Qx),r3.fr C ?_ (λk hk x hx=>F hx Qx hk),g,hv,r4.fr C (F r4 Qx)⟩,ho,h.ls.fr C (λg hg hm=> ?_),h.gs,hb⟩
 .have⟨fv,m1,_⟩:=r3;have⟨es,cl,ae⟩:=m1.block;intro hm;have⟨x',f,J,_⟩:=U _ hm;simp_all
 .have⟨x',J⟩:=YS h.ls g (YV.2 hg);grind
def SeS.Zct(h:SeS s d S w lv gv l gone av Zan wr){k:Nat}(J:k<gone.length):∃g o cap,gv=.slice (some ⟨g,o,none⟩) gone.length cap/\wr.cell? ⟨g,o+k,none⟩=some (.string (str gone[k])):=by obtain⟨a,cap,rfl,C,F⟩:=h.gs;obtain⟨g,o,rfl,hc⟩:=C k QB;refine⟨g,o,cap,rfl,?_⟩;rw[h.bel.cell (p:=⟨g,o+k,none⟩) (F g o rfl),hc];simp
def SeS.Zcu(h:SeS s d S w lv gv l gone av Zan wr){k:Nat}(C:k<l.length):∃g cap,lv=.slice (g:Nat) l.length cap/\wr.cell? ⟨g,k,none⟩=some (.string (str l[k])):=by have⟨g,cap,sp,hv,_,_,_,F⟩:=Xf h.ls Qw;refine⟨g,cap,hv,F.cell ?_⟩;rw[Za (by simp[QS];omega)];simp[QS,C]
end
def Tr(s d:Nat)(S:Sto)(gv:Qt)(gone:List Bs)(w:Qs)(cu:Wo w s d S)(dm:S.dir.Zax)(bg:S.dir.length<=100000)(dj:∀n∈S.dir.names,n.length<=1000)(bh:∃a cap,gv=.slice a gone.length cap/\Y9 w a (gone.map str)/\∀g o,a=some ⟨g,o,none⟩->g<w.heap.size)(eh:gone.length<=1000)(cz:∀x∈gone,x.length<=1000)(bf:∀n e,S.dir.get n=some e->e.runs≠[]/\e.runs.length<=1000000){R:Qt->Qs->Prop}(hC:∀ga na ca w1,Below w w w1->Wo w1 s d S->A8 w1 ga 0 (Yv S.dir gone)->w.heap.size<=ga->na=(Yv S.dir gone).length->na<=ca->Calls prog 38 #[s,.slice (ga:Nat) na ca] w1 λe w'=>∃ev,e=.returned ev/\R ev w'):Calls prog 41 #[s,gv] w λe w'=>∃ev,e=.returned ev/\R ev w':=by
 have dy:(S.dir.names.filter isS).length<=100000:=by have h1:=ZdM isS S.dir.names;have h2:S.dir.names.length=S.dir.length:=Zf ..;omega
 have ct:∀n∈S.dir.names.filter isS,1<=n.length/\n.length<=1000:=λn hn=>by have⟨h1,h2⟩:=ZdV.1 hn;refine⟨?_,dj n h1⟩;obtain⟨x,rfl⟩:=(CG n).1 h2;simp[nmS]
 have ae:=Io s d S [115] w cu dm bg;rw[LD] at ae;have hA:Yv S.dir gone=(S.dir.names.filter isS).map mv1++((gone.filter λkey=>(S.dir.get (nmD key)).isSome).map λkey=>dr1 (nmD key))++[⟨3,nmN,nmC,[]⟩,dr1 nmT]:=rfl;have⟨l,hl⟩:=ZK (S.dir.names.filter isS);rw[hl] at dy ct ae hA;obtain⟨ga,ag,rfl,de⟩:=bh;have H:=ZZ cu ae de hC hA;have HS:=ZX ct cz bf;go_enter func41,ntmps41;go_wp2_with (go_at_call 96;go_fit H.2;rintro e w1 ⟨v,rfl,cr,cy⟩;obtain⟨la,lc,rfl⟩:=Cd cr;have S1:=ZM cr cy);have I0:SeS s d S w (.slice la l.length lc) (.slice ga gone.length ag) l gone (.slice none 0 0) [] w1:=⟨H.1.after S1.2,ZA _ _ _ _,S1.1,⟨ga,ag,rfl,H.3⟩,S1.2⟩;have du:=ZI I0;go_loopw [7,24] (λav kv wr=>∃k:Nat,k<=l.length/\kv=(k:Int)/\SeS s d S w (.slice la l.length lc) (.slice ga gone.length ag) l gone av ((l.take k).map mv1) wr) (λ_ kv _=>l.length- (intOf kv).toNat)
 .exact⟨0,Qw,rfl,du.o⟩
 obtain⟨k,hk,rfl,O⟩:=hrel;have J:=ZI O;by_cases aq:k<l.length
 .have⟨g,cap,hv,af⟩:=O.Zcu aq;injection hv with hv1 hv2 aw;subst hv1 aw;have hx:=HS.1 _ (Zl aq);have⟨x,au⟩:=ZK l[k];have dp:(l.take (k+1)).map mv1=(l.take k).map mv1++[mv1 x]:=by rw[Zc aq,au];simp
  have dq:((l.take k).map mv1).length<=1000000:=by rw[Zf,Zg];omega
  rw[au] at af hx;have ef:∀W,(Instr.slice 9 (.string (str x)) (some (.int .i64 1)) none none).run prog W=.ok (.string ((str x).extract 1 (str x).size)) W:=λW=>Ch 9 underlying9 (str x) 1 (by rw[QW];omega) W;have dx:((str x).extract 1 (str x).size).size<=1000:=by rw[ZdU,QW];omega
  have ah:∀W,(Op.stringOp .add ⟨#[100]⟩ ((str x).extract 1 (str x).size)).run prog W=.ok (.string (str (100::x.drop 1))) W:=λW=>by rw[<-Z4c x hx.1];exact ZdO _ ⟨#[100]⟩ _ (by have h1:(⟨#[100]⟩:Qq).size=1:=rfl;omega)
  have⟨X,hX⟩:=ZK ((str x).extract 1 (str x).size);rw[hX] at ef ah dx;have⟨TO,bq⟩:=ZK (str (100::x.drop 1));rw[bq] at ah;have dt:((l.take k).map mv1).length=k:=by rw[Zf,Zg];omega
  have M:=ZO dp dq bq dt;have Z:Row (wr.alloc (.cells #[(3:Int),.string (str x),.string TO,.string ⟨#[]⟩] 151)) wr 151 (AcC (mv1 x)):=by rw[<-bq];exact Z2 wr _ _
  have S2:=J.o.after ((Zu wr wr).alloc (Zt _) (.cells #[(3:Int),.string (str x),.string TO,.string ⟨#[]⟩] 151));have C:=ZM Z S2;go_wp2_with (at_builtin;refine Gm _ rfl (.tmp 28) (.tmp 34) rfl w.heap.size _ ((l.take k).map mv1) rfl C.2.own wr.heap.size (mv1 x) rfl C.1 C.2.bel.size M.2.1 ?_;intro g2 ak w2 ho hf _ _ _;have S3:=ZI (C.2.next ho hf));go_roundw
  .exact⟨k+1,Qw,QC,by rw[M.1];have h9:=S3.o;rw[M.2.2.2] at h9;exact h9⟩
  simp[intOf];omega
 .obtain rfl:k=l.length:=by omega
  rw[Zs] at J;go_wp2;go_loopw [7,39] (λav kv wr=>∃k:Nat,k<=gone.length/\kv=(k:Int)/\SeS s d S w (.slice la l.length lc) (.slice ga gone.length ag) l gone av (l.map mv1++(((gone.take k).filter λkey=>(S.dir.get (nmD key)).isSome).map λkey=>dr1 (nmD key))) wr) (λ_ kv _=>gone.length- (intOf kv).toNat)
  .exact⟨0,Qw,rfl,by simpa using J.o⟩
  obtain⟨k,hk,rfl,O⟩:=hrel;have J:=ZI O;by_cases aq:k<gone.length
  .have⟨g,o,cap,hv,af⟩:=O.Zct aq;injection hv with hv1 hv2 aw;subst hv1 aw;have hx:=HS.2 _ (Zl aq);have⟨x,au⟩:=ZK gone[k];have⟨F,U⟩:=ZK (l.map mv1++(((gone.take k).filter λkey=>(S.dir.get (nmD key)).isSome).map λkey=>dr1 (nmD key)));have cw:l.map mv1++(((gone.take (k+1)).filter λkey=>(S.dir.get (nmD key)).isSome).map λkey=>dr1 (nmD key))=F++(if(S.dir.get (nmD x)).isSome then[dr1 (nmD x)] else[]):=by rw[<-U,Zc aq,au,Zeo,Zo,Zd];cases h:(S.dir.get (nmD x)).isSome<;>simp[h]
   have ay:F.length<=1000000:=by rw[<-U,Zb,Zf,Zf];have:=ZdM (λkey=>(S.dir.get (nmD key)).isSome) (gone.take k);rw[Zg] at this;omega
   rw[U] at J;rw[au] at af hx;have ah:=Br x Qw;have dh:(nmD x).length<=1000000:=by simp[nmD];omega
   have M:=ZN cw ay dh;cases bj:S.dir.get (nmD x) with
   |none=>
    go_wp2_with (go_at_call 97;go_fit (Gf s d S (nmD x) _ J.o.st M.2.2 bj);rintro e w3 ⟨b,rfl,cj,az⟩;have R3:=ZI (J.o.after az));go_roundw
    .exact⟨k+1,Qw,QC,by rw[M.1,bj];simpa using R3.o⟩
    simp[intOf];omega
   |some e=>
    have⟨dz,ee⟩:=HS.3 _ _ bj;have HG:=ZI bj;go_wp2_with (first|(go_at_call 97;go_fit (ED s d S (nmD x) e _ J.o.st M.2.2 HG.o dz ee);rintro e w3 ⟨v,rfl,cj,az⟩;have R3:=ZI (J.o.after az);have Z:Row (w3.alloc (.cells #[(2:Int),.string (str (nmD x)),.string ⟨#[]⟩,.string ⟨#[]⟩] 151)) w3 151 (AcC (dr1 (nmD x))):=Z2 w3 _ _;have S2:=R3.o.after ((Zu w3 w3).alloc (Zt _) (.cells #[(2:Int),.string (str (nmD x)),.string ⟨#[]⟩,.string ⟨#[]⟩] 151));have C:=ZM Z S2)|(at_builtin;refine Gm _ rfl (.tmp 52) (.tmp 56) rfl w.heap.size _ F rfl C.2.own w3.heap.size (dr1 (nmD x)) rfl C.1 C.2.bel.size M.2.1 ?_;intro g2 ak w4 ho hf _ _ _;have S3:=ZI (C.2.next ho hf)));go_roundw
    .exact⟨k+1,Qw,QC,by rw[M.1,HG.o];exact S3.o⟩
    simp[intOf];omega
  .obtain rfl:k=gone.length:=(by omega);rw[Zs] at J;have⟨F,U⟩:=ZK (l.map mv1++((gone.filter λkey=>(S.dir.get (nmD key)).isSome).map λkey=>dr1 (nmD key)));have ay:F.length<=1000000:=by rw[<-U,Zb,Zf,Zf];have:=ZdM (λkey=>(S.dir.get (nmD key)).isSome) gone;omega
   have bu:=H.5;rw[U] at J bu;have Z:Row (wr.alloc (.cells #[(3:Int),.string ⟨#[110]⟩,.string ⟨#[33]⟩,.string ⟨#[]⟩,(2:Int),.string ⟨#[116]⟩,.string ⟨#[]⟩,.string ⟨#[]⟩] 151)) wr 151 (AcC ⟨3,nmN,nmC,[]⟩++AcC (dr1 nmT)):=Z2 wr _ _;have S2:=J.o.after ((Zu wr wr).alloc (Zt _) (.cells #[(3:Int),.string ⟨#[110]⟩,.string ⟨#[33]⟩,.string ⟨#[]⟩,(2:Int),.string ⟨#[116]⟩,.string ⟨#[]⟩,.string ⟨#[]⟩] 151));have C:=ZO Z S2 ay bu;go_wp2_with (at_builtin;refine Z8C _ rfl (.tmp 59) (.tmp 62) rfl w.heap.size _ F rfl C.2.1.own wr.heap.size ⟨3,nmN,nmC,[]⟩ (dr1 nmT) rfl C.1 C.2.1.bel.size C.2.2.1 ?_;intro g2 ak w4 ho hf _ _ df;have S3:=C.2.1.next ho hf;have S4:=ZM S3 df);have⟨g3,dw,aw,cn,bz,aj⟩:=S4.1.own.row Qx;have hlen:(F++[(⟨3,nmN,nmC,[]⟩:Ac),dr1 nmT]).length=F.length+2:=Qx;rw[hlen] at aw bz;injection aw with hv31 hv32 hv33;have bm:=ZF (λ(a:Qm)=>a.map Addr.block) hv31;simp[ZeO,ZdC] at bm;subst bm hv33;have ai:=H.4 g2 (F.length+2) ak w4 S4.1.bel S4.1.st (by rw[C.2.2.2];exact aj) S4.2 (by rw[C.2.2.2,hlen]) bz;have HC:=ZI ai;go_fit HC.o;rintro e w5 ⟨ev,rfl,hR⟩;have HR:=ZI hR;go_wp2;go_ret;exact⟨ev,rfl,HR.o⟩
def Ma(b ms q s k m i:Nat)(cap:Nat)(n:Nat)(key v:Bs)(w:Qs)(ag:1<=k)(ct:k+m<=16)(hi:i<n)(hn:n=k+m)(hv:v.length<=200)(cr:key.length<=200)(c0:w.cell? b=(k:Int))(c2:w.cell? ⟨b,2,none⟩=some (.slice ms n cap))(cm:w.cell? ⟨ms,i,none⟩=q)(c1:w.cell? ⟨q,1,none⟩=s)(ho:Calls prog 110 #[s,.string (str (nmD key)),.string (str (nmD key))] w λe w'=>∃a cap,e=.returned (.tuple #[.slice a 3 cap,.nilIface])/\w'.ownsRow w 9 1 (.slice a 3 cap) 3 (QS ([QI i,QI v.length,shT k m v i].map str))/\Below w w w'):Calls prog 100 #[b,(i:Int),key] w λe w'=>e=.returned (.tuple #[.string (str (shT k m v i)),(v.length:Int),.nilIface])/\Below w w w':=by
 have:=Br key Qw;have:(i:Int)<(n:Int):=Qw;have:i<=4294967295:=Qw;have af:Wz (s32 v.length).data.toList=v.length:=by have h9:=I8 v.length [];rw[ZdJ] at h9;have e9:(s32 v.length).data.toList=QI v.length:=rfl;rw[e9,h9];omega
 have ai:(s32 v.length).size=4:=Jh _;have ay:str (shT k m v i)=(Y5 k m (str v)).getD i ⟨#[]⟩:=rfl;have bh:(str (shT k m v i)).size=Yg k v.length:=by rw[ay,CT k m (str v) ag i Qw,QW]
 have ak:=Gg k v.length ag;have⟨X,hX⟩:=ZK (str (shT k m v i));have⟨z,Z⟩:=ZK (Yg k v.length);have⟨F,J⟩:=ZK v.length;rw[J] at Z;rw[hX,J,Z] at bh;rw[J,Z] at ak;have aw:QS ([QI i,QI v.length,shT k m v i].map str)=[.string (s32 i),.string (s32 F),.string X]:=by rw[<-hX,<-J];rfl
 rw[aw] at ho;rw[J] at af ai hv⊢;rw[hX];have aj:=DO k F;rw[Z] at aj;have HO:=ZI ho;have HG:=ZX af ai aj;have:decide ((F:Int)>8000)=false:=by simp;omega
 have:((z:Int) !=(X.size:Int))=false:=by simp;omega
 go_enter func100,ntmps100;go_wp2_with (go_at_call 110;go_fit HO.o;rintro e w1 ⟨a,bf,rfl,au,aq⟩;have⟨gl,az,sp,bj,bz,bq,bu,hr⟩:=Xf au Qw;injection bj with hv1 hv2 hv3;subst hv1;have S1:=ZM hr aq);have d0:w1.cell? gl=some (.string (s32 i)):=S1.1.c0;have d1:w1.cell? ⟨gl,1,none⟩=some (.string (s32 F)):=S1.1.c1;have d2:w1.cell? ⟨gl,2,none⟩=some (.string X):=S1.1.c2;have e0:w1.cell? b=(k:Int):=(S1.2.cell (Z9 w _ c0)).trans c0;have ah:∀A C:Qs,(A.cell? gl=some (.string (s32 i))/\A.cell? ⟨gl,1,none⟩=some (.string (s32 F))/\A.cell? ⟨gl,2,none⟩=some (.string X)/\A.cell? b=(k:Int)/\Below w1 w1 A)->Below A A C->(C.cell? gl=some (.string (s32 i))/\C.cell? ⟨gl,1,none⟩=some (.string (s32 F))/\C.cell? ⟨gl,2,none⟩=some (.string X)/\C.cell? b=(k:Int)/\Below w1 w1 C):=by rintro A C ⟨h0,h1,M,O,U⟩ hb;have key:∀{p:Addr} {v:Qt},A.cell? p=some v->C.cell? p=some v:=λh=>(hb.cell (Z9 A _ h)).trans h;exact⟨key h0,key h1,key M,key O,U.trans (hb.mono U.size)⟩
 have hs0:=ah w1 w1.drew ⟨d0,d1,d2,e0,Zu _ _⟩ ((Zu _ _).drew);have HK:=ZI ah;go_wp2;go_region_held3 (λx=>x.cell? gl=some (.string (s32 i))/\x.cell? ⟨gl,1,none⟩=some (.string (s32 F))/\x.cell? ⟨gl,2,none⟩=some (.string X)/\x.cell? b=(k:Int)/\Below w1 w1 x) (first|exact hs0|(exact HK.o _ _ Qw ((Zu _ _).alloc (Zt _) _))|(exact HK.o _ _ Qw Qw))
  (first|(go_at_call 80;go_fit (Ea _ Qw _);rintro e w8 ⟨rfl,bm⟩))
 rename_i hHeld;obtain⟨-,h1,M,O,U⟩:=hHeld;have hB:=ZI (S1.2.trans (U.mono S1.2.size));go_wp2_with (first|(go_at_call 111;refine(KI (s32 F) HG.2 _).mono ?_;rw[HG.1];rintro e w9 ⟨rfl,ae⟩;have:=(ae.cell (Z9 _ _ M)).trans M;have:=(ae.cell (Z9 _ _ O)).trans O;have S9:=ZI (hB.o.trans (ae.mono hB.o.size)))|(go_at_call 113;go_fit (HG.3 _ ag Qw Qw);rintro e cw ⟨rfl,rfl⟩));go_ret3;exact⟨rfl,S9.o⟩
def Sz(b ms q s i:Nat)(cap n:Nat)(key:Bs)(c:Int)(w:Qs)(hi:i<n)(U:key.length<=200)(c2:w.cell? ⟨b,2,none⟩=some (.slice ms n cap))(Z:w.cell? ⟨ms,i,none⟩=q)(c1:w.cell? ⟨q,1,none⟩=s)(J:Calls prog 110 #[s,.string (str (nmD key)),.string (str (nmD key))] w λe w'=>∃b,e=.returned (.tuple #[(),.iface 139 (b:Nat)])/\QK w' w c (.iface 139 (b:Nat))/\Below w w w'):Calls prog 100 #[(b:Nat),(i:Int),key] w λe w'=>∃b,e=.returned (.tuple #[.string ⟨#[]⟩,(0:Int),.iface 139 (b:Nat)])/\QK w' w c (.iface 139 (b:Nat))/\Below w w w':=by have:=Br key Qw;have F:=ZI J;go_enter func100,ntmps100;go_wp2_with (go_at_call 110;go_fit F.o;rintro e w1 ⟨M,rfl,C,h⟩;have S1:=ZM C h);go_ret3;exact⟨M,rfl,S1.1,S1.2⟩
def Jv(V:Ev)(key:Bs)(i:Nat):Bool:=match V.Ms i with
 |some S=>(S.dir.get (nmD key)).isSome
 |none=>false
def QG.refl(h:EAt B w G V bl):QG B G bl V w w:=QG.same h (Zu _ _)
def EW(V:Ev)(n:Nat):Prop:=∀i,i<n->∀S,V.Ms i=some S->∀m e,S.dir.get m=some e->e.runs≠[]/\e.runs.length<=1000
def IC(B:Nat)(w:Qs)(G:Eg)(V:Ev)(bl:Qj)(key:Bs)(h:EAt B w G V bl)(bh:key.length<=200)(ae:EW V G.n):Calls prog 67 #[G.s,key] w λe w'=>e=.returned (.bool ((List.range G.n).any (Jv V key)))/\QG B G bl V w w':=by
 have c2:=h.Zaz.c2;have:=h.nle;have O:=Br key Qw;have HC:=ZI O;have HR:=ZI ae;have H0:=ZI (QG.refl h);have au:(nmD key).length<=1000000:=by simp[nmD];omega
 go_enter func67,ntmps67;go_wp2;go_loopw [14] (λkv wr=>∃k:Nat,k<=G.n/\kv=(k:Int)/\(∀i,i<k->Jv V key i=false)/\QG B G bl V w wr) (λkv _=>G.n- (intOf kv).toNat)
 .exact⟨0,Qw,rfl,λi hi=>Qw,H0.o⟩
 obtain⟨k,hk,rfl,ah,hS⟩:=hrel;by_cases U:k<G.n
 .have⟨aq,M,hg,hf⟩:=hS;have:(k:Int)<(G.n:Int):=Qw;have Z:=M.ZaK U;have HE:=ZN M hg hf;have HN:=ZI ah;cases hM:V.Ms k with
  |none=>
   have ay:Jv V key k=false:=by unfold Jv;rw[hM]
   have hh:=CF B wr G V aq k M U hM;have F:=ZM hh ay;go_wp2_with (go_at_call 34;go_fit F.1;rintro e w2 ⟨rfl,ak⟩;have J:=ZI (QG.trans HE.o ak));go_roundw
   case measure=>simp[intOf];omega
   case rel=>exact⟨k+1,Qw,QC,λi hi=>by
    by_cases e:i=k
    .rw[e];exact F.2
    .exact HN.o i Qw,J.o⟩
  |some S=>
   have⟨s,ai,aw,hd,L,az⟩:=M.mem U hM;have hh:=C1 B wr G V aq k M U S hM;have F:=ZN hh ai aw;have HM:=ZI hM;cases ag:S.dir.get (nmD key) with
   |none=>
    go_wp2_with (first|(go_at_call 34;go_fit F.1;rintro e w2 ⟨rfl,C⟩;have x1:=(F.2.1.after C).c1;have q2:=C.cell (Z9 _ _ Z)|>.trans Z;have O:=HC.o;have J:=ZI C)|(go_at_call 97;go_fit (Gf s (G.ds k) S (nmD key) _ (F.2.2.after J.o) au ag);rintro e w3 ⟨b,rfl,aj,af⟩;have R3:=ZI (J.o.trans (af.mono J.o.size))));go_roundw
    case measure=>simp[intOf];omega
    case rel=>exact⟨k+1,Qw,QC,λi hi=>by
     by_cases e:i=k
     .rw[e];unfold Jv;rw[HM.o];simp only;rw[ag];rfl
     .exact HN.o i Qw,QG.trans HE.o (QG.same HE.1 R3.o)⟩
   |some e=>have⟨bf,ak⟩:=HR.o k U S HM.o _ _ ag;have bg:e.runs.length<=1000000:=Qw;go_wp2_with (first|(go_at_call 34;go_fit F.1;rintro e w2 ⟨rfl,C⟩;have x1:=(F.2.1.after C).c1;have q2:=C.cell (Z9 _ _ Z)|>.trans Z;have O:=HC.o;have J:=ZI C)|(go_at_call 97;go_fit (ED s (G.ds k) S (nmD key) e _ (F.2.2.after J.o) au ag bf bg);rintro e w3 ⟨v,rfl,aj,af⟩;have R3:=ZI (J.o.trans (af.mono J.o.size))));go_ret;refine⟨?_,QG.trans HE.o (QG.same HE.1 R3.o)⟩;have:(List.range G.n).any (Jv V key)=true:=Zf0.2 ⟨k,ZdS.2 U,by unfold Jv;rw[HM.o];simp only;rw[ag];rfl⟩;simp_all
 .obtain rfl:k=G.n:=by omega
  have HS:=ZM ah hS;go_wp2;go_ret;refine⟨?_,HS.2⟩;have:(List.range G.n).any (Jv V key)=false:=by rw[List.any_eq_false];intro i hi;rw[HS.1 i (ZdS.1 hi)];simp
  simp_all
variable{bl1:List Nat}{k0 n pg:Nat}{key:Bs}
structure Cs(K:List Bs)(E:Nat)(V:Ev)(n:Nat)(key v:Bs):Prop where
 b:∀i,i<n->∀S,V.Ms i=some S->QU K E (V.Ds i) S
 t:∀i,i<n->∀S,V.Ms i=some S->stR (V.Ds i).reads S.dir (nmD key)=none∨stR (V.Ds i).reads S.dir (nmD key)=some none∨stR (V.Ds i).reads S.dir (nmD key)=some (some (shL V.k V.m i key v))
def Xe(V:Ev)(key v:Bs)(i:Nat):Bool:=match V.Ms i with
 |some S=>decide (stR (V.Ds i).reads S.dir (nmD key)=some (some (shL V.k V.m i key v)))
 |none=>false
def pcL(V:Ev)(n:Nat)(key v:Bs)(k0:Nat):List (Bool×Qq):=(List.range n).map λj=>if decide (j<k0)&&Xe V key v j then(true,str (shT V.k V.m v j)) else(false,⟨#[]⟩)
def WY(V:Ev)(key v:Bs)(k0:Nat):Nat:=((List.range k0).filter (Xe V key v)).length
theorem KU(V:Ev)(key v:Bs)(k0:Nat):WY V key v (k0+1)=WY V key v k0+(if Xe V key v k0=true then 1 else 0):=by unfold WY;rw[ZdX,Zeo,Zb];grind
def FR(V:Ev)(n:Nat)(key v:Bs)(k0:Nat):(pcL V n key v k0).length=n:=by simp[pcL]
def FQ(V:Ev)(n:Nat)(key v:Bs)(k0 j:Nat)(h:j<n):YN (pcL V n key v k0) j=if decide (j<k0)&&Xe V key v j then(true,str (shT V.k V.m v j)) else(false,⟨#[]⟩):=by unfold YN pcL;simp_all
def Z4X(V:Ev)(n:Nat)(key v:Bs):pcL V n key v 0=List.replicate n (false,⟨#[]⟩):=by
 unfold pcL;apply Zeu
 .simp
 .simp
theorem Z4V(h:Xe V key v k0=false):pcL V n key v (k0+1)=pcL V n key v k0:=by unfold pcL;grind
theorem Z4W(h:Xe V key v k0=true)(J:k0<n):pcL V n key v (k0+1)=(pcL V n key v k0).set k0 (true,str (shT V.k V.m v k0)):=by
 apply Zeu
 .simp[FR]
 .intro i C F;rw[FR] at C;have e1:=FQ V n key v (k0+1) i C;have e2:=FQ V n key v k0 i C;unfold YN at e1 e2;grind
theorem Z8w(V:Ev)(n:Nat)(key v:Bs)(k0:Nat)(J:k0<=n):(whF (pcL V n key v k0) n).length=WY V key v k0:=by
 have C:∀k0,whF (pcL V n key v k0) n=(List.range n).filter λj=>decide (j<k0)&&Xe V key v j:=λk0=>by refine ZfS λj h=> ?_;rw[FQ V n key v k0 j (ZdS.1 h)];grind
 have F:∀ (a b:Nat),((List.range (a+b)).filter λj=>decide (j<a)&&Xe V key v j)=(List.range a).filter (Xe V key v):=λa b=>by
  rw[List.range_add,Zeo];have e1:((List.range a).filter λj=>decide (j<a)&&Xe V key v j)=(List.range a).filter (Xe V key v):=ZfS λj h=>by simp_all
  have e2:(((List.range b).map λx=>a+x).filter λj=>decide (j<a)&&Xe V key v j)=[]:=by rw[ZfT];grind
  simp_all
 rw[C];have:=F k0 (n-k0);rw[show k0+(n-k0)=n from Qw] at this;rw[this];rfl
structure ShS(B:Nat)(G:Eg)(V:Ev)(bl:Qj)(w:Qs)(pg:Nat)(key v:Bs)(k0:Nat)(wr:Qs):Prop where
 ran:QG B G bl V w wr
 row:Row wr pg 204 (WO (pcL V G.n key v k0))
 old:w<=pg
def ShS.next(h:ShS B G V bl w pg key v k0 wr)(he:EAt B wr G V bl1/\(∀k∈bl1,k∈bl∨w.heap.size<=k)/\Fr (G.p::bl) w wr)(C:QG B G bl1 V wr w')(F:Xe V key v k0=false):ShS B G V bl w pg key v (k0+1) w':=by refine⟨QG.trans he C,?_,h.old⟩;rw[Z4V F];exact C.row he.1 h.row Qz
def ShS.put(h:ShS B G V bl w pg key v k0 wr)(he:EAt B wr G V bl1/\(∀k∈bl1,k∈bl∨w.heap.size<=k)/\Fr (G.p::bl) w wr)(hb:Below wr wr w')(O:Xe V key v k0=true)(U:k0<G.n):ShS B G V bl w pg key v (k0+1) ((w'.setCell ⟨pg,k0*2,none⟩ (.bool true)).setCell ⟨pg,k0*2+1,none⟩ (.string (str (shT V.k V.m v k0)))):=by
 have C:=h.row.after hb;have F:Row (w'.setCell ⟨pg,k0*2,none⟩ (.bool true)) pg 204 _:=C.set (k0*2) (.bool true);have e1:=he.1.after hb;have e2:=e1.setCell (a:=⟨pg,k0*2,none⟩) C Qz Qx Qx Qx (.bool true);have J:=e2.setCell (a:=⟨pg,k0*2+1,none⟩) F Qz Qx Qx Qx (.string (str (shT V.k V.m v k0)));refine⟨⟨bl1,J,he.2.1,?_⟩,?_,h.old⟩
 .have M:Fr (G.p::bl) w w':=he.2.2.trans (Z1 (L:=[]) hb) Qx;exact(M.setCell (Zy h.old) _).setCell (Zy h.old) _
 .rw[Z4W O U];exact C.Zd7 k0 true (str (shT V.k V.m v k0))
theorem Z6W(C:1<=V.k)(U:V.k+V.m=n)(J:n<=255)(hv:v.length<=200)(O:k0<=n)(hg:WY V key v k0=V.k)(hr:Row w pg 204 (WO (pcL V n key v k0))):Calls prog 112 #[(V.k:Int),(V.m:Int),(v.length:Int),.slice pg n n] w λe w'=>∃a cap,e=.returned (.tuple #[.slice a (Y5 V.k V.m (str v)).length cap,.nilIface])/\Y9 w' a (Y5 V.k V.m (str v))/\(Y5 V.k V.m (str v)).length<=cap/\cap<=9223372036854775807/\Below w w w':=by
 subst U;have:∀j,str (shT V.k V.m v j)=(Y5 V.k V.m (str v)).getD j ⟨#[]⟩:=λj=>rfl;refine(Z5I V.k V.m v.length (some ⟨pg,0,none⟩) (V.k+V.m) (pcL V (V.k+V.m) key v k0) w C J Qw (FR _ _ _ _ _) hr.pcs (λj F h=> ?_)).mono ?_
 .rw[FQ V _ key v k0 j F] at h⊢;split
  .simp only;rw[QW];have:=Tz (m:=V.m) C hv j;omega
  .simp_all
 .rintro e w' ⟨code,T,a',ae,ev,Z,rfl,M,⟨h,h2,h3⟩,hb⟩
  have hx:=Z5H (k:=V.k) (m:=V.m) (t:=str v) C J (λj F h=>by
   rw[FQ V _ key v k0 j F] at h⊢;split at h
   .simp_all
   .cases h) (by rw[Z8w V _ key v k0 O,hg];exact Zt _) (by rw[QW];exact Z)
  obtain⟨rfl,rfl⟩:=hx;rcases M with ⟨rfl,_⟩|⟨h9,_⟩
  .grind
  .omega
def OC(B:Nat)(w:Qs)(G:Eg)(V:Ev)(bl:Qj)(K:List Bs)(E:Nat)(key v:Bs)(h:EAt B w G V bl)(dw:key.length<=200)(hv:v.length<=200)(cu:1<=V.k)(cw:V.k+V.m=G.n)(hg:V.P.gone=false)(ee:Cs K E V G.n key v)(ai:V.k<=WY V key v G.n):Calls prog 68 #[G.s,key] w λe w'=>∃a cap,e=.returned (.tuple #[.slice a (Y5 V.k V.m (str v)).length cap,(v.length:Int),.nilIface])/\Y9 w' a (Y5 V.k V.m (str v))/\(Y5 V.k V.m (str v)).length<=cap/\cap<=9223372036854775807/\QG B G bl V w w':=by
 have c0:=h.Zaz.c0;have c2:=h.Zaz.c2;have:=h.nle;have⟨j1,ef,eu,ew,ey⟩:=ZE Z55;have cy:=Z6n j1 ef eu ew ey G.n Qw;rw[<-Z4X V G.n key v] at cy;have I0:ShS B G V bl w w key v 0 (w.alloc (.cells (WO (pcL V G.n key v 0)).toArray 204)):=⟨QG.same h ((Zu _ _).alloc (Zt _) _),Z2 w _ _,Zt _⟩;have HI:=ZI I0;have H:=ZX ee ai cw;have fc:(nmD key).length<=220:=by simp[nmD];omega
 have bf:(nmD key).length<=1000000:=Qw;have⟨Z0,cn⟩:=ZK (WO (pcL V G.n key v 0));rw[cn] at cy;have HZ:=ZI cn;have⟨SH,cj⟩:=ZK (Y5 V.k V.m (str v));have bu:=ZI cj;rw[cj];go_enter func68,ntmps68;go_wp2;go_step3;go_wp2;rw[<-HZ.o];have⟨pg,de⟩:=ZK w.heap.size;have df:=HI;rw[de] at df;rw[de];have:(w.alloc (.cells (WO (pcL V G.n key v 0)).toArray 204)).cell? ⟨G.s,2,none⟩=some (.slice (some ⟨G.ms,0,none⟩) G.n G.cap):=by have hb:=(Zu w w).alloc (Zt _) (.cells (WO (pcL V G.n key v 0)).toArray 204);exact(hb.cell (Z9 w _ c2)).trans c2
 generalize w.alloc (.cells (WO (pcL V G.n key v 0)).toArray 204)=w1 at*
 go_step3;go_wp2;go_loopw [8,9,27] (λlv mv kv wr=>∃k:Nat,k<=G.n/\kv=(k:Int)/\mv=(WY V key v k:Int)/\WY V key v k<V.k/\(0<WY V key v k->lv=(v.length:Int))/\ShS B G V bl w pg key v k wr) (λ_ _ kv _=>G.n- (intOf kv).toNat)
 .have g0:WY V key v 0=0:=rfl;refine⟨0,Qw,rfl,by rw[g0];rfl,by rw[g0];omega,λh=> ?_,df.o⟩;rw[g0] at h;omega
 obtain⟨k,hk,rfl,rfl,ag,hlen,hS⟩:=hrel;have⟨bl1,O,bj,hf⟩:=hS.ran;have HS:=ZI hS;by_cases J:k<G.n
 .have:(k:Int)<(G.n:Int):=by omega
  have HE:=ZN O bj hf;have HL:=ZI hlen;have HN:=ZI ag;cases hM:V.Ms k with
  |none=>
   have aq:Xe V key v k=false:=by unfold Xe;rw[hM]
   have M:WY V key v (k+1)=WY V key v k:=by rw[KU,aq];rfl
   have hh:=CF B wr G V bl1 k O J hM;have C:=ZN hh aq M;go_wp2_with (go_at_call 34;go_fit C.1;rintro e w2 ⟨rfl,ek⟩;have F:=ZI ek);go_roundw
   .exact⟨k+1,Qw,QC,by rw[C.2.2],by rw[C.2.2];exact HN.o,by rw[C.2.2];exact HL.o,HS.o.next HE.o F.o C.2.1⟩
   simp[intOf];omega
  |some S=>
   have⟨s,ah,bq,hd,L,bm⟩:=O.mem J hM;have bg:=H.1.b k J S hM;have hh:=C1 B wr G V bl1 k O J S hM;have ak:=O.Zaz;have cm:=O.ZaK J;by_cases af:stR (V.Ds k).reads S.dir (nmD key)=some (some (shL V.k V.m k key v))
   .have aw:Xe V key v k=true:=by unfold Xe;rw[hM];simp only;exact Zem af
    have M:WY V key v (k+1)=WY V key v k+1:=by rw[KU,aw];rfl
    have ae:∀w2,Below wr wr w2->Calls prog 100 #[G.s,(k:Int),key] w2 λe w'=>e=.returned (.tuple #[.string (str (shT V.k V.m v k)),(v.length:Int),.nilIface])/\Below w2.heap.size w2 w':=λw2 hb=>Ma G.s G.ms (G.xs k) s V.k V.m k G.cap G.n key v w2 cu Qw J cw.symm hv dw ((ak.after hb).c0) ((ak.after hb).c2) ((hb.cell (Z9 wr _ cm)).trans cm) ((ah.after hb).c1) (FL (bm.after hb) (bq.after hb) bg hg hd bf fc (DN (m:=V.m) (i:=k) (key:=key) cu hv).2 af);have au:=λw2 (hb:Below wr wr w2)=>hS.put HE.o hb aw J;have eh:∀w2,Below wr wr w2->w2.cell? ⟨pg,k*2,none⟩≠none/\w2.frozen? ⟨pg,k*2,none⟩=false/\w2.cell? ⟨pg,k*2+1,none⟩≠none/\w2.frozen? ⟨pg,k*2+1,none⟩=false/\w2.cell? ⟨G.s,0,none⟩=(V.k:Int)/\w2.cell? ⟨G.s,1,none⟩=(V.m:Int):=λw2 hb=>by have hr:=hS.row.after hb;have dx:(WO (pcL V G.n key v k)).length=G.n*2:=(by rw[I6,FR]);have dy:=I5 (pcL V G.n key v k) k (by rw[FR];exact J);refine⟨by rw[hr.cell dy.1];simp,hr.free (by rw[dx];omega),by rw[hr.cell dy.2];simp,hr.free (by rw[dx];omega),(ak.after hb).c0,(ak.after hb).c1⟩
    have dz:pg≠G.s:=Row.ne hS.row ak Qz;have cz:G.s≠pg:=λe=>dz e.symm;have⟨X,hX⟩:=ZK (str (shT V.k V.m v k));rw[hX] at ae au;have⟨gn,az⟩:=ZK (WY V key v k);rw[az] at M hlen ag HL HN⊢;have C:=ZP hh M ae au eh;have:gn<=100:=Qw;by_cases fa:0<gn
    case' pos=>obtain rfl:=hlen fa
    all_goals
     by_cases ez:gn+1=V.k
     .have cr:(gn:Int)+1=(V.k:Int):=(by omega);go_wp2_with (first|(go_at_call 34;go_fit C.1;rintro e w2 ⟨rfl,U⟩;have F:=ZI U)|(go_at_call 100;go_fit (C.2.2.1 _ F.o);rintro e w3 ⟨rfl,Z⟩;have R3:=ZI (F.o.trans (Z.mono F.o.size));have⟨f1,f2,f3,f4,f5,f6⟩:=C.2.2.2.2 _ R3.o;have⟨y1,eo⟩:=ZdT.1 f1;have⟨y2,er⟩:=ZdT.1 f3)|(go_at_call 19;go_fit (JQ 0 0 10 _ _ (QK.nil _ _) Qz);rintro e w4 ⟨rfl,rfl⟩));have hT:=C.2.2.2.1 w3 R3.o;have⟨fe,bh,ay,du⟩:=hT.ran;have g0:=bh.Zaz.c0;have:=bh.Zaz.c1;have aj:=Z6W (w:=((w3.setCell ⟨pg,k*2,none⟩ (.bool true)).setCell ⟨pg,k*2+1,none⟩ (.string X)).drew) cu cw Qw hv (by omega:k+1<=G.n) (by rw[C.2.1];exact ez) hT.row.drew;have HR:=ZO aj bh ay du;generalize (w3.setCell ⟨pg,k*2,none⟩ (.bool true)).setCell ⟨pg,k*2+1,none⟩ (.string X)=w5 at*
      go_wp2;go_region_with (go_at_call 112;go_fit HR.1;rintro e w6 ⟨a6,bz,rfl,dh,dj,dm,dp⟩;have R6:=ZY dh dj dm dp)
      all_goals go_wp2
      all_goals rw[Exit.noGoto_ret]
      all_goals go_ret3
      all_goals exact⟨a6,bz,by rw[<-bu.o];rfl,by rw[<-bu.o];exact R6.1,by rw[<-bu.o];exact R6.2,R6.3,QG.trans HR.2 (QG.same HR.2.1 ((Zu w5 w5).drew.trans R6.4))⟩
     .have cr:¬ (gn:Int)+1=(V.k:Int):=(by omega);go_wp2_with (first|(go_at_call 34;go_fit C.1;rintro e w2 ⟨rfl,U⟩;have F:=ZI U)|(go_at_call 100;go_fit (C.2.2.1 _ F.o);rintro e w3 ⟨rfl,Z⟩;have R3:=ZI (F.o.trans (Z.mono F.o.size));have⟨f1,f2,f3,f4,f5,f6⟩:=C.2.2.2.2 _ R3.o;have⟨y1,eo⟩:=ZdT.1 f1;have⟨y2,er⟩:=ZdT.1 f3)|(go_at_call 19;go_fit (JQ 0 0 10 _ _ (QK.nil _ _) Qz);rintro e w4 ⟨rfl,rfl⟩));go_roundw
      .exact⟨k+1,Qw,QC,by rw[C.2.1];go_num,by rw[C.2.1];have h9:=HN.o;omega,λ_=>rfl,C.2.2.2.1 w3 R3.o⟩
      simp[intOf];omega
   .have aq:Xe V key v k=false:=by unfold Xe;rw[hM];simp only;exact ZC af
    have Zbo:stR (V.Ds k).reads S.dir (nmD key)=none∨stR (V.Ds k).reads S.dir (nmD key)=some none:=by
     rcases H.1.t k J S hM with h9|h9|h9
     .exact Zv h9
     .exact Zy h9
     .exact absurd h9 af
    have M:WY V key v (k+1)=WY V key v k:=by rw[KU,aq];rfl
    have ae:∀w2,Below wr wr w2->Calls prog 100 #[G.s,(k:Int),key] w2 λe w'=>∃b,e=.returned (.tuple #[.string ⟨#[]⟩,(0:Int),.iface 139 (b:Nat)])/\QK w' w2.heap.size (if S.dir.get (nmD key)=none then 13 else 14) (.iface 139 (b:Nat))/\Below w2.heap.size w2 w':=λw2 hb=>Sz G.s G.ms (G.xs k) s k G.cap G.n key _ w2 J dw ((ak.after hb).c2) ((hb.cell (Z9 wr _ cm)).trans cm) ((ah.after hb).c1) (LO (bm.after hb) (bq.after hb) bg hg hd bf Zbo);obtain⟨cc,dq,ct⟩:∃cc:Int,(if S.dir.get (nmD key)=none then(13:Int) else 14)=cc/\(cc==10)=false:=⟨_,rfl,by split<;>rfl⟩;rw[dq] at ae;have C:=ZO hh aq M ae;go_wp2_with (first|(go_at_call 34;go_fit C.1;rintro e w2 ⟨rfl,U⟩;have F:=ZI U)|(go_at_call 100;go_fit (C.2.2.2 _ F.o);rintro e w3 ⟨b,rfl,dt,Z⟩;have R3:=ZM dt (F.o.trans (Z.mono F.o.size)))|(go_at_call 19;refine(JQ _ cc 10 _ _ R3.1 Qz).mono ?_;rw[ct];rintro e w4 ⟨rfl,rfl⟩));go_roundw
    .exact⟨k+1,Qw,QC,by rw[C.2.2.1],by rw[C.2.2.1];exact HN.o,by rw[C.2.2.1];exact HL.o,HS.o.next HE.o (QG.same HE.1 R3.2) C.2.1⟩
    simp[intOf];omega
 .exfalso;obtain rfl:k=G.n:=Qw;have:=H.2;omega
def QG.ty{C:Ev}(h:QG B G bl C w w')(F:EAt B w G V bl)(M:Ty w)(J:0<B:=by assumption):Ty w':=by have hb:=h.below F;unfold Ty at M⊢;rw[hb.cell (p:=⟨0,0,none⟩) J];omega
def TW(F:1<=WY V key v n):(List.range n).any (Jv V key)=true:=by
 have⟨i,hi⟩:=Zfr F;have⟨C,h⟩:=ZdV.1 hi;refine Zf0.2 ⟨i,C,?_⟩;unfold Xe at h;unfold Jv;cases hM:V.Ms i with
 |none=>rw[hM] at h;cases h
 |some S=>
  rw[hM] at h;simp at h;simp only;cases J:S.dir.get (nmD key) with
  |none=>rw[stR,J] at h;cases h
  |some e=>rfl
def Cs.runs(h:Cs K E V n key v):EW V n:=λi hi S hM m e hm=>by have⟨_,C,F⟩:=(h.b i hi S hM).runs hm;simp_all
def Z18(B:Nat)(w:Qs)(G:Eg)(V:Ev)(bl:Qj)(K:List Bs)(E:Nat)(key v:Bs)(h:EAt B w G V bl)(ht:Ty w)(bu:0<B)(bz:1<=key.length)(au:key.length<=200)(hv:v.length<=200)(M:1<=V.k)(bj:V.k+V.m=G.n)(hg:V.P.gone=false)(aw:Cs K E V G.n key v)(ae:V.k<=WY V key v G.n):Calls prog 28 #[G.s,key] w λe w'=>e=.returned (.tuple #[v,.nilIface])/\QG B G bl V w w':=by
 have:=h.nle;have c4:=h.Zaz.c4;have:(List.range G.n).any (Jv V key)=true:=TW (v:=v) Qw;have hm:(decide (1<=(str key).size)&&decide ((str key).size<=200))=true:=by rw[QW];simp;omega
 have af:=IC B w G V bl key h au aw.runs;have⟨aj,aq⟩:=Z3c (k:=V.k) (m:=V.m) (t:=str v) M Qw;have bm:=Z6X V.k V.m (str v) M (by rw[QW];omega);rw[QW] at aj aq;have ak:=λ(sa:Qm) (sc:Nat) (W:Qs) (h1:Y9 W sa (Y5 V.k V.m (str v))) (h2:(Y5 V.k V.m (str v)).length<=sc) (h3:sc<=9223372036854775807)=>Z3b (V.k:Int) (v.length:Int) sa (Y5 V.k V.m (str v)).length sc (Y5 V.k V.m (str v)) W ⟨Qw,Qw⟩ Qw h1 rfl h2 h3 bm;rw[aj,aq] at ak;have H:=Q0 h af aw ae ht ak;go_enter func28,ntmps28;go_wp2_with (first|(go_at_call 66;refine(BZ _ _).mono ?_;rw[hm];rintro e w1 ⟨rfl,rfl⟩)|(go_at_call 67;go_fit H.2;rintro e w2 ⟨rfl,Z,e2,g2,f2⟩;have C:=ZX e2 g2 f2)|(go_at_call 35;go_fit (GR B _ G V Z C.1 hg);rintro e w3 ⟨bq,rfl,ah,J⟩;obtain rfl:=ah.zero;have R3:=ZN (C.1.after J) C.2 (C.3.trans (Z1 (L:=[]) J) Qx))|(go_at_call 68;go_fit (OC B _ G V Z K E key v R3.1 au hv M bj hg H.3 H.4);rintro e w4 ⟨a,cap,rfl,ay,az,bf,bg,O,g4,f4⟩;have c0:=O.Zaz.c0;have F:=ZY (QG.trans R3.o ⟨bg,O,g4,f4⟩) ay az bf)|(go_at_call 69;go_fit (H.6 a cap _ F.2 F.3 F.4);rintro e w5 ⟨bh,rfl,ai,ag⟩;obtain rfl:=(by rcases ai with ⟨U,_⟩|⟨U,_⟩;exact U;exact absurd rfl U:bh=.nilIface);have R5:=ZI (QG.after F.1 ag)));go_ret2;exact⟨rfl,R5.o⟩
def Z1i(B:Nat)(w:Qs)(G:Eg)(V:Ev)(bl:Qj)(K:List Bs)(E i:Nat)(S:Sto)(key v:Bs)(h:EAt B w G V bl)(ht:Ty w)(ct:0<B)(hi:i<G.n)(hM:V.Ms i=some S)(cu:1<=key.length)(az:key.length<=200)(hv:v.length<=200)(ay:1<=V.k)(cj:V.k+V.m=G.n)(hg:V.P.gone=false)(hb:QU K E (V.Ds i) S)(ae:EW V G.n)(O:stR (V.Ds i).reads S.dir (nmD key)=some (some (shL V.k V.m i key v))):Calls prog 45 #[G.s,(i:Int),key] w λe w'=>e=.returned .nilIface/\QG B G bl V w w':=by
 have:=h.nle;have c4:=h.Zaz.c4;have c2:=h.Zaz.c2
 have:(List.range G.n).any (Jv V key)=true:=Zf0.2 ⟨i,ZdS.2 hi,by
  unfold Jv;rw[hM];simp only;cases h9:S.dir.get (nmD key) with
  |none=>rw[stR,h9] at O;cases O
  |some e=>rfl⟩
 obtain⟨e,aw⟩:∃e,S.dir.get (nmD key)=some e:=by
  cases h9:S.dir.get (nmD key) with
  |none=>rw[stR,h9] at O;cases O
  |some e=>exact⟨e,rfl⟩
 have⟨cn,cw⟩:=ae i hi S hM _ _ aw;have bf:(nmD key).length<=1000000:=by simp[nmD];omega
 have hm:(decide (1<=(str key).size)&&decide ((str key).size<=200))=true:=by rw[QW];simp;omega
 have ah:=IC B w G V bl key h az ae;have af:=Br key Qw;have H:=Q3 h ah hM ht hb O aw af;go_enter func45,ntmps45;go_wp2_with (first|(go_at_call 66;refine(BZ _ _).mono ?_;rw[hm];rintro e w1 ⟨rfl,rfl⟩)|(go_at_call 67;go_fit H.2;rintro e w2 ⟨rfl,U,e2,g2,f2⟩;have J:=ZN e2 g2 f2;have bj:=e2.Zaz.c2;have bq:=e2.ZaK hi;have⟨s,ag,bh,hd,L,bg⟩:=e2.mem hi H.3;have x0:=ag.c0;have F:=ZY ag bh hd bg)|(go_at_call 22;obtain⟨bz,v9, -,aq⟩:=F.4.dk;refine(BY _ _ bz v9 _ _ aq).mono ?_;rw[F.3];rintro e w4 ⟨rfl,rfl⟩)|(go_at_call 34;go_fit (C1 B _ G V U i J.1 hi S H.3);rintro e w5 ⟨rfl,ai⟩;have R5:=ZI ai)|(go_at_call 35;have t2:=QG.ty (w:=w) ⟨U,J.o⟩ H.1 H.4;go_fit (GR B _ G V U (J.1.after R5.o) hg);rintro e w6 ⟨cr,rfl,au,aj⟩;obtain rfl:=au.zero;have C:=R5.o.trans (aj.mono R5.o.size);have bm:=(J.1.after C).Zaz.c2;have bu:=(J.1.after C).ZaK hi;have x1:=(F.1.after C).c1;have af:=H.8;have R6:=ZI C)|(go_at_call 97;go_fit (ED s (G.ds i) S (nmD key) e _ (F.2.after R6.o) bf H.7 cn Qw);rintro e7 w7 ⟨v7,rfl, -,C⟩;have M:=ZI (R6.o.trans (C.mono R6.o.size)))|(go_at_call 100;have Z:=J.1.after M.o;refine(Ma G.s G.ms (G.xs i) s V.k V.m i G.cap G.n key v _ ay Qw hi cj.symm hv az Z.Zaz.c0 Z.Zaz.c2 (Z.ZaK hi) ((F.1.after M.o).c1) (FL (F.4.after M.o) (F.2.after M.o) H.5 hg F.3 bf (by simp[nmD];omega) (DN (m:=V.m) (i:=i) (key:=key) ay hv).2 H.6)).mono ?_;rintro e8 w8 ⟨rfl,ak⟩;have R8:=ZI (M.o.trans (ak.mono M.o.size))));go_ret;exact⟨rfl,QG.after ⟨U,J.o⟩ R8.o⟩
def KE(b ms q i n cap p d gh t:Nat)(v sv lf inn:Qt)(D:Dk)(w:Qs)(hi:i<n)(c2:w.cell? ⟨b,2,none⟩=some (.slice ms n cap))(F:w.cell? ⟨ms,i,none⟩=q)(h:Row w q 91 [d,sv,lf,inn])(C:Y7 w p d gh v D):Calls prog 65 #[b,(i:Int),t] w λe w'=>e=.returned (.tuple #[])/\Row w' q 91 [d,t,(D.Zaq:Int),true]/\Fr [q] w w':=by have:=h.c0;have:=h.c1;have:=h.c2;have:=h.c3;have:=h.free (j:=1) Qx;have:=h.free (j:=2) Qx;have:=h.free (j:=3) Qx;have H:=ZM h C;go_enter func65,ntmps65;go_wp2_with (go_at_call 72;go_fit (Ll p d gh v D _ H.2);rintro e w' ⟨rfl,rfl⟩);go_end0;exact⟨rfl,((H.1.set 1 (.pointer t)).set 2 (.int .i64 D.Zaq)).set 3 (.bool true),(((Fr.refl _ _).setCell (Zv Qx) _).setCell (Zv Qx) _).setCell (Zv Qx) _⟩
variable{R:Nat->ByteArray}
def YK(k m i g:Nat):Ac:=⟨1,nmC,[],YQ k m i g⟩
def Dm(R:Nat->ByteArray):Wf 800 100 (Y0 (Z3 100) R) Sto.first [] where
 nn:=rfl
 hh:=rfl
 ZaP:=rfl
 open_:=rfl
 img:=by
  have h:=Z9M R 100 Qw
  exact h
 dir:=rfl
 pre:=λk C=>by simpa using Fp
 used:=rfl
 small:=Qx
 few:=Qx
 Zau:=Qx
def UD{Zau:List Rec}(hi:Wf 800 100 R S Zau)(Z:Z9i (WM K) S.dir)(hK:KOk K){Zan:List Ac}(hw:∀a∈Zan,a.ZaA=false)(ha:∀a∈Zan,Ac.Sm (WM K) a)(hl:Zan.length<=12)(J:Zan≠[]){d0:Dir}{f:QF}(hd:Wi Zan 0 S.dir []=some (d0,f))(O:∃m,f.by m≠none∨(S.dir.get m≠none/\d0.get m=none))(M:d0≠[]):∃d,Ym K S Zan d f:=by
 have⟨d,C,F,h3,h4⟩:=Ob hi (λm hm=>(BB hK m hm).2) (FI hK) Z hw ha hl hd O M;have U:=XR R hi.ok hi.used hw C;refine⟨d,C,F,hw,J,hl,λo h=> ?_,h3⟩;rcases Zj.1 h with h|h
 .exact Oj U o h
 .have:=La F o h;rw[hi.ZaP] at this;cases o with
  |wr a s=>exact⟨Zp this.1 Qw,this.2⟩
  |fl=>trivial
theorem F6(hK:KOk K)(k m i g:Nat):∃d f,Ym K Sto.first [YK k m i g] d f:=by
 have hi:=Dm (λ_=>YY);have⟨d0,f,C⟩:=Kx (l:=[YK k m i g]) (by simp[YK]) 0 Sto.first.dir []
 have h:f.by nmC≠none/\d0.get nmC≠none:=Kw (a:=YK k m i g) (l:=[]) rfl (by simpa using C)
 have:Ac.ZaA (YK k m i g)=false/\Ac.Sm (WM K) (YK k m i g):=put_ok hK (Jd.2 Qx) (by rw[Fa];omega) (by rw[Fa];omega);have⟨d,ha⟩:=UD hi (K:=K) (S:=Sto.first) (λx hx=>by cases hx) hK (Zan:=[YK k m i g]) QB QB Qx Qx C ⟨nmC,Zv h.1⟩ (λe=>h.2 (by rw[e];rfl));grind
def JM(k m i g:Nat):Tab:=λn=>if n=nmC then some (some (YQ k m i g)) else none
def K8{d:Dir}(hK:KOk K)(ok:D.ok 800)(C:D.reads=Y0 (Z3 100) R)(ha:Ym K Sto.first [YK k m i g] d f):QU K 2 (Yn (Sto.first.ops [YK k m i g] d f) D) (Sto.first.done d f)/\stR (Yn (Sto.first.ops [YK k m i g] d f) D).reads (Sto.first.done d f).dir=JM k m i g:=by
 have hi:Wf 800 100 D.reads Sto.first []:=by rw[C];exact Dm R
 have h:=XR D.reads hi.ok hi.used ha.ZaA ha.ZaQ;have e1:(Yn (Sto.first.ops [YK k m i g] d f) D).reads=Y0 (Sto.first.ops [YK k m i g] d f) D.reads:=Bo ok.fit ha.in_;refine⟨⟨⟨Sto.first.Zc7 [] d f,?_⟩,ha.sm,?_,?_⟩,?_⟩
 .rw[e1];exact hi.Zb2 Qw Qw Qw h ha.room
 .have⟨l,hl⟩:=RQ Sto.first [YK k m i g] d f
  rw[hl];exact EY l D
 .exact RI Sto.first d f
 .rw[e1];rw[show(Sto.first.done d f).dir=d from rfl,TS hi h ha.room];rfl
def GC(k m i g:Nat)(H:Bs->Option Bs):Wn k m i g H (JM k m i g) where
 Zbl:=by simp[JM]
 next:=by unfold JM;rw[Zw Qz]
 under:=by unfold JM;rw[Zw Qz]
 Zba:=λx=>by unfold JM;rw[Zw (by unfold nmS nmC;simp)]
 none_:=λx _=>by unfold JM;rw[Zw (by unfold nmD nmC;simp)]
 some_:=λx v _=>Zv (by unfold JM;rw[Zw (by unfold nmD nmC;simp)])
 other:=λn h=>by
  unfold JM at h
  simp_all
def VN(k m i:Nat)(T:Tab):Xt k m i (λ_=>none) T:=λx v h=>by cases h
variable{D1:Dk}{L1:List Nat}{P1:Pw}{S1:Sto}{j:Nat}{ops:List DOp}{w1 w4 w5:World}
structure BlA(B:Nat)(w:Qs)(G:Eg)(i:Nat)(L:Qj)(P1:Pw)(D1:Dk)(s j:Nat)(L1:Qj)(w1:Qs):Prop where
 pd:PD B w1 G.p (G.ds i) 800 P1 D1 L1
 ZaT:∀k∈L1,k∈L∨w.heap.size<=k
 fr:Fr (G.p::L) w w1
 sge:w<=s
 jge:w<=j
 st:WI w1 s j (G.ds i) Sto.first
def BlA.after{w2:Qs}(h:BlA B w G i L P1 D1 s j L1 w1)(hb:Below w1 w1 w2):BlA B w G i L P1 D1 s j L1 w2:=⟨h.pd.after hb,h.ZaT,h.fr.trans (Z1 (L:=[]) hb) Qx,h.sge,h.jge,h.st.fr (Z1 (L:=[]) hb) (ts:=[]) (λk C=>by cases C) Qx Qx Qx Qx⟩
theorem NG{Os:Nat->List Nat}{sv ev:Qt}(F:Gu B G.p (G.ds i) (Ls i) V.P (V.Ds i) w sv ev w1)(J:(QH (Z3 100) V.P (V.Ds i)).1=0):ev=.nilIface/\∃s j L1,sv=.pointer (s:Nat)/\BlA B w G i (Ls i) (QH (Z3 100) V.P (V.Ds i)).2.1 (QH (Z3 100) V.P (V.Ds i)).2.2 s j L1 w1:=by have he:=F.err;rw[J] at he;obtain⟨s,rfl,M,h⟩:=F.sto J;have⟨hs,j,O,h⟩:=h.j;have⟨L1,C⟩:=F.ran;exact⟨he.zero,s,j,L1,rfl,C.pd,C.ZaT,by simpa using C.fr,M,O,h⟩
def F7(h:BlA B w G i (Ls i) P1 D1 s j L1 w1){F:Qj}{P2:Pw}{D2:Dk}(J:Did B G.p (G.ds i) 800 L1 [s,j] P2 D2 w1 w4 F):Fr (G.p::Ls i) w w4/\∀k∈F,k∈Ls i∨w.heap.size<=k:=by
 have:=h.fr.size;refine⟨h.fr.trans J.fr (λk C M=> ?_),λk C=> ?_⟩
 .simp[Zef,Ze3,Zk] at C;rcases C with rfl|rfl|rfl|C
  .have:=h.sge;omega
  .have:=h.jge;omega
  .simp
  .rcases h.ZaT k C with h9|h9
   .exact Zh _ h9
   .omega
 .rcases J.ZaT k C with h9|h9
  .exact h.ZaT k h9
  .exact Zy Qw
def VK(O:YJ B w G V Ls Os)(hi:i<G.n)(J:BlA B w G i (Ls i) P1 D1 s j L1 w1)(M:EQ B G.p (G.ds i) s j L1 ops S1 P1 D1 w1 w4):Ye B G (Wx G Ls Os) (QH ops P1 D1).2.1 (upd V.Ds i (QH ops P1 D1).2.2) w w4:=by have⟨U,h⟩:=M.ran;have⟨C,F⟩:=F7 J h;exact O.Zck hi (X:=[]) (by simpa using C) Qx h.pd F
theorem NK(hp:YJ B w G V Ls Os)(hi:i<G.n){sv:Qt}{lf:Int}{inn:Bool}(Z:Os i=[G.xs i])(J:BlA B w G i (Ls i) P1 D1 s j L1 w1)(U:EQ B G.p (G.ds i) s j L1 ops S1 P1 D1 w1 w4)(h0:(QH ops P1 D1).1=0)(ae:D1.dead=false)(hE:Row w5 (G.xs i) 91 [.pointer (some ⟨G.ds i,0,none⟩),s,.int .i64 (QH ops P1 D1).2.2.Zaq,true]){o:Qk}(hx:Row w4 (G.xs i) 91 o)(O:Fr [G.xs i] w4 w5):QG B G (Wx G Ls Os) {V with P:=(QH ops P1 D1).2.1,Ds:=upd V.Ds i (QH ops P1 D1).2.2,Ms:=upd V.Ms i (some S1)} w w5:=by
 have⟨L2,M⟩:=U.ran;have⟨h1,h2⟩:=F7 J M;have F:=U.ok h0;have hl:=XK ops P1 D1;have C:QL w4 [G.xs i] [91]:=QL.row hx Qx;have ag:s∉[G.xs i]:=by have⟨b,uv,r1,_⟩:=F;exact C.Zap r1 Qz
 have af:j∉[G.xs i]:=by have⟨b,uv,_,r2,_⟩:=F;exact C.Zap r2 Qz
 refine hp.step hi (X:=[G.xs i]) (L':=L2) (O':=[G.xs i,s,j]) ?_ (by rw[Z];simp) (M.pd.fr O (C.Zb5 M.pd.typed Qz)) ⟨s,j,rfl,hE,F.fr O C Qz Qz ag af,by rw[hl.2];exact ae⟩ h2 (λk h=> ?_)
 .refine(h1.mono (λk h _=>Zh _ h)).trans O (λk h _=> ?_);rw[Z6] at h;subst h;simp
 .rw[Z];simp[Zk,ZdG,ZgN] at h⊢;rcases h with rfl|rfl|rfl
  .exact Zv rfl
  .exact Zy J.sge
  .exact Zy J.jge
def Z1W:∃l,Z3 100=l++[.fl]:=by unfold Z3 Jn.lay;exact⟨_,by rw[<-Zd,<-Zd,<-Zd]⟩
def NI(ok:D.ok 800)(C:D.dead=false)(J:(QH (Z3 100) P D).1=0):Wf 800 100 (QH (Z3 100) P D).2.2.reads Sto.first []/\(QH (Z3 100) P D).2.2.wait=[]/\(QH (Z3 100) P D).2.2.dead=false:=by
 have h:∀o∈Z3 100,o.In 800:=λo M=>by
  have:=GW 100 Qz o M;cases o with
  |wr a s=>exact⟨Zp this.1 Qz,this.2⟩
  |fl=>trivial
 have F:=DL (Z3 100) (P:=P) h ok.fit C J;have hl:=XK (Z3 100) P D;refine⟨?_,?_,by rw[hl.2];exact C⟩
 .rw[F,Bo ok.fit h];exact Dm _
 .have⟨l,e⟩:=Z1W;rw[F,e];exact EY l D
def Gx(h:Row w g 151 (AcC a)):A8 w g 0 [a]:=by
 refine⟨⟨h.lt,λk F=> ?_⟩,_,h⟩;have C:k=0:=by simp at F;omega
 subst C;exact⟨h.c0,h.c1,h.c2,h.c3⟩
def BlA.keep(h:BlA B w G i (Ls i) P1 D1 s j L1 w1)(F:YJ B w G V Ls Os)(hi:i<G.n){g:Nat}{e:Qu}{l:Qk}(C:Row w g e l)(he:e∉Az):Row w1 g e l:=C.fr h.fr ((F.pd i hi).typed.Zap C he)
def BlA.ty(h:BlA B w G i (Ls i) P1 D1 s j L1 w1)(F:YJ B w G V Ls Os)(hi:i<G.n)(M:B<=w)(J:Ty w)(O:0<B):Ty w1:=by
 have hb:Below B w w1:=h.fr.below M (λk C=>by
  rcases Zk.1 C with rfl|C
  .exact(F.pd i hi).bp
  .exact(F.pd i hi).bL k C)
 unfold Ty at J⊢;rw[hb.cell (p:=⟨0,0,none⟩) O];exact J
def K7{w3:Qs}{Zan:List Ac}{d:Dir}{ga:Nat}(h:BlA B w G i L P1 D1 s j L1 w3)(Z:B<=w)(ty:Ty w3)(O:0<B)(F:Wf 800 100 D1.reads Sto.first [])(C:D1.wait=[])(ha:Ym K Sto.first Zan d f)(J:A8 w3 ga 0 Zan){na ca:Nat}(U:na=Zan.length)(M:na<=ca):Calls prog 38 #[s,.slice ga na ca] w3 (Ans w3 (QH (Sto.first.go Zan) P1 D1).1 (EQ B G.p (G.ds i) s j L1 (Sto.first.go Zan) (Sto.first.nx Zan) P1 D1 w3)):=by rw[ha.go,ha.nx];have:=h.sge;have:=h.jge;have:=h.fr.size;exact Kk B G.p (G.ds i) P1 D1 L1 s j ga 0 na ca Sto.first [] D1.reads Zan d f w3 h.pd Qw h.st Qw Qw J U M F ha.ZaQ ha.room ha.ZaA ha.ne ha.few (by rw[C];simp) ty O (by show(1:Nat)<=2000000000;omega) (by show(0:Nat)<=10000;omega)
def Yt(k m i g:Nat)(P:Pw)(D:Dk):Int×Pw×Dk:=if(QH (Z3 100) P D).1=0 then QH (Sto.first.go [YK k m i g]) (QH (Z3 100) P D).2.1 (QH (Z3 100) P D).2.2 else QH (Z3 100) P D
structure Ur(B:Nat)(G:Eg)(V:Ev)(bl:Qj)(i g:Nat)(w w':Qs):Prop where
 ok:(Yt V.k V.m i g V.P (V.Ds i)).1=0->QG B G bl {V with P:=(Yt V.k V.m i g V.P (V.Ds i)).2.1,Ds:=upd V.Ds i (Yt V.k V.m i g V.P (V.Ds i)).2.2,Ms:=upd V.Ms i (some (Sto.first.nx [YK V.k V.m i g]))} w w'
 bad:Ye B G bl (Yt V.k V.m i g V.P (V.Ds i)).2.1 (upd V.Ds i (Yt V.k V.m i g V.P (V.Ds i)).2.2) w w'
 set:Row w' G.s 78 [(V.k:Int),(V.m:Int),.slice (some ⟨G.ms,0,none⟩) G.n G.cap,(V.gen:Int),false]
def Z12(B:Nat)(w:Qs)(G:Eg)(V:Ev)(bl:Qj)(K:List Bs)(i g:Nat)(h:EAt B w G V bl)(ht:Ty w)(bh:0<B)(hi:i<G.n)(hM:V.Ms i=none)(hK:KOk K)(hk:V.k<=16)(hm:V.m<=16)(hg:g<=1000000000)(dj:(V.Ds i).wait.length<=1000)(bg:(V.Ds i).dead=false):Calls prog 48 #[G.s,(i:Int),(g:Int)] w (Ans w (Yt V.k V.m i g V.P (V.Ds i)).1 (Ur B G V bl i g w)):=by
 have:=h.nle;have c2:=h.Zaz.c2;have:=h.ZaK hi;have bf:=h.bw;have:(i:Int)<(G.n:Int):=Qw;obtain⟨Ls,Os,rfl,hp⟩:=h;have cj:=hp.at_ i hi;rw[hM] at cj;obtain⟨dp,lf,inn,hO,aw, -⟩:=cj;have:=aw.c0;have ct:=Tw B G.p (G.ds i) V.P (V.Ds i) (Ls i) w (hp.pd i hi) bf ht bh Qw;have af:(Yt V.k V.m i g V.P (V.Ds i))=if(QH (Z3 100) V.P (V.Ds i)).1=0 then QH (Sto.first.go [YK V.k V.m i g]) (QH (Z3 100) V.P (V.Ds i)).2.1 (QH (Z3 100) V.P (V.Ds i)).2.2 else QH (Z3 100) V.P (V.Ds i):=rfl;have H:=ZZ hp aw ct hO ht;by_cases Z:(QH (Z3 100) V.P (V.Ds i)).1=0
 .rw[Zx Z] at af;have H1:=ZM Z af;have⟨au,ag,bm⟩:=NI (H.1.pd i hi).ok bg Z;have aq:=λsv ev w1 (J:Gu B G.p (G.ds i) (Ls i) V.P (V.Ds i) w sv ev w1)=>NG (Os:=Os) J Z;have⟨P1,dh⟩:=ZK (QH (Z3 100) V.P (V.Ds i)).2.1;have⟨D1,bz⟩:=ZK (QH (Z3 100) V.P (V.Ds i)).2.2;rw[bz] at au ag bm;rw[dh,bz] at aq H1;have⟨d,f,ha⟩:=F6 hK V.k V.m i g;have cu:=ha.go;have cy:=ha.nx;have O:=Q1 au ag bm aq ha cu cy;by_cases h2:(QH (Sto.first.go [YK V.k V.m i g]) P1 D1).1=0
  .have H2:=ZI h2;go_enter func48,ntmps48;go_wp2_with (first|(go_at_call 101;go_fit H.3;rintro e w1 ⟨sv,ev,rfl,J⟩;obtain⟨rfl,s,j,L1,rfl,U⟩:=O.4 _ _ _ J;have U:=ZI U)|(go_at_call 79;have ay:=U.o.keep H.1 hi H.1.set Qz;go_fit (GE G.s V.k V.m i g _ Qw Qw Qw Qw ay.c0 ay.c1);rintro e w2 ⟨rfl,az⟩;have R2:=ZI (U.o.after az))|(go_at_call 38;have M:=R2.o.after ((Zu w2 w2).alloc (Zt _) (.cells #[(1:Int),.string ⟨#[33]⟩,.string ⟨#[]⟩,.string (str (YQ V.k V.m i g))] 151));have ae:Row (w2.alloc (.cells #[(1:Int),.string ⟨#[33]⟩,.string ⟨#[]⟩,.string (str (YQ V.k V.m i g))] 151)) w2 151 (AcC (YK V.k V.m i g)):=Z2 w2 _ _;go_fit (K7 M bf (M.ty H.1 hi bf H.5 bh) bh O.1 O.2 O.5 (Gx ae) rfl (Zt _));rintro e w4 ⟨bu,rfl,aj,hC⟩;rw[H2.o] at aj;obtain rfl:=aj.zero;have⟨L2,hd⟩:=hC.ran;have bj:=(F7 M hd).1;have cz:=H.1.set.fr bj ((H.1.pd i hi).typed.Zap H.1.set Qz);have de:=H.2.fr bj ((H.1.pd i hi).typed.Zap H.2 Qz);have⟨sp,bq⟩:=H.1.mem;have cw:=bq.fr bj ((H.1.pd i hi).typed.Zap bq Qz);obtain⟨gh,vv, -,cn⟩:=hd.pd.dk;have C:=ZQ M hC cz de cw cn)|(go_at_call 65;refine(KE G.s G.ms (G.xs i) i G.n G.cap G.p (G.ds i) gh s vv _ _ _ _ _ hi C.2.2.1.c2 (C.2.2.2.2.1.cell (by rw[Za (by rw[BG];exact hi)];exact BF _ _ _ hi)) C.2.2.2.1 C.2.2.2.2.2).mono ?_;rintro e w5 ⟨rfl,ai,cr⟩;have R5:=ZM ai cr));go_ret;have ak:=NK H.1 hi (sv:=.nilIface) (lf:=0) (inn:=true) H.4 C.1 C.2.1 H2.o O.3 R5.1 C.2.2.2.1 R5.2;refine⟨.nilIface,rfl,by rw[H1.2,H2.o];exact QK.nil _ _,λ_=> ?_,?_,?_⟩
   .rw[H1.2];exact ak
   .rw[H1.2];exact ak.d
   .have⟨bl',he,_⟩:=ak;exact he.Zaz
  .have H2:=ZI h2;go_enter func48,ntmps48;go_wp2_with (first|(go_at_call 101;go_fit H.3;rintro e w1 ⟨sv,ev,rfl,J⟩;obtain⟨rfl,s,j,L1,rfl,U⟩:=O.4 _ _ _ J;have U:=ZI U)|(go_at_call 79;have ay:=U.o.keep H.1 hi H.1.set Qz;go_fit (GE G.s V.k V.m i g _ Qw Qw Qw Qw ay.c0 ay.c1);rintro e w2 ⟨rfl,az⟩;have R2:=ZI (U.o.after az))|(go_at_call 38;have M:=R2.o.after ((Zu w2 w2).alloc (Zt _) (.cells #[(1:Int),.string ⟨#[33]⟩,.string ⟨#[]⟩,.string (str (YQ V.k V.m i g))] 151));have ae:Row (w2.alloc (.cells #[(1:Int),.string ⟨#[33]⟩,.string ⟨#[]⟩,.string (str (YQ V.k V.m i g))] 151)) w2 151 (AcC (YK V.k V.m i g)):=Z2 w2 _ _;go_fit (K7 M bf (M.ty H.1 hi bf H.5 bh) bh O.1 O.2 O.5 (Gx ae) rfl (Zt _));rintro e w4 ⟨bu,rfl,aj,hC⟩;obtain⟨b4,rfl⟩:∃b4,bu=.iface 139 (b4:Nat):=(by rcases aj.split with ⟨F,_⟩|⟨_,F⟩;exact absurd F H2.o;exact F);have df:=M.fr.size;have C:=ZO M hC aj df));go_ret;refine⟨_,rfl,by rw[H1.2];exact C.2.2.1.base C.2.2.2,λF=> ?_,?_,?_⟩
   .rw[H1.2] at F;exact absurd F H2.o
   .rw[H1.2];exact VK H.1 hi C.1 C.2.1
   .have⟨L2,hd⟩:=C.2.1.ran;exact H.1.set.fr (F7 C.1 hd).1 ((H.1.pd i hi).typed.Zap H.1.set Qz)
 .rw[Zw Z] at af;have H1:=ZM Z af;go_enter func48,ntmps48;go_wp2_with (go_at_call 101;go_fit H.3;rintro e w1 ⟨sv,ev,rfl,J⟩;obtain rfl:=J.none_ H1.1;obtain⟨b1,rfl⟩:∃b1,ev=.iface 139 (b1:Nat):=(by rcases J.err.split with ⟨F,_⟩|⟨_,F⟩;exact absurd F H1.1;exact F);have R1:=ZI J);go_ret;have⟨L',ah⟩:=R1.o.ran;refine⟨_,rfl,by rw[H1.2];exact R1.o.err,λF=> ?_,?_,H.1.set.fr (by simpa using ah.fr) ((H.1.pd i hi).typed.Zap H.1.set Qz)⟩
  .rw[H1.2] at F;exact absurd F H1.1
  .rw[H1.2];exact H.1.Zck hi (X:=[]) (by simpa using ah.fr) Qx ah.pd ah.ZaT
variable{ds:Nat->Nat}{t:Nat}{v:Value}
structure A9(B:Nat)(s k m:Nat)(ds:Nat->Nat)(t:Nat)(v:Qt)(xs:Nat->Nat)(w wr:Qs):Prop where
 set:Row wr s 78 [(k:Int),(m:Int),v,(0:Int),false]
 own:wr.ownsRow B 92 1 v t (Wv t xs)
 mem:∀i,i<t->Row wr (xs i) 91 [.pointer (some ⟨ds i,0,none⟩),.pointer none,(0:Int),false]
 ge:∀i,i<t->B<=xs i
 inj:∀i j,i<t->j<t->xs i=xs j->i=j
 sge:B<=s
 bel:Below B w wr
def A9.after{xs:Nat->Nat}(h:A9 B s k m ds t v xs w wr)(C:B<=w)(hb:Below wr wr w'):A9 B s k m ds t v xs w w':=⟨h.set.after hb,Jr h.own hb,λi hi=>(h.mem i hi).after hb,h.ge,h.inj,h.sge,h.bel.trans (hb.mono (by have:=h.bel.size;omega))⟩
def A9.put{xs:Nat->Nat}(h:A9 B s k m ds t v xs w wr)(F:Fr (QV v) wr w'):Row w' s 78 [(k:Int),(m:Int),v,(0:Int),false]:=h.set.fr F (λhm=>by
 have⟨J,C⟩:=YS h.own s hm
 exact Row.ne h.set C Qz rfl)
theorem A9.next{xs:Nat->Nat}{c x:Nat}(h:A9 B s k m ds t v xs w wr)(aj:B<=w)(hx:Row wr x 91 [.pointer (some ⟨ds t,0,none⟩),.pointer none,(0:Int),false])(ai:B<=x)(ag:∀i,i<t->xs i≠x)(ho:w'.ownsRow B 92 1 (.slice g n c) (t+1) (Wv t xs++[.pointer x]))(M:Fr (QV v) wr w'):A9 B s k m ds (t+1) (.slice g n c) (upd xs t x) w (w'.setCell ⟨s,2,none⟩ (.slice g n c)):=by
 have hs:=h.set;have Z:∀{y:Nat} {e:Qu} {l:Qk},Row wr y e l->e≠92->y∉QV v:=fun{y e l} hy he hm=>by obtain⟨l2,J⟩:=YS h.own y hm;exact Row.ne hy J he rfl
 have ae:=hs.fr M (Z hs Qx);have U:Fr [s] w' (w'.setCell ⟨s,2,none⟩ (.slice g n c)):=(Fr.refl _ _).setCell (Zv Qx) _;have O:∀{y:Nat} {l:Qk},Row wr y 91 l->Row (w'.setCell ⟨s,2,none⟩ (.slice g n c)) y 91 l:=fun{y l} hy=>(hy.fr M (Z hy Qx)).fr U (by simp;exact Row.ne hy hs Qx);have ah:Wv (t+1) (upd xs t x)=Wv t xs++[.pointer x]:=by unfold Wv;rw[ZdX,Zo];simp only[Zn,QX];congr 1;refine Zea λi hi=> ?_;rw[ZdS] at hi;rw[QP _ _ Qw]
 refine⟨ae.set 2 _,?_,λi hi=> ?_,λi hi=> ?_,λi j hi hj e=> ?_,h.sge,?_⟩
 .rw[ah];refine JY ho U (λq hq hm=> ?_);rw[Z6] at hm;subst hm;obtain⟨l2,J⟩:=YS ho q hq;exact Row.ne ae J Qx rfl
 .by_cases e:i=t
  .subst e;rw[QX];exact O hx
  .rw[QP _ _ e];exact O (h.mem i Qw)
 .by_cases e:i=t
  .subst e;rw[QX];exact ai
  .rw[QP _ _ e];exact h.ge i Qw
 .by_cases F:i=t
  .by_cases C:j=t
   .omega
   .rw[F,QX,QP _ _ C] at e;grind
  .by_cases C:j=t
   .rw[C,QX,QP _ _ F] at e;grind
   .rw[QP _ _ F,QP _ _ C] at e;exact h.inj i j Qw Qw e
 .have af:Below B wr w':=M.below (by have:=h.bel.size;omega) (Ai h.own);exact(h.bel.trans af).trans ((Zu B w').setCell (p:=⟨s,2,none⟩) h.sge _)
def Ol(w:Qs)(gd n cap k m:Nat)(ds:Nat->Nat)(hc:∀i,i<n->w.cell? ⟨gd,i,none⟩=some (.pointer (some ⟨ds i,0,none⟩)))(ak:gd<w)(aw:1<=k)(hn:n=k+m)(aq:n<=16):Calls prog 47 #[.slice gd n cap,(k:Int),(m:Int)] w λe w'=>∃s v xs,e=.returned (.tuple #[(s:Nat),.nilIface])/\A9 w s k m ds n v xs w w':=by
 have:decide ((k:Int)<1)=false:=QA;have:decide ((m:Int)<0)=false:=Qx;have:decide ((n:Int)>16)=false:=by simp;omega
 have:decide (n<k)=false:=by simp;omega
 have:((m:Int) !=(n:Int)- (k:Int))=false:=by simp;omega
 have:IntKind.i64.wrap ((n:Int)- (k:Int))=(n:Int)- (k:Int):=Zr _ Qw;have HC:=ZM hc hn;clear hc hn;go_enter func47,ntmps47;go_wp2;have Z:A9 w w k m ds 0 (.slice none 0 0) (λ_=>0) w (w.alloc (.cells #[(k:Int),(m:Int),(),(0:Int),false] 78)):=
  ⟨Z2 w _ _,ZA _ _ _ _,λi hi=>Qw,λi hi=>Qw,λi j hi=>Qw,Zt _,(Zu w w).alloc (Zt _) _⟩
 have ah:=ZI Z;clear Z;go_loopw [43] (λO wr=>∃ (t:Nat) (v:Qt) (xs:Nat->Nat),t<=n/\O=(t:Int)/\A9 w w k m ds t v xs w wr) (λO _=>n- (intOf O).toNat)
 .exact⟨0,_,_,Qw,rfl,ah.o⟩
 obtain⟨t,v,xs,ht,rfl,h⟩:=hrel;have HS:=ZI h;by_cases ae:t<n
 .have c2:=h.set.c2;have f2:=h.set.free (j:=2) Qx;have aj:=(h.bel.cell (p:=⟨gd,t,none⟩) ak).trans (HC.1 t ae);have:(t:Int)<(n:Int):=Qw;have hz:=h.bel.size;have F:=((Zu wr wr).alloc (Zt _) (.cells #[.pointer (some ⟨ds t,0,none⟩),.pointer none,(0:Int),false] 91)).alloc Qx (.cells #[wr.heap.size] 92);have hA:=h.after (Zt _) F;have af:Row ((wr.alloc (.cells #[.pointer (some ⟨ds t,0,none⟩),.pointer none,(0:Int),false] 91)).alloc (.cells #[wr.heap.size] 92)) wr 91 [.pointer (some ⟨ds t,0,none⟩),.pointer none,.int .i64 0,.bool false]:=(Z2 wr _ _).alloc _;have ag:Row ((wr.alloc (.cells #[.pointer (some ⟨ds t,0,none⟩),.pointer none,(0:Int),false] 91)).alloc (.cells #[wr.heap.size] 92)) (wr.heap.size+1) 92 [.pointer wr.heap.size]:=by have:=Z2 (wr.alloc (.cells #[.pointer (some ⟨ds t,0,none⟩),.pointer none,(0:Int),false] 91)) 92 [.pointer wr.heap.size];simp_all
  have U:∀i,i<t->xs i≠wr.heap.size:=λi hi e=>by have:=(h.mem i hi).lt;omega
  have C:=ZZ hA af ag U (Zq hz F.size);clear h F hA af ag U;go_wp2_with (at_builtin;refine Bg _ rfl (.tmp 51) (.tmp 55) 76 92 rfl underlying76 Z3Z rfl Qw Qw w.heap.size v t (Wv t xs) rfl C.1.own (wr.heap.size+1) 1 [.pointer wr.heap.size] rfl Qw Qw rfl C.3 (by simp[Value.oneCell']) C.5 Qw ?_;intro g2 ai w8 ho M _ _ _;have J:=C.1.put M;have:=J.c2;have:=J.free (j:=2) Qx;have R8:=ZI (C.1.next (Zt _) C.2 hz C.4 ho M);clear J ho M c2 f2 aj);go_roundw
  .exact⟨t+1,_,_,Qw,QC,R8.o⟩
  simp[intOf];omega
 .obtain rfl:t=n:=by omega
  clear h;go_wp2;go_ret2;exact⟨_,v,xs,rfl,HS.o⟩
abbrev Wt:=Nat×(Sto->List Ac)
def Yi(V:Ev)(x:Wt):Int:=match V.Ms x.1 with
 |some S=>(QH (S.go (x.2 S)) V.P (V.Ds x.1)).1
 |none=>0
def Y3(V:Ev)(x:Wt):Ev:=match V.Ms x.1 with
 |some S=>{V with P:=(QH (S.go (x.2 S)) V.P (V.Ds x.1)).2.1,Ds:=upd V.Ds x.1 (QH (S.go (x.2 S)) V.P (V.Ds x.1)).2.2,Ms:=upd V.Ms x.1 (some (S.nx (x.2 S)))}
 |none=>V
def QT:List Wt->Ev->Int×Ev
 |[],V=>(0,V)
 |x::r,V=>if Yi V x=0 then QT r (Y3 V x) else(Yi V x,Y3 V x)
theorem Fn(a b:List Wt):∀V:Ev,QT (a++b) V=if(QT a V).1=0 then QT b (QT a V).2 else QT a V:=by
 induction a with
 |nil=>intro V;simp[QT]
 |cons x r ih=>intro V;have e:QT (x::r) V=if Yi V x=0 then QT r (Y3 V x) else(Yi V x,Y3 V x):=rfl;rw[Zef,QT,e];grind
def Z1w{a:List Wt}{C:Ev}(h:QT a V=(0,C))(x:Wt):QT (a++[x]) V=(Yi C x,Y3 C x):=by rw[Fn,h];simp[QT];simp_all
def JB{x:Wt}(h:V.Ms x.1=some S):Yi V x=(QH (S.go (x.2 S)) V.P (V.Ds x.1)).1/\Y3 V x={V with P:=(QH (S.go (x.2 S)) V.P (V.Ds x.1)).2.1,Ds:=upd V.Ds x.1 (QH (S.go (x.2 S)) V.P (V.Ds x.1)).2.2,Ms:=upd V.Ms x.1 (some (S.nx (x.2 S)))}:=by unfold Yi Y3;simp_all
def Ec(V:Ev)(x:Wt):(Y3 V x).k=V.k/\(Y3 V x).m=V.m/\(Y3 V x).gen=V.gen/\∀i,((Y3 V x).Ms i).isSome=(V.Ms i).isSome:=by
 unfold Y3;cases h:V.Ms x.1 with
 |none=>exact⟨rfl,rfl,rfl,λi=>rfl⟩
 |some S=>
  refine⟨rfl,rfl,rfl,λi=> ?_⟩;simp only;by_cases e:i=x.1
  .rw[e,QX,h];rfl
  .rw[QP _ _ e]
def Cg(l:List DOp):∀{P:Pw} {D:Dk},(∀o∈l,o.In 800)->D.Fit 800->D.dead=false->P.gone=false->((QH l P D).1=0/\(QH l P D).2.1.gone=false)∨((QH l P D).1=10/\(QH l P D).2.1.gone=true):=by
 induction l with
 |nil=>intro P D _ _ _ h;exact Zv ⟨rfl,h⟩
 |cons o r ih=>
  intro P D C J F h;rw[CQ];by_cases hz:P.Zas=0
  .have⟨M,O,U⟩:=TM J h F (C o Qx) hz;simp_all
  .by_cases Z:P.Zas<0∨1<=P.Zas
   .have⟨M,O,U⟩:=Mw J h F (C o Qx) Z;rw[Zx M,O,U];exact ih (λq hq=>C q QA) (J.app o (C o Qx)) (by rw[EZ];exact F) (Gw h Z).2.1
   .omega
structure QM where
 K:List Bs
 E:Nat
 k:Nat
 m:Nat
 g:Nat
 H:Bs->Option Bs
 l:List Chg
 T:Nat->Tab
def QM.p0(X:QM)(i:Nat)(D:Dk)(S:Sto):Prop:=QU X.K X.E D S/\stR D.reads S.dir=X.T i
def QM.p1(X:QM)(i:Nat)(D:Dk)(S:Sto):Prop:=QU X.K (X.E+1) D S/\Mid X.k X.m i X.g X.H X.l (X.T i) (stR D.reads S.dir)
def QM.p2(X:QM)(i:Nat)(D:Dk)(S:Sto):Prop:=QU X.K (X.E+2) D S/\Wn X.k X.m i (X.g+1) (upH X.H X.l) (stR D.reads S.dir)/\(Xt X.k X.m i X.H (X.T i)->Xt X.k X.m i (upH X.H X.l) (stR D.reads S.dir))
structure QM.Ok(X:QM)(n:Nat):Prop where
 hK:KOk X.K
 hl:LOk X.K X.l
 k1:1<=X.k
 rest:∀i,i<n->Wn X.k X.m i X.g X.H (X.T i)
structure QM.At(X:QM)(ph:Nat->Dk->Sto->Prop)(n:Nat)(V:Ev):Prop where
 gone:V.P.gone=false
 at_:∀i,i<n->∀S,V.Ms i=some S->ph i (V.Ds i) S/\(V.Ds i).ok 800/\(V.Ds i).dead=false
def G2(l:List DOp):∀{P:Pw} {D:Dk},(∀o∈l,o.In 800)->D.ok 800->D.wait.length+l.length<=1000000->(QH l P D).2.2.ok 800:=by
 induction l with
 |nil=>intro P D _ h _;exact h
 |cons o r ih=>
  intro P D C h hw;rw[Ze] at hw;have F:(o.dk P D).ok 800:=by
   cases o with
   |wr a s=>exact Uj h _ s Qw
   |fl=>exact OM h
  rw[CQ];split
  .exact ih (λq J=>C q QA) F (by have:=DOp.few P D o;omega)
  .omega
def Gq(a:Nat)(l:Bs):(wrs a l).length=l.length / 64:=by unfold wrs;simp
def GI(J:Jn)(s:Bool)(k:Nat):(J.clean s k).length<=1:=by unfold Jn.clean;split<;>simp
theorem Ym.len{Zan:List Ac}{d:Dir}(h:QU K E D S)(hK:KOk K)(ha:Ym K S Zan d f):(S.ops Zan d f).length<=100000:=by
 have⟨Zau,hi⟩:=h.img;have C:=XR D.reads hi.ok hi.used ha.ZaA ha.ZaQ;have:f.length<=40:=by
  have M:=C.fr.length_le_of_subset (l₂:=d.names) (λn hn=>by
   obtain⟨x,hx,rfl⟩:=Zz.1 hn;have⟨e,he,_⟩:=C.fresh x hx
   exact XI.2 QB)
  rw[Zf,show d.names.length=d.length from Zf ..] at M;have:=G9 ha.sm C.ok.sorted;have:=FI hK;omega
 have:=MT (d:=d) (Zan:=Zan) (f:=f) (λx hx=>by
  have⟨e,he,_⟩:=C.fresh x hx
  exact⟨e,he,C.ok.get he⟩)
 have:(Wq d Zan f).length<=8001:=by unfold Wq;grind
 have F:=ha.room;have:=F.some_;have U:=F.whole;have pk:∀e n (r:Bs),r.length<=60000->(QO e n r).length<=61000/\QO e n r≠[]:=λe n r F=>by refine⟨?_,B4 _ _ _⟩;rw[Ce];unfold QQ;omega
 have lay:∀ (J:Jn) s k (l:Bs),l.length<=61000->l≠[]->(J.lay s k l).length<=5000:=λJ s k l hl O=>by unfold Jn.lay;rw[Zb,Zb,Zb,Zb,Gq,Gq,Jj l O];have M:=GI J s (k+l.length / 64);grind
 unfold Sto.ops;rw[Zb];have:(S.Zbe d f).length<=50000:=by
  unfold Sto.Zbe;split
  .unfold Jn.ZaM;grind
  .unfold Jn.ZaI;have:=pk (S.j.Zar+1) 1 _ U;have:=Xw (S.j.Zar+1);have Z:QO (S.j.Zar+1) 0 Yk≠[]:=QA;have:=GI S.j (!S.j.second) (1+QQ (Xi d).length / 64);simp[Gq,Jj _ Z];omega
 omega
section
variable{X:QM}
def QM.At.step{ph ph':Nat->Dk->Sto->Prop}(h:X.At ph n V){i:Nat}{S:Sto}{a:Sto->List Ac}{d:Dir}{f:QF}{E:Nat}(hi:i<n)(hM:V.Ms i=some S)(hB:QU X.K E (V.Ds i) S)(hK:KOk X.K)(ha:Ym X.K S (a S) d f)(J:Yi V (i,a)=0)(af:∀j,j≠i->∀D S,ph j D S->ph' j D S)(Z:ph' i (Yn (S.ops (a S) d f) (V.Ds i)) (S.done d f)):X.At ph' n (Y3 V (i,a)):=by
 have⟨e1,e2⟩:=JB (V:=V) (x:=(i,a)) hM;rw[e1] at J;obtain⟨-,F,M⟩:=h.at_ i hi S hM;rw[ha.go] at J e2;rw[ha.nx] at e2;have:=DL (S.ops (a S) d f) ha.in_ F.fit M J;have:=Cg (S.ops (a S) d f) (P:=V.P) ha.in_ F.fit M h.gone;have:=G2 (S.ops (a S) d f) (P:=V.P) ha.in_ F (by have:=Ym.len hB hK ha;rw[hB.wait];simp;omega);have:=XK (S.ops (a S) d f) V.P (V.Ds i);rw[e2];refine⟨?_,λj U O C=> ?_⟩
 .simp_all
 .simp only at C⊢;by_cases e:j=i
  .subst e;rw[QX] at C⊢;simp_all
  .rw[QP _ _ e] at C⊢;have⟨g1,g2,g3⟩:=h.at_ j U O C;simp_all
def ph1(X:QM)(done:Qj)(i:Nat)(D:Dk)(S:Sto):Prop:=if i∈done then X.p1 i D S else X.p0 i D S
def ph2(X:QM)(done:Qj)(i:Nat)(D:Dk)(S:Sto):Prop:=if i∈done then X.p2 i D S else X.p1 i D S
def op1(X:QM)(i:Nat):Wt:=(i,λ_=>Wg X.k X.m i X.g X.l)
def op2(X:QM)(i:Nat):Wt:=(i,λS=>Yv S.dir (Y4 X.l))
def Z9v(C:X.Ok n){done:Qj}(h:X.At (ph1 X done) n V){i:Nat}{S:Sto}(hi:i<n)(hM:V.Ms i=some S)(F:i∉done):QU X.K X.E (V.Ds i) S/\∃d f,Ym X.K S (Wg X.k X.m i X.g X.l) d f:=by have⟨g1,g2,g3⟩:=h.at_ i hi S hM;unfold ph1 at g1;rw[Zw F] at g1;exact⟨g1.1,g1.1.first (H:=X.H) C.hK C.k1 C.hl⟩
def QM.ZbW(C:X.Ok n){done:Qj}(h:X.At (ph1 X done) n V){i:Nat}{S:Sto}(hi:i<n)(hM:V.Ms i=some S)(F:i∉done)(J:Yi V (op1 X i)=0):X.At (ph1 X (done++[i])) n (Y3 V (op1 X i)):=by
 have⟨hB,d,f,ha⟩:=Z9v C h hi hM F;have⟨g1,g2,g3⟩:=h.at_ i hi S hM;unfold ph1 at g1;rw[Zw F] at g1;refine h.step (a:=λ_=>Wg X.k X.m i X.g X.l) hi hM hB C.hK ha J (λj O D S M=> ?_) ?_
 .unfold ph1 at M⊢;simp_all
 .unfold ph1;rw[Zx Qx];have⟨b1,b2⟩:=hB.did C.hK g2 ha;refine⟨b1,?_⟩;rw[b2,g1.2];exact RA C.hl.nd (C.rest i hi)
def Z9w(C:X.Ok n){done:Qj}(h:X.At (ph2 X done) n V){i:Nat}{S:Sto}(hi:i<n)(hM:V.Ms i=some S)(F:i∉done):QU X.K (X.E+1) (V.Ds i) S/\∃d,Ym X.K S (Yv S.dir (Y4 X.l)) d []:=by have⟨g1,g2,g3⟩:=h.at_ i hi S hM;unfold ph2 at g1;rw[Zw F] at g1;exact⟨g1.1,g1.1.second C.hK C.hl (C.rest i hi) g1.2⟩
def Z9O(C:X.Ok n){done:Qj}(h:X.At (ph2 X done) n V){i:Nat}{S:Sto}(hi:i<n)(hM:V.Ms i=some S)(F:i∉done)(J:Yi V (op2 X i)=0):X.At (ph2 X (done++[i])) n (Y3 V (op2 X i)):=by
 have⟨hB,d,ha⟩:=Z9w C h hi hM F;have⟨g1,g2,g3⟩:=h.at_ i hi S hM;unfold ph2 at g1;rw[Zw F] at g1;refine h.step (a:=λS=>Yv S.dir (Y4 X.l)) hi hM hB C.hK ha J (λj O D S M=> ?_) ?_
 .unfold ph2 at M⊢;simp_all
 .unfold ph2;rw[Zx Qx];have⟨b1,b2⟩:=hB.did C.hK g2 ha;have⟨U,Z,r3⟩:=FX C.hl.nd (C.rest i hi) g1.2 hB.sorted (λn=>XA);refine⟨b1,?_⟩;simp_all
def Yj(V:Ev)(n:Nat):Qj:=(List.range n).filter λi=>(V.Ms i).isSome
def mem_ins:i∈Yj V n↔i<n/\(V.Ms i).isSome=true:=by unfold Yj;simp
def FA:(Yj V n).Nodup:=ZfE.sublist Zer
def YW(X:QM)(ins:Qj):List Wt:=ins.map (op1 X)++ins.map (op2 X)
def Z9G{ins:Qj}(h:∀i,i<n->(V.Ms i).isSome=true->i∈ins)(C:X.At (ph1 X ins) n V):X.At (ph2 X []) n V:=by refine⟨C.gone,λi hi S hM=> ?_⟩;have⟨g1,g2⟩:=C.at_ i hi S hM;unfold ph1 at g1;unfold ph2;simp_all
end
section
variable{X:QM}
def QM.At.ZaB{ph:Nat->Dk->Sto->Prop}(h:X.At ph n V)(C:V.P.Zas<0){i:Nat}{S:Sto}{a:Sto->List Ac}{d:Dir}{f:QF}(hi:i<n)(hM:V.Ms i=some S)(ha:Ym X.K S (a S) d f):Yi V (i,a)=0/\(Y3 V (i,a)).P.Zas<0:=by have⟨e1,e2⟩:=JB (V:=V) (x:=(i,a)) hM;obtain⟨-,F,M⟩:=h.at_ i hi S hM;rw[ha.go] at e1 e2;have⟨Q,J,hl⟩:=CR (l:=S.ops (a S) d f) (P:=V.P) F.fit M ha.in_ ⟨h.gone,Zv C⟩;rw[J] at e1 e2;refine⟨e1,?_⟩;rw[e2];rw[hl.2,Zx C];exact C
def Z9H(U:X.Ok n):∀ (rest done:Qj) (V:Ev),X.At (ph1 X done) n V->(∀i∈rest,i<n/\(V.Ms i).isSome=true)->(∀i∈rest,i∉done)->rest.Nodup->((QT (rest.map (op1 X)) V).1=0->X.At (ph1 X (done++rest)) n (QT (rest.map (op1 X)) V).2)/\(V.P.Zas<0->(QT (rest.map (op1 X)) V).1=0/\(QT (rest.map (op1 X)) V).2.P.Zas<0):=by
 intro rest
 induction rest with
 |nil=>intro done V h _ _ _;rw[ZdJ];exact⟨λ_=>h,λJ=>⟨rfl,J⟩⟩
 |cons i r ih=>
  intro done V h M O af;have⟨hi,hs⟩:=M i Qx;have⟨S,hM⟩:=ZdQ.1 hs;have Z:=O i Qx;have⟨hB,d,f,ha⟩:=Z9v U h hi hM Z;have⟨n1,n2⟩:=ZdR.1 af;rw[Zn];unfold QT
  have ae:Yi V (op1 X i)=0->_:=λC=>ih (done++[i]) (Y3 V (op1 X i)) (QM.ZbW U h hi hM Z C) (λj hj=>⟨(M j QA).1,by rw[(Ec V (op1 X i)).2.2.2];exact(M j QA).2⟩) (λj hj hm=>by
   rcases Zj.1 hm with F|F
   .exact O j QA F
   .rw[Z6] at F;subst F;exact n1 hj) n2
  by_cases C:Yi V (op1 X i)=0
  .rw[Zx C];have⟨g1,g2⟩:=ae C;rw[Zd,Zf7] at g1;exact⟨g1,λJ=>g2 (QM.At.ZaB (a:=λ_=>Wg X.k X.m i X.g X.l) h J hi hM ha).2⟩
  .rw[Zw C];exact⟨λF=>absurd F C,λJ=>absurd (QM.At.ZaB (a:=λ_=>Wg X.k X.m i X.g X.l) h J hi hM ha).1 C⟩
def Z9S(U:X.Ok n):∀ (rest done:Qj) (V:Ev),X.At (ph2 X done) n V->(∀i∈rest,i<n/\(V.Ms i).isSome=true)->(∀i∈rest,i∉done)->rest.Nodup->((QT (rest.map (op2 X)) V).1=0->X.At (ph2 X (done++rest)) n (QT (rest.map (op2 X)) V).2)/\(V.P.Zas<0->(QT (rest.map (op2 X)) V).1=0/\(QT (rest.map (op2 X)) V).2.P.Zas<0):=by
 intro rest
 induction rest with
 |nil=>intro done V h _ _ _;rw[ZdJ];exact⟨λ_=>h,λJ=>⟨rfl,J⟩⟩
 |cons i r ih=>
  intro done V h M O af;have⟨hi,hs⟩:=M i Qx;have⟨S,hM⟩:=ZdQ.1 hs;have Z:=O i Qx;have⟨hB,d,ha⟩:=Z9w U h hi hM Z;have⟨n1,n2⟩:=ZdR.1 af;rw[Zn];unfold QT
  have ae:Yi V (op2 X i)=0->_:=λC=>ih (done++[i]) (Y3 V (op2 X i)) (Z9O U h hi hM Z C) (λj hj=>⟨(M j QA).1,by rw[(Ec V (op2 X i)).2.2.2];exact(M j QA).2⟩) (λj hj hm=>by
   rcases Zj.1 hm with F|F
   .exact O j QA F
   .rw[Z6] at F;subst F;exact n1 hj) n2
  by_cases C:Yi V (op2 X i)=0
  .rw[Zx C];have⟨g1,g2⟩:=ae C;rw[Zd,Zf7] at g1;exact⟨g1,λJ=>g2 (QM.At.ZaB (a:=λS=>Yv S.dir (Y4 X.l)) h J hi hM ha).2⟩
  .rw[Zw C];exact⟨λF=>absurd F C,λJ=>absurd (QM.At.ZaB (a:=λS=>Yv S.dir (Y4 X.l)) h J hi hM ha).1 C⟩
def Eb(l:List Wt):∀V:Ev,∀i,((QT l V).2.Ms i).isSome=(V.Ms i).isSome:=by
 induction l with
 |nil=>intro V i;rfl
 |cons x r ih=>
  intro V i;unfold QT;split
  .rw[ih];exact(Ec V x).2.2.2 i
  .exact(Ec V x).2.2.2 i
def QM.Zb2(F:X.Ok n)(h:X.At (ph1 X []) n V):((QT (YW X (Yj V n)) V).1=0->X.At X.p2 n (QT (YW X (Yj V n)) V).2)/\(V.P.Zas<0->(QT (YW X (Yj V n)) V).1=0/\(QT (YW X (Yj V n)) V).2.P.Zas<0):=by
 have⟨J,a2⟩:=Z9H F (Yj V n) [] V h (λi hi=>mem_ins.1 hi) (λi _=>Qx) FA;unfold YW;rw[Fn];by_cases C:(QT ((Yj V n).map (op1 X)) V).1=0
 .rw[Zx C];have hs:=Eb ((Yj V n).map (op1 X)) V;have⟨b1,b2⟩:=Z9S F (Yj V n) [] _ (Z9G (ins:=Yj V n) (λi hi hM=>mem_ins.2 ⟨hi,by rw[<-hs];exact hM⟩) (J C)) (λi hi=>⟨(mem_ins.1 hi).1,by rw[hs];exact(mem_ins.1 hi).2⟩) (λi _=>Qx) FA;rw[Ze3] at b1;refine⟨λM=> ?_,λO=>b2 (a2 O).2⟩;have hb:=b1 M;refine⟨hb.gone,λi hi S hM=> ?_⟩;have⟨g1,g2⟩:=hb.at_ i hi S hM;unfold ph2 at g1;rw[Zx (mem_ins.2 ⟨hi,by rw[<-hs,<-Eb ((Yj V n).map (op2 X)),hM];rfl⟩)] at g1;simp_all
 .simp_all
end
def A9.eat{xs:Nat->Nat}(h:A9 w s k m ds n v xs w wr)(ae:B<=w)(F:1<=n)(M:n<=16)(U:∀i,i<n->PD B w p (ds i) 800 P (Ds i) (Ls i))(J:∀i j,i<n->j<n->i≠j->∀q∈Ls i,q∉Ls j):∃ms cap,YJ B wr ⟨n,p,s,ms,cap,xs,ds⟩ ⟨k,m,0,P,Ds,λ_=>none⟩ Ls (λi=>[xs i]):=by
 have⟨ms,cap,sp,hv,h1,h2,h3,hr⟩:=BE h.own F;refine⟨ms,cap,?_,⟨sp,hr⟩,F,M,λi hi=>(U i hi).after h.bel,J,λi hi=>⟨.pointer none,0,false,rfl,h.mem i hi,Qx⟩,λi j hi Z O q C hm=> ?_,λi hi q C=> ?_,by have:=h.sge;show B<=s;omega⟩
 .have:=h.set;simp_all
 .simp at C hm;exact O (h.inj i j hi Z (C.symm.trans hm))
 .simp at C;have:=h.ge i hi;omega
theorem KS:(Z3 100).length<=900000:=by
 have:(QO 1 0 Yk).length<=61000:=by rw[Ce];unfold QQ;have:Yk.length<=100:=Qz;omega
 have h:QO 1 0 Yk≠[]:=B4 _ _ _;unfold Z3;rw[Zb];have:=GI ⟨100,false,1,0,1,false⟩ true 0;unfold Jn.lay;rw[Zb,Zb,Zb,Zb,Gq,Gq,Jj _ h];have:=GI ⟨100,false,1,0,1,false⟩ false (0+(QO 1 0 Yk).length / 64);grind
def NJ(hK:KOk K)(ok:D.ok 800)(F:D.dead=false)(hw:D.wait.length<=1000)(hg:P.gone=false)(hf:P.Zas<0):(Yt k m i g P D).1=0/\(Yt k m i g P D).2.1.gone=false/\(Yt k m i g P D).2.1.Zas<0/\QU K 2 (Yt k m i g P D).2.2 (Sto.first.nx [YK k m i g])/\stR (Yt k m i g P D).2.2.reads (Sto.first.nx [YK k m i g]).dir=JM k m i g:=by
 have h:∀o∈Z3 100,o.In 800:=λo ho=>by
  have:=GW 100 Qw o ho;cases o with
  |wr a s=>exact⟨Zp this.1 Qw,this.2⟩
  |fl=>trivial
 have⟨Q,Z,J,ae⟩:=CR ok.fit F h (l:=Z3 100) (P:=P) ⟨hg,Zv hf⟩;have M:Q.Zas<0:=Qw;have C:(Yn (Z3 100) D).ok 800:=by have h9:=G2 (Z3 100) (P:=P) h ok (by have:=KS;omega);simp_all
 have O:(Yn (Z3 100) D).dead=false:=by rw[IX];exact F
 have⟨d,f,ha⟩:=F6 hK k m i g;have⟨U,hR,af,ag⟩:=CR C.fit O ha.in_ (l:=Sto.first.ops [YK k m i g] d f) (P:=Q) ⟨J,Zv M⟩;have⟨b1,b2⟩:=K8 (k:=k) (m:=m) (i:=i) (g:=g) (R:=D.reads) hK C (Bo ok.fit h) ha;have e:Yt k m i g P D=(0,U,Yn (Sto.first.ops [YK k m i g] d f) (Yn (Z3 100) D)):=by unfold Yt;rw[Z];simp;rw[ha.go,hR]
 rw[e,ha.nx];simp_all
structure FmS(K:List Bs)(V0:Ev)(t:Nat)(V:Ev):Prop where
 k:V.k=V0.k
 m:V.m=V0.m
 gen:V.gen=V0.gen
 gone:V.P.gone=false
 Zas:V.P.Zas<0
 done:∀i,i<t->∃S,V.Ms i=some S/\QU K 2 (V.Ds i) S/\stR (V.Ds i).reads S.dir=JM V0.k V0.m i 0
 rest:∀i,t<=i->V.Ms i=none/\V.Ds i=V0.Ds i
 Zaq:∀i,(V.Ds i).Zaq=(V0.Ds i).Zaq
def K6(k m i g:Nat)(P:Pw)(D:Dk):(Yt k m i g P D).2.2.Zaq=D.Zaq:=by
 unfold Yt;split
 .rw[(XK _ _ _).1,(XK _ _ _).1]
 .rw[(XK _ _ _).1]
def FmS.next{V0:Ev}(h:FmS K V0 t V)(hK:KOk K)(ok:(V.Ds t).ok 800)(M:(V.Ds t).dead=false)(hw:(V.Ds t).wait.length<=1000):(Yt V.k V.m t 0 V.P (V.Ds t)).1=0/\FmS K V0 (t+1) {V with P:=(Yt V.k V.m t 0 V.P (V.Ds t)).2.1,Ds:=upd V.Ds t (Yt V.k V.m t 0 V.P (V.Ds t)).2.2,Ms:=upd V.Ms t (some (Sto.first.nx [YK V.k V.m t 0]))}:=by
 obtain⟨e1,e2,C,F,J⟩:=NJ (k:=V.k) (m:=V.m) (i:=t) (g:=0) hK ok M hw h.gone h.Zas;refine⟨e1,h.k,h.m,h.gen,e2,C,λi hi=> ?_,λi hi=> ?_,λi=> ?_⟩
 .by_cases e:i=t
  .subst e;simp only[QX];exact⟨_,rfl,F,by rw[J,h.k,h.m]⟩
  .simp[QP _ _ e];exact h.done i Qw
 .have e:i≠t:=by omega
  simp[QP _ _ e];exact h.rest i Qw
 .by_cases e:i=t
  .subst e;simp[QX];rw[K6];exact h.Zaq i
  .simp[QP _ _ e];exact h.Zaq i
def Z13(B:Nat)(w:Qs)(G:Eg)(V:Ev)(bl:Qj)(K:List Bs)(i g:Nat)(h:EAt B w G V bl)(ht:Ty w)(az:0<B)(hi:i<G.n)(hM:V.Ms i=none)(hK:KOk K)(hk:V.k<=16)(hm:V.m<=16)(hg:g<=1000000000)(cy:(V.Ds i).wait.length<=1000)(ak:(V.Ds i).dead=false)(C:(Yt V.k V.m i g V.P (V.Ds i)).1=0):Calls prog 48 #[G.s,(i:Int),(g:Int)] w λe w'=>e=.returned .nilIface/\QG B G bl {V with P:=(Yt V.k V.m i g V.P (V.Ds i)).2.1,Ds:=upd V.Ds i (Yt V.k V.m i g V.P (V.Ds i)).2.2,Ms:=upd V.Ms i (some (Sto.first.nx [YK V.k V.m i g]))} w w':=by
 have HZ:=ZI C;have:=h.nle;have c2:=h.Zaz.c2;have:=h.ZaK hi;have aq:=h.bw;have:(i:Int)<(G.n:Int):=Qw;obtain⟨Ls,Os,rfl,hp⟩:=h;have bj:=hp.at_ i hi;rw[hM] at bj;obtain⟨df,lf,inn,hO,aj, -⟩:=bj;have:=aj.c0;have bz:=Tw B G.p (G.ds i) V.P (V.Ds i) (Ls i) w (hp.pd i hi) aq ht az Qw;have M:(Yt V.k V.m i g V.P (V.Ds i))=if(QH (Z3 100) V.P (V.Ds i)).1=0 then QH (Sto.first.go [YK V.k V.m i g]) (QH (Z3 100) V.P (V.Ds i)).2.1 (QH (Z3 100) V.P (V.Ds i)).2.2 else QH (Z3 100) V.P (V.Ds i):=rfl;have H:=ZZ hp aj bz hO ht;by_cases J:(QH (Z3 100) V.P (V.Ds i)).1=0
 .rw[Zx J] at M;have H1:=ZM J M;have⟨ai,ae,au⟩:=NI (H.1.pd i hi).ok ak J;have ah:=λsv ev w1 (hf:Gu B G.p (G.ds i) (Ls i) V.P (V.Ds i) w sv ev w1)=>NG (Os:=Os) hf J;have⟨P1,cw⟩:=ZK (QH (Z3 100) V.P (V.Ds i)).2.1;have⟨D1,bh⟩:=ZK (QH (Z3 100) V.P (V.Ds i)).2.2;rw[bh] at ai ae au;rw[cw,bh] at ah H1;have⟨d,f,ha⟩:=F6 hK V.k V.m i g;have cj:=ha.go;have cr:=ha.nx;have U:=Q1 ai ae au ah ha cj cr;by_cases h2:(QH (Sto.first.go [YK V.k V.m i g]) P1 D1).1=0
  .have H2:=ZI h2;go_enter func48,ntmps48;go_wp2_with (first|(go_at_call 101;go_fit H.3;rintro e w1 ⟨sv,ev,rfl,hf⟩;obtain⟨rfl,s,j,L1,rfl,hA⟩:=U.4 _ _ _ hf;have hA:=ZI hA)|(go_at_call 79;have bg:=hA.o.keep H.1 hi H.1.set Qz;go_fit (GE G.s V.k V.m i g _ Qw Qw Qw Qw bg.c0 bg.c1);rintro e w2 ⟨rfl,bm⟩;have R2:=ZI (hA.o.after bm))|(go_at_call 38;have O:=R2.o.after ((Zu w2 w2).alloc (Zt _) (.cells #[(1:Int),.string ⟨#[33]⟩,.string ⟨#[]⟩,.string (str (YQ V.k V.m i g))] 151));have af:Row (w2.alloc (.cells #[(1:Int),.string ⟨#[33]⟩,.string ⟨#[]⟩,.string (str (YQ V.k V.m i g))] 151)) w2 151 (AcC (YK V.k V.m i g)):=Z2 w2 _ _;go_fit (K7 O aq (O.ty H.1 hi aq H.5 az) az U.1 U.2 U.5 (Gx af) rfl (Zt _));rintro e w4 ⟨cz,rfl,aw,hC⟩;rw[H2.o] at aw;obtain rfl:=aw.zero;have⟨L2,hd⟩:=hC.ran;have Z:=(F7 O hd).1;have ct:=H.1.set.fr Z ((H.1.pd i hi).typed.Zap H.1.set Qz);have cu:=H.2.fr Z ((H.1.pd i hi).typed.Zap H.2 Qz);have⟨sp,bf⟩:=H.1.mem;have cn:=bf.fr Z ((H.1.pd i hi).typed.Zap bf Qz);obtain⟨gh,vv, -,bq⟩:=hd.pd.dk;have F:=Q0 O hC ct cu cn bq)|(go_at_call 65;refine(KE G.s G.ms (G.xs i) i G.n G.cap G.p (G.ds i) gh s vv _ _ _ _ _ hi F.3.c2 (F.5.cell (by rw[Za (by rw[BG];exact hi)];exact BF _ _ _ hi)) F.4 F.6).mono ?_;rintro e w5 ⟨rfl,ag,bu⟩;have R5:=ZM ag bu));go_ret;have ay:=NK H.1 hi (sv:=.nilIface) (lf:=0) (inn:=true) H.4 F.1 F.2 H2.o U.3 R5.1 F.4 R5.2;rw[H1.2];exact⟨rfl,ay⟩
  .have C:=HZ.o;rw[H1.2] at C;exact absurd C h2
 .rw[Zw J] at M;have C:=HZ.o;rw[M] at C;exact absurd C J
def Z16(B:Nat)(w:Qs)(K:List Bs)(gd n cap k m p:Nat)(ds:Nat->Nat)(P:Pw)(Ds:Nat->Dk)(Ls:Nat->List Nat)(hc:∀i,i<n->w.cell? ⟨gd,i,none⟩=some (.pointer (some ⟨ds i,0,none⟩)))(bz:gd<w)(bu:1<=k)(hn:n=k+m)(ah:n<=16)(bq:B<=w)(bj:∀i,i<n->PD B w p (ds i) 800 P (Ds i) (Ls i))(ag:∀i j,i<n->j<n->i≠j->∀q∈Ls i,q∉Ls j)(ht:Ty w)(bf:0<B)(hK:KOk K)(ae:P.gone=false)(hf:P.Zas<0)(az:∀i,i<n->(Ds i).dead=false/\(Ds i).wait.length<=1000):Calls prog 17 #[.slice gd n cap,(k:Int),(m:Int)] w λe w'=>∃s ms c xs V w1,e=.returned (.tuple #[(s:Nat),.nilIface])/\Below w w w1/\QG B ⟨n,p,s,ms,c,xs,ds⟩ (Wx ⟨n,p,s,ms,c,xs,ds⟩ Ls (λi=>[xs i])) V w1 w'/\FmS K ⟨k,m,0,P,Ds,λ_=>none⟩ n V/\w.heap.size<=s/\∀i,i<n->w.heap.size<=xs i:=by
 have af:=Ol w gd n cap k m ds hc bz bu hn ah;have cj:1<=n:=Qw;have aj:k<=16:=Qw;have ak:m<=16:=Qw;have H:=Q1 af bj ag ht az ae hf;clear af bj ag ht az ae hf hn hc;go_enter func17,ntmps17;go_wp2_with (go_at_call 47;go_fit H.1;rintro e w1 ⟨s,v,xs,rfl,C⟩;have⟨ms,c,hp⟩:=C.eat bq cj ah H.2 H.3;have c2:w1.cell? ⟨s,2,none⟩=some (.slice (ms:Nat) n c):=hp.set.c2;have H1:=ZY hp C.bel C.sge C.ge;clear C hp);have au:EAt B w1 ⟨n,p,s,ms,c,xs,ds⟩ ⟨k,m,0,P,Ds,λ_=>none⟩ (Wx ⟨n,p,s,ms,c,xs,ds⟩ Ls (λi=>[xs i])):=⟨_,_,rfl,H1.1⟩;have aw:FmS K ⟨k,m,0,P,Ds,λ_=>none⟩ 0 ⟨k,m,0,P,Ds,λ_=>none⟩:=⟨rfl,rfl,rfl,H.6,H.7,λi hi=>Qw,λi hi=>⟨rfl,rfl⟩,λi=>rfl⟩;have U:=ZM au aw;clear au aw;go_loopw [27] (λkv wr=>∃ (t:Nat) (V:Ev),t<=n/\kv=(t:Int)/\QG B ⟨n,p,s,ms,c,xs,ds⟩ (Wx ⟨n,p,s,ms,c,xs,ds⟩ Ls (λi=>[xs i])) V w1 wr/\FmS K ⟨k,m,0,P,Ds,λ_=>none⟩ t V) (λkv _=>n- (intOf kv).toNat)
 .exact⟨0,_,Qw,rfl,QG.refl U.1,U.2⟩
 obtain⟨t,V,cu,rfl,F,hF⟩:=hrel;have HR:=ZM F hF;by_cases J:t<n
 .have ai:Ty w1:=H.4.below H1.2;have bm:=QG.ty F U.1 ai bf;have⟨bl1,e1,g1,f1⟩:=F;have he:=e1;obtain⟨cr,ct, -,bh⟩:=e1;have⟨hM,aq⟩:=hF.rest t (Zt _);have⟨M,O⟩:=H.5 t J;have bg:=(bh.pd t J).ok;have h:V.Ds t=Ds t:=aq;have⟨n1,n2⟩:=hF.next hK bg (by rw[h];exact M) (by rw[h];exact O)
  have hb:=
   Z13 B wr ⟨n,p,s,ms,c,xs,ds⟩ V bl1 K t 0 he bm bf J hM hK (by rw[hF.k];exact aj) (by rw[hF.m];exact ak) Qw (by rw[h];exact O) (by rw[h];exact M) n1
  have:(t:Int)<(n:Int):=Qw;have Z:=ZQ hb n1 n2 he g1 f1;clear hb n1 n2 he g1 f1 bh hF hM aq h bg M O bm ai;go_wp2_with (go_at_call 48;go_fit Z.1;rintro e w2 ⟨rfl,ay⟩;have R2:=ZI (QG.trans Z.2.2.2 ay);clear ay);go_roundw
  .exact⟨t+1,_,Qw,QC,R2.o,Z.2.2.1⟩
  simp[intOf];omega
 .obtain rfl:t=n:=by omega
  clear F hF;go_wp2;go_ret2;exact⟨s,rfl,ms,c,xs,V,w1,H1.2,HR.1,HR.2,H1.3,H1.4⟩
variable{b bs gl:Nat}{l:List Chg}{ts:List Bs}{tv:Value}
structure XX(w:Qs)(bs k m:Nat)(gl:Nat)(l:List Chg):Prop where
 low:bs<=gl
 at_:∀q (h:q<l.length),w.cell? ⟨gl,q*3,none⟩=some (.string (str l[q].key))/\w.cell? ⟨gl,q*3+1,none⟩=some (.int .i64 ((l[q].val.getD []).length:Int))/\
  match l[q].val with
  |none=>w.cell? ⟨gl,q*3+2,none⟩=some (.slice none 0 0)
  |some v=>∃g o c,w.cell? ⟨gl,q*3+2,none⟩=some (.slice (some ⟨g,o,none⟩) (k+m) c)/\bs<=g/\∀i,i<k+m->w.cell? ⟨g,o+i,none⟩=some (.string (str (shT k m v i)))
def XX.fr(h:XX w bs k m gl l){X:Qj}(M:Fr X w w')(Z:∀k∈X,k<bs∨w.heap.size<=k):XX w' bs k m gl l:=by
 have key:∀{g o:Nat} {v:Qt},bs<=g->w.cell? ⟨g,o,none⟩=some v->w'.cell? ⟨g,o,none⟩=some v:=fun{g} {o} {v} hg hc=>by have C:=Z9 w _ hc;have O:g∉X:=QA;unfold World.cell? at hc⊢;rw[M.block _ C O];exact hc
 refine⟨h.low,λq U=> ?_⟩;have⟨F,a2,a3⟩:=h.at_ q U;refine⟨key h.low F,key h.low a2,?_⟩;split
 .rename_i e;rw[e] at a3;exact key h.low a3
 .rename_i v e;rw[e] at a3;have⟨g,o,c,b1,b2,J⟩:=a3;exact⟨g,o,c,key h.low b1,b2,λi hi=>key b2 (J i hi)⟩
def XX.after(h:XX w bs k m gl l)(hb:Below w w w'):XX w' bs k m gl l:=h.fr (Z1 (L:=[]) hb) Qx
structure FiS(w:Qs)(bs b k m g gl:Nat)(l:List Chg)(tv:Qt)(ts:List Bs)(av:Qt)(Zan:List Ac)(wr:Qs):Prop where
 c0:wr.cell? b=(k:Int)
 c1:wr.cell? ⟨b,1,none⟩=(m:Int)
 c3:wr.cell? ⟨b,3,none⟩=(g:Int)
 ch:XX wr bs k m gl l
 ts:Strs wr w tv ts
 own:JK wr w av Zan
 bel:Below w w wr
def FiS.after{Zan:List Ac}(h:FiS w bs b k m g gl l tv ts av Zan wr)(hb:Below wr wr w'):FiS w bs b k m g gl l tv ts av Zan w':=by have key:∀{p:Addr} {v:Qt},wr.cell? p=some v->w'.cell? p=some v:=λh=>(hb.cell (Z9 wr _ h)).trans h;exact⟨key h.c0,key h.c1,key h.c3,h.ch.after hb,h.ts.after hb,Jr h.own hb,h.bel.trans (hb.mono h.bel.size)⟩
def FiS.grow{Zan:List Ac}(h:FiS w bs b k m g gl l tv ts av Zan wr)(hold:b<w/\XX w bs k m gl l){X:Qj}(U:Fr X wr w')(O:∀q∈X,w.heap.size<=q){M:Qt}{J:List Bs}{F:Qt}{C:List Ac}(Z:Strs w' w M J)(ha:JK w' w F C):FiS w bs b k m g gl l M J F C w':=by
 have hb:Below w w w':=h.bel.trans (U.below h.bel.size O);have key:∀{o:Nat} {v:Qt},wr.cell? ⟨b,o,none⟩=some v->w'.cell? ⟨b,o,none⟩=some v:=fun{o} {v} hc=>by have:=h.bel.cell (p:=⟨b,o,none⟩) hold.1;have:=hb.cell (p:=⟨b,o,none⟩) hold.1;simp_all
 exact⟨key h.c0,key h.c1,key h.c3,hold.2.after hb,Z,ha,hb⟩
def FiS.Zd8{Zan:List Ac}(h:FiS w bs b k m g gl l tv ts av Zan wr)(hold:b<w/\XX w bs k m gl l){F:Qt}{C:List Bs}(U:Strs w' w F C)(J:Fr (QV tv) wr w'):FiS w bs b k m g gl l F C av Zan w':=
 h.grow hold J h.ts.ge U (JY h.own J (λq Z hm=>by
  have⟨x1,M⟩:=YS h.own q Z;have⟨x2,O⟩:=YS h.ts q hm
  exact Row.ne M O Qz rfl))
def FiS.ZcK{Zan:List Ac}(h:FiS w bs b k m g gl l tv ts av Zan wr)(hold:b<w/\XX w bs k m gl l){F:Qt}{C:List Ac}(U:JK w' w F C)(J:Fr (QV av) wr w'):FiS w bs b k m g gl l tv ts F C w':=
 h.grow hold J (Ai h.own) (JY h.ts J (λq Z hm=>by
  have⟨x1,M⟩:=YS h.ts q Z;have⟨x2,O⟩:=YS h.own q hm
  exact Row.ne M O Qz rfl)) U
def Z7k(key:Bs):(⟨#[115]⟩:Qq)++str key=str (nmS key):=by rfl
def Z0b(key:Bs)(h:key.length<=1000000):∀W,(Op.stringOp .add ⟨#[115]⟩ (str key)).run prog W=.ok (.string (str (nmS key))) W:=λW=>by rw[<-Z7k];exact ZdO _ ⟨#[115]⟩ (str key) (by have:(⟨#[115]⟩:Qq).size=1:=rfl;rw[QW];omega)
theorem P0(l:List Chg)(q:Nat)(h:q<l.length):Y4 (l.take (q+1))=Y4 (l.take q)++(match l[q].val with|none=>[l[q].key]|some _=>[]):=by rw[Zc h];unfold Y4;grind
theorem Z7j(k m i:Nat)(l:List Chg)(q:Nat)(h:q<l.length):(l.take (q+1)).filterMap (XU k m i)=(l.take q).filterMap (XU k m i)++(match l[q].val with|none=>[]|some v=>[⟨1,nmS l[q].key,[],shL k m i l[q].key v⟩]):=by rw[Zc h,ZfX,Zgj,List.filterMap_nil];congr 1;unfold XU;grind
def Z15(K:List Bs)(bs b k m i g gl cl:Nat)(l:List Chg)(w:Qs)(hK:KOk K)(hl:LOk K l)(fe:1<=k)(fq:k+m<=16)(hi:i<k+m)(hg:g<=4000000000)(c0:w.cell? b=(k:Int))(c1:w.cell? ⟨b,1,none⟩=(m:Int))(c3:w.cell? ⟨b,3,none⟩=(g:Int))(dm:XX w bs k m gl l)(fm:l.length<=cl):Calls prog 37 #[b,(i:Int),.slice gl l.length cl] w λe w'=>∃ga ca,e=.returned (.tuple #[.slice (ga:Nat) (Wg k m i g l).length ca,.nilIface])/\A8 w' ga 0 (Wg k m i g l)/\(Wg k m i g l).length<=ca/\w.heap.size<=ga/\Below w w w':=by
 have ae:=GE b k m i (g+1) w Qw Qw Qw Qw c0 c1;rw[show(((g+1:Nat)):Int)=(g:Int)+1 from Qw] at ae;have:=Zr ((g:Int)+1) Qw;have cz:b<w:=Z9 w _ c0;have dq:∀c∈l,c.key.length<=11:=λc hc=>(hK.len _ (hl.key c hc)).2;have:=hl.few;have cn:=ML hK (g:=g+1) hl;have H:=Q0 ae dm hl cz dq cn;have bj:∀W,Calls prog 80 #[((g:Int)+1:Int)] W λe w'=>e=.returned (.string (s32 (g+1)))/\Below W.heap.size W w':=λW=>by have h9:=Ea (g+1) Qw W;rw[show(((g+1:Nat)):Int)=(g:Int)+1 from Qw] at h9;exact h9
 have HN:=ZI bj;go_enter func37,ntmps37;go_wp2_with (first|(go_at_call 79;go_fit H.1;rintro e w1 ⟨rfl,ay⟩;have d0:=(ay.cell (Z9 _ _ c0)).trans c0;have d1:=(ay.cell (Z9 _ _ c1)).trans c1;have d3:=(ay.cell (Z9 _ _ c3)).trans c3;have R1:=ZI ay)|(go_at_call 80;go_fit (HN.o _);rintro e w2 ⟨rfl,az⟩;have R2:=ZI az)|(go_at_call 81;go_fit (GS _ _ _);rintro e w3 ⟨rfl,af⟩;have M:=ZI af));have ef:=R1.o.size;have eh:=R2.o.size;have ek:=M.o.size;have du:Strs (w2.alloc (.cells #[.string (s32 (g+1))] 9)) w (.slice (some ⟨w2,0,none⟩) 1 1) [QI (g+1)]:=⟨rfl,Zy ⟨w2.heap.size,1,#[.string (s32 (g+1))],rfl,Qw,ZB w2 _,Zt _,by simp[maxLen],rfl,rfl⟩⟩;have dw:JK (w3.alloc (.cells #[(1:Int),.string ⟨#[110]⟩,.string ⟨#[]⟩,.string (str (YQ k m i (g+1)))] 151)) w (.slice (some ⟨w3,0,none⟩) 1 1) [⟨1,nmN,[],YQ k m i (g+1)⟩]:=⟨rfl,Zy ⟨w3.heap.size,1,#[.int .i64 1,.string ⟨#[110]⟩,.string ⟨#[]⟩,.string (str (YQ k m i (g+1)))],rfl,by simp at ek;omega,ZB w3 _,Zt _,by simp[maxLen],rfl,rfl⟩⟩;have cy:Below w w (w3.alloc (.cells #[(1:Int),.string ⟨#[110]⟩,.string ⟨#[]⟩,.string (str (YQ k m i (g+1)))] 151)):=by have h2:=R1.o.trans (R2.o.mono ef);have h3:=h2.trans (((Zu w2 w2).alloc (Zt _) (.cells #[.string (s32 (g+1))] 9)).mono h2.size);have h4:=h3.trans (M.o.mono h3.size);exact h4.trans (((Zu w3 w3).alloc (Zt _) _).mono h4.size)
 have I0:FiS w bs b k m g gl l (.slice (some ⟨w2,0,none⟩) 1 1) [QI (g+1)] (.slice (some ⟨w3,0,none⟩) 1 1) [⟨1,nmN,[],YQ k m i (g+1)⟩] (w3.alloc (.cells #[(1:Int),.string ⟨#[110]⟩,.string ⟨#[]⟩,.string (str (YQ k m i (g+1)))] 151)):=by
  have cw:Below w1 w1 (w3.alloc (.cells #[(1:Int),.string ⟨#[110]⟩,.string ⟨#[]⟩,.string (str (YQ k m i (g+1)))] 151)):=by have h3:=R2.o.trans (((Zu w2 w2).alloc (Zt _) (.cells #[.string (s32 (g+1))] 9)).mono eh);have h4:=h3.trans (M.o.mono h3.size);exact h4.trans (((Zu w3 w3).alloc (Zt _) _).mono h4.size)
  have key:∀{p:Addr} {v:Qt},w1.cell? p=some v->(w3.alloc (.cells #[(1:Int),.string ⟨#[110]⟩,.string ⟨#[]⟩,.string (str (YQ k m i (g+1)))] 151)).cell? p=some v:=λh=>(cw.cell (Z9 w1 _ h)).trans h;exact⟨key d0,key d1,key d3,H.2.after cy,(du.after M.o).after ((Zu w3 w3).alloc (Zt _) _),dw,cy⟩
 have HI:=ZI I0;have⟨tb,df⟩:=ZK w2.heap.size;have⟨ab,cu⟩:=ZK w3.heap.size;rw[df,cu] at HI;rw[df,cu];go_loopw [10,11,43] (λtv av kv wr=>∃q:Nat,q<=l.length/\kv=(q:Int)/\FiS w bs b k m g gl l tv (QI (g+1)::Y4 (l.take q)) av (⟨1,nmN,[],YQ k m i (g+1)⟩::(l.take q).filterMap (XU k m i)) wr) (λ_ _ kv _=>l.length- (intOf kv).toNat)
 .exact⟨0,Qw,rfl,HI.o⟩
 obtain⟨q,hq,rfl,hS⟩:=hrel;have HS:=ZI hS;by_cases bg:q<l.length
 .have⟨a1,a2,a3⟩:=hS.ch.at_ q bg;have hx:=H.5 _ (Zl bg);have aq:=H.3.val _ (Zl bg);have aj:=P0 l q bg;have ak:=Z7j k m i l q bg;have:(q:Int)<(l.length:Int):=Qw;have⟨c,hc⟩:=ZK l[q];rw[hc] at a1 a2 a3 hx aq aj ak;have⟨key,val⟩:=c;simp only at a1 a2 a3 hx aq aj ak;cases val with
  |none=>
   simp[ZgQ,Zes,ZdJ] at a2 a3 aj ak;have fg:∀W,(binOp .eql 96 (.slice none 0 0) (.slice none 0 0)).run prog W=.ok (.bool true) W:=λ_=>Qy;have bf:(QI (g+1)::Y4 (l.take q)).length<=1000000:=by
    have h1:(Y4 (l.take q)).length<=(l.take q).length:=by unfold Y4;exact Zee _ _
    rw[Zg] at h1;simp[Ze];omega
   have Z:=(hS.after ((Zu wr wr).alloc (Zt _) (.cells #[key,(0:Int),()] 98))).after ((Zu _ _).alloc (Zt _) (.cells #[key] 9));have bh:((wr.alloc (.cells #[key,(0:Int),()] 98)).alloc (.cells #[key] 9)).heap[wr.heap.size+1]? =some (.cells #[key] 9 (0,0)):=by have h9:=ZB (wr.alloc (.cells #[key,(0:Int),()] 98)) (.cells #[key] 9);simpa using h9
   have F:=ZP aj ak Z bf bh;go_wp2_with (at_builtin;refine CY _ rfl (.tmp 50) (.tmp 53) rfl w.heap.size _ (QI (g+1)::Y4 (l.take q)) rfl F.2.2.1.ts (wr.heap.size+1) key rfl F.2.2.2.2 F.2.2.1.bel.size F.2.2.2.1 ?_;intro g2 ai w2 ho hf _;have S3:=ZI (F.2.2.1.Zd8 ⟨H.4,H.2⟩ ho hf));go_roundw
   .exact⟨q+1,Qw,QC,by rw[F.1,F.2.1];exact S3.o⟩
   simp[intOf];omega
  |some v=>
   simp[Ze7] at a2;have⟨O,U,sc,s1,s2,s3⟩:=a3;have aq:=aq v rfl;have ct:=s3 i hi;have⟨nn,dt⟩:=ZK (k+m);rw[dt] at s1;have:(i:Int)<(nn:Int):=Qw;have:i<nn:=Qw;have:i<=nn:=Qw;have:¬nn=i:=Qw;have:i<=4294967295:=Qw;have fg:∀W,(binOp .eql 96 (.slice (some ⟨O,U,none⟩) nn sc) (.slice none 0 0)).run prog W=.ok (.bool false) W:=λ_=>Qy;have:=Br key Qw;have:=Z0b key Qw;have bz:=(DN (m:=m) (i:=i) (key:=key) fe aq).2;have⟨X,hX⟩:=ZK (str (shT k m v i));have⟨J,au⟩:=ZK v.length;have dx:∀W:Qs,Calls prog 82 #[.string (str (nmD key)),.slice (some ⟨W.heap.size,0,none⟩) 3 3] (W.alloc (.cells #[.string (s32 i),.string (s32 J),.string X] 9)) λe w'=>e=.returned (.tuple #[.string (str (shL k m i key v)),.nilIface])/\Below (W.alloc (.cells #[.string (s32 i),.string (s32 J),.string X] 9)).heap.size (W.alloc (.cells #[.string (s32 i),.string (s32 J),.string X] 9)) w':=λW=>by have h9:=Z2 W 9 [.string (s32 i),.string (s32 J),.string X];rw[<-hX,<-au] at h9⊢;exact Ii (nmD key) (by simp[nmD];omega) W.heap.size 3 [QI i,QI v.length,shT k m v i] [] _ h9 bz
   rw[hX] at ct;rw[au] at a2 aq;have:J<=4294967295:=Qw;have aw:((⟨1,nmN,[],YQ k m i (g+1)⟩:Ac)::(l.take q).filterMap (XU k m i)).length<=1000000:=by have h1:=Zee (XU k m i) (l.take q);rw[Zg] at h1;simp[Ze];omega
   have Z:=hS.after ((Zu wr wr).alloc (Zt _) (.cells #[key,(J:Int),.slice (some ⟨O,U,none⟩) nn sc] 98));have bm:=Z2 wr 98 [.string (str key),.int .i64 (J:Int),.slice (some ⟨O,U,none⟩) nn sc];have cj:(wr.alloc (.cells #[key,(J:Int),.slice (some ⟨O,U,none⟩) nn sc] 98)).cell? ⟨O,U+i,none⟩=some (.string X):=by have hb:=(Zu wr wr).alloc (Zt _) (.cells #[key,(J:Int),.slice (some ⟨O,U,none⟩) nn sc] 98);exact(hb.cell (Z9 wr _ ct)).trans ct
   have F:=ZR aj ak Z aw dx bm cj;go_wp2;have⟨y,hy⟩:=ZK wr.heap.size;have b0:=F.2.2.2.2.2.1.c0;have b1:=F.2.2.2.2.2.1.c1;have b2:=F.2.2.2.2.2.1.c2;have b3:=F.2.2.2.2.2.2;have Z:=F.2.2.1;rw[hy] at b0 b1 b2;rw[hy];generalize wr.alloc (.cells #[key,(J:Int),.slice (some ⟨O,U,none⟩) nn sc] 98)=wa at*
   have eo:=ZI Z;have de:∀A C:Qs,(A.cell? y=key/\A.cell? ⟨y,1,none⟩=(J:Int)/\A.cell? ⟨y,2,none⟩=some (.slice (some ⟨O,U,none⟩) nn sc)/\A.cell? ⟨O,U+i,none⟩=some (.string X)/\Below wa wa A)->Below A A C->(C.cell? y=key/\C.cell? ⟨y,1,none⟩=(J:Int)/\C.cell? ⟨y,2,none⟩=some (.slice (some ⟨O,U,none⟩) nn sc)/\C.cell? ⟨O,U+i,none⟩=some (.string X)/\Below wa wa C):=by rintro A C ⟨h0,h1,h2,h3,h7⟩ hb;have key:∀{p:Addr} {v:Qt},A.cell? p=some v->C.cell? p=some v:=λh=>(hb.cell (Z9 A _ h)).trans h;exact⟨key h0,key h1,key h2,key h3,h7.trans (hb.mono h7.size)⟩
   have hs0:=de wa wa.drew ⟨b0,b1,b2,b3,Zu _ _⟩ ((Zu _ _).drew);have HK:=ZI de;have HE:=ZI F.2.2.2.2.1;go_region_held3 (λx=>x.cell? y=key/\x.cell? ⟨y,1,none⟩=(J:Int)/\x.cell? ⟨y,2,none⟩=some (.slice (some ⟨O,U,none⟩) nn sc)/\x.cell? ⟨O,U+i,none⟩=some (.string X)/\Below wa wa x) (first|assumption|exact hs0|(exact HK.o _ _ (by assumption) ((Zu _ _).alloc (Zt _) _))|(exact HK.o _ _ (by assumption) (by assumption)))
    (first|(go_at_call 80;go_fit (Ea _ (by assumption) _);rintro e w8 ⟨rfl,fi⟩)|(go_at_call 82;go_fit (HE.o _);rintro e w9 ⟨rfl,fj⟩))
   rename_i hHeld;obtain⟨h0, -, -, -,h7⟩:=hHeld;have S5:=ZI (eo.o.after h7);go_wp2_with (first|(go_at_call 81;(skip;go_fit (GS _ _ _);rintro e w3 ⟨rfl,af⟩;have bu:=(S5.o.after af).after ((Zu w3 w3).alloc (Zt _) (.cells #[(1:Int),.string (str (nmS key)),.string ⟨#[]⟩,.string (str (shL k m i key v))] 151));have bq:Row (w3.alloc (.cells #[(1:Int),.string (str (nmS key)),.string ⟨#[]⟩,.string (str (shL k m i key v))] 151)) w3 151 (AcC ⟨1,nmS key,[],shL k m i key v⟩):=Z2 w3 _ _;have M:=ZM bu bq))|(at_builtin;refine Gm _ rfl (.tmp 76) (.tmp 82) rfl w.heap.size _ (⟨1,nmN,[],YQ k m i (g+1)⟩::(l.take q).filterMap (XU k m i)) rfl M.1.own w3.heap.size ⟨1,nmS key,[],shL k m i key v⟩ rfl M.2 M.1.bel.size F.2.2.2.1 ?_;intro g2 ai w4 ho hf _ _ _;have S4:=ZI (M.1.ZcK ⟨H.4,H.2⟩ ho hf)));go_roundw
   .exact⟨q+1,Qw,QC,by rw[F.1,F.2.1,ZdJ];exact S4.o⟩
   simp[intOf];omega
 .obtain rfl:q=l.length:=by omega
  rw[Zs] at HS;obtain⟨tg,tc,sp,rfl,fh,fu,fw,dy⟩:=Xf HS.o.ts Qx;have ah:=Ii nmT Qz tg tc (QI (g+1)::Y4 l) sp wr dy H.6.2;have aw:((⟨1,nmN,[],YQ k m i (g+1)⟩:Ac)::l.filterMap (XU k m i)).length<=1000000:=by have h1:=Zee (XU k m i) l;simp[Ze];omega
  have F:=ZM ah aw;go_wp2_with (first|(go_at_call 82;go_fit F.1;rintro e w2 ⟨rfl,az⟩;have R2:=ZI (HS.o.after az))|(go_at_call 81;go_fit (GS _ _ _);rintro e w3 ⟨rfl,af⟩;have bu:=(R2.o.after af).after ((Zu w3 w3).alloc (Zt _) (.cells #[(1:Int),.string ⟨#[116]⟩,.string ⟨#[]⟩,.string (str (AN (g+1) (Y4 l)))] 151));have bq:Row (w3.alloc (.cells #[(1:Int),.string ⟨#[116]⟩,.string ⟨#[]⟩,.string (str (AN (g+1) (Y4 l)))] 151)) w3 151 (AcC ⟨1,nmT,[],AN (g+1) (Y4 l)⟩):=Z2 w3 _ _;have M:=ZM bu bq)|(at_builtin;refine Gm _ rfl (.tmp 90) (.tmp 93) rfl w.heap.size _ (⟨1,nmN,[],YQ k m i (g+1)⟩::l.filterMap (XU k m i)) rfl M.1.own w3.heap.size ⟨1,nmT,[],AN (g+1) (Y4 l)⟩ rfl M.2 M.1.bel.size F.2 ?_;intro g2 ai w4 ho hf _ _ dp;have S4:=ZM (M.1.ZcK ⟨H.4,H.2⟩ ho hf) dp));go_ret2;have⟨g3,er,dz,ew,dh,ag⟩:=S4.1.own.row Qx;have e9:(⟨1,nmN,[],YQ k m i (g+1)⟩::l.filterMap (XU k m i))++[(⟨1,nmT,[],AN (g+1) (Y4 l)⟩:Ac)]=Wg k m i g l:=rfl;rw[e9] at dz dh ag;injection dz with hv31 hv32 hv33;have cr:=ZF (λ(a:Qm)=>a.map Addr.block) hv31;simp[ZeO,ZdC] at cr;subst cr hv33;refine⟨g2,ai,?_,ag,dh,S4.2,S4.1.bel⟩;rw[<-hv32];rfl
