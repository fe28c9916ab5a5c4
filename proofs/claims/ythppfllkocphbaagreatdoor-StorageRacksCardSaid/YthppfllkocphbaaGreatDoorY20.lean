/- Part 21: lemmas about what the program computes. -/
import Derived.Test.YthppfllkocphbaaGreatDoorY12
import Derived.Test.YthppfllkocphbaaGreatDoorY19
namespace Go.Proofs.YthppfllkocphbaaGreatDoor
set_option linter.unusedVariables false
set_option linter.unusedSimpArgs false
set_option maxHeartbeats 25600000
set_option maxRecDepth 100000
open Tryz
section
open Go.RowKit Go.Shelf
theorem Ci(n:Nat)(h:n<=4294967295)(w:World):Calls prog 80 #[.int .i64 n] w λe w'=>e=.returned (.string (s32 n))/\Below w.heap.size w w':=by go_enter func80,ntmps80;go_wp2_with (go_at_call 125;refine(NV n h _).mono ?_;rintro e w' ⟨rfl,C⟩);go_ret;simp_all
theorem Dl(s:ByteArray)(h:s.size=4)(w:World):Calls prog 111 #[.string s] w λe w'=>e=.returned (.int .i64 (Yw s.data.toList:Int))/\Below w.heap.size w w':=by rw[O8 s h];obtain⟨e1,e2,F,J,M,O,U,Z,e9,C⟩:=Er s[0].toNat s[1].toNat s[2].toNat s[3].toNat s[0].toNat_lt s[1].toNat_lt s[2].toNat_lt s[3].toNat_lt;go_enter func111,ntmps111;go_wp2;go_quiet (fail);go_wp2;go_ret;exact⟨La (Cw (by omega)),Zv Z5E _⟩
theorem EC(name:Bs)(J:name.length<=220)(g c:Nat)(l:List Bs)(sp:List Value)(w:World)(h:Row w g 9 (Z7 (l.map str)++sp))(O:(Zz l).length<=9000):Calls prog 82 #[.string (str name),.slice (some ⟨g,0,none⟩) l.length c] w λe w'=>e=.returned (.tuple #[.string (str (Yo name (Zz l))),.nilIface])/\Below w.heap.size w w':=by
 have M:(Zz l).length<=60000:=by omega
 go_enter func82,ntmps82;go_wp2_with (first|(go_at_call 126;refine(Bu g c l sp _ h M).mono ?_;rintro e w1 ⟨rfl,C⟩;have S1:=Z5F C;clear C)|(go_at_call 127;refine(Z27 name (Zz l) _ J O).mono ?_;rintro e w2 ⟨rfl,F⟩;have U:=Z5F (S1.out.trans (F.mono S1.out.size));clear F));go_ret2;exact⟨rfl,U.out⟩
end
section
variable{H:Bs->Option Bs}{T:Tab}{a:Ac}{b l:List Ac}{d:Dir}{g i k m:Nat}{ns xs:List Bs}{x:Bs}
def nmC:Bs:=[33]
def nmN:Bs:=[110]
def nmT:Bs:=[116]
def nmS(key:Bs):Bs:=115::key
def nmD(key:Bs):Bs:=100::key
def Oz:Bs:=[115,101,116]
def Qq(k m i g:Nat):Bs:=Yo nmC (Zz [Oz,Z4 k,Z4 m,Z4 i,Z4 g])
def shT(k m:Nat)(v:Bs)(i:Nat):Bs:=((Zs k m (str v)).getD i ⟨#[]⟩).data.toList
def shL(k m i:Nat)(key v:Bs):Bs:=Yo (nmD key) (Zz [Z4 i,Z4 v.length,shT k m v i])
def BH(g:Nat)(gone:List Bs):Bs:=Yo nmT (Zz (Z4 g::gone))
structure Chg where
 key:Bs
 val:Option Bs
def YM(k m i:Nat)(c:Chg):Option Ac:=c.val.map λv=>⟨1,nmS c.key,[],shL k m i c.key v⟩
def Zu(l:List Chg):List Bs:=l.filterMap λc=>match c.val with|none=>some c.key|some _=>none
def QL(k m i g:Nat)(l:List Chg):List Ac:=⟨1,nmN,[],Qq k m i (g+1)⟩::(l.filterMap (YM k m i)++[⟨1,nmT,[],BH (g+1) (Zu l)⟩])
def isS(n:Bs):Bool:=n.head? ==some 115
def mv1(n:Bs):Ac:=⟨3,n,100::n.drop 1,[]⟩
def dr1(n:Bs):Ac:=⟨2,n,[],[]⟩
def Q0(d:Dir)(gone:List Bs):List Ac:=(d.names.filter isS).map mv1++((gone.filter λkey=>(d.get (nmD key)).isSome).map λkey=>dr1 (nmD key))++[⟨3,nmN,nmC,[]⟩,dr1 nmT]
def acts0(d:Dir):List Ac:=(d.names.filter isS).map dr1++([nmN,nmT].filter λn=>(d.get n).isSome).map dr1
def upH(H:Bs->Option Bs)(l:List Chg):Bs->Option Bs:=λkey=>match l.find? (λc=>c.key==key) with
 |some c=>c.val
 |none=>H key
theorem Dp(h:∀a∈l,a.kind=1){m:Bs}(hm:∀a∈l,a.name≠m):∀T:Tab,l.foldl Ac.on T m=T m:=by
 induction l with
 |nil=>intro T;rfl
 |cons a r ih=>intro T;rw[Z5B,ih (λb C=>h b (by grind)) (λb C=>hm b (by grind))];unfold Ac.on;grind
theorem Do(C:∀a∈l,a.kind=1)(h:(l.map (·.name)).Nodup){a:Ac}(ha:a∈l):∀T:Tab,l.foldl Ac.on T a.name=some (some a.value):=by
 induction l with
 |nil=>cases ha
 |cons b r ih=>
  intro T;rw[Z5t,List.nodup_cons] at h;rw[Z5B];rcases Z5q.1 ha with rfl|ha
  .rw[Dp (λb F=>C b (by grind)) (λb F e=>h.1 (by simp_all))];unfold Ac.on;simp_all
  .simp_all
theorem Ik{m:Bs}:∀T:Tab,(ns.map dr1).foldl Ac.on T m=if m∈ns then none else T m:=by
 induction ns with
 |nil=>intro T;simp
 |cons n r ih=>
  intro T;rw[Z5t,Z5B,ih];by_cases h:m∈r
  .grind
  .rw[if_neg h];show(if m=n then none else T m)=_;simp_all
theorem FL(T:Tab)(x m:Bs):(mv1 (nmS x)).on T m=if m=nmD x then T (nmS x) else if m=nmS x then none else T m:=rfl
theorem Il(C:xs.Nodup){m:Bs}:∀T:Tab,((xs.map nmS).map mv1).foldl Ac.on T m=match m with
  |100::x=>if x∈xs then T (nmS x) else T m
  |115::x=>if x∈xs then none else T m
  |_=>T m:=by
 induction xs with
 |nil=>intro T;simp;split<;>rfl
 |cons y r ih=>
  intro T;rw[List.nodup_cons] at C;rw[Z5t,Z5t,Z5B,ih C.2];split
  .rename_i x;rw[FL,FL];by_cases hx:x∈r
   .have h:x≠y:=λe=>C.1 (e▸hx);rw[if_pos hx,if_neg (by simp[nmS,nmD]),if_neg (by simp[nmS];exact h),if_pos (by grind)]
   .rw[if_neg hx];by_cases h:x=y
    .subst h;simp[nmD]
    .rw[if_neg (by simp[nmD];exact h),if_neg (by simp[nmS]),if_neg (by simp_all)]
  .rename_i x;rw[FL];by_cases hx:x∈r
   .grind
   .rw[if_neg hx,if_neg (by simp[nmD])];by_cases h:x=y
    .subst h;simp[nmS]
    .rw[if_neg (by simp[nmS];exact h),if_neg (by simp_all)]
  .rename_i F J;rw[FL,if_neg (show¬m=nmD y from λe=>F _ e),if_neg (show¬m=nmS y from λe=>J _ e)]
def JI:Tab->List Ac->Prop
 |_,[]=>True
 |T,a::r=>T a.name≠none/\(a.kind=2∨(a.kind=3/\a.to≠a.name))/\JI (a.on T) r
theorem F4{a:List Ac}:∀{T:Tab},JI T a->JI (a.foldl Ac.on T) b->JI T (a++b):=by
 induction a with
 |nil=>intro T _ h;exact h
 |cons x r ih=>intro T h k;exact⟨h.1,h.2.1,ih h.2.2 k⟩
theorem Pj:∀{k:Nat} {d:Dir} {T:Tab},(∀m,d.get m=none↔T m=none)->JI T l->∃F,Qi l k d []=some (F,[])/\∀m,F.get m=none↔l.foldl Ac.on T m=none:=by
 induction l with
 |nil=>intro k d T h _;exact⟨d,rfl,h⟩
 |cons a r ih=>
  intro k d T h ho;obtain⟨h1,C,Z⟩:=ho;have hg:d.get a.name≠none:=by simp_all
  obtain⟨e,he⟩:∃e,d.get a.name=some e:=by
   cases hd:d.get a.name with
   |none=>exact absurd hd hg
   |some e=>exact⟨e,rfl⟩
  rcases C with C|⟨C,ae⟩
  .obtain⟨F,M,O⟩:=ih (k:=k+1) (d:=d.del a.name) (T:=a.on T) (λm=>by
    unfold Ac.on;rw[C,Dir.get_del];simp only;by_cases hm:m=a.name
    .grind
    .rw[if_neg hm,if_neg hm];exact h m) Z
   refine⟨F,?_,O⟩;have J:Wh k a d []=some (d.del a.name,[]):=by unfold Wh;rw[C];simp only;rw[he];rfl
   rw[Qi,J];exact M
  .obtain⟨F,M,O⟩:=ih (k:=k+1) (d:=(d.del a.name).put a.to e) (T:=a.on T) (λm=>by
    unfold Ac.on;rw[C,Dir.get_put,Dir.get_del];simp only;by_cases hm:m=a.to
    .simp_all
    .rw[if_neg hm,if_neg hm];by_cases U:m=a.name
     .simp_all
     .rw[if_neg U,if_neg U];exact h m) Z
   refine⟨F,?_,O⟩;have J:Wh k a d []=some ((d.del a.name).put a.to e,[]):=by unfold Wh;rw[C];simp only;rw[he];simp only;rw[if_neg (by simp[Z1.has,ae])];rfl
   rw[Qi,J];exact M
theorem GS(F:∀a∈l,a.kind=1):∀ (k:Nat) (d:Dir) (f:Z1),∃C f',Qi l k d f=some (C,f'):=by
 induction l with
 |nil=>intro k d f;exact⟨d,f,rfl⟩
 |cons a r ih=>
  intro k d f;obtain⟨C,f',h⟩:=ih (λb M=>F b (by grind)) (k+1) ((d.del a.name).put a.name ⟨a.value.length,Wt a.value,[]⟩) (f.del a.name++[(a.name,k)]);refine⟨C,f',?_⟩;have J:Wh k a d f=some ((d.del a.name).put a.name ⟨a.value.length,Wt a.value,[]⟩,f.del a.name++[(a.name,k)]):=by unfold Wh;rw[F a (by simp)];rfl
  rw[Qi,J];exact h
theorem Mr{a:List Ac}:∀{k:Nat} {d:Dir} {f:Z1},Qi (a++b) k d f=match Qi a k d f with
  |some (d',f')=>Qi b (k+a.length) d' f'
  |none=>none:=by
 induction a with
 |nil=>intro k d f;rfl
 |cons x r ih=>intro k d f;rw[List.cons_append,Qi,Qi];grind
theorem GR(ha:a.kind=1){k:Nat}{d C:Dir}{f f':Z1}(h:Qi (l++[a]) k d f=some (C,f')):f'.by a.name≠none/\C.get a.name≠none:=by
 rw[Mr] at h;split at h
 .rename_i d1 f1 J;have F:Wh (k+l.length) a d1 f1=some ((d1.del a.name).put a.name ⟨a.value.length,Wt a.value,[]⟩,f1.del a.name++[(a.name,k+l.length)]):=by unfold Wh;rw[ha];rfl
  rw[Qi,F] at h;obtain⟨rfl,rfl⟩:=h;rw[Z1.by_append,Z1.by_del,if_pos rfl,Dir.get_put,if_pos rfl];simp[Z1.by]
 .grind
structure Xn(k m i g:Nat)(H:Bs->Option Bs)(T:Tab):Prop where
 card:T nmC=some (some (Qq k m i g))
 next:T nmN=none
 under:T nmT=none
 staged:∀x,T (nmS x)=none
 none_:∀x,H x=none->T (nmD x)=none
 some_:∀x v,H x=some v->T (nmD x)=none∨T (nmD x)=some none∨T (nmD x)=some (some (shL k m i x v))
 other:∀n,T n≠none->n=nmC∨∃x,n=nmD x
def BL(k m i:Nat)(H:Bs->Option Bs)(T:Tab):Prop:=∀x v,H x=some v->T (nmD x)=some (some (shL k m i x v))
structure Mid(k m i g:Nat)(H:Bs->Option Bs)(l:List Chg)(T T1:Tab):Prop where
 next:T1 nmN=some (some (Qq k m i (g+1)))
 under:T1 nmT=some (some (BH (g+1) (Zu l)))
 staged:∀c∈l,∀v,c.val=some v->T1 (nmS c.key)=some (some (shL k m i c.key v))
 bare:∀x,(∀c∈l,c.key=x->c.val=none)->T1 (nmS x)=none
 rest:∀n,n≠nmN->n≠nmT->(∀x,n≠nmS x)->T1 n=T n
theorem XZ{c:Chg}(h:YM k m i c=some a):∃v,c.val=some v/\a=⟨1,nmS c.key,[],shL k m i c.key v⟩:=by
 unfold YM at h;cases hv:c.val with
 |none=>rw[hv] at h;cases h
 |some v=>rw[hv] at h;exact⟨v,rfl,(Option.some.inj h).symm⟩
theorem IB{l:List Chg}:∀a∈QL k m i g l,a.kind=1:=by
 intro a ha;unfold QL at ha;simp at ha;rcases ha with rfl|⟨c,_,hc⟩|rfl
 .rfl
 .obtain⟨v,_,rfl⟩:=XZ hc;rfl
 .rfl
theorem Rm{l:List Chg}(h:(l.map (·.key)).Nodup):((l.filterMap (YM k m i)).map (·.name)).Nodup:=by
 induction l with
 |nil=>simp
 |cons c r ih=>
  rw[Z5t,List.nodup_cons] at h;rw[List.filterMap_cons];cases hs:YM k m i c with
  |none=>exact ih h.2
  |some a=>obtain⟨v,hv,rfl⟩:=XZ hs;rw[Z5t,List.nodup_cons];refine⟨λhm=> ?_,ih h.2⟩;obtain⟨b,F,he⟩:=List.mem_map.1 hm;obtain⟨c2,J,C⟩:=List.mem_filterMap.1 F;obtain⟨v2,_,rfl⟩:=XZ C;have:c2.key=c.key:=(by simpa[nmS] using he);simp_all
theorem OV{l:List Chg}(J:(l.map (·.key)).Nodup):((QL k m i g l).map (·.name)).Nodup:=by
 unfold QL;rw[Z5t,Z5u,List.nodup_cons,List.nodup_append];have hs:∀n∈(l.filterMap (YM k m i)).map (·.name),∃x,n=nmS x:=λn hm=>by obtain⟨b,F,rfl⟩:=List.mem_map.1 hm;obtain⟨c2,O,C⟩:=List.mem_filterMap.1 F;obtain⟨v2,_,rfl⟩:=XZ C;grind
 refine⟨λhm=> ?_,Rm J,by simp,λx hx y h e=> ?_⟩
 .rcases Z5p.1 hm with hm|hm
  .obtain⟨x,hx⟩:=hs _ hm;simp[nmN,nmS] at hx
  .simp[nmN,nmT] at hm
 .obtain⟨z,M⟩:=hs _ hx;simp at h;subst h;subst M;simp[nmT,nmS] at e
theorem VL{l:List Chg}(M:(l.map (·.key)).Nodup)(h:Xn k m i g H T):Mid k m i g H l T ((QL k m i g l).foldl Ac.on T):=by
 have C:=IB (k:=k) (m:=m) (i:=i) (g:=g) (l:=l);have F:=OV (k:=k) (m:=m) (i:=i) (g:=g) M;have J:∀a∈QL k m i g l,a.name=nmN∨a.name=nmT∨∃c∈l,∃v,c.val=some v/\a=⟨1,nmS c.key,[],shL k m i c.key v⟩:=λa ha=>by
  unfold QL at ha;simp at ha;rcases ha with rfl|⟨c,hc,hs⟩|rfl
  .simp
  .obtain⟨v,hv,rfl⟩:=XZ hs;exact Or.inr (Or.inr ⟨c,hc,v,hv,rfl⟩)
  .simp
 refine⟨?_,?_,λc hc v hv=> ?_,λx hx=> ?_,λn n1 n2 O=> ?_⟩
 .exact Do C F (a:=⟨1,nmN,[],Qq k m i (g+1)⟩) (by unfold QL;simp) T
 .exact Do C F (a:=⟨1,nmT,[],BH (g+1) (Zu l)⟩) (by unfold QL;simp) T
 .refine Do C F (a:=⟨1,nmS c.key,[],shL k m i c.key v⟩) ?_ T;refine Z5n _ (List.mem_append_left _ (List.mem_filterMap.2 ⟨c,hc,?_⟩));unfold YM;rw[hv];rfl
 .rw[Dp C (λa ha e=> ?_)]
  .exact h.staged x
  .rcases J a ha with h9|h9|⟨c,hc,v,hv,rfl⟩
   .rw[h9] at e;simp[nmN,nmS] at e
   .rw[h9] at e;simp[nmT,nmS] at e
   .have:c.key=x:=(by simpa[nmS] using e);simp_all
 .rw[Dp C (λa ha e=> ?_)];grind
theorem Ab(n:Bs):isS n=true↔∃x,n=nmS x:=by
 unfold isS nmS;cases n with
 |nil=>simp
 |cons a r=>simp
theorem Cu(hs:d.Sorted):∃xs:List Bs,d.names.filter isS=xs.map nmS/\xs.Nodup/\∀x,x∈xs↔d.get (nmS x)≠none:=by
 have F:d.names.filter isS=((d.names.filter isS).map (List.drop 1)).map nmS:=by
  rw[List.map_map]
  conv=>lhs;rw[<-List.map_id (d.names.filter isS)]
  refine List.map_congr_left λn h=> ?_;obtain⟨x,rfl⟩:=(Ab n).1 (List.mem_filter.1 h).2;rfl
 have C:(d.names.filter isS).Nodup:=(Dir.names_nodup hs).sublist List.filter_sublist;refine⟨_,F,?_,λx=> ?_⟩
 .rw[F] at C;exact(List.pairwise_map.1 C).imp λO e=>O (by rw[e])
 .constructor
  .intro hx;obtain⟨n,h,rfl⟩:=List.mem_map.1 hx;obtain⟨J,M⟩:=List.mem_filter.1 h;obtain⟨y,rfl⟩:=(Ab n).1 M;exact Qy.1 J
  .intro hx;refine List.mem_map.2 ⟨nmS x,List.mem_filter.2 ⟨Qy.2 hx,(Ab _).2 ⟨x,rfl⟩⟩,rfl⟩
theorem Z1F:∀{T:Tab},xs.Nodup->(∀x∈xs,T (nmS x)≠none)->JI T ((xs.map nmS).map mv1):=by
 induction xs with
 |nil=>intro T _ _;trivial
 |cons y r ih=>intro T C h;rw[List.nodup_cons] at C;refine⟨h y (by simp),Or.inr ⟨rfl,by simp[mv1,nmS]⟩,ih C.2 λx hx=> ?_⟩;rw[FL,if_neg (by simp[nmS,nmD]),if_neg (by simp[nmS];exact λe=>C.1 (by simp_all))];simp_all
theorem NX:∀{T:Tab},ns.Nodup->(∀n∈ns,T n≠none)->JI T (ns.map dr1):=by
 induction ns with
 |nil=>intro T _ _;trivial
 |cons y r ih=>intro T C h;rw[List.nodup_cons] at C;refine⟨h y (by simp),Or.inl rfl,ih C.2 λn hx=> ?_⟩;show(if n=y then none else T n)≠none;grind
theorem Jh{l:List Chg}:x∈Zu l↔∃c∈l,c.key=x/\c.val=none:=by unfold Zu;grind
theorem Pv{l:List Chg}(h:(l.map (·.key)).Nodup):(Zu l).Nodup:=by
 induction l with
 |nil=>simp[Zu]
 |cons c r ih=>unfold Zu at ih⊢;grind
theorem C4{l:List Chg}(h:(l.map (·.key)).Nodup){c:Chg}(hc:c∈l):upH H l c.key=c.val:=by
 unfold upH
 induction l with
 |nil=>cases hc
 |cons b r ih=>grind
theorem Lj{l:List Chg}(h:∀c∈l,c.key≠x):upH H l x=H x:=by unfold upH;grind
theorem Z0W(T:Tab)(n:Bs):(dr1 nmT).on ((⟨3,nmN,nmC,[]⟩:Ac).on T) n=if n=nmT then none else if n=nmC then T nmN else if n=nmN then none else T n:=rfl
theorem Gy{l:List Chg}{C:Tab}(hn:(l.map (·.key)).Nodup)(hr:Xn k m i g H T)(hm:Mid k m i g H l T C)(hs:d.Sorted)(hd:∀n,d.get n=none↔C n=none):JI C (Q0 d (Zu l))/\Xn k m i (g+1) (upH H l) ((Q0 d (Zu l)).foldl Ac.on C)/\(BL k m i H T->BL k m i (upH H l) ((Q0 d (Zu l)).foldl Ac.on C)):=by
 obtain⟨xs,e1,e2,e3⟩:=Cu hs;have au:∀x,x∈xs↔C (nmS x)≠none:=λx=>by rw[e3,ne_eq,ne_eq,hd]
 obtain⟨ds,ah⟩:=Z5H ((Zu l).filter λkey=>(d.get (nmD key)).isSome);have bq:ds.Nodup:=by rw[<-ah];exact(Pv hn).sublist List.filter_sublist
 have ai:∀x,x∈ds↔(x∈Zu l/\C (nmD x)≠none):=λx=>by rw[<-ah,List.mem_filter,ne_eq,<-hd];cases d.get (nmD x)<;>simp
 have hA:Q0 d (Zu l)=((xs.map nmS).map mv1++(ds.map nmD).map dr1)++[⟨3,nmN,nmC,[]⟩,dr1 nmT]:=by unfold Q0;rw[e1,ah,List.map_map (f:=nmD)];rfl
 have af:∀x,x∈xs↔∃c∈l,c.key=x/\∃v,c.val=some v:=λx=>by
  rw[au];constructor
  .intro h;by_cases hx:∀c∈l,c.key=x->c.val=none
   .exact absurd (hm.bare x hx) h
   .simp only[Classical.not_forall] at hx;obtain⟨c,hc,Z,O⟩:=hx;refine⟨c,hc,Z,?_⟩;cases hv:c.val with
    |none=>exact absurd hv O
    |some v=>exact⟨v,rfl⟩
  .rintro⟨c,hc,rfl,v,hv⟩;rw[hm.staged c hc v hv];simp
 have ae:∀x,x∈Zu l->x∉xs:=λx hg hx=>by obtain⟨c,hc,Z,O⟩:=Jh.1 hg;obtain⟨c',bm,bf,v,bg⟩:=(af x).1 hx;have F:=C4 (H:=H) hn hc;have a2:=C4 (H:=H) hn bm;rw[Z,O] at F;rw[bf,bg,F] at a2;cases a2
 obtain⟨U,ag⟩:=Z5H (((xs.map nmS).map mv1).foldl Ac.on C);have b7:∀x,U (nmD x)=if x∈xs then C (nmS x) else C (nmD x):=λx=>by rw[<-ag];exact Il e2 C
 have b8:∀x,U (nmS x)=none:=λx=>by
  rw[<-ag];have h9:((xs.map nmS).map mv1).foldl Ac.on C (nmS x)=if x∈xs then none else C (nmS x):=Il e2 C;rw[h9];by_cases hx:x∈xs
  .rw[if_pos hx]
  .rw[if_neg hx];cases ht:C (nmS x) with
   |none=>rfl
   |some z=>exact absurd ((au x).2 (by simp_all)) hx
 have aq:∀n,(∀x,n≠nmD x)->(∀x,n≠nmS x)->U n=C n:=λn Z O=>by
  rw[<-ag,Il e2 C];split
  .exact absurd rfl (Z _)
  .exact absurd rfl (O _)
  .rfl
 obtain⟨M,al⟩:=Z5H (((ds.map nmD).map dr1).foldl Ac.on U);have hb:∀n,M n=if n∈ds.map nmD then none else U n:=λn=>by rw[<-al];exact Ik U
 have bh:∀x,M (nmD x)=if x∈ds then none else U (nmD x):=λx=>by
  rw[hb];have:nmD x∈ds.map nmD↔x∈ds:=by simp[nmD]
  by_cases h:x∈ds
  .rw[if_pos h,if_pos (this.2 h)]
  .rw[if_neg h,if_neg (λO=>h (this.1 O))]
 have aj:∀n,(∀x,n≠nmD x)->M n=U n:=λn h=>by rw[hb,if_neg (λhm=>by obtain⟨x,_,e⟩:=List.mem_map.1 hm;exact h x e.symm)]
 have hF:∀n,(Q0 d (Zu l)).foldl Ac.on C n=if n=nmT then none else if n=nmC then M nmN else if n=nmN then none else M n:=λn=>by rw[hA,List.foldl_append,List.foldl_append,ag,al];exact Z0W M n
 have b9:M nmN=C nmN:=by rw[aj _ (by simp[nmN,nmD]),aq _ (by simp[nmN,nmD]) (by simp[nmN,nmS])]
 have bj:M nmT=C nmT:=by rw[aj _ (by simp[nmT,nmD]),aq _ (by simp[nmT,nmD]) (by simp[nmT,nmS])]
 have ak:∀x,(Q0 d (Zu l)).foldl Ac.on C (nmD x)=if x∈ds then none else if x∈xs then C (nmS x) else T (nmD x):=λx=>by rw[hF,if_neg (by simp[nmD,nmT]),if_neg (by simp[nmD,nmC]),if_neg (by simp[nmD,nmN]),bh,b7,hm.rest (nmD x) (by simp[nmD,nmN]) (by simp[nmD,nmT]) (by simp[nmD,nmS])]
 have bz:∀x,C (nmD x)=T (nmD x):=λx=>hm.rest (nmD x) (by simp[nmD,nmN]) (by simp[nmD,nmT]) (by simp[nmD,nmS]);have key:∀x,(x∈xs/\x∉ds/\∃v,upH H l x=some v/\C (nmS x)=some (some (shL k m i x v)))∨(x∉xs/\upH H l x=none/\(x∈ds∨T (nmD x)=none))∨(x∉xs/\x∉ds/\upH H l x=H x):=λx=>by
  by_cases hx:x∈xs
  .obtain⟨c,hc,rfl,v,hv⟩:=(af x).1 hx;exact Or.inl ⟨hx,λh9=>ae _ ((ai _).1 h9).1 hx,v,by rw[C4 hn hc,hv],hm.staged c hc v hv⟩
  .by_cases hg:x∈Zu l
   .obtain⟨c,hc,rfl,O⟩:=Jh.1 hg;refine Or.inr (Or.inl ⟨hx,by rw[C4 hn hc,O],?_⟩);by_cases ht:T (nmD c.key)=none
    .exact Or.inr ht
    .exact Or.inl ((ai _).2 ⟨hg,by rw[bz];exact ht⟩)
   .refine Or.inr (Or.inr ⟨hx,λh9=>hg ((ai x).1 h9).1,Lj λc hc e=> ?_⟩);cases hv:c.val with
    |none=>exact hg (Jh.2 ⟨c,hc,e,hv⟩)
    |some v=>exact hx ((af x).2 ⟨c,hc,e,v,hv⟩)
 refine⟨?_,⟨?_,?_,?_,λx=> ?_,λx hx=> ?_,λx v hx=> ?_,λn J=> ?_⟩,λcj x v hx=> ?_⟩
 .rw[hA];refine F4 (F4 (Z1F e2 λx hx=>(au x).1 hx) ?_) ?_
  .rw[ag];refine NX ?_ λn bu=> ?_
   .exact List.pairwise_map.2 (bq.imp λJ e=>J (by simpa[nmD] using e))
   .obtain⟨x,hx,rfl⟩:=List.mem_map.1 bu;rw[b7,if_neg (ae x ((ai x).1 hx).1)];exact((ai x).1 hx).2
  .rw[List.foldl_append,ag,al];refine⟨by rw[b9,hm.next];simp,Or.inr ⟨rfl,by simp[nmN,nmC]⟩,?_,Or.inl rfl,trivial⟩;show(if nmT=nmC then M nmN else if nmT=nmN then none else M nmT)≠none;rw[if_neg (by simp[nmT,nmC]),if_neg (by simp[nmT,nmN]),bj,hm.under];simp
 .rw[hF,if_neg (by simp[nmC,nmT]),if_pos rfl,b9,hm.next]
 .rw[hF,if_neg (by simp[nmN,nmT]),if_neg (by simp[nmN,nmC]),if_pos rfl]
 .rw[hF,if_pos rfl]
 .rw[hF,if_neg (by simp[nmS,nmT]),if_neg (by simp[nmS,nmC]),if_neg (by simp[nmS,nmN]),aj _ (by simp[nmS,nmD]),b8]
 .rw[ak];rcases key x with ⟨F,a2,v,a3,_⟩|⟨F,a2,a3⟩|⟨F,a2,a3⟩
  .rw[hx] at a3;cases a3
  .rcases a3 with a3|a3
   .rw[if_pos a3]
   .by_cases ah:x∈ds
    .rw[if_pos ah]
    .rw[if_neg ah,if_neg F];exact a3
  .rw[if_neg a2,if_neg F];exact hr.none_ x (by simp_all)
 .rw[ak];rcases key x with ⟨F,a2,v',a3,a4⟩|⟨F,a2,a3⟩|⟨F,a2,a3⟩
  .rw[hx] at a3;cases a3;rw[if_neg a2,if_pos F];exact Or.inr (Or.inr a4)
  .rw[hx] at a2;cases a2
  .rw[if_neg a2,if_neg F];exact hr.some_ x v (by simp_all)
 .rw[hF] at J;by_cases Z:n=nmT
  .rw[if_pos Z] at J;exact absurd rfl J
  .rw[if_neg Z] at J;by_cases O:n=nmC
   .exact Or.inl O
   .rw[if_neg O] at J;by_cases h3:n=nmN
    .rw[if_pos h3] at J;exact absurd rfl J
    .rw[if_neg h3] at J;by_cases h4:∃x,n=nmD x
     .exact Or.inr h4
     .have aw:∀x,n≠nmD x:=λx e=>h4 ⟨x,e⟩;rw[aj _ aw] at J;by_cases h5:∃x,n=nmS x
      .obtain⟨x,rfl⟩:=h5;rw[b8] at J;exact absurd rfl J
      .have az:∀x,n≠nmS x:=λx e=>h5 ⟨x,e⟩;rw[aq _ aw az,hm.rest _ h3 Z az] at J;exact hr.other n J
 .rw[ak];rcases key x with ⟨F,a2,v',a3,a4⟩|⟨F,a2,a3⟩|⟨F,a2,a3⟩
  .rw[hx] at a3;cases a3;rw[if_neg a2,if_pos F];exact a4
  .rw[hx] at a2;cases a2
  .rw[if_neg a2,if_neg F];exact cj x v (by rw[<-a3];exact hx)
end
section
open Go.RowKit Go.Shelf
theorem BM(b k m i g:Nat)(w:World)(hk:k<=4294967295)(hm:m<=4294967295)(hi:i<=4294967295)(hg:g<=4294967295)(c0:w.cell? ⟨b,0,none⟩=some (.int .i64 (k:Int)))(c1:w.cell? ⟨b,1,none⟩=some (.int .i64 (m:Int))):Calls prog 79 #[.pointer (some ⟨b,0,none⟩),.int .i64 (i:Int),.int .i64 (g:Int)] w λe w'=>e=.returned (.tuple #[.string (str (Qq k m i g)),.nilIface])/\Below w.heap.size w w':=by
 have F:∀W:World,Calls prog 82 #[.string ⟨#[33]⟩,.slice (some ⟨W.heap.size,0,none⟩) 5 5] (W.alloc (.cells #[.string ⟨#[115,101,116]⟩,.string (s32 k),.string (s32 m),.string (s32 i),.string (s32 g)] 9)) λe w'=>e=.returned (.tuple #[.string (str (Qq k m i g)),.nilIface])/\Below (W.alloc (.cells #[.string ⟨#[115,101,116]⟩,.string (s32 k),.string (s32 m),.string (s32 i),.string (s32 g)] 9)).heap.size (W.alloc (.cells #[.string ⟨#[115,101,116]⟩,.string (s32 k),.string (s32 m),.string (s32 i),.string (s32 g)] 9)) w':=λW=>by have h9:=Row.new W 9 [.string ⟨#[115,101,116]⟩,.string (s32 k),.string (s32 m),.string (s32 i),.string (s32 g)];exact EC nmC (by decide) W.heap.size 5 [Oz,Z4 k,Z4 m,Z4 i,Z4 g] [] _ h9 (by rw[ZN,Zc,Zc,Zc,Zc,Zc];simp[Zy,Zw,Oz])
 have h:∀A C:World,(A.cell? ⟨b,0,none⟩=some (.int .i64 (k:Int))/\A.cell? ⟨b,1,none⟩=some (.int .i64 (m:Int))/\Below w.heap.size w A)->Below A.heap.size A C->(C.cell? ⟨b,0,none⟩=some (.int .i64 (k:Int))/\C.cell? ⟨b,1,none⟩=some (.int .i64 (m:Int))/\Below w.heap.size w C):=by rintro A C ⟨M,O,U⟩ hb;exact⟨(hb.cell (Z5b A _ M)).trans M,(hb.cell (Z5b A _ O)).trans O,U.trans (hb.mono U.size)⟩
 have hs0:=h w w.drew ⟨c0,c1,Z5E⟩ (Z5E.drew);have Z:=Z5F F;have J:=Z5F h;clear F h;go_enter func79,ntmps79;go_wp2;go_region_held3 (λx=>x.cell? ⟨b,0,none⟩=some (.int .i64 (k:Int))/\x.cell? ⟨b,1,none⟩=some (.int .i64 (m:Int))/\Below w.heap.size w x) (first|exact hs0|(exact J.out _ _ (by omega) (Z5E.alloc Z5D _))|(exact J.out _ _ (by assumption) (by assumption)))
  (first|(go_at_call 80;refine(Ci _ (by assumption) _).mono ?_;rintro e w8 ⟨rfl,ae⟩)|(go_at_call 82;refine(Z.out _).mono ?_;rintro e w9 ⟨rfl,af⟩))
 rename_i hHeld;go_wp2;go_ret2;exact⟨rfl,hHeld.2.2⟩
theorem PQ{W:World}{B B':Nat}{e:TypeId}{k:Nat}{v:Value}{n:Nat}{xs:List Value}(h:W.ownsRow B e k v n xs)(hB:B'<=B):W.ownsRow B' e k v n xs:=by refine⟨h.1,h.2.imp id ?_⟩;rintro⟨g,cap,cur,C,F,J⟩;exact⟨g,cap,cur,C,Z5w hB F,J⟩
theorem VO(s:Nat)(under name:Bs)(l:List Bs)(w:World)(U:Calls prog 157 #[.pointer (some ⟨s,0,none⟩),.string (str under)] w λr w'=>r=.returned (.tuple #[.string (str (Yo name (Zz l))),.nilIface])/\Below w.heap.size w w')(hn:name.length<=220)(af:(Zz l).length<=9000):Calls prog 110 #[.pointer (some ⟨s,0,none⟩),.string (str under),.string (str name)] w λe w'=>∃a cap,e=.returned (.tuple #[.slice a l.length cap,.nilIface])/\w'.ownsRow w.heap.size 9 1 (.slice a l.length cap) l.length (Z7 (l.map str))/\Below w.heap.size w w':=by
 have Z:(str (Zz l)).size<=100000:=by rw[Z5];omega
 have ae:∀W:World,Calls prog 155 #[.string (str (Zz l))] W λe w'=>∃a cap,e=.returned (.tuple #[.slice a l.length cap,.nilIface])/\w'.ownsRow W.heap.size 9 1 (.slice a l.length cap) l.length (Z7 (l.map str))/\Below W.heap.size W w':=λW=>by have h9:=EI (str (Zz l)) (l.map str) W (by rw[Zn,CG]) Z;simp_all
 have HG:=Z5F U;have HS:=Z5F ae;go_enter func110,ntmps110;go_wp2_with (first|(go_at_call 157;refine HG.out.mono ?_;rintro e w1 ⟨rfl,C⟩;have S1:=Z5F C;clear C)|(go_at_call 158;refine(Z1K name (Zz l) _ hn af).mono ?_;rintro e w2 ⟨rfl,F⟩;have h:=Z5F (S1.out.trans (F.mono S1.out.size));clear F)|(go_at_call 155;refine(HS.out _).mono ?_;rintro e w3 ⟨a,cap,rfl,M,J⟩;have O:=Z5J M (h.out.trans (J.mono h.out.size));clear J M));go_ret2;exact⟨_,_,rfl,PQ O.out.1 h.out.size,O.out.2⟩
theorem TF(s:Nat)(under name:Bs)(c:Int)(hc:c≠0)(w:World)(F:Calls prog 157 #[.pointer (some ⟨s,0,none⟩),.string (str under)] w λr w'=>∃b,r=.returned (.tuple #[.string ⟨#[]⟩,.iface 139 (.pointer (some ⟨b,0,none⟩))])/\Zk w' w.heap.size c (.iface 139 (.pointer (some ⟨b,0,none⟩)))/\Below w.heap.size w w'):Calls prog 110 #[.pointer (some ⟨s,0,none⟩),.string (str under),.string (str name)] w λe w'=>∃b,e=.returned (.tuple #[.slice none 0 0,.iface 139 (.pointer (some ⟨b,0,none⟩))])/\Zk w' w.heap.size c (.iface 139 (.pointer (some ⟨b,0,none⟩)))/\Below w.heap.size w w':=by have J:=Z5F F;go_enter func110,ntmps110;go_wp2_with (go_at_call 157;refine J.out.mono ?_;rintro e w1 ⟨b,rfl,C,h⟩;have S1:=Z5J C h;clear h C);go_ret2;exact⟨_,rfl,S1.out.1,S1.out.2⟩
theorem I8(n v:ByteArray)(w:World):Calls prog 81 #[.string n,.string v] w λe w'=>e=.returned (.agg #[.int .i64 1,.string n,.string ⟨#[]⟩,.string v])/\Below w.heap.size w w':=by go_enter func81,ntmps81;go_wp2;have h:=Row.new w 151 [.int .i64 1,.string n,.string ⟨#[]⟩,.string v];have C:=h.cell (j:=0) rfl;have F:=h.cell (j:=1) rfl;have J:=h.cell (j:=2) rfl;have M:=h.cell (j:=3) rfl;exact bodyPost_ret (v:=.agg #[.int .i64 1,.string n,.string ⟨#[]⟩,.string v]) (by simp[results,go_sem]) rfl ⟨rfl,(Below.refl _ w).alloc Z5D _⟩
end
section
variable{D:Dk}{E g i k m:Nat}{H:Bs->Option Bs}{K:List Bs}{S:Sto}{T T1:Tab}{d:Dir}{l:List Chg}{n v:Bs}
def Yg(K:List Bs):List Bs:=nmC::nmN::nmT::(K.map nmS++K.map nmD)
structure KOk(K:List Bs):Prop where
 few:K.length<=18
 len:∀x∈K,1<=x.length/\x.length<=11
theorem YC:n∈Yg K↔n=nmC∨n=nmN∨n=nmT∨(∃x∈K,n=nmS x)∨∃x∈K,n=nmD x:=by unfold Yg;grind
theorem Jz(h:KOk K):∀n∈Yg K,1<=n.length/\n.length<=12:=λn C=>by
 rcases YC.1 C with rfl|rfl|rfl|⟨x,hx,rfl⟩|⟨x,hx,rfl⟩
 .simp[nmC]
 .simp[nmN]
 .simp[nmT]
 .have:=h.len x hx;simp[nmS];omega
 .have:=h.len x hx;simp[nmD];omega
theorem Gv(h:KOk K):(Yg K).length<=40:=by have:=h.few;unfold Yg;grind
theorem Z3s{x:Bs}(h:nmS x∈Yg K):x∈K:=by
 rcases YC.1 h with h|h|h|⟨y,C,h⟩|⟨y,C,h⟩
 .simp[nmS,nmC] at h
 .simp[nmS,nmN] at h
 .simp[nmS,nmT] at h
 .have:x=y:=by simpa[nmS] using h
  simp_all
 .simp[nmS,nmD] at h
structure LOk(K:List Bs)(l:List Chg):Prop where
 nd:(l.map (·.key)).Nodup
 few:l.length<=4
 key:∀c∈l,c.key∈K
 val:∀c∈l,∀v,c.val=some v->v.length<=200
structure ZO(K:List Bs)(E:Nat)(D:Dk)(S:Sto):Prop where
 img:∃recs,YN 800 100 D.reads S recs/\recs≠[]
 sm:Dir.Sm (Yg K) S.dir
 wait:D.wait=[]
 ep:S.j.epoch<=E
theorem ZO.sorted(h:ZO K E D S):S.dir.Sorted:=by obtain⟨recs,hi,_⟩:=h.img;exact hi.ok.sorted
theorem ZO.mono{C:Nat}(h:ZO K E D S)(he:E<=C):ZO K C D S:=⟨h.img,h.sm,h.wait,Z5w h.ep he⟩
theorem ZO.few(h:ZO K E D S)(hK:KOk K):S.dir.length<=40:=Z5w (Bz h.sm h.sorted) (Gv hK)
theorem QV{R:Nat->ByteArray}:d.get n=none↔stR R d n=none:=by unfold stR;cases d.get n<;>simp
structure Qu(K:List Bs)(S:Sto)(acts:List Ac)(d:Dir)(f:Z1):Prop where
 plan:S.plan acts=some (d,f)
 room:Fi S d f
 wrong:∀a∈acts,a.wrong=false
 ne:acts≠[]
 few:acts.length<=12
 in_:∀o∈S.ops acts d f,o.In 800
 sm:Dir.Sm (Yg K) d
theorem RP(S:Sto)(acts:List Ac)(d:Dir)(f:Z1):∃l,S.ops acts d f=l++[.fl]:=by
 unfold Sto.ops Sto.jOps;split
 .unfold Jn.appendOps Jn.lay;exact⟨_,(Z5g _ _ _).symm⟩
 .unfold Jn.resetOps;exact⟨_,(Z5g _ _ _).symm⟩
theorem M4(S:Sto)(d:Dir)(f:Z1):(S.jNew d f).epoch<=S.j.epoch+1:=by
 unfold Sto.jNew;split
 .exact Nat.le_succ _
 .exact Z5D
theorem ZO.acts(h:ZO K E D S)(hK:KOk K){acts:List Ac}(hw:∀a∈acts,a.wrong=false)(ha:∀a∈acts,Ac.Sm (Yg K) a)(hl:acts.length<=12)(M:acts≠[]){d0:Dir}{f:Z1}(hd:Qi acts 0 S.dir []=some (d0,f))(U:∃m,f.by m≠none∨(S.dir.get m≠none/\d0.get m=none))(O:d0≠[]):∃d,Qu K S acts d f:=by
 obtain⟨recs,hi,_⟩:=h.img;obtain⟨d,F,J,h3,h4⟩:=Fs hi (λm hm=>(Jz hK m hm).2) (Gv hK) h.sm hw ha hl hd U O;have Z:=YD D.reads hi.ok hi.used hw F;refine⟨d,F,J,hw,M,hl,λo C=> ?_,h3⟩;rcases Z5p.1 C with C|C
 .exact RH Z o C
 .have:=KV J o C;rw[hi.jhalf] at this;cases o with
  |wr a s=>exact⟨Z5v this.1 (by omega),this.2⟩
  |fl=>trivial
theorem ZO.did(h:ZO K E D S)(hK:KOk K)(ok:D.ok 800){acts:List Ac}{d:Dir}{f:Z1}(ha:Qu K S acts d f):ZO K (E+1) (ZU (S.ops acts d f) D) (S.done d f)/\stR (ZU (S.ops acts d f) D).reads (S.done d f).dir=acts.foldl Ac.on (stR D.reads S.dir):=by
 obtain⟨recs,hi,F⟩:=h.img;have C:=YD D.reads hi.ok hi.used ha.wrong ha.plan;have e1:(ZU (S.ops acts d f) D).reads=Zt (S.ops acts d f) D.reads:=Xo ok.fit ha.in_;refine⟨⟨⟨S.recs' recs d f,?_,?_⟩,ha.sm,?_,?_⟩,?_⟩
 .rw[e1];exact hi.commit (by omega) (by omega) (by omega) C ha.room
 .unfold Sto.recs';split<;>simp
 .obtain⟨l,hl⟩:=RP S acts d f;rw[hl];exact CD l D
 .exact Z5w (M4 S d f) (Nat.succ_le_succ h.ep)
 .rw[e1];exact Kr hi C ha.room
theorem put_ok(hK:KOk K){n v:Bs}(C:n∈Yg K)(hv:v.length<=500)(F:1<=v.length):Ac.wrong ⟨1,n,[],v⟩=false/\Ac.Sm (Yg K) ⟨1,n,[],v⟩:=by have:=Jz hK n C;refine⟨?_,C,λh=>by simp at h,hv,λ_=>F⟩;unfold Ac.wrong;grind
theorem DB(hK:KOk K){n:Bs}(C:n∈Yg K):Ac.wrong (dr1 n)=false/\Ac.Sm (Yg K) (dr1 n):=by have:=Jz hK n C;refine⟨?_,C,λh=>by simp[dr1] at h,by simp[dr1],λh=>by simp[dr1] at h⟩;unfold Ac.wrong dr1;grind
theorem move_ok(hK:KOk K){n t:Bs}(C:n∈Yg K)(F:t∈Yg K):Ac.wrong ⟨3,n,t,[]⟩=false/\Ac.Sm (Yg K) ⟨3,n,t,[]⟩:=by have J:=Jz hK n C;have M:=Jz hK t F;refine⟨?_,C,λ_=>F,by simp,λh=>by simp at h⟩;unfold Ac.wrong;grind
theorem Ar(k m i g:Nat):(Qq k m i g).length=111:=by unfold Qq;rw[WO,ZN,Zc,Zc,Zc,Zc,Zc];simp[Zy,Zw,Oz,Y0]
theorem Mg(h:1<=k)(hv:v.length<=200)(i:Nat):(shT k m v i).length<=201:=by
 unfold shT;by_cases hi:i<k+m
 .have C:=WA k m (str v) h i hi;have F:=DN k (str v).size h;rw[Z5] at C F;have J:((Zs k m (str v)).getD i ⟨#[]⟩).data.toList.length=((Zs k m (str v)).getD i ⟨#[]⟩).size:=by rfl
  omega
 .rw[Z59,List.getElem?_eq_none (by rw[Yi];omega)];simp
theorem EG{key:Bs}(h:1<=k)(hv:v.length<=200):(shL k m i key v).length<=500/\(Zz [Z4 i,Z4 v.length,shT k m v i]).length<=9000:=by have C:=Mg (m:=m) h hv i;unfold shL;rw[WO,ZN,Zc,Zc,Zc];simp[Zy,Zw,Y0];omega
theorem Gf(hK:KOk K){g:Nat}{l:List Chg}(h:LOk K l):(BH g (Zu l)).length<=500/\(Zz (Z4 g::Zu l)).length<=9000:=by
 have C:(Zu l).length<=l.length:=by unfold Zu;exact List.length_filterMap_le _ _
 have F:=Le (Zu l) 11 (λx hx=>by
  obtain⟨c,hc,hx,_⟩:=Jh.1 hx
  rw[<-hx];exact(hK.len _ (h.key c hc)).2)
 have J:=h.few;unfold BH;rw[WO,ZN,Zc];simp[Zw,Y0];omega
theorem ZO.first{H:Bs->Option Bs}(h:ZO K E D S)(hK:KOk K)(M:1<=k)(hl:LOk K l):∃d f,Qu K S (QL k m i g l) d f:=by
 have F:∀a∈QL k m i g l,a.wrong=false/\Ac.Sm (Yg K) a:=λa ha=>by
  unfold QL at ha;simp at ha;rcases ha with rfl|⟨c,hc,hs⟩|rfl
  .exact put_ok hK (YC.2 (by simp)) (by rw[Ar];omega) (by rw[Ar];omega)
  .obtain⟨v,hv,rfl⟩:=XZ hs;exact put_ok hK (YC.2 (Or.inr (Or.inr (Or.inr (Or.inl ⟨_,hl.key c hc,rfl⟩))))) (EG M (hl.val c hc v hv)).1 (by unfold shL;rw[WO];omega)
  .exact put_ok hK (YC.2 (by simp)) (Gf hK hl).1 (by unfold BH;rw[WO];omega)
 have hlen:(QL k m i g l).length<=12:=by have:=hl.few;unfold QL;grind
 obtain⟨d0,f,J⟩:=GS (IB (k:=k) (m:=m) (i:=i) (g:=g) (l:=l)) 0 S.dir [];have C:f.by nmT≠none/\d0.get nmT≠none:=by exact GR rfl J
 obtain⟨d,ha⟩:=h.acts hK (λa ha=>(F a ha).1) (λa ha=>(F a ha).2) hlen (by unfold QL;simp) J ⟨nmT,Or.inl C.1⟩ (λe=>C.2 (by rw[e];rfl));grind
theorem ZO.live{acts:List Ac}(h:ZO K E D S)(hK:KOk K)(hw:∀a∈acts,a.wrong=false)(ha:∀a∈acts,Ac.Sm (Yg K) a)(hl:acts.length<=12)(F:acts≠[])(Z:JI (stR D.reads S.dir) acts){m:Bs}(J:stR D.reads S.dir m≠none)(M:acts.foldl Ac.on (stR D.reads S.dir) m=none){m2:Bs}(O:acts.foldl Ac.on (stR D.reads S.dir) m2≠none):∃d,Qu K S acts d []:=by obtain⟨d0,U,C⟩:=Pj (k:=0) (λm=>QV (R:=D.reads) (d:=S.dir) (n:=m)) Z;refine h.acts hK hw ha hl F U ⟨m,Or.inr ⟨λe=>J (QV.1 e),(C m).2 M⟩⟩ (λe=>O ((C m2).1 (by rw[e];rfl)))
theorem Mj(h:Dir.Sm (Yg K) d){n:Bs}(M:n∈d.names.filter isS):∃x∈K,n=nmS x:=by obtain⟨F,J⟩:=List.mem_filter.1 M;obtain⟨x,rfl⟩:=(Ab n).1 J;obtain⟨y,O,C⟩:=List.mem_map.1 F;exact⟨x,Z3s (by rw[<-C];exact(h y O).1),rfl⟩
theorem Mid.xs(hm:Mid k m i g H l T T1){d:Dir}(hs:d.Sorted)(J:∀n,d.get n=none↔T1 n=none):(d.names.filter isS).length<=l.length:=by
 obtain⟨xs,e1,e2,C⟩:=Cu hs
 have:=e2.length_le_of_subset (l₂:=l.map (·.key)) (λx hx=>by
  have h:=(C x).1 hx;rw[ne_eq,J] at h;by_cases hc:∀c∈l,c.key=x->c.val=none
  .exact absurd (hm.bare x hc) h
  .simp at hc;obtain⟨c,hc,F,_⟩:=hc
   exact List.mem_map.2 ⟨c,hc,F⟩)
 simp_all
theorem ZO.second(h:ZO K E D S)(hK:KOk K)(hl:LOk K l)(M:Xn k m i g H T)(hm:Mid k m i g H l T (stR D.reads S.dir)):∃d,Qu K S (Q0 S.dir (Zu l)) d []:=by
 obtain⟨O,F,r3⟩:=Gy hl.nd M hm h.sorted (λn=>QV);have C:∀a∈Q0 S.dir (Zu l),a.wrong=false/\Ac.Sm (Yg K) a:=λa ha=>by
  unfold Q0 at ha;simp only[Z5p,List.mem_map,Z5q,Z5y,or_false] at ha;rcases ha with (⟨n,J,rfl⟩|⟨x,hx,rfl⟩)|rfl|rfl
  .obtain⟨x,hx,rfl⟩:=Mj h.sm J;exact move_ok hK (YC.2 (Or.inr (Or.inr (Or.inr (Or.inl ⟨x,hx,rfl⟩))))) (YC.2 (Or.inr (Or.inr (Or.inr (Or.inr ⟨x,hx,rfl⟩)))))
  .obtain⟨c,hc,hx,_⟩:=Jh.1 (List.mem_filter.1 hx).1;exact DB hK (YC.2 (Or.inr (Or.inr (Or.inr (Or.inr ⟨x,by rw[<-hx];exact hl.key c hc,rfl⟩)))))
  .exact move_ok hK (YC.2 (by simp)) (YC.2 (by simp))
  .exact DB hK (YC.2 (by simp))
 have hlen:(Q0 S.dir (Zu l)).length<=12:=by
  have U:=hm.xs h.sorted (λn=>QV);have Z:(Zu l).length<=l.length:=by unfold Zu;exact List.length_filterMap_le _ _
  have:=hl.few;unfold Q0;grind
 exact h.live hK (λa ha=>(C a ha).1) (λa ha=>(C a ha).2) hlen (by unfold Q0;simp) O (m:=nmT) (by rw[hm.under];simp) F.under (m2:=nmC) (by rw[F.card];simp)
theorem Z1G(T:Tab){a b:List Bs}(n:Bs):(a.map dr1++b.map dr1).foldl Ac.on T n=if n∈a∨n∈b then none else T n:=by rw[List.foldl_append,Ik,Ik];grind
theorem NO(O:Xn k m i g H T)(hm:Mid k m i g H l T T1)(hs:d.Sorted)(hd:∀n,d.get n=none↔T1 n=none):JI T1 (acts0 d)/\∀n,(acts0 d).foldl Ac.on T1 n=T n:=by
 obtain⟨xs,e1,e2,e3⟩:=Cu hs;have hN:(d.get nmN).isSome=true:=by
  cases M:d.get nmN with
  |none=>have:=(hd nmN).1 M;rw[hm.next] at this;cases this
  |some e=>rfl
 have hT:(d.get nmT).isSome=true:=by
  cases M:d.get nmT with
  |none=>have:=(hd nmT).1 M;rw[hm.under] at this;cases this
  |some e=>rfl
 have hA:acts0 d=(xs.map nmS).map dr1++[nmN,nmT].map dr1:=by unfold acts0;simp_all
 have F:∀n,(n∈xs.map nmS∨n∈[nmN,nmT])↔((∃x,n=nmS x/\T1 n≠none)∨n=nmN∨n=nmT):=by grind
 rw[hA];refine⟨?_,λn=> ?_⟩
 .rw[<-Z5u];refine NX ?_ (λn hn=> ?_)
  .rw[List.nodup_append];refine⟨List.pairwise_map.2 (e2.imp λaf e=>af (by simpa[nmS] using e)),by simp[nmN,nmT],λa ha b Z e=> ?_⟩;obtain⟨x,hx,rfl⟩:=List.mem_map.1 ha;simp at Z;rcases Z with rfl|rfl
   .simp[nmS,nmN] at e
   .simp[nmS,nmT] at e
  .grind
 .rw[Z1G];by_cases J:n=nmN
  .rw[if_pos ((F n).2 (Or.inr (Or.inl J))),J,O.next]
  .by_cases C:n=nmT
   .rw[if_pos ((F n).2 (Or.inr (Or.inr C))),C,O.under]
   .by_cases U:∃x,n=nmS x
    .obtain⟨x,rfl⟩:=U;rw[O.staged];grind
    .have ae:∀x,n≠nmS x:=λx e=>U ⟨x,e⟩
     rw[if_neg (λh=>by
      rcases(F n).1 h with ⟨x,e,_⟩|e|e
      .grind
      .simp_all
      .exact C e),hm.rest n J C ae]
theorem ZO.dropped(h:ZO K E D S)(hK:KOk K)(hl:LOk K l)(F:Xn k m i g H T)(hm:Mid k m i g H l T (stR D.reads S.dir)):∃d,Qu K S (acts0 S.dir) d []:=by
 obtain⟨Z,J⟩:=NO F hm h.sorted (λn=>QV);have M:∀a∈acts0 S.dir,a.wrong=false/\Ac.Sm (Yg K) a:=λa ha=>by
  unfold acts0 at ha;simp only[Z5p,List.mem_map] at ha;rcases ha with ⟨n,U,rfl⟩|⟨x,hx,rfl⟩
  .obtain⟨x,hx,rfl⟩:=Mj h.sm U;exact DB hK (YC.2 (Or.inr (Or.inr (Or.inr (Or.inl ⟨x,hx,rfl⟩)))))
  .have:=(List.mem_filter.1 hx).1;simp at this;rcases this with rfl|rfl
   .exact DB hK (YC.2 (by simp))
   .exact DB hK (YC.2 (by simp))
 have hlen:(acts0 S.dir).length<=12:=by have h1:=hm.xs h.sorted (λn=>QV);have:=hl.few;unfold acts0;grind
 have O:acts0 S.dir≠[]:=by intro e;have C:=J nmN;rw[e,F.next] at C;simp at C;rw[hm.next] at C;cases C
 exact h.live hK (λa ha=>(M a ha).1) (λa ha=>(M a ha).2) hlen O Z (m:=nmN) (by rw[hm.next];simp) (by rw[J,F.next]) (m2:=nmC) (by rw[J,F.card];simp)
theorem Hg(l:List DOp):∀{P:Pw} {D:Dk},(∀o∈l,o.In 800)->D.Fit 800->D.dead=false->(Z2 l P D).1=0->(Z2 l P D).2.2=ZU l D:=by
 induction l with
 |nil=>intro P D _ _ _ _;rfl
 |cons o r ih=>
  intro P D J O M h;rw[Wz] at h⊢;by_cases F:o.code P D=0
  .rw[if_pos F] at h⊢;have e:o.dk P D=o.app D:=by
    cases o with
    |wr a s=>show wdk P D a s=_;have C:YB P D a s=0:=F;unfold wdk;rw[if_pos C];rfl
    |fl=>show fdk P D=_;have C:X9 P D=0:=F;unfold fdk;rw[if_pos C];rfl
   rw[e] at h⊢;exact ih (λq U=>J q (by grind)) (O.app o (J o (by simp))) (by rw[C8];exact M) h
  .simp_all
theorem ZO.runs(h:ZO K E D S){n:Bs}{e:Ent}(J:S.dir.get n=some e):Ent.Ok 800 100 e/\e.runs≠[]/\e.runs.length<=1000:=by
 obtain⟨recs,hi,_⟩:=h.img;have C:=hi.ok.get J;have U:=h.sm _ (Dir.get_some_mem J);refine⟨C,λe0=> ?_,?_⟩
 .have F:=C.secs;unfold Ent.secs ZJ at F;grind
 .have F:=Oy e.runs (λr O=>(C.many r O).1);have M:(Zb e.runs).length=ZJ e.size:=C.secs;unfold ZJ at M;grind
end
section
variable{H:Bs->Option Bs}{l l':List Chg}{x:Bs}
def JN(H:Bs->Option Bs)(l:List Chg):Bs->Option Bs:=l.foldl (λH c x=>if x=c.key then c.val else H x) H
def later(c:Chg)(r:List Chg):Bool:=r.any λo=>o.key==c.key
def Q5:List Chg->List Chg
 |[]=>[]
 |c::r=>if later c r=true then Q5 r else c::Q5 r
theorem FH{c:Chg}{r:List Chg}:later c r=true↔∃o∈r,o.key=c.key:=by unfold later;simp
theorem Ef:∀c∈Q5 l,c∈l:=by
 induction l with
 |nil=>intro c h;cases h
 |cons a r ih=>intro c h;unfold Q5 at h;grind
theorem Ee(l:List Chg):(Q5 l).length<=l.length:=by
 induction l with
 |nil=>exact Z5D
 |cons a r ih=>unfold Q5;grind
theorem FG(l:List Chg):((Q5 l).map (·.key)).Nodup:=by
 induction l with
 |nil=>simp[Q5]
 |cons a r ih=>
  unfold Q5;split
  .omega
  .rename_i h;rw[Z5t,List.nodup_cons];refine⟨λhm=>h ?_,ih⟩;obtain⟨c,hc,e⟩:=List.mem_map.1 hm;exact FH.2 ⟨c,Ef c hc,e⟩
theorem Bv:∀{H:Bs->Option Bs},(∀c∈l,c.key≠x)->JN H l x=H x:=by
 unfold JN
 induction l with
 |nil=>intro H _;rfl
 |cons c r ih=>intro H h;rw[Z5B,ih (λo C=>h o (by grind)),if_neg (λe=>h c (by simp) e.symm)]
theorem Ea(H:Bs->Option Bs)(c:Chg)(r:List Chg):JN H (c::r)=JN (λx=>if x=c.key then c.val else H x) r:=rfl
theorem Pt:∀{H C:Bs->Option Bs},(∃c∈l,c.key=x)->JN H l x=JN C l x:=by
 induction l with
 |nil=>rintro H C ⟨c,hc,_⟩;cases hc
 |cons a r ih=>
  rintro H C ⟨c,hc,rfl⟩;rw[Ea,Ea];by_cases h:∃o∈r,o.key=c.key
  .grind
  .have F:∀o∈r,o.key≠c.key:=λo J e=>h ⟨o,J,e⟩;rw[Bv F,Bv F];grind
theorem Uk(H:Bs->Option Bs)(l:List Chg)(x:Bs):upH H (Q5 l) x=JN H l x:=by
 induction l generalizing H with
 |nil=>rfl
 |cons a r ih=>
  rw[Ea,Q5];by_cases hl:later a r=true
  .rw[if_pos hl,ih H];by_cases hx:∃c∈r,c.key=x
   .exact Pt hx
   .have h:∀c∈r,c.key≠x:=λc hc e=>hx ⟨c,hc,e⟩;rw[Bv h,Bv h]
    rw[if_neg (λe=>by
     obtain⟨o,C,e2⟩:=FH.1 hl
     exact h o C (by grind))]
  .rw[if_neg hl];have F:∀o∈r,o.key≠a.key:=λo C e=>hl (FH.2 ⟨o,C,e⟩);unfold upH;rw[List.find?_cons];by_cases hx:x=a.key
   .subst hx;rw[Bv F];simp
   .rw[show(a.key==x)=false from by simpa using λe=>hx e.symm];have J:=ih (λy=>if y=a.key then a.val else H y);rw[<-J];unfold upH;simp_all
theorem Z2t(h:l.Perm l')(F:(l.map (·.key)).Nodup):upH H l=upH H l':=by
 have C:(l'.map (·.key)).Nodup:=by grind
 funext x
 by_cases hx:∃c∈l,c.key=x
 .obtain⟨c,hc,rfl⟩:=hx;rw[C4 F hc,C4 C (h.mem_iff.1 hc)]
 .rw[Lj (λc hc e=>hx ⟨c,hc,e⟩),Lj (λc hc e=>hx ⟨c,h.mem_iff.2 hc,e⟩)]
theorem LOk.of{K:List Bs}(h:l'.Perm (Q5 l))(J:l.length<=4)(C:∀c∈l,c.key∈K)(F:∀c∈l,∀v,c.val=some v->v.length<=200):LOk K l':=⟨((h.map (·.key)).nodup_iff).2 (FG l),by have:=Ee l;have:=h.length_eq;omega,λc hc=>C c (Ef c (h.mem_iff.1 hc)),λc hc=>F c (Ef c (h.mem_iff.1 hc))⟩
theorem Z0k(h:l'.Perm (Q5 l)):upH H l'=JN H l:=by
 rw[Z2t h (((h.map (·.key)).nodup_iff).2 (FG l))]
 funext x
 exact Uk H l x
abbrev ZP:=List (Bs×Bs)
def Hof(l:ZP):Bs->Option Bs:=λx=>(l.find? λp=>p.1==x).map (·.2)
def J7(l:ZP)(c:Chg):ZP:=(l.filter λp=>p.1 !=c.key)++(match c.val with|some v=>[(c.key,v)]|none=>[])
def YO(l:ZP)(cs:List Chg):ZP:=cs.foldl J7 l
theorem Z2M{l:ZP}(C:(l.map (·.1)).Nodup){p:Bs×Bs}(h:p∈l):Hof l p.1=some p.2:=by
 unfold Hof
 induction l with
 |nil=>cases h
 |cons q r ih=>grind
theorem Z0x{l:ZP}:Hof l x=none↔∀p∈l,p.1≠x:=by unfold Hof;simp
theorem MI{l:ZP}{v:Bs}(h:Hof l x=some v):(x,v)∈l:=by unfold Hof at h;rw[Option.map_eq_some_iff] at h;grind
theorem GX{l:ZP}(h:(l.map (·.1)).Nodup)(c:Chg):((J7 l c).map (·.1)).Nodup:=by unfold J7;grind
theorem Z0w(l:ZP)(c:Chg)(x:Bs):Hof (J7 l c) x=if x=c.key then c.val else Hof l x:=by unfold Hof J7;grind
theorem Z2L(l:ZP)(cs:List Chg):Hof (YO l cs)=JN (Hof l) cs:=by
 unfold YO JN
 induction cs generalizing l with
 |nil=>rfl
 |cons c r ih=>
  rw[Z5B,Z5B,ih];congr 1
  funext x
  exact Z0w l c x
theorem Vm(l:ZP)(c:Chg):(J7 l c).length<=l.length+1:=by unfold J7;grind
theorem Z1o{l:ZP}(J:(l.map (·.1)).Nodup){ks:List Bs}(F:ks.Nodup)(h:∀x,x∈ks↔Hof l x≠none):ks.length=l.length:=by
 have C:∀x,x∈ks↔x∈l.map (·.1):=λx=>by rw[h,ne_eq,Z0x];simp
 have M:=F.length_le_of_subset (l₂:=l.map (·.1)) (λx hx=>(C x).1 hx);have O:=J.length_le_of_subset (l₂:=ks) (λx hx=>(C x).2 hx);grind
end
section
open Go.RowKit
variable{P:Pw}{f:Z1}
theorem Z0N(P:Pw)(D:Dk)(o:DOp):(o.dk P D).life=D.life/\(o.dk P D).dead=D.dead:=by
 cases o with
 |wr a s=>show(wdk P D a s).life=_/\(wdk P D a s).dead=_;unfold wdk;split<;>exact⟨rfl,rfl⟩
 |fl=>show(fdk P D).life=_/\(fdk P D).dead=_;unfold fdk;split<;>exact⟨rfl,rfl⟩
theorem Y5(l:List DOp):∀ (P:Pw) (D:Dk),(Z2 l P D).2.2.life=D.life/\(Z2 l P D).2.2.dead=D.dead:=by
 induction l with
 |nil=>intro P D;exact⟨rfl,rfl⟩
 |cons o r ih=>intro P D;rw[Wz];have h:=Z0N P D o;grind
def Sto.pl(S:Sto)(acts:List Ac):Dir×Z1:=(S.plan acts).getD ([],[])
def Sto.go(S:Sto)(acts:List Ac):List DOp:=S.ops acts (S.pl acts).1 (S.pl acts).2
def Sto.nx(S:Sto)(acts:List Ac):Sto:=S.done (S.pl acts).1 (S.pl acts).2
theorem Qu.pl{K:List Bs}{S:Sto}{acts:List Ac}{d:Dir}(h:Qu K S acts d f):S.pl acts=(d,f):=by unfold Sto.pl;rw[h.plan];rfl
theorem Qu.go{K:List Bs}{S:Sto}{acts:List Ac}{d:Dir}(h:Qu K S acts d f):S.go acts=S.ops acts d f:=by unfold Sto.go;rw[h.pl]
theorem Qu.nx{K:List Bs}{S:Sto}{acts:List Ac}{d:Dir}(h:Qu K S acts d f):S.nx acts=S.done d f:=by unfold Sto.nx;rw[h.pl]
def Qv(B:Nat)(G:Eg)(bl:List Nat)(P:Pw)(Ds:Nat->Dk)(w w':World):Prop:=
 ∃Ls:Nat->List Nat,(∀i,i<G.n->PD B w' G.p (G.ds i) 800 P (Ds i) (Ls i))/\(∀i j,i<G.n->j<G.n->i≠j->∀k∈Ls i,k∉Ls j)/\(∀i,i<G.n->∀k∈Ls i,k∈bl∨w.heap.size<=k)/\Fr (G.p::bl) w w'
section
variable{B:Nat}{w w':World}{G:Eg}{V:Ev}{bl:List Nat}
theorem Zi.d(h:Zi B G bl V w w'):Qv B G bl V.P V.Ds w w':=by obtain⟨bl',⟨Ls,Os,rfl,e⟩,g,f⟩:=h;exact⟨Ls,e.pd,e.dap,λi hi k C=>g k (Qh.2 (Or.inr (Or.inl ⟨i,hi,C⟩))),f⟩
theorem Qv.fr{Ds:Nat->Dk}(h:Qv B G bl P Ds w w'){w2:World}{Y:List Nat}{ts:List TypeId}(F:Fr Y w' w2)(ht:Z8 w' Y ts)(Z:∀e∈ts,e∉Di)(U:∀k∈Y,k∈G.p::bl∨w.heap.size<=k):Qv B G bl P Ds w w2:=by
 obtain⟨Ls,C,J,M,O⟩:=h
 exact⟨Ls,λi hi=>(C i hi).fr F (ht.disj (C i hi).typed Z),J,M,O.trans F (λk hk ae=>by
  rcases U k hk with h9|h9
  .exact h9
  .omega)⟩
theorem Qv.after{Ds:Nat->Dk}(h:Qv B G bl P Ds w w'){w2:World}(C:Below w'.heap.size w' w2):Qv B G bl P Ds w w2:=h.fr (Fr.of_below (L:=[]) C) (ts:=[]) (λk F=>by cases F) (by simp) (by simp)
theorem Qv.from{Ds:Nat->Dk}{w0:World}(h:Qv B G bl P Ds w w')(C:Below w0.heap.size w0 w):Qv B G bl P Ds w0 w':=by obtain⟨Ls,F,J,M,O⟩:=h;exact⟨Ls,F,J,λi hi k U=>(M i hi k U).imp id (λh=>Z5w C.size h),(Fr.of_below (L:=G.p::bl) C).trans O (λi hi _=>hi)⟩
theorem Qv.trans{J:Ev}{Ds:Nat->Dk}{w1 w2:World}{C:List Nat}(F:EAt B w1 G J C/\(∀k∈C,k∈bl∨w.heap.size<=k)/\Fr (G.p::bl) w w1)(M:Qv B G C P Ds w1 w2):Qv B G bl P Ds w w2:=by
 obtain⟨Ls,g1,g2,g3,g4⟩:=M;refine⟨Ls,g1,g2,λi hi k O=> ?_,F.2.2.trans g4 (λi hi U=> ?_)⟩
 .rcases g3 i hi k O with h|h
  .simp_all
  .exact Or.inr (Z5w F.2.2.size h)
 .grind
theorem ZY.blks_typed{Ls Os:Nat->List Nat}(h:ZY B w G V Ls Os){i:Nat}(hi:i<G.n){X:List Nat}(C:∀k∈X,k∈Os i):Z8 w (X++G.p::Ls i) (Di++Cm):=((((h.at_ i hi).typed.mono C (λ_ he=>he):Z8 w X Cm)).mono (λ_ h=>h) (λe he=>List.mem_append_right _ he)).append ((h.pd i hi).typed.mono (λ_ h=>h) (λe he=>List.mem_append_left _ he))
theorem ZY.dstep{Ls Os:Nat->List Nat}(h:ZY B w G V Ls Os){i:Nat}(hi:i<G.n){X:List Nat}{P':Pw}{D':Dk}{L':List Nat}(U:Fr (X++G.p::Ls i) w w')(O:∀k∈X,k∈Os i)(J:PD B w' G.p (G.ds i) 800 P' D' L')(M:∀k∈L',k∈Ls i∨w.heap.size<=k):Qv B G (Wb G Ls Os) P' (upd V.Ds i D') w w':=by
 have ae:Z8 w X Cm:=(h.at_ i hi).typed.mono O (λ_ he=>he);have Z:∀j,j<G.n->j≠i->∀k∈Ls j,k∉X++G.p::Ls i:=λj F af k C hm=>by
  rcases Z5p.1 hm with hm|hm
  .exact ae.disj ((h.pd j F).typedL) (by decide) k hm C
  .rcases Z5q.1 hm with rfl|hm
   .exact(h.pd j F).typedL.row_ne (h.pd i hi).pw (by decide) C
   .exact h.dap j i F hi af k C hm
 refine⟨upd Ls i L',λj F=> ?_,CC h.dap (λa ha=>(h.pd a ha).typedL.lt) hi M,λj F k C=> ?_,U.mono (λk C _=> ?_)⟩
 .by_cases e:j=i
  .subst e;simp[Zo];exact J
  .simp[Z6 _ _ e];exact(h.pd j F).power U (Z j F e) J.pw J.pok
 .by_cases e:j=i
  .subst e;rw[Zo] at C;exact(M k C).imp (λh1=>Qh.2 (Or.inr (Or.inl ⟨j,F,h1⟩))) id
  .rw[Z6 _ _ e] at C;exact Or.inl (Qh.2 (Or.inr (Or.inl ⟨j,F,C⟩)))
 .rcases Z5p.1 C with C|C
  .exact Z5n _ (Qh.2 (Or.inr (Or.inr ⟨i,hi,O k C⟩)))
  .rcases Z5q.1 C with rfl|C
   .simp
   .exact Z5n _ (Qh.2 (Or.inr (Or.inl ⟨i,hi,C⟩)))
structure Hp(B:Nat)(G:Eg)(V:Ev)(bl:List Nat)(i:Nat)(S:Sto)(acts:List Ac)(w w':World):Prop where
 ok:(Z2 (S.go acts) V.P (V.Ds i)).1=0->Zi B G bl {V with P:=(Z2 (S.go acts) V.P (V.Ds i)).2.1,Ds:=upd V.Ds i (Z2 (S.go acts) V.P (V.Ds i)).2.2,Ms:=upd V.Ms i (some (S.nx acts))} w w'
 bad:Qv B G bl (Z2 (S.go acts) V.P (V.Ds i)).2.1 (upd V.Ds i (Z2 (S.go acts) V.P (V.Ds i)).2.2) w w'
 set:Row w' G.s 78 [.int .i64 V.k,.int .i64 V.m,.slice (some ⟨G.ms,0,none⟩) G.n G.cap,.int .i64 V.gen,.bool false]
theorem Z3q{K:List Bs}{E i ga oa na ca:Nat}{S:Sto}{acts:List Ac}{d:Dir}(h:EAt B w G V bl)(hi:i<G.n)(hM:V.Ms i=some S)(O:ZO K E (V.Ds i) S)(hK:KOk K)(hE:E<=2000000000)(ha:Qu K S acts d f)(aj:WD w ga oa acts)(au:na=acts.length)(al:na<=ca)(ht:Ty w)(hg:0<B){s:Nat}{o:List Value}(hr:Row w (G.xs i) 91 (.pointer (some ⟨G.ds i,0,none⟩):: .pointer (some ⟨s,0,none⟩)::o)):Calls prog 38 #[.pointer (some ⟨s,0,none⟩),.slice (some ⟨ga,oa,none⟩) na ca] w (Ans w.heap.size (Z2 (S.go acts) V.P (V.Ds i)).1 (Hp B G V bl i S acts w)):=by
 have ak:=h.bw;obtain⟨Ls,Os,rfl,C⟩:=h;have ag:=C.at_ i hi;rw[hM] at ag;obtain⟨J,j,hO,M,U,ae⟩:=ag;obtain rfl:J=s:=by have e1:=M.cell (j:=1) rfl;have e2:=hr.cell (j:=1) rfl;simp_all
 obtain⟨recs,af,_⟩:=O.img;have ai:B<=J:=C.bO i hi J (by simp_all);have ah:B<=j:=C.bO i hi j (by simp_all);have Z:∀k∈[J,j],k∈Os i:=by simp_all
 have hl:=Y5 (S.go acts) V.P (V.Ds i);have hc:=DZ B G.p (G.ds i) V.P (V.Ds i) (Ls i) J j ga oa na ca S recs (V.Ds i).reads acts d f w (C.pd i hi) ak U ai ah aj au al af ha.plan ha.room ha.wrong ha.ne ha.few (by rw[O.wait];simp) ht hg (by have:=O.ep;omega) (by have:=O.few hK;omega);rw[<-ha.go,<-ha.nx] at hc;refine hc.mono ?_;rintro e w' ⟨ev,rfl,aq,⟨L',F⟩,hok⟩;have aw:=C.blks_typed hi Z;refine⟨ev,rfl,aq,λh0=> ?_,C.dstep hi F.fr Z F.pd F.grew,C.set.fr F.fr (aw.row_ne C.set (by decide))⟩;refine C.step hi (O':=Os i) F.fr Z F.pd ?_ F.grew (λk hk=>Or.inl hk);refine⟨J,j,hO,?_,hok h0,by rw[hl.2];exact ae⟩;rw[hl.1];refine M.fr F.fr ?_;intro hm;rcases Z5p.1 hm with hm|hm
 .simp at hm;rcases hm with e|e
  .obtain⟨b,uv,r1,_⟩:=U;exact Row.ne M r1 (by simp) e
  .obtain⟨b,uv,_,r2,_⟩:=U;exact Row.ne M r2 (by simp) e
 .exact(C.pd i hi).typed.row_ne M (by decide) hm
end
end
section
open Go.RowKit Go.Shelf
theorem Sc{α:Type}(f:Nat->α)(i:Nat):upd f i (f i)=f:=by
 funext j;unfold upd;split
 .simp_all
 .rfl
section
variable{B:Nat}{w w':World}{G:Eg}{V:Ev}{bl:List Nat}
theorem ZY.mcell{Ls Os:Nat->List Nat}(h:ZY B w G V Ls Os){i:Nat}(hi:i<G.n):w.cell? ⟨G.ms,i,none⟩=some (.pointer (some ⟨G.xs i,0,none⟩)):=by obtain⟨sp,hm⟩:=h.mem;exact hm.cell (by rw[Z5c (by rw[YY];exact hi)];exact XF _ _ _ hi)
theorem EAt.scell(h:EAt B w G V bl):Row w G.s 78 [.int .i64 V.k,.int .i64 V.m,.slice (some ⟨G.ms,0,none⟩) G.n G.cap,.int .i64 V.gen,.bool false]:=by obtain⟨Ls,Os,rfl,h⟩:=h;exact h.set
theorem EAt.mcell(h:EAt B w G V bl){i:Nat}(hi:i<G.n):w.cell? ⟨G.ms,i,none⟩=some (.pointer (some ⟨G.xs i,0,none⟩)):=by obtain⟨Ls,Os,rfl,h⟩:=h;exact h.mcell hi
theorem EAt.nle(h:EAt B w G V bl):1<=G.n/\G.n<=16:=by obtain⟨Ls,Os,rfl,h⟩:=h;exact⟨h.n1,h.n16⟩
end
theorem JW(B:Nat)(w:World)(G:Eg)(V:Ev)(bl:List Nat)(i:Nat)(h:EAt B w G V bl)(hi:i<G.n)(S:Sto)(hM:V.Ms i=some S):Calls prog 34 #[.pointer (some ⟨G.s,0,none⟩),.int .i64 (i:Int)] w λe w'=>e=.returned (.bool true)/\Below w.heap.size w w':=by
 have c2:=h.scell.cell (j:=2) rfl;have cm:=h.mcell hi;obtain⟨Ls,Os,rfl,h⟩:=h;have F:=h.at_ i hi;rw[hM] at F;obtain⟨s,j,hO,C,ae,Z⟩:=F;obtain⟨gh,v,hL,J⟩:=(h.pd i hi).dk;have x0:=C.cell (j:=0) rfl;have x2:=C.cell (j:=2) rfl;have x3:=C.cell (j:=3) rfl;have O:∀k,Calls prog 22 #[.pointer (some ⟨G.ds i,0,none⟩)] (w.drewN k) λe w'=>e=.returned (.bool false)/\w'=w.drewN k:=λk=>by rw[<-Z];exact(I5 G.p (G.ds i) gh v (V.Ds i) (w.drewN k) (J.fr (Fr.of_below (L:=[]) (Zv Z5E k)) (by simp) (by simp) (by simp))).mono λe w' h=>⟨h.1,h.2.symm⟩
 have U:∀k,Calls prog 72 #[.pointer (some ⟨G.ds i,0,none⟩)] (w.drewN k) λe w'=>e=.returned (.int .i64 (V.Ds i).life)/\w'=w.drewN k:=λk=>(If G.p (G.ds i) gh v (V.Ds i) (w.drewN k) (J.fr (Fr.of_below (L:=[]) (Zv Z5E k)) (by simp) (by simp) (by simp))).mono λe w' h=>⟨h.1,h.2.symm⟩;have M:=Z5J O U;go_enter func34,ntmps34;go_wp2;go_quiet (first|(go_at_call 22;exact Calls.quiet_of_same (M.out.1 _))|(go_at_call 72;exact Calls.quiet_of_same (M.out.2 _)));go_wp2;go_ret;exact⟨rfl,Zv Z5E _⟩
theorem EAt.gone{B:Nat}{w:World}{G:Eg}{V:Ev}{bl:List Nat}(h:EAt B w G V bl){i:Nat}(hi:i<G.n)(hM:V.Ms i=none){w':World}(O:Fr [G.xs i] w w'){sv:Value}{lf:Int}{inn:Bool}(hr:Row w' (G.xs i) 91 [.pointer (some ⟨G.ds i,0,none⟩),sv,.int .i64 lf,.bool inn])(U:inn=true->(V.Ds i).dead=true∨(V.Ds i).life≠lf):Zi B G bl V w w':=by
 obtain⟨Ls,Os,rfl,h⟩:=h;have F:=h.at_ i hi;rw[hM] at F;obtain⟨ag,af,ae,M,Z,_⟩:=F;have J:=h.pd i hi;have hx:G.xs i∉G.p::Ls i:=J.typed.row_ne Z (by decide);have e:V={V with P:=V.P,Ds:=upd V.Ds i (V.Ds i),Ms:=upd V.Ms i none}:=by rw[Sc,<-hM,Sc]
 rw[e];exact h.step hi (X:=[G.xs i]) (L':=Ls i) (O':=[G.xs i]) (O.mono (λk C _=>List.mem_append_left _ C)) (λk C=>by rw[M];exact C) (J.fr O (λk C hm=>by rw[Z58] at C;subst C;exact hx hm)) ⟨sv,lf,inn,rfl,hr,U⟩ (λk C=>Or.inl C) (λk C=>Or.inl (by rw[M];exact C))
theorem AU(B:Nat)(w:World)(G:Eg)(V:Ev)(bl:List Nat)(i:Nat)(h:EAt B w G V bl)(hi:i<G.n)(hM:V.Ms i=none):Calls prog 34 #[.pointer (some ⟨G.s,0,none⟩),.int .i64 (i:Int)] w λe w'=>e=.returned (.bool false)/\Zi B G bl V w w':=by
 have c2:=h.scell.cell (j:=2) rfl;have cm:=h.mcell hi;have H:=Z5F h;obtain⟨Ls,Os,rfl,h⟩:=h;have af:=h.at_ i hi;rw[hM] at af;obtain⟨sv,lf,inn,hO,C,F⟩:=af;obtain⟨gh,v,hL,Z⟩:=(h.pd i hi).dk;have x0:=C.cell (j:=0) rfl;have x2:=C.cell (j:=2) rfl;have x3:=C.cell (j:=3) rfl;have x1:=C.cell (j:=1) rfl;have f1:=C.free (j:=1) (by simp);have f3:=C.free (j:=3) (by simp);have ak:(i:Int)<(G.n:Int):=by omega
 obtain⟨U,M⟩:=Z5H (V.Ds i).dead;obtain⟨dl,O⟩:=Z5H (V.Ds i).life;have ah:∀k,Calls prog 22 #[.pointer (some ⟨G.ds i,0,none⟩)] (w.drewN k) λe w'=>e=.returned (.bool U)/\w'=w.drewN k:=λk=>by rw[<-M];exact(I5 G.p (G.ds i) gh v (V.Ds i) (w.drewN k) (Z.fr (Fr.of_below (L:=[]) (Zv Z5E k)) (by simp) (by simp) (by simp))).mono λe w' h=>⟨h.1,h.2.symm⟩
 have ai:∀k,Calls prog 72 #[.pointer (some ⟨G.ds i,0,none⟩)] (w.drewN k) λe w'=>e=.returned (.int .i64 dl)/\w'=w.drewN k:=λk=>by rw[<-O];exact(If G.p (G.ds i) gh v (V.Ds i) (w.drewN k) (Z.fr (Fr.of_below (L:=[]) (Zv Z5E k)) (by simp) (by simp) (by simp))).mono λe w' h=>⟨h.1,h.2.symm⟩
 have J:=Z5J ah ai;have HR:=Z5J hM C;rw[M,O] at F;have aj:=Z5J M O;clear h C Z hM ah ai M O hL hO;have fin:∀k,Zi B G (Wb G Ls Os) V w (w.drewN k):=λk=>Zi.same H.out (Zv Z5E k);have ae:∀k,inn=true->Zi B G (Wb G Ls Os) V w (((w.drewN k).setCell ⟨G.xs i,3,none⟩ (.bool false)).setCell ⟨G.xs i,1,none⟩ (.pointer none)):=λk _=>by have hf:Fr [G.xs i] w (((w.drewN k).setCell ⟨G.xs i,3,none⟩ (.bool false)).setCell ⟨G.xs i,1,none⟩ (.pointer none)):=((Fr.of_below (L:=[G.xs i]) (Zv Z5E k)).setCell (Or.inl (by simp)) _).setCell (Or.inl (by simp)) _;exact EAt.gone H.out hi HR.out.1 hf (((HR.out.2.drewN k).set 3 (.bool false)).set 1 (.pointer none)) (λh=>by cases h)
 have HF:=Z5J fin ae;clear fin ae;cases inn with
 |false=>clear F;go_enter func34,ntmps34;go_wp2;go_quiet (first|(go_at_call 22;exact Calls.quiet_of_same (J.out.1 _))|(go_at_call 72;exact Calls.quiet_of_same (J.out.2 _)));go_wp2;go_ret;exact⟨rfl,HF.out.1 _⟩
 |true=>
  have F:=F rfl;cases U with
  |true=>clear F;go_enter func34,ntmps34;go_wp2;go_quiet (first|(go_at_call 22;exact Calls.quiet_of_same (J.out.1 _))|(go_at_call 72;exact Calls.quiet_of_same (J.out.2 _)));go_wp2;go_ret;exact⟨rfl,HF.out.2 _ trivial⟩
  |false=>have ag:dl≠lf:=(by simpa using F);clear F;have hb:(dl !=lf)=true:=(by simpa using ag);clear ag;go_enter func34,ntmps34;go_wp2;go_quiet (first|(go_at_call 22;exact Calls.quiet_of_same (J.out.1 _))|(go_at_call 72;exact Calls.quiet_of_same (J.out.2 _)));go_wp2;go_ret;exact⟨rfl,HF.out.2 _ trivial⟩
theorem Z3f(B:Nat)(w:World)(G:Eg)(V:Ev)(bl:List Nat)(i:Nat)(h:EAt B w G V bl)(hi:i<G.n):Calls prog 34 #[.pointer (some ⟨G.s,0,none⟩),.int .i64 (i:Int)] w λe w'=>e=.returned (.bool (V.Ms i).isSome)/\Zi B G bl V w w':=by
 cases hM:V.Ms i with
 |none=>exact AU B w G V bl i h hi hM
 |some S=>exact(JW B w G V bl i h hi S hM).mono λe w' hx=>⟨hx.1,Zi.same h hx.2⟩
theorem Pp(c a:Int)(hc:c≠0)(w:World):Calls prog 31 #[.int .i64 c,.int .i64 a] w λe w'=>∃b,e=.returned (.iface 139 (.pointer (some ⟨b,0,none⟩)))/\Zk w' w.heap.size c (.iface 139 (.pointer (some ⟨b,0,none⟩)))/\Row w' b 141 [.int .i64 c,.int .i64 a,.nilIface]/\Below w.heap.size w w':=by go_enter func31,ntmps31;go_wp2;go_ret;exact⟨w.heap.size,rfl,Ng hc Z5D (Row.new w _ [.int .i64 c,.int .i64 a,.nilIface]),Row.new w _ [.int .i64 c,.int .i64 a,.nilIface],Z5E.alloc Z5D _⟩
theorem Ch(s:ByteArray)(w:World):Calls prog 66 #[.string s] w λe w'=>e=.returned (.bool (decide (1<=s.size)&&decide (s.size<=200)))/\w=w':=by
 by_cases h:1<=s.size
 .have d1:decide ((s.size:Int)≥1)=true:=by simp;omega
  go_enter func66,ntmps66;go_wp2;go_ret;refine⟨?_,rfl⟩;rw[decide_eq_true h];by_cases C:s.size<=200
  .rw[decide_eq_true C,decide_eq_true (by omega)];rfl
  .rw[decide_eq_false C,decide_eq_false (by omega)];rfl
 .have d1:decide ((s.size:Int)≥1)=false:=by simp;omega
  go_enter func66,ntmps66;go_wp2;go_ret;simp_all
theorem V9(K V:ByteArray)(g:Bool)(C:1<=K.size)(F:K.size<=200)(J:V.size<=8000)(h:g=true->V=⟨#[]⟩)(w:World):Calls prog 33 #[.agg #[.string K,.string V,.bool g]] w λe w'=>e=.returned (.bool false)/\Below w.heap.size w w':=by
 have d1:(decide (1<=K.size)&&decide (K.size<=200))=true:=by simp_all
 have d3:decide ((V.size:Int)>8000)=false:=by grind
 cases g with
 |false=>go_enter func33,ntmps33;go_wp2_with (go_at_call 66;refine(Ch K _).mono ?_;rw[d1];rintro e w' ⟨rfl,rfl⟩);go_ret;exact⟨by first|rfl|simp|simp;omega,Z5E.alloc Z5D _⟩
 |true=>obtain rfl:=h rfl;go_enter func33,ntmps33;go_wp2_with (go_at_call 66;refine(Ch K _).mono ?_;rw[d1];rintro e w' ⟨rfl,rfl⟩);go_ret;exact⟨by first|rfl|simp,Z5E.alloc Z5D _⟩
theorem Z36(B:Nat)(w:World)(G:Eg)(V:Ev)(bl:List Nat)(i:Nat)(h:EAt B w G V bl)(hi:i<G.n):Calls prog 44 #[.pointer (some ⟨G.s,0,none⟩),.int .i64 (i:Int)] w λe w'=>e=.returned (.bool (V.Ms i).isSome)/\Zi B G bl V w w':=by have c2:=h.scell.cell (j:=2) rfl;have hh:=Z3f B w G V bl i h hi;have H:=Z5F hh;go_enter func44,ntmps44;go_wp2_with (go_at_call 34;refine H.out.mono ?_;rintro e w' ⟨rfl,C⟩);go_ret;simp_all
theorem IT(B:Nat)(w:World)(G:Eg)(V:Ev)(bl:List Nat)(h:EAt B w G V bl)(ht:Ty w):Calls prog 35 #[.pointer (some ⟨G.s,0,none⟩)] w (Ans w.heap.size (if V.P.gone then 10 else 0) λw'=>Below w.heap.size w w'):=by
 have c2:=h.scell.cell (j:=2) rfl;have cm:=h.mcell h.nle.1;have hn:=h.nle.1;obtain⟨x0,M⟩:w.cell? ⟨G.xs 0,0,none⟩=some (.pointer (some ⟨G.ds 0,0,none⟩))/\∃L,PD B w G.p (G.ds 0) 800 V.P (V.Ds 0) L:=by
  obtain⟨Ls,Os,rfl,h⟩:=h;refine⟨?_,_,h.pd 0 h.n1⟩;have J:=h.at_ 0 h.n1;cases hM:V.Ms 0 with
  |none=>rw[hM] at J;obtain⟨sv,lf,inn,_,F,_⟩:=J;exact F.cell (j:=0) rfl
  |some S=>rw[hM] at J;obtain⟨s,j,_,F,_⟩:=J;exact F.cell (j:=0) rfl
 obtain⟨L,M⟩:=M;have F:=PD.read M 0;have Z:(rdy V.P (V.Ds 0) 0==10)=V.P.gone:=by unfold rdy;grind
 obtain⟨rc,U⟩:=Z5H (rdy V.P (V.Ds 0) 0);obtain⟨tx,ae⟩:=Z5H (Bi V.P (V.Ds 0) 0);rw[U,ae] at F;rw[U] at Z;have H:=Z5J F ht;cases hg:V.P.gone with
 |true=>
  have C:rc=10:=by simp_all
  subst C;go_enter func35,ntmps35;go_wp2_with (first|(go_at_call 73;refine H.out.1.mono ?_;rintro e w1 ⟨ev,rfl,he,C⟩;have S1:=Z5J he C;clear he C)|(go_at_call 19;refine(QJ w.heap.size 10 10 _ _ S1.out.1 (by omega)).mono ?_;rintro e w2 ⟨rfl,rfl⟩)|(go_at_call 49;refine(CZ w.heap.size 10 _ _ S1.out.1 (H.out.2.below S1.out.2)).mono ?_;rintro e w3 ⟨v',rfl,hv,O⟩;have S3:=Z5J hv O;clear hv O));go_ret;exact⟨_,rfl,S3.out.1.base (by have:=S1.out.2.size;omega),S1.out.2.trans (S3.out.2.mono S1.out.2.size)⟩
 |false=>go_enter func35,ntmps35;go_wp2_with (first|(go_at_call 73;refine H.out.1.mono ?_;rintro e w1 ⟨ev,rfl,he,C⟩;have S1:=Z5J he C;clear he C)|(go_at_call 19;refine(QJ w.heap.size rc 10 _ _ S1.out.1 (by omega)).mono ?_;rw[Z];rintro e w2 ⟨rfl,rfl⟩));go_ret;exact⟨_,rfl,Zk.nil _ _,S1.out.2⟩
theorem LD(B:Nat)(w:World)(G:Eg)(V:Ev)(bl:List Nat)(h:EAt B w G V bl)(hg:V.P.gone=false):Calls prog 35 #[.pointer (some ⟨G.s,0,none⟩)] w (Ans w.heap.size 0 λw'=>Below w.heap.size w w'):=by
 have c2:=h.scell.cell (j:=2) rfl;have cm:=h.mcell h.nle.1;have hn:=h.nle.1;obtain⟨x0,J⟩:w.cell? ⟨G.xs 0,0,none⟩=some (.pointer (some ⟨G.ds 0,0,none⟩))/\∃L,PD B w G.p (G.ds 0) 800 V.P (V.Ds 0) L:=by
  obtain⟨Ls,Os,rfl,h⟩:=h;refine⟨?_,_,h.pd 0 h.n1⟩;have F:=h.at_ 0 h.n1;cases hM:V.Ms 0 with
  |none=>rw[hM] at F;obtain⟨sv,lf,inn,_,C,_⟩:=F;exact C.cell (j:=0) rfl
  |some S=>rw[hM] at F;obtain⟨s,j,_,C,_⟩:=F;exact C.cell (j:=0) rfl
 obtain⟨L,J⟩:=J;have ae:(0:Int)<(G.n:Int):=by omega
 have C:=PD.read J 0;have O:(rdy V.P (V.Ds 0) 0==10)=V.P.gone:=by
  unfold rdy;cases V.P.gone<;>cases (V.Ds 0).dead<;>simp
  split<;>simp
 obtain⟨rc,M⟩:=Z5H (rdy V.P (V.Ds 0) 0);obtain⟨tx,U⟩:=Z5H (Bi V.P (V.Ds 0) 0);rw[M,U] at C;rw[M] at O;have H:=Z5J C True.intro;clear h J C M U;rw[hg] at O;clear hg;go_enter func35,ntmps35;go_wp2_with (first|(go_at_call 73;refine H.out.1.mono ?_;rintro e w1 ⟨ev,rfl,he,Z⟩;have S1:=Z5J he Z;clear he Z)|(go_at_call 19;refine(QJ w.heap.size rc 10 _ _ S1.out.1 (by decide)).mono ?_;rw[O];rintro e w2 ⟨rfl,rfl⟩));go_ret;exact⟨_,rfl,Zk.nil _ _,S1.out.2⟩
theorem EAt.mem{B:Nat}{w:World}{G:Eg}{V:Ev}{bl:List Nat}(h:EAt B w G V bl){i:Nat}(hi:i<G.n){S:Sto}(hM:V.Ms i=some S):∃s,Row w (G.xs i) 91 [.pointer (some ⟨G.ds i,0,none⟩),.pointer (some ⟨s,0,none⟩),.int .i64 (V.Ds i).life,.bool true]/\Yf w s (G.ds i) S/\(V.Ds i).dead=false/\∃L,PD B w G.p (G.ds i) 800 V.P (V.Ds i) L:=by obtain⟨Ls,Os,rfl,h⟩:=h;have C:=h.at_ i hi;rw[hM] at C;obtain⟨s,j,_,J,hs,F⟩:=C;exact⟨s,J,hs.at_,F,_,h.pd i hi⟩
theorem CR{P:Pw}{D:Dk}(C:P.gone=false)(h:D.dead=false):WX P D=0:=by unfold WX;rw[C,h];rfl
section
variable{B p d:Nat}{P:Pw}{D:Dk}{L:List Nat}{s:Nat}{S:Sto}{w:World}{K:List Bs}{E:Nat}
theorem Z2e(h:PD B w p d 800 P D L)(M:Yf w s d S)(U:ZO K E D S)(hg:P.gone=false)(Z:D.dead=false){name v:Bs}(hn:name.length<=1000000)(C:stR D.reads S.dir name=some (some v)):Calls prog 157 #[.pointer (some ⟨s,0,none⟩),.string (str name)] w λr w'=>r=.returned (.tuple #[.string (str v),.nilIface])/\Below w.heap.size w w':=by
 unfold stR at C;rw[Option.map_eq_some_iff] at C;obtain⟨e,he,hv⟩:=C;unfold Fu at hv;split at hv
 .rename_i hc;simp at hv;refine(RW B p d 800 P D L s S name e 100 w h M hn he (U.runs he).1 (CR hg Z)).mono ?_;have F:Wt (D.value e)=e.sum:=hc;have O:D.value e=v:=hv;rw[if_pos F,if_pos F,O];rintro r w' ⟨ev,rfl,J,hb⟩;rw[J.zero];simp_all
 .grind
theorem Z3Q(h:PD B w p d 800 P D L)(J:Yf w s d S)(U:ZO K E D S)(hg:P.gone=false)(Z:D.dead=false){name:Bs}(M:name.length<=1000000)(C:stR D.reads S.dir name=none∨stR D.reads S.dir name=some none):Calls prog 157 #[.pointer (some ⟨s,0,none⟩),.string (str name)] w λr w'=>∃b,r=.returned (.tuple #[.string ⟨#[]⟩,.iface 139 (.pointer (some ⟨b,0,none⟩))])/\Zk w' w.heap.size (if S.dir.get name=none then 13 else 14) (.iface 139 (.pointer (some ⟨b,0,none⟩)))/\Below w.heap.size w w':=by
 cases F:S.dir.get name with
 |none=>rw[if_pos rfl];exact Z05 s d S name w J M F
 |some e=>
  have hc:¬Wt (D.value e)=e.sum:=by
   rcases C with C|C
   .rw[stR,F] at C;cases C
   .rw[stR,F] at C;simp at C;unfold Fu at C;split at C
    .grind
    .rename_i hc;exact hc
  refine(RW B p d 800 P D L s S name e 100 w h J M F (U.runs F).1 (CR hg Z)).mono ?_;rintro r w' ⟨ev,rfl,O,hb⟩;rcases O.split with ⟨h0,_⟩|⟨_,b,rfl⟩
  .omega
  .simp_all
theorem BT(h:PD B w p d 800 P D L)(C:Yf w s d S)(J:ZO K E D S)(U:P.gone=false)(O:D.dead=false){under name:Bs}{l:List Bs}(hu:under.length<=1000000)(Z:name.length<=220)(F:(Zz l).length<=9000)(M:stR D.reads S.dir under=some (some (Yo name (Zz l)))):Calls prog 110 #[.pointer (some ⟨s,0,none⟩),.string (str under),.string (str name)] w λe w'=>∃a cap,e=.returned (.tuple #[.slice a l.length cap,.nilIface])/\w'.ownsRow w.heap.size 9 1 (.slice a l.length cap) l.length (Z7 (l.map str))/\Below w.heap.size w w':=VO s under name l w (Z2e h C J U O hu M) Z F
theorem M6(h:PD B w p d 800 P D L)(C:Yf w s d S)(F:ZO K E D S)(O:P.gone=false)(M:D.dead=false){under name:Bs}(hu:under.length<=1000000)(J:stR D.reads S.dir under=none∨stR D.reads S.dir under=some none):Calls prog 110 #[.pointer (some ⟨s,0,none⟩),.string (str under),.string (str name)] w λe w'=>∃b,e=.returned (.tuple #[.slice none 0 0,.iface 139 (.pointer (some ⟨b,0,none⟩))])/\Zk w' w.heap.size (if S.dir.get under=none then 13 else 14) (.iface 139 (.pointer (some ⟨b,0,none⟩)))/\Below w.heap.size w w':=TF s under name _ (by omega) w (Z3Q h C F O M hu J)
end
theorem Vh(b s k m i g:Nat)(name:Bs)(w:World)(hk:k<=4294967295)(hm:m<=4294967295)(hi:i<=4294967295)(hg:g<=4294967295)(c0:w.cell? ⟨b,0,none⟩=some (.int .i64 (k:Int)))(c1:w.cell? ⟨b,1,none⟩=some (.int .i64 (m:Int)))(ho:Calls prog 110 #[.pointer (some ⟨s,0,none⟩),.string (str name),.string (str nmC)] w λe w'=>∃a cap,e=.returned (.tuple #[.slice a 5 cap,.nilIface])/\w'.ownsRow w.heap.size 9 1 (.slice a 5 cap) 5 (Z7 ([Oz,Z4 k,Z4 m,Z4 i,Z4 g].map str))/\Below w.heap.size w w'):Calls prog 63 #[.pointer (some ⟨b,0,none⟩),.pointer (some ⟨s,0,none⟩),.string (str name),.int .i64 (i:Int)] w λe w'=>e=.returned (.int .i64 (g:Int))/\Below w.heap.size w w':=by
 have U:Yw (s32 g).data.toList=g:=by have h9:=CO g [];rw[Z5C] at h9;have e9:(s32 g).data.toList=Z4 g:=rfl;rw[e9,h9];omega
 have af:(s32 g).size=4:=Y3 g;have HO:=Z5F ho;have HG:=Z5J U af;have Z:(str nmC)=⟨#[33]⟩:=rfl;rw[Z] at HO;clear ho U af Z;go_enter func63,ntmps63;go_wp2_with (go_at_call 110;refine HO.out.mono ?_;rintro e w1 ⟨a,cap,rfl,ae,M⟩;obtain⟨gl,ag,sp,hv,ak,ai,aj,hr⟩:=Qs ae (by omega);injection hv with hv1 hv2 hv3;subst hv1;have S1:=Z5J hr M;clear ae M hr hv3);have d0:w1.cell? ⟨gl,0,none⟩=some (.string ⟨#[115,101,116]⟩):=S1.out.1.cell (j:=0) rfl;have d1:w1.cell? ⟨gl,1,none⟩=some (.string (s32 k)):=S1.out.1.cell (j:=1) rfl;have d2:w1.cell? ⟨gl,2,none⟩=some (.string (s32 m)):=S1.out.1.cell (j:=2) rfl;have d3:w1.cell? ⟨gl,3,none⟩=some (.string (s32 i)):=S1.out.1.cell (j:=3) rfl;have d4:w1.cell? ⟨gl,4,none⟩=some (.string (s32 g)):=S1.out.1.cell (j:=4) rfl;have e0:w1.cell? ⟨b,0,none⟩=some (.int .i64 (k:Int)):=(S1.out.2.cell (Z5b w _ c0)).trans c0;have e1:w1.cell? ⟨b,1,none⟩=some (.int .i64 (m:Int)):=(S1.out.2.cell (Z5b w _ c1)).trans c1;have J:∀A C:World,(A.cell? ⟨gl,0,none⟩=some (.string ⟨#[115,101,116]⟩)/\A.cell? ⟨gl,1,none⟩=some (.string (s32 k))/\A.cell? ⟨gl,2,none⟩=some (.string (s32 m))/\A.cell? ⟨gl,3,none⟩=some (.string (s32 i))/\A.cell? ⟨gl,4,none⟩=some (.string (s32 g))/\A.cell? ⟨b,0,none⟩=some (.int .i64 (k:Int))/\A.cell? ⟨b,1,none⟩=some (.int .i64 (m:Int))/\Below w1.heap.size w1 A)->Below A.heap.size A C->(C.cell? ⟨gl,0,none⟩=some (.string ⟨#[115,101,116]⟩)/\C.cell? ⟨gl,1,none⟩=some (.string (s32 k))/\C.cell? ⟨gl,2,none⟩=some (.string (s32 m))/\C.cell? ⟨gl,3,none⟩=some (.string (s32 i))/\C.cell? ⟨gl,4,none⟩=some (.string (s32 g))/\C.cell? ⟨b,0,none⟩=some (.int .i64 (k:Int))/\C.cell? ⟨b,1,none⟩=some (.int .i64 (m:Int))/\Below w1.heap.size w1 C):=by rintro A C ⟨h0,h1,h2,h3,h4,h5,h6,F⟩ hb;have key:∀{p:Addr} {v:Value},A.cell? p=some v->C.cell? p=some v:=λh=>(hb.cell (Z5b A _ h)).trans h;exact⟨key h0,key h1,key h2,key h3,key h4,key h5,key h6,F.trans (hb.mono F.size)⟩
 have hs0:=J w1 w1.drew ⟨d0,d1,d2,d3,d4,e0,e1,Z5E⟩ (Z5E.drew);have HK:=Z5F J;clear J c0 c1;go_wp2;go_region_held3 (λx=>x.cell? ⟨gl,0,none⟩=some (.string ⟨#[115,101,116]⟩)/\x.cell? ⟨gl,1,none⟩=some (.string (s32 k))/\x.cell? ⟨gl,2,none⟩=some (.string (s32 m))/\x.cell? ⟨gl,3,none⟩=some (.string (s32 i))/\x.cell? ⟨gl,4,none⟩=some (.string (s32 g))/\x.cell? ⟨b,0,none⟩=some (.int .i64 (k:Int))/\x.cell? ⟨b,1,none⟩=some (.int .i64 (m:Int))/\Below w1.heap.size w1 x) (first|exact hs0|(exact HK.out _ _ (by assumption) (Z5E.alloc Z5D _))|(exact HK.out _ _ (by assumption) (by assumption)))
  (first|(go_at_call 80;refine(Ci _ (by assumption) _).mono ?_;rintro e w8 ⟨rfl,ah⟩))
 rename_i hHeld;obtain⟨-, -, -, -,h4, -, -,F⟩:=hHeld;have hB:=Z5F (S1.out.2.trans (F.mono S1.out.2.size));clear F;go_wp2_with (go_at_call 111;refine(Dl (s32 g) HG.out.2 _).mono ?_;rw[HG.out.1];rintro e w9 ⟨rfl,O⟩;have S9:=Z5F (hB.out.trans (O.mono hB.out.size));clear O);go_ret;exact⟨rfl,S9.out⟩
theorem Tp(b s i:Nat)(name:Bs)(c:Int)(w:World)(J:Calls prog 110 #[.pointer (some ⟨s,0,none⟩),.string (str name),.string (str nmC)] w λe w'=>∃b,e=.returned (.tuple #[.slice none 0 0,.iface 139 (.pointer (some ⟨b,0,none⟩))])/\Zk w' w.heap.size c (.iface 139 (.pointer (some ⟨b,0,none⟩)))/\Below w.heap.size w w'):Calls prog 63 #[.pointer (some ⟨b,0,none⟩),.pointer (some ⟨s,0,none⟩),.string (str name),.int .i64 (i:Int)] w λe w'=>e=.returned (.int .i64 (-1))/\Below w.heap.size w w':=by have F:=Z5F J;go_enter func63,ntmps63;go_wp2_with (go_at_call 110;refine F.out.mono ?_;rintro e w1 ⟨q,rfl,C,h⟩;have S1:=Z5F h;clear h C);go_quiet (fail);go_wp2;go_ret;exact⟨rfl,S1.out.trans (Zv Z5E _|>.mono S1.out.size)⟩
theorem Z17(n:Bs):Lib.hasPrefix n [115]=isS n:=by
 unfold Lib.hasPrefix isS;cases n with
 |nil=>rfl
 |cons a r=>simp[List.isPrefixOf];exact BEq.comm
theorem L7(d:Dir):(d.names.filter λn=>Lib.hasPrefix n [115])=d.names.filter isS:=List.filter_congr λn _=>Z17 n
theorem Z4Z(n:Bs)(h:1<=n.length):(⟨#[100]⟩:ByteArray)++(str n).extract 1 (str n).size=str (100::n.drop 1):=by apply YU;rw[data_append,Lib.extract_to_end,Zn,Zn];rfl
theorem Z3n(key:Bs):(⟨#[100]⟩:ByteArray)++str key=str (nmD key):=by rfl
theorem DY(key:Bs)(h:key.length<=1000000):∀W,(Op.stringOp .add ⟨#[100]⟩ (str key)).run prog W=.ok (.string (str (nmD key))) W:=λW=>by rw[<-Z3n];exact run_string_add_sum _ ⟨#[100]⟩ (str key) (by have C:(⟨#[100]⟩:ByteArray).size=1:=rfl;rw[Z5];omega)
structure SeS(s d:Nat)(S:Sto)(w:World)(lv gv:Value)(l gone:List Bs)(av:Value)(acts:List Ac)(wr:World):Prop where
 st:Yf wr s d S
 own:Ai wr w.heap.size av acts
 ls:Strs wr w.heap.size lv l
 gs:∃a cap,gv=.slice a gone.length cap/\Zx w a (gone.map str)/\∀g o,a=some ⟨g,o,none⟩->g<w.heap.size
 bel:Below w.heap.size w wr
section
variable{s d:Nat}{S:Sto}{w wr:World}{lv gv av:Value}{l gone:List Bs}{acts:List Ac}
theorem SeS.after(h:SeS s d S w lv gv l gone av acts wr){w':World}(C:Below wr.heap.size wr w'):SeS s d S w lv gv l gone av acts w':=⟨h.st.after C,Qz h.own C,h.ls.after C,h.gs,h.bel.trans (C.mono h.bel.size)⟩
theorem SeS.next(h:SeS s d S w lv gv l gone av acts wr){w':World}{O:Value}{M:List Ac}(ho:Ai w' w.heap.size O M)(C:Fr (ZG av) wr w'):SeS s d S w lv gv l gone O M w':=by
 have hb:Below w.heap.size w w':=h.bel.trans (C.below h.bel.size (WE h.own));have U:=QA h.own;have F:∀{g:Nat} {e:TypeId} {x:List Value},Row wr g e x->e≠151->g∉ZG av:=λhr he hm=>by obtain⟨x',J⟩:=U _ hm;exact Row.ne hr J he rfl
 obtain⟨j,b,uv,Z,r2,r3,g,hv,r4⟩:=h.st;refine⟨⟨j,b,uv,Z.fr C (F Z (by simp)),Row.fr r2 C (F r2 (by simp)),r3.fr C ?_ (λk hk x hx=>F hx (by simp) hk),g,hv,r4.fr C (F r4 (by simp))⟩,ho,h.ls.fr C (λg hg hm=> ?_),h.gs,hb⟩
 .obtain⟨fv,m1,_⟩:=r3;obtain⟨es,cl,ae⟩:=m1.block;intro hm;obtain⟨x',f,J,_⟩:=U _ hm;simp_all
 .obtain⟨x',J⟩:=QA h.ls g (ZK.2 hg);grind
theorem SeS.gone_cell(h:SeS s d S w lv gv l gone av acts wr){k:Nat}(J:k<gone.length):∃g o cap,gv=.slice (some ⟨g,o,none⟩) gone.length cap/\wr.cell? ⟨g,o+k,none⟩=some (.string (str gone[k])):=by obtain⟨a,cap,rfl,C,F⟩:=h.gs;obtain⟨g,o,rfl,hc⟩:=C k (by simp_all);refine⟨g,o,cap,rfl,?_⟩;rw[h.bel.cell (p:=⟨g,o+k,none⟩) (F g o rfl),hc];simp
theorem SeS.l_cell(h:SeS s d S w lv gv l gone av acts wr){k:Nat}(C:k<l.length):∃g cap,lv=.slice (some ⟨g,0,none⟩) l.length cap/\wr.cell? ⟨g,k,none⟩=some (.string (str l[k])):=by obtain⟨g,cap,sp,hv,_,_,_,F⟩:=Qs h.ls (by omega);refine⟨g,cap,hv,F.cell ?_⟩;rw[Z5c (by simp[Z7];omega)];simp[Z7,C]
end
theorem Kn(s d:Nat)(S:Sto)(gv:Value)(gone:List Bs)(w:World)(cn:Yf w s d S)(df:S.dir.Sorted)(b8:S.dir.length<=100000)(de:∀n∈S.dir.names,n.length<=1000)(b9:∃a cap,gv=.slice a gone.length cap/\Zx w a (gone.map str)/\∀g o,a=some ⟨g,o,none⟩->g<w.heap.size)(dz:gone.length<=1000)(cu:∀x∈gone,x.length<=1000)(b7:∀n e,S.dir.get n=some e->e.runs≠[]/\e.runs.length<=1000000){R:Value->World->Prop}(hC:∀ga na ca w1,Below w.heap.size w w1->Yf w1 s d S->WD w1 ga 0 (Q0 S.dir gone)->w.heap.size<=ga->na=(Q0 S.dir gone).length->na<=ca->Calls prog 38 #[.pointer (some ⟨s,0,none⟩),.slice (some ⟨ga,0,none⟩) na ca] w1 λe w'=>∃ev,e=.returned ev/\R ev w'):Calls prog 41 #[.pointer (some ⟨s,0,none⟩),gv] w λe w'=>∃ev,e=.returned ev/\R ev w':=by
 have du:(S.dir.names.filter isS).length<=100000:=by have h1:=List.length_filter_le isS S.dir.names;have h2:S.dir.names.length=S.dir.length:=Z5i ..;omega
 have cj:∀n∈S.dir.names.filter isS,1<=n.length/\n.length<=1000:=λn hn=>by obtain⟨h1,h2⟩:=List.mem_filter.1 hn;refine⟨?_,de n h1⟩;obtain⟨x,rfl⟩:=(Ab n).1 h2;simp[nmS]
 have ae:=BY s d S [115] w cn df b8;rw[L7] at ae;have hA:Q0 S.dir gone=(S.dir.names.filter isS).map mv1++((gone.filter λkey=>(S.dir.get (nmD key)).isSome).map λkey=>dr1 (nmD key))++[⟨3,nmN,nmC,[]⟩,dr1 nmT]:=rfl;obtain⟨l,hl⟩:=Z5H (S.dir.names.filter isS);rw[hl] at du cj ae hA;obtain⟨ga,ag,rfl,cw⟩:=b9;have H:=Z5M cn ae cw hC hA;have HS:=Z5K cj cu b7;clear cn ae cw hC hA cj cu b7 df b8 de hl;go_enter func41,ntmps41;go_wp2_with (go_at_call 96;refine H.out.2.1.mono ?_;rintro e w1 ⟨v,rfl,bz,ct⟩;obtain⟨la,lc,rfl⟩:=Xd bz;have S1:=Z5J bz ct;clear bz ct);have I0:SeS s d S w (.slice la l.length lc) (.slice ga gone.length ag) l gone (.slice none 0 0) [] w1:=⟨H.out.1.after S1.out.2,World.ownsRow_nil _ _ _ _,S1.out.1,⟨ga,ag,rfl,H.out.2.2.1⟩,S1.out.2⟩;have dp:=Z5F I0;clear I0;go_loopw [7,24] (λav kv wr=>∃k:Nat,k<=l.length/\kv=.int .i64 k/\SeS s d S w (.slice la l.length lc) (.slice ga gone.length ag) l gone av ((l.take k).map mv1) wr) (λ_ kv _=>l.length- (intOf kv).toNat)
 case atStart=>exact⟨0,by omega,rfl,dp.out⟩
 case round=>
  obtain⟨k,hk,rfl,O⟩:=hrel;have J:=Z5F O;by_cases al:k<l.length
  .obtain⟨g,cap,hv,af⟩:=O.l_cell al;injection hv with hv1 hv2 au;subst hv1 au;clear hv2;have hx:=HS.out.1 _ (Z5r al);obtain⟨x,aq⟩:=Z5H l[k];have dh:(l.take (k+1)).map mv1=(l.take k).map mv1++[mv1 x]:=by rw[Z5f al,aq];simp
   have dj:((l.take k).map mv1).length<=1000000:=by rw[Z5i,Z5j];omega
   rw[aq] at af hx;have dy:∀W,(Instr.slice 9 (.string (str x)) (some (.int .i64 1)) none none).run prog W=.ok (.string ((str x).extract 1 (str x).size)) W:=λW=>YA 9 underlying9 (str x) 1 (by rw[Z5];omega) W;have dt:((str x).extract 1 (str x).size).size<=1000:=by rw[ByteArray.size_extract,Z5];omega
   have ah:∀W,(Op.stringOp .add ⟨#[100]⟩ ((str x).extract 1 (str x).size)).run prog W=.ok (.string (str (100::x.drop 1))) W:=λW=>by rw[<-Z4Z x hx.1];exact run_string_add_sum _ ⟨#[100]⟩ _ (by have h1:(⟨#[100]⟩:ByteArray).size=1:=rfl;omega)
   obtain⟨X,hX⟩:=Z5H ((str x).extract 1 (str x).size);rw[hX] at dy ah dt;obtain⟨TO,bh⟩:=Z5H (str (100::x.drop 1));rw[bh] at ah;have dm:((l.take k).map mv1).length=k:=by rw[Z5i,Z5j];omega
   have M:=Z5L dh dj bh dm;have Z:Row (wr.alloc (.cells #[.int .i64 3,.string (str x),.string TO,.string ⟨#[]⟩] 151)) wr.heap.size 151 (AcC (mv1 x)):=by rw[<-bh];exact Row.new wr _ _
   have S2:=J.out.after ((Below.refl wr.heap.size wr).alloc Z5D (.cells #[.int .i64 3,.string (str x),.string TO,.string ⟨#[]⟩] 151));have C:=Z5J Z S2;clear Z S2 O aq dh dj hX hx bh dm;go_wp2_with (at_builtin;refine AN _ rfl (.tmp 28) (.tmp 34) rfl w.heap.size _ ((l.take k).map mv1) rfl C.out.2.own wr.heap.size (mv1 x) rfl C.out.1 C.out.2.bel.size M.out.2.1 ?_;intro g2 ak w2 ho hf _ _ _;have S3:=Z5F (C.out.2.next ho hf);clear ho hf);go_roundw
   case measure=>simp[intOf];omega
   case rel=>exact⟨k+1,by omega,by go_num,by rw[M.out.1];have h9:=S3.out;rw[M.out.2.2.2] at h9;exact h9⟩
  .obtain rfl:k=l.length:=(by omega);rw[Z5A] at J;clear O;go_wp2_with fail;go_loopw [7,39] (λav kv wr=>∃k:Nat,k<=gone.length/\kv=.int .i64 k/\SeS s d S w (.slice la l.length lc) (.slice ga gone.length ag) l gone av (l.map mv1++(((gone.take k).filter λkey=>(S.dir.get (nmD key)).isSome).map λkey=>dr1 (nmD key))) wr) (λ_ kv _=>gone.length- (intOf kv).toNat)
   case atStart=>exact⟨0,by omega,rfl,by simpa using J.out⟩
   case round=>
    obtain⟨k,hk,rfl,O⟩:=hrel;have J:=Z5F O;by_cases al:k<gone.length
    .obtain⟨g,o,cap,hv,af⟩:=O.gone_cell al;injection hv with hv1 hv2 au;subst hv1 au;clear hv2;have hx:=HS.out.2.1 _ (Z5r al);obtain⟨x,aq⟩:=Z5H gone[k];obtain⟨F,U⟩:=Z5H (l.map mv1++(((gone.take k).filter λkey=>(S.dir.get (nmD key)).isSome).map λkey=>dr1 (nmD key)));have cr:l.map mv1++(((gone.take (k+1)).filter λkey=>(S.dir.get (nmD key)).isSome).map λkey=>dr1 (nmD key))=F++(if(S.dir.get (nmD x)).isSome then[dr1 (nmD x)] else[]):=by rw[<-U,Z5f al,aq,List.filter_append,Z5u,Z5g];cases h:(S.dir.get (nmD x)).isSome<;>simp[h]
     have aw:F.length<=1000000:=by rw[<-U,Z5d,Z5i,Z5i];have:=List.length_filter_le (λkey=>(S.dir.get (nmD key)).isSome) (gone.take k);rw[Z5j] at this;omega
     rw[U] at J;rw[aq] at af hx;have ah:=DY x (by omega);have dc:(nmD x).length<=1000000:=by simp[nmD];omega
     have M:=Z5K cr aw dc;clear O aq U cr aw hx dc;cases bf:S.dir.get (nmD x) with
     |none=>
      go_wp2_with (go_at_call 97;refine(Bl s d S (nmD x) _ J.out.st M.out.2.2 bf).mono ?_;rintro e w3 ⟨b,rfl,bq,az⟩;have R3:=Z5F (J.out.after az);clear az bq ah);go_roundw
      case measure=>simp[intOf];omega
      case rel=>exact⟨k+1,by omega,by go_num,by rw[M.out.1,bf];simpa using R3.out⟩
     |some e=>
      obtain⟨dw,dx⟩:=HS.out.2.2 _ _ bf;have HG:=Z5F bf;clear bf;go_wp2_with (first|(go_at_call 97;refine(Bm s d S (nmD x) e _ J.out.st M.out.2.2 HG.out dw dx).mono ?_;rintro e w3 ⟨v,rfl,bq,az⟩;have R3:=Z5F (J.out.after az);have Z:Row (w3.alloc (.cells #[.int .i64 2,.string (str (nmD x)),.string ⟨#[]⟩,.string ⟨#[]⟩] 151)) w3.heap.size 151 (AcC (dr1 (nmD x))):=Row.new w3 _ _;have S2:=R3.out.after ((Below.refl w3.heap.size w3).alloc Z5D (.cells #[.int .i64 2,.string (str (nmD x)),.string ⟨#[]⟩,.string ⟨#[]⟩] 151));have C:=Z5J Z S2;clear Z S2 az bq)|(at_builtin;refine AN _ rfl (.tmp 52) (.tmp 56) rfl w.heap.size _ F rfl C.out.2.own w3.heap.size (dr1 (nmD x)) rfl C.out.1 C.out.2.bel.size M.out.2.1 ?_;intro g2 ak w4 ho hf _ _ _;have S3:=Z5F (C.out.2.next ho hf);clear ho hf));go_roundw
      case measure=>simp[intOf];omega
      case rel=>exact⟨k+1,by omega,by go_num,by rw[M.out.1,HG.out];exact S3.out⟩
    .obtain rfl:k=gone.length:=(by omega);rw[Z5A] at J;obtain⟨F,U⟩:=Z5H (l.map mv1++((gone.filter λkey=>(S.dir.get (nmD key)).isSome).map λkey=>dr1 (nmD key)));have aw:F.length<=1000000:=by rw[<-U,Z5d,Z5i,Z5i];have:=List.length_filter_le (λkey=>(S.dir.get (nmD key)).isSome) gone;omega
     have bj:=H.out.2.2.2.2;rw[U] at J bj;have Z:Row (wr.alloc (.cells #[.int .i64 3,.string ⟨#[110]⟩,.string ⟨#[33]⟩,.string ⟨#[]⟩,.int .i64 2,.string ⟨#[116]⟩,.string ⟨#[]⟩,.string ⟨#[]⟩] 151)) wr.heap.size 151 (AcC ⟨3,nmN,nmC,[]⟩++AcC (dr1 nmT)):=Row.new wr _ _;have S2:=J.out.after ((Below.refl wr.heap.size wr).alloc Z5D (.cells #[.int .i64 3,.string ⟨#[110]⟩,.string ⟨#[33]⟩,.string ⟨#[]⟩,.int .i64 2,.string ⟨#[116]⟩,.string ⟨#[]⟩,.string ⟨#[]⟩] 151));have C:=Z5L Z S2 aw bj;clear Z S2 O U aw bj;go_wp2_with (at_builtin;refine OR _ rfl (.tmp 59) (.tmp 62) rfl w.heap.size _ F rfl C.out.2.1.own wr.heap.size ⟨3,nmN,nmC,[]⟩ (dr1 nmT) rfl C.out.1 C.out.2.1.bel.size C.out.2.2.1 ?_;intro g2 ak w4 ho hf _ _ cz;have S3:=C.out.2.1.next ho hf;have S4:=Z5J S3 cz;clear ho hf S3 cz);obtain⟨g3,dq,au,bu,bm,aj⟩:=S4.out.1.own.row (by simp);have hlen:(F++[(⟨3,nmN,nmC,[]⟩:Ac),dr1 nmT]).length=F.length+2:=(by simp);rw[hlen] at au bm;injection au with hv31 hv32 hv33;have bg:=congrArg (λ(a:Option Addr)=>a.map Addr.block) hv31;simp only[Option.map_some,Z5e] at bg;subst bg hv33;have ai:=H.out.2.2.2.1 g2 (F.length+2) ak w4 S4.out.1.bel S4.out.1.st (by rw[C.out.2.2.2];exact aj) S4.out.2 (by rw[C.out.2.2.2,hlen]) bm;have HC:=Z5F ai;clear ai aj bm bu hlen hv31 hv32;refine HC.out.mono ?_;rintro e w5 ⟨ev,rfl,hR⟩;have HR:=Z5F hR;clear hR;go_wp2;go_ret;exact⟨ev,rfl,HR.out⟩
theorem Me(b ms q s k m i:Nat)(cap:Nat)(n:Nat)(key v:Bs)(w:World)(ag:1<=k)(cj:k+m<=16)(hi:i<n)(hn:n=k+m)(hv:v.length<=200)(bz:key.length<=200)(c0:w.cell? ⟨b,0,none⟩=some (.int .i64 (k:Int)))(c2:w.cell? ⟨b,2,none⟩=some (.slice (some ⟨ms,0,none⟩) n cap))(cm:w.cell? ⟨ms,i,none⟩=some (.pointer (some ⟨q,0,none⟩)))(c1:w.cell? ⟨q,1,none⟩=some (.pointer (some ⟨s,0,none⟩)))(ho:Calls prog 110 #[.pointer (some ⟨s,0,none⟩),.string (str (nmD key)),.string (str (nmD key))] w λe w'=>∃a cap,e=.returned (.tuple #[.slice a 3 cap,.nilIface])/\w'.ownsRow w.heap.size 9 1 (.slice a 3 cap) 3 (Z7 ([Z4 i,Z4 v.length,shT k m v i].map str))/\Below w.heap.size w w'):Calls prog 100 #[.pointer (some ⟨b,0,none⟩),.int .i64 (i:Int),.string (str key)] w λe w'=>e=.returned (.tuple #[.string (str (shT k m v i)),.int .i64 (v.length:Int),.nilIface])/\Below w.heap.size w w':=by
 have b8:=DY key (by omega);have bq:(i:Int)<(n:Int):=by omega
 have bu:i<=4294967295:=by omega
 have af:Yw (s32 v.length).data.toList=v.length:=by have h9:=CO v.length [];rw[Z5C] at h9;have e9:(s32 v.length).data.toList=Z4 v.length:=rfl;rw[e9,h9];omega
 have ai:(s32 v.length).size=4:=Y3 _;have aw:str (shT k m v i)=(Zs k m (str v)).getD i ⟨#[]⟩:=rfl;have b9:(str (shT k m v i)).size=ZT k v.length:=by rw[aw,WA k m (str v) ag i (by omega),Z5]
 have ak:=DN k v.length ag;obtain⟨X,hX⟩:=Z5H (str (shT k m v i));obtain⟨z,Z⟩:=Z5H (ZT k v.length);obtain⟨F,J⟩:=Z5H v.length;rw[J] at Z;rw[hX,J,Z] at b9;rw[J,Z] at ak;have au:Z7 ([Z4 i,Z4 v.length,shT k m v i].map str)=[.string (s32 i),.string (s32 F),.string X]:=by rw[<-hX,<-J];rfl
 rw[au] at ho;rw[J] at af ai hv⊢;rw[hX];have aj:=B4 k F;rw[Z] at aj;have HO:=Z5F ho;have HG:=Z5K af ai aj;have c8:decide ((F:Int)>8000)=false:=by simp;omega
 have cn:((z:Int) !=(X.size:Int))=false:=by simp;omega
 clear ho af ai aj aw hX Z J au;go_enter func100,ntmps100;go_wp2_with (go_at_call 110;refine HO.out.mono ?_;rintro e w1 ⟨a,b7,rfl,aq,al⟩;obtain⟨gl,az,sp,bf,bm,bh,bj,hr⟩:=Qs aq (by omega);injection bf with hv1 hv2 hv3;subst hv1;have S1:=Z5J hr al;clear aq al hr hv3);have d0:w1.cell? ⟨gl,0,none⟩=some (.string (s32 i)):=S1.out.1.cell (j:=0) rfl;have d1:w1.cell? ⟨gl,1,none⟩=some (.string (s32 F)):=S1.out.1.cell (j:=1) rfl;have d2:w1.cell? ⟨gl,2,none⟩=some (.string X):=S1.out.1.cell (j:=2) rfl;have e0:w1.cell? ⟨b,0,none⟩=some (.int .i64 (k:Int)):=(S1.out.2.cell (Z5b w _ c0)).trans c0;have ah:∀A C:World,(A.cell? ⟨gl,0,none⟩=some (.string (s32 i))/\A.cell? ⟨gl,1,none⟩=some (.string (s32 F))/\A.cell? ⟨gl,2,none⟩=some (.string X)/\A.cell? ⟨b,0,none⟩=some (.int .i64 (k:Int))/\Below w1.heap.size w1 A)->Below A.heap.size A C->(C.cell? ⟨gl,0,none⟩=some (.string (s32 i))/\C.cell? ⟨gl,1,none⟩=some (.string (s32 F))/\C.cell? ⟨gl,2,none⟩=some (.string X)/\C.cell? ⟨b,0,none⟩=some (.int .i64 (k:Int))/\Below w1.heap.size w1 C):=by rintro A C ⟨h0,h1,M,O,U⟩ hb;have key:∀{p:Addr} {v:Value},A.cell? p=some v->C.cell? p=some v:=λh=>(hb.cell (Z5b A _ h)).trans h;exact⟨key h0,key h1,key M,key O,U.trans (hb.mono U.size)⟩
 have hs0:=ah w1 w1.drew ⟨d0,d1,d2,e0,Z5E⟩ (Z5E.drew);have HK:=Z5F ah;clear ah c0 c1 c2 cm;go_wp2;go_region_held3 (λx=>x.cell? ⟨gl,0,none⟩=some (.string (s32 i))/\x.cell? ⟨gl,1,none⟩=some (.string (s32 F))/\x.cell? ⟨gl,2,none⟩=some (.string X)/\x.cell? ⟨b,0,none⟩=some (.int .i64 (k:Int))/\Below w1.heap.size w1 x) (first|exact hs0|(exact HK.out _ _ (by omega) (Z5E.alloc Z5D _))|(exact HK.out _ _ (by omega) (by omega)))
  (first|(go_at_call 80;refine(Ci _ (by omega) _).mono ?_;rintro e w8 ⟨rfl,bg⟩))
 rename_i hHeld;clear d0 d1 d2 e0;obtain⟨-,h1,M,O,U⟩:=hHeld;have hB:=Z5F (S1.out.2.trans (U.mono S1.out.2.size));clear U hs0;go_wp2_with (first|(go_at_call 111;refine(Dl (s32 F) HG.out.2.1 _).mono ?_;rw[HG.out.1];rintro e w9 ⟨rfl,ae⟩;have k0:=(ae.cell (Z5b _ _ M)).trans M;have k3:=(ae.cell (Z5b _ _ O)).trans O;have S9:=Z5F (hB.out.trans (ae.mono hB.out.size));clear ae h1 M O hB)|(go_at_call 113;refine(HG.out.2.2 _ ag (by omega) (by omega)).mono ?_;rintro e cr ⟨rfl,rfl⟩));go_ret3;exact⟨rfl,S9.out⟩
theorem VX(b ms q s i:Nat)(cap n:Nat)(key:Bs)(c:Int)(w:World)(hi:i<n)(U:key.length<=200)(c2:w.cell? ⟨b,2,none⟩=some (.slice (some ⟨ms,0,none⟩) n cap))(Z:w.cell? ⟨ms,i,none⟩=some (.pointer (some ⟨q,0,none⟩)))(c1:w.cell? ⟨q,1,none⟩=some (.pointer (some ⟨s,0,none⟩)))(J:Calls prog 110 #[.pointer (some ⟨s,0,none⟩),.string (str (nmD key)),.string (str (nmD key))] w λe w'=>∃b,e=.returned (.tuple #[.slice none 0 0,.iface 139 (.pointer (some ⟨b,0,none⟩))])/\Zk w' w.heap.size c (.iface 139 (.pointer (some ⟨b,0,none⟩)))/\Below w.heap.size w w'):Calls prog 100 #[.pointer (some ⟨b,0,none⟩),.int .i64 (i:Int),.string (str key)] w λe w'=>∃b,e=.returned (.tuple #[.string ⟨#[]⟩,.int .i64 0,.iface 139 (.pointer (some ⟨b,0,none⟩))])/\Zk w' w.heap.size c (.iface 139 (.pointer (some ⟨b,0,none⟩)))/\Below w.heap.size w w':=by have O:=DY key (by omega);have F:=Z5F J;go_enter func100,ntmps100;go_wp2_with (go_at_call 110;refine F.out.mono ?_;rintro e w1 ⟨M,rfl,C,h⟩;have S1:=Z5J C h;clear h C);go_ret3;exact⟨M,rfl,S1.out.1,S1.out.2⟩
def YE(V:Ev)(key:Bs)(i:Nat):Bool:=match V.Ms i with
 |some S=>(S.dir.get (nmD key)).isSome
 |none=>false
theorem Zi.refl{B:Nat}{w:World}{G:Eg}{V:Ev}{bl:List Nat}(h:EAt B w G V bl):Zi B G bl V w w:=Zi.same h Z5E
def Fk(V:Ev)(n:Nat):Prop:=∀i,i<n->∀S,V.Ms i=some S->∀m e,S.dir.get m=some e->e.runs≠[]/\e.runs.length<=1000
theorem Gc(B:Nat)(w:World)(G:Eg)(V:Ev)(bl:List Nat)(key:Bs)(h:EAt B w G V bl)(b9:key.length<=200)(ae:Fk V G.n):Calls prog 67 #[.pointer (some ⟨G.s,0,none⟩),.string (str key)] w λe w'=>e=.returned (.bool ((List.range G.n).any (YE V key)))/\Zi B G bl V w w':=by
 have c2:=h.scell.cell (j:=2) rfl;have hn:=h.nle;have O:=DY key (by omega);have HC:=Z5F O;have HR:=Z5F ae;have H0:=Z5F (Zi.refl h);have aq:(nmD key).length<=1000000:=by simp[nmD];omega
 clear h O ae;go_enter func67,ntmps67;go_wp2;go_loopw [14] (λkv wr=>∃k:Nat,k<=G.n/\kv=.int .i64 k/\(∀i,i<k->YE V key i=false)/\Zi B G bl V w wr) (λkv _=>G.n- (intOf kv).toNat)
 case atStart=>exact⟨0,by omega,rfl,λi hi=>by omega,H0.out⟩
 case round=>
  obtain⟨k,hk,rfl,ah,hS⟩:=hrel;by_cases U:k<G.n
  .obtain⟨al,M,hg,hf⟩:=hS;have bf:(k:Int)<(G.n:Int):=(by omega);have Z:=M.mcell U;have HE:=Z5K M hg hf;have HN:=Z5F ah;cases hM:V.Ms k with
   |none=>
    have aw:YE V key k=false:=by unfold YE;rw[hM]
    have hh:=AU B wr G V al k M U hM;have F:=Z5J hh aw;clear M hg hf ah hh hM aw;go_wp2_with (go_at_call 34;refine F.out.1.mono ?_;rintro e w2 ⟨rfl,ak⟩;have J:=Z5F (Zi.trans HE.out ak);clear ak);go_roundw
    case measure=>simp[intOf];omega
    case rel=>exact⟨k+1,by omega,by go_num,λi hi=>by
     by_cases e:i=k
     .rw[e];exact F.out.2
     .exact HN.out i (by omega),J.out⟩
   |some S=>
    obtain⟨s,ai,au,hd,L,az⟩:=M.mem U hM;have hh:=JW B wr G V al k M U S hM;have F:=Z5K hh ai au;have HM:=Z5F hM;clear M hg hf ah hh hM ai au az hd;cases ag:S.dir.get (nmD key) with
    |none=>
     go_wp2_with (first|(go_at_call 34;refine F.out.1.mono ?_;rintro e w2 ⟨rfl,C⟩;have x1:=(F.out.2.1.after C).cell (j:=1) rfl;have q2:=C.cell (Z5b _ _ Z)|>.trans Z;have O:=HC.out;have J:=Z5F C;clear C Z)|(go_at_call 97;refine(Bl s (G.ds k) S (nmD key) _ (F.out.2.2.after J.out) aq ag).mono ?_;rintro e w3 ⟨b,rfl,aj,af⟩;have R3:=Z5F (J.out.trans (af.mono J.out.size));clear af aj x1 q2 O));go_roundw
     case measure=>simp[intOf];omega
     case rel=>exact⟨k+1,by omega,by go_num,λi hi=>by
      by_cases e:i=k
      .rw[e];unfold YE;rw[HM.out];simp only;rw[ag];rfl
      .exact HN.out i (by omega),Zi.trans HE.out (Zi.same HE.out.1 R3.out)⟩
    |some e=>obtain⟨b7,ak⟩:=HR.out k U S HM.out _ _ ag;have b8:e.runs.length<=1000000:=(by omega);go_wp2_with (first|(go_at_call 34;refine F.out.1.mono ?_;rintro e w2 ⟨rfl,C⟩;have x1:=(F.out.2.1.after C).cell (j:=1) rfl;have q2:=C.cell (Z5b _ _ Z)|>.trans Z;have O:=HC.out;have J:=Z5F C;clear C Z)|(go_at_call 97;refine(Bm s (G.ds k) S (nmD key) e _ (F.out.2.2.after J.out) aq ag b7 b8).mono ?_;rintro e w3 ⟨v,rfl,aj,af⟩;have R3:=Z5F (J.out.trans (af.mono J.out.size));clear af aj x1 q2 O));go_ret;refine⟨?_,Zi.trans HE.out (Zi.same HE.out.1 R3.out)⟩;have:(List.range G.n).any (YE V key)=true:=List.any_eq_true.2 ⟨k,List.mem_range.2 U,by unfold YE;rw[HM.out];simp only;rw[ag];rfl⟩;simp_all
  .obtain rfl:k=G.n:=(by omega);have HS:=Z5J ah hS;clear ah hS;go_wp2;go_ret;refine⟨?_,HS.out.2⟩;have:(List.range G.n).any (YE V key)=false:=by rw[List.any_eq_false];intro i hi;rw[HS.out.1 i (List.mem_range.1 hi)];simp
   simp_all
