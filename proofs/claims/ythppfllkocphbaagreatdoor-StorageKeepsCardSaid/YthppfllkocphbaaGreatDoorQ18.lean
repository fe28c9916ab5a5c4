/-
  Part 19 of the proof: lemmas about what the program computes.
-/
import Derived.Test.YthppfllkocphbaaGreatDoorQ22
import Derived.Test.YthppfllkocphbaaGreatDoorQ39
namespace Go.Proofs.YthppfllkocphbaaGreatDoor
set_option linter.unusedVariables false
set_option linter.unusedSimpArgs false
set_option maxHeartbeats 25600000
set_option maxRecDepth 100000
open Tryz
section
open Go.RowKit Go.Shelf
theorem Z1O(n:Nat)(hn:n<=4294967295)(w:World):
  Calls prog 80 #[.int .i64 n] w fun e w'=>e=.returned (.string (s32 n))/\Below w.heap.size w w':=by
 go_enter func80,ntmps80
 go_wp2_with (go_at_call 125;refine(Z9t n hn _).mono ?_;rintro e w' ⟨rfl,hb⟩)
 go_ret
 exact⟨rfl,hb⟩
theorem Z5w(s:ByteArray)(ae:s.size=4)(w:World):
  Calls prog 111 #[.string s] w fun e w'=>e=.returned (.int .i64 (YI s.data.toList:Int))/\Below w.heap.size w w':=by
 have i0:0<s.size:=by omega
 have i1:(1:Int)<(s.size:Int):=by omega
 have i2:(2:Int)<(s.size:Int):=by omega
 have i3:(3:Int)<(s.size:Int):=by omega
 rw[Z9B s ae]
 obtain⟨e1,e2,e3,e4,e5,e6,e7,e8,e9,af⟩:=Z3t s[0].toNat s[1].toNat s[2].toNat s[3].toNat s[0].toNat_lt s[1].toNat_lt s[2].toNat_lt s[3].toNat_lt
 go_enter func111,ntmps111
 go_wp2
 go_quiet (fail)
 go_wp2
 go_ret
 exact⟨Z04 (Xy (by omega)),Zp Zk9 _⟩
theorem Z3y(name:Bs)(ae:name.length<=220)(g c:Nat)(l:List Bs)(sp:List Value)(w:World)(h:Row w g 9 (Z6 (l.map str)++sp))(ai:(Zv l).length<=9000):
  Calls prog 82 #[.string (str name),.slice (some ⟨g,0,none⟩) l.length c] w fun e w'=>e=.returned (.tuple #[.string (str (Yq name (Zv l))),.nilIface])/\Below w.heap.size w w':=by
 have ah:(Zv l).length<=60000:=by omega
 go_enter func82,ntmps82
 go_wp2_with (first
  |(go_at_call 126;refine(Z18 g c l sp _ h ah).mono ?_;rintro e w1 ⟨rfl,af⟩;have S1:=Zka af;clear af)
  |(go_at_call 127;refine(Zgw name (Zv l) _ ae ai).mono ?_;rintro e w2 ⟨rfl,ag⟩;have S2:=Zka (S1.out.trans (ag.mono S1.out.size));clear ag))
 go_ret2
 exact⟨rfl,S2.out⟩
end
section
variable{H:Bs->Option Bs}{T:Tab}{a:Ac}{b l:List Ac}{d:Dir}{g i k m:Nat}{ns xs:List Bs}{x:Bs}
def nmC:Bs:=[33]
def nmN:Bs:=[110]
def nmT:Bs:=[116]
def nmS(key:Bs):Bs:=115::key
def nmD(key:Bs):Bs:=100::key
def Z9V:Bs:=[115,101,116]
def QJ(k m i g:Nat):Bs:=Yq nmC (Zv [Z9V,Z4 k,Z4 m,Z4 i,Z4 g])
def shT(k m:Nat)(v:Bs)(i:Nat):Bs:=((Zl k m (str v)).getD i ⟨#[]⟩).data.toList
def shL(k m i:Nat)(key v:Bs):Bs:=Yq (nmD key) (Zv [Z4 i,Z4 v.length,shT k m v i])
def Z1h(g:Nat)(gone:List Bs):Bs:=Yq nmT (Zv (Z4 g::gone))
structure Chg where
 key:Bs
 val:Option Bs
def Ym(k m i:Nat)(c:Chg):Option Ac:=c.val.map fun v=>⟨1,nmS c.key,[],shL k m i c.key v⟩
def Zi(l:List Chg):List Bs:=l.filterMap fun c=>match c.val with|none=>some c.key|some _=>none
def Qz(k m i g:Nat)(l:List Chg):List Ac:=⟨1,nmN,[],QJ k m i (g+1)⟩::(l.filterMap (Ym k m i)++[⟨1,nmT,[],Z1h (g+1) (Zi l)⟩])
def isS(n:Bs):Bool:=n.head? ==some 115
def mv1(n:Bs):Ac:=⟨3,n,100::n.drop 1,[]⟩
def dr1(n:Bs):Ac:=⟨2,n,[],[]⟩
def Qc(d:Dir)(gone:List Bs):List Ac:=(d.names.filter isS).map mv1++((gone.filter fun key=>(d.get (nmD key)).isSome).map fun key=>dr1 (nmD key))++[⟨3,nmN,nmC,[]⟩,dr1 nmT]
def upH(H:Bs->Option Bs)(l:List Chg):Bs->Option Bs:=fun key=>match l.find? (fun c=>c.key==key) with
 |some c=>c.val
 |none=>H key
theorem Z2v(h1:∀a∈l,a.kind=1){m:Bs}(hm:∀a∈l,a.name≠m):∀T:Tab,l.foldl Ac.on T m=T m:=by
 induction l with
 |nil=>intro T;rfl
 |cons a r ih=>
  intro T
  rw[Zk6,ih (fun b hb=>h1 b (by simp[hb])) (fun b hb=>hm b (by simp[hb]))]
  unfold Ac.on
  rw[h1 a (by simp)]
  simp only
  rw[if_neg (fun e=>hm a (by simp) e.symm)]
theorem Z2u(h1:∀a∈l,a.kind=1)(hn:(l.map (·.name)).Nodup){a:Ac}(ha:a∈l):∀T:Tab,l.foldl Ac.on T a.name=some (some a.value):=by
 induction l with
 |nil=>cases ha
 |cons b r ih=>
  intro T
  rw[ZjY,List.nodup_cons] at hn
  rw[Zk6]
  rcases ZjV.1 ha with rfl|ha
  ·rw[Z2v (fun b hb=>h1 b (by simp[hb])) (fun b hb e=>hn.1 (by rw[<-e];exact List.mem_map_of_mem hb))]
   unfold Ac.on
   rw[h1 a (by simp)]
   simp
  ·exact ih (fun b hb=>h1 b (by simp[hb])) hn.2 ha _
theorem Z6b{m:Bs}:∀T:Tab,(ns.map dr1).foldl Ac.on T m=if m∈ns then none else T m:=by
 induction ns with
 |nil=>intro T;simp
 |cons n r ih=>
  intro T
  rw[ZjY,Zk6,ih]
  by_cases h:m∈r
  ·simp[h]
  ·rw[if_neg h]
   show(if m=n then none else T m)=_
   by_cases h2:m=n
   ·simp[h2]
   ·simp[h,h2]
theorem Z4B(T:Tab)(x m:Bs):(mv1 (nmS x)).on T m=if m=nmD x then T (nmS x) else if m=nmS x then none else T m:=rfl
theorem Z6c(hn:xs.Nodup){m:Bs}:∀T:Tab,((xs.map nmS).map mv1).foldl Ac.on T m=match m with
  |100::x=>if x∈xs then T (nmS x) else T m
  |115::x=>if x∈xs then none else T m
  |_=>T m:=by
 induction xs with
 |nil=>intro T;simp only[List.map_nil,List.foldl_nil,Zk3,if_false];split<;>rfl
 |cons y r ih=>
  intro T
  rw[List.nodup_cons] at hn
  rw[ZjY,ZjY,Zk6,ih hn.2]
  split
  ·rename_i x
   rw[Z4B,Z4B]
   by_cases hx:x∈r
   ·have ae:x≠y:=fun e=>hn.1 (e▸hx)
    rw[if_pos hx,if_neg (by simp[nmS,nmD]),if_neg (by simp[nmS];exact ae),if_pos (by simp[hx])]
   ·rw[if_neg hx]
    by_cases ae:x=y
    ·subst ae;simp[nmD]
    ·rw[if_neg (by simp[nmD];exact ae),if_neg (by simp[nmS]),if_neg (by simp[hx,ae])]
  ·rename_i x
   rw[Z4B]
   by_cases hx:x∈r
   ·simp[hx]
   ·rw[if_neg hx,if_neg (by simp[nmD])]
    by_cases ae:x=y
    ·subst ae;simp[nmS]
    ·rw[if_neg (by simp[nmS];exact ae),if_neg (by simp[hx,ae])]
  ·rename_i h1 h2
   rw[Z4B,if_neg (show¬m=nmD y from fun e=>h1 _ e),if_neg (show¬m=nmS y from fun e=>h2 _ e)]
def JF:Tab->List Ac->Prop
 |_,[]=>True
 |T,a::r=>T a.name≠none/\(a.kind=2∨(a.kind=3/\a.to≠a.name))/\JF (a.on T) r
theorem Z3U{a:List Ac}:∀{T:Tab},JF T a->JF (a.foldl Ac.on T) b->JF T (a++b):=by
 induction a with
 |nil=>intro T _ h;exact h
 |cons x r ih=>intro T h k;exact⟨h.1,h.2.1,ih h.2.2 k⟩
theorem Zay:∀{k:Nat} {d:Dir} {T:Tab},(∀m,d.get m=none↔T m=none)->JF T l->∃d',Ql l k d []=some (d',[])/\∀m,d'.get m=none↔l.foldl Ac.on T m=none:=by
 induction l with
 |nil=>intro k d T h _;exact⟨d,rfl,h⟩
 |cons a r ih=>
  intro k d T h ho
  obtain⟨h1,h2,h3⟩:=ho
  have hg:d.get a.name≠none:=fun e=>h1 ((h _).1 e)
  obtain⟨e,he⟩:∃e,d.get a.name=some e:=by
   cases hd:d.get a.name with
   |none=>exact absurd hd hg
   |some e=>exact⟨e,rfl⟩
  rcases h2 with h2|⟨h2,ag⟩
  ·obtain⟨d',q1,q2⟩:=ih (k:=k+1) (d:=d.del a.name) (T:=a.on T) (fun m=>by
    unfold Ac.on
    rw[h2,Dir.get_del]
    simp only
    by_cases hm:m=a.name
    ·simp[hm]
    ·rw[if_neg hm,if_neg hm];exact h m) h3
   refine⟨d',?_,q2⟩
   have ae:YU k a d []=some (d.del a.name,[]):=by unfold YU;rw[h2];simp only;rw[he];rfl
   rw[Ql,ae];exact q1
  ·obtain⟨d',q1,q2⟩:=ih (k:=k+1) (d:=(d.del a.name).put a.to e) (T:=a.on T) (fun m=>by
    unfold Ac.on
    rw[h2,Dir.get_put,Dir.get_del]
    simp only
    by_cases hm:m=a.to
    ·rw[if_pos hm,if_pos hm];simp[h1]
    ·rw[if_neg hm,if_neg hm]
     by_cases af:m=a.name
     ·simp[af]
     ·rw[if_neg af,if_neg af];exact h m) h3
   refine⟨d',?_,q2⟩
   have ae:YU k a d []=some ((d.del a.name).put a.to e,[]):=by
    unfold YU;rw[h2];simp only;rw[he];simp only
    rw[if_neg (by simp[Z1.has,ag])]
    rfl
   rw[Ql,ae];exact q1
theorem Z5v(h1:∀a∈l,a.kind=1):∀ (k:Nat) (d:Dir) (f:Z1),∃d' f',Ql l k d f=some (d',f'):=by
 induction l with
 |nil=>intro k d f;exact⟨d,f,rfl⟩
 |cons a r ih=>
  intro k d f
  obtain⟨d',f',h⟩:=ih (fun b hb=>h1 b (by simp[hb])) (k+1) ((d.del a.name).put a.name ⟨a.value.length,Wq a.value,[]⟩) (f.del a.name++[(a.name,k)])
  refine⟨d',f',?_⟩
  have ae:YU k a d f=some ((d.del a.name).put a.name ⟨a.value.length,Wq a.value,[]⟩,f.del a.name++[(a.name,k)]):=by unfold YU;rw[h1 a (by simp)];rfl
  rw[Ql,ae];exact h
theorem Z8g{a:List Ac}:∀{k:Nat} {d:Dir} {f:Z1},Ql (a++b) k d f=match Ql a k d f with
  |some (d',f')=>Ql b (k+a.length) d' f'
  |none=>none:=by
 induction a with
 |nil=>intro k d f;rfl
 |cons x r ih=>
  intro k d f
  rw[List.cons_append,Ql,Ql]
  cases h:YU k x d f with
  |none=>rfl
  |some p=>
   obtain⟨d1,f1⟩:=p
   simp only
   rw[ih,ZjM,show k+1+r.length=k+(r.length+1) from by omega]
theorem Z5u(ha:a.kind=1){k:Nat}{d d':Dir}{f f':Z1}(h:Ql (l++[a]) k d f=some (d',f')):f'.by a.name≠none/\d'.get a.name≠none:=by
 rw[Z8g] at h
 split at h
 ·rename_i d1 f1 h1
  have ae:YU (k+l.length) a d1 f1=some ((d1.del a.name).put a.name ⟨a.value.length,Wq a.value,[]⟩,f1.del a.name++[(a.name,k+l.length)]):=by unfold YU;rw[ha];rfl
  rw[Ql,ae] at h
  simp only[Ql,ZjJ,Prod.mk.injEq] at h
  obtain⟨rfl,rfl⟩:=h
  rw[Z1.by_append,Z1.by_del,if_pos rfl,Dir.get_put,if_pos rfl]
  simp[Z1.by]
 ·cases h
structure WT(k m i g:Nat)(H:Bs->Option Bs)(T:Tab):Prop where
 card:T nmC=some (some (QJ k m i g))
 next:T nmN=none
 under:T nmT=none
 staged:∀x,T (nmS x)=none
 none_:∀x,H x=none->T (nmD x)=none
 some_:∀x v,H x=some v->T (nmD x)=none∨T (nmD x)=some none∨T (nmD x)=some (some (shL k m i x v))
 other:∀n,T n≠none->n=nmC∨∃x,n=nmD x
def Z30(k m i:Nat)(H:Bs->Option Bs)(T:Tab):Prop:=∀x v,H x=some v->T (nmD x)=some (some (shL k m i x v))
structure Mid(k m i g:Nat)(H:Bs->Option Bs)(l:List Chg)(T T1:Tab):Prop where
 next:T1 nmN=some (some (QJ k m i (g+1)))
 under:T1 nmT=some (some (Z1h (g+1) (Zi l)))
 staged:∀c∈l,∀v,c.val=some v->T1 (nmS c.key)=some (some (shL k m i c.key v))
 bare:∀x,(∀c∈l,c.key=x->c.val=none)->T1 (nmS x)=none
 rest:∀n,n≠nmN->n≠nmT->(∀x,n≠nmS x)->T1 n=T n
theorem XW{c:Chg}(h:Ym k m i c=some a):∃v,c.val=some v/\a=⟨1,nmS c.key,[],shL k m i c.key v⟩:=by
 unfold Ym at h
 cases hv:c.val with
 |none=>rw[hv] at h;cases h
 |some v=>rw[hv] at h;exact⟨v,rfl,(Option.some.inj h).symm⟩
theorem Z6n{l:List Chg}:∀a∈Qz k m i g l,a.kind=1:=by
 intro a ha
 unfold Qz at ha
 simp only[ZjV,ZjU,List.mem_filterMap,Zk3,or_false] at ha
 rcases ha with rfl|⟨c,_,hc⟩|rfl
 ·rfl
 ·obtain⟨v,_,rfl⟩:=XW hc;rfl
 ·rfl
theorem Zba{l:List Chg}(hn:(l.map (·.key)).Nodup):((l.filterMap (Ym k m i)).map (·.name)).Nodup:=by
 induction l with
 |nil=>simp
 |cons c r ih=>
  rw[ZjY,List.nodup_cons] at hn
  rw[List.filterMap_cons]
  cases hs:Ym k m i c with
  |none=>exact ih hn.2
  |some a=>
   obtain⟨v,hv,rfl⟩:=XW hs
   rw[ZjY,List.nodup_cons]
   refine⟨fun hm=> ?_,ih hn.2⟩
   obtain⟨b,hb,he⟩:=List.mem_map.1 hm
   obtain⟨c2,ae,af⟩:=List.mem_filterMap.1 hb
   obtain⟨v2,_,rfl⟩:=XW af
   have:c2.key=c.key:=by simpa[nmS] using he
   exact hn.1 (by rw[<-this];exact List.mem_map_of_mem ae)
theorem Zae{l:List Chg}(hn:(l.map (·.key)).Nodup):((Qz k m i g l).map (·.name)).Nodup:=by
 unfold Qz
 rw[ZjY,ZjZ,List.nodup_cons,List.nodup_append]
 have hs:∀n∈(l.filterMap (Ym k m i)).map (·.name),∃x,n=nmS x:=fun n hm=>by
  obtain⟨b,hb,rfl⟩:=List.mem_map.1 hm
  obtain⟨c2,af,ae⟩:=List.mem_filterMap.1 hb
  obtain⟨v2,_,rfl⟩:=XW ae
  exact⟨_,rfl⟩
 refine⟨fun hm=> ?_,Zba hn,by simp,fun x hx y hy e=> ?_⟩
 ·rcases ZjU.1 hm with hm|hm
  ·obtain⟨x,hx⟩:=hs _ hm;simp[nmN,nmS] at hx
  ·simp[nmN,nmT] at hm
 ·obtain⟨z,hz⟩:=hs _ hx
  simp only[ZjY,List.map_nil,ZjD] at hy
  subst hy;subst hz
  simp[nmT,nmS] at e
theorem ZiU{l:List Chg}(hn:(l.map (·.key)).Nodup)(h:WT k m i g H T):Mid k m i g H l T ((Qz k m i g l).foldl Ac.on T):=by
 have h1:=Z6n (k:=k) (m:=m) (i:=i) (g:=g) (l:=l)
 have h2:=Zae (k:=k) (m:=m) (i:=i) (g:=g) hn
 have ae:∀a∈Qz k m i g l,a.name=nmN∨a.name=nmT∨∃c∈l,∃v,c.val=some v/\a=⟨1,nmS c.key,[],shL k m i c.key v⟩:=fun a ha=>by
  unfold Qz at ha
  simp only[ZjV,ZjU,List.mem_filterMap,Zk3,or_false] at ha
  rcases ha with rfl|⟨c,hc,hs⟩|rfl
  ·exact Or.inl rfl
  ·obtain⟨v,hv,rfl⟩:=XW hs;exact Or.inr (Or.inr ⟨c,hc,v,hv,rfl⟩)
  ·exact Or.inr (Or.inl rfl)
 refine⟨?_,?_,fun c hc v hv=> ?_,fun x hx=> ?_,fun n n1 n2 n3=> ?_⟩
 ·exact Z2u h1 h2 (a:=⟨1,nmN,[],QJ k m i (g+1)⟩) (by unfold Qz;simp) T
 ·exact Z2u h1 h2 (a:=⟨1,nmT,[],Z1h (g+1) (Zi l)⟩) (by unfold Qz;simp) T
 ·refine Z2u h1 h2 (a:=⟨1,nmS c.key,[],shL k m i c.key v⟩) ?_ T
  unfold Qz
  refine ZjS _ (List.mem_append_left _ (List.mem_filterMap.2 ⟨c,hc,?_⟩))
  unfold Ym;rw[hv];rfl
 ·rw[Z2v h1 (fun a ha e=> ?_)]
  ·exact h.staged x
  ·rcases ae a ha with h9|h9|⟨c,hc,v,hv,rfl⟩
   ·rw[h9] at e;simp[nmN,nmS] at e
   ·rw[h9] at e;simp[nmT,nmS] at e
   ·have:c.key=x:=by simpa[nmS] using e
    rw[hx c hc this] at hv;cases hv
 ·rw[Z2v h1 (fun a ha e=> ?_)]
  rcases ae a ha with h9|h9|⟨c,hc,v,hv,rfl⟩
  ·exact n1 (by rw[<-e,h9])
  ·exact n2 (by rw[<-e,h9])
  ·exact n3 _ e.symm
theorem Z09(n:Bs):isS n=true↔∃x,n=nmS x:=by
 unfold isS nmS
 cases n with
 |nil=>simp
 |cons a r=>simp
theorem Z22(hs:d.Sorted):∃xs:List Bs,d.names.filter isS=xs.map nmS/\xs.Nodup/\∀x,x∈xs↔d.get (nmS x)≠none:=by
 have h1:d.names.filter isS=((d.names.filter isS).map (List.drop 1)).map nmS:=by
  rw[List.map_map]
  conv=>lhs;rw[<-List.map_id (d.names.filter isS)]
  refine List.map_congr_left fun n hn=> ?_
  obtain⟨x,rfl⟩:=(Z09 n).1 (List.mem_filter.1 hn).2
  rfl
 have ae:(d.names.filter isS).Nodup:=(Dir.names_nodup hs).sublist List.filter_sublist
 refine⟨_,h1,?_,fun x=> ?_⟩
 ·rw[h1] at ae
  exact(List.pairwise_map.1 ae).imp fun ah e=>ah (by rw[e])
 ·constructor
  ·intro hx
   obtain⟨n,hn,rfl⟩:=List.mem_map.1 hx
   obtain⟨af,ag⟩:=List.mem_filter.1 hn
   obtain⟨y,rfl⟩:=(Z09 n).1 ag
   exact QC.1 af
  ·intro hx
   refine List.mem_map.2 ⟨nmS x,List.mem_filter.2 ⟨QC.2 hx,(Z09 _).2 ⟨x,rfl⟩⟩,rfl⟩
theorem Zg6:∀{T:Tab},xs.Nodup->(∀x∈xs,T (nmS x)≠none)->JF T ((xs.map nmS).map mv1):=by
 induction xs with
 |nil=>intro T _ _;trivial
 |cons y r ih=>
  intro T hn h
  rw[List.nodup_cons] at hn
  refine⟨h y (by simp),Or.inr ⟨rfl,by simp[mv1,nmS]⟩,ih hn.2 fun x hx=> ?_⟩
  rw[Z4B,if_neg (by simp[nmS,nmD]),if_neg (by simp[nmS];exact fun e=>hn.1 (by rw[<-e];exact hx))]
  exact h x (by simp[hx])
theorem Z9u:∀{T:Tab},ns.Nodup->(∀n∈ns,T n≠none)->JF T (ns.map dr1):=by
 induction ns with
 |nil=>intro T _ _;trivial
 |cons y r ih=>
  intro T hn h
  rw[List.nodup_cons] at hn
  refine⟨h y (by simp),Or.inl rfl,ih hn.2 fun n hx=> ?_⟩
  show(if n=y then none else T n)≠none
  rw[if_neg (fun e:n=y=>hn.1 (by rw[<-e];exact hx))]
  exact h n (by simp[hx])
theorem XD{l:List Chg}:x∈Zi l↔∃c∈l,c.key=x/\c.val=none:=by
 unfold Zi
 rw[List.mem_filterMap]
 constructor
 ·rintro⟨c,hc,h⟩
  cases hv:c.val with
  |none=>rw[hv] at h;exact⟨c,hc,by simpa using h,hv⟩
  |some v=>rw[hv] at h;cases h
 ·rintro⟨c,hc,h1,h2⟩
  exact⟨c,hc,by rw[h2,h1]⟩
theorem ZaG{l:List Chg}(hn:(l.map (·.key)).Nodup):(Zi l).Nodup:=by
 induction l with
 |nil=>simp[Zi]
 |cons c r ih=>
  rw[ZjY,List.nodup_cons] at hn
  unfold Zi at ih⊢
  rw[List.filterMap_cons]
  cases hv:c.val with
  |some v=>exact ih hn.2
  |none=>
   simp only
   rw[List.nodup_cons]
   refine⟨fun hm=> ?_,ih hn.2⟩
   obtain⟨c2,ae,h1,_⟩:=XD.1 (show c.key∈Zi r from hm)
   exact hn.1 (by rw[<-h1];exact List.mem_map_of_mem ae)
theorem Z1B{l:List Chg}(hn:(l.map (·.key)).Nodup){c:Chg}(hc:c∈l):upH H l c.key=c.val:=by
 unfold upH
 induction l with
 |nil=>cases hc
 |cons b r ih=>
  rw[ZjY,List.nodup_cons] at hn
  rw[List.find?_cons]
  rcases ZjV.1 hc with rfl|hc
  ·simp
  ·have:b.key≠c.key:=fun e=>hn.1 (by rw[e];exact List.mem_map_of_mem hc)
   rw[show(b.key==c.key)=false from by simpa using this]
   exact ih hn.2 hc
theorem Z7r{l:List Chg}(h:∀c∈l,c.key≠x):upH H l x=H x:=by
 unfold upH
 rw[List.find?_eq_none.2 (fun c hc=>by simpa using h c hc)]
theorem Zfq(T:Tab)(n:Bs):(dr1 nmT).on ((⟨3,nmN,nmC,[]⟩:Ac).on T) n=if n=nmT then none else if n=nmC then T nmN else if n=nmN then none else T n:=rfl
theorem ZbA{l:List Chg}{T1:Tab}(hn:(l.map (·.key)).Nodup)(hr:WT k m i g H T)(hm:Mid k m i g H l T T1)(hs:d.Sorted)(hd:∀n,d.get n=none↔T1 n=none):
  JF T1 (Qc d (Zi l))/\WT k m i (g+1) (upH H l) ((Qc d (Zi l)).foldl Ac.on T1)/\(Z30 k m i H T->Z30 k m i (upH H l) ((Qc d (Zi l)).foldl Ac.on T1)):=by
 obtain⟨xs,e1,e2,e3⟩:=Z22 hs
 have aw:∀x,x∈xs↔T1 (nmS x)≠none:=fun x=>by rw[e3,ne_eq,ne_eq,hd]
 obtain⟨ds,ai⟩:∃ds,((Zi l).filter fun key=>(d.get (nmD key)).isSome)=ds:=⟨_,rfl⟩
 have bq:ds.Nodup:=by rw[<-ai];exact(ZaG hn).sublist List.filter_sublist
 have aj:∀x,x∈ds↔(x∈Zi l/\T1 (nmD x)≠none):=fun x=>by
  rw[<-ai,List.mem_filter,ne_eq,<-hd]
  cases d.get (nmD x)<;>simp
 have hA:Qc d (Zi l)=((xs.map nmS).map mv1++(ds.map nmD).map dr1)++[⟨3,nmN,nmC,[]⟩,dr1 nmT]:=by
  unfold Qc;rw[e1,ai,List.map_map (f:=nmD)];rfl
 have ag:∀x,x∈xs↔∃c∈l,c.key=x/\∃v,c.val=some v:=fun x=>by
  rw[aw]
  constructor
  ·intro h
   by_cases hx:∀c∈l,c.key=x->c.val=none
   ·exact absurd (hm.bare x hx) h
   ·simp only[Classical.not_forall] at hx
    obtain⟨c,hc,h1,h2⟩:=hx
    refine⟨c,hc,h1,?_⟩
    cases hv:c.val with
    |none=>exact absurd hv h2
    |some v=>exact⟨v,rfl⟩
  ·rintro⟨c,hc,rfl,v,hv⟩
   rw[hm.staged c hc v hv];simp
 have af:∀x,x∈Zi l->x∉xs:=fun x hg hx=>by
  obtain⟨c,hc,h1,h2⟩:=XD.1 hg
  obtain⟨c',hc',bg,v,bh⟩:=(ag x).1 hx
  have a1:=Z1B (H:=H) hn hc
  have a2:=Z1B (H:=H) hn hc'
  rw[h1,h2] at a1
  rw[bg,bh,a1] at a2
  cases a2
 obtain⟨Ta,ah⟩:∃Ta,((xs.map nmS).map mv1).foldl Ac.on T1=Ta:=⟨_,rfl⟩
 have az:∀x,Ta (nmD x)=if x∈xs then T1 (nmS x) else T1 (nmD x):=fun x=>by rw[<-ah];exact Z6c e2 T1
 have b9:∀x,Ta (nmS x)=none:=fun x=>by
  rw[<-ah]
  have h9:((xs.map nmS).map mv1).foldl Ac.on T1 (nmS x)=if x∈xs then none else T1 (nmS x):=Z6c e2 T1
  rw[h9]
  by_cases hx:x∈xs
  ·rw[if_pos hx]
  ·rw[if_neg hx]
   cases ht:T1 (nmS x) with
   |none=>rfl
   |some z=>exact absurd ((aw x).2 (by rw[ht];simp)) hx
 have au:∀n,(∀x,n≠nmD x)->(∀x,n≠nmS x)->Ta n=T1 n:=fun n h1 h2=>by
  rw[<-ah,Z6c e2 T1]
  split
  ·exact absurd rfl (h1 _)
  ·exact absurd rfl (h2 _)
  ·rfl
 obtain⟨Tb,aq⟩:∃Tb,((ds.map nmD).map dr1).foldl Ac.on Ta=Tb:=⟨_,rfl⟩
 have hb:∀n,Tb n=if n∈ds.map nmD then none else Ta n:=fun n=>by rw[<-aq];exact Z6b Ta
 have bj:∀x,Tb (nmD x)=if x∈ds then none else Ta (nmD x):=fun x=>by
  rw[hb]
  have:nmD x∈ds.map nmD↔x∈ds:=by simp[nmD]
  by_cases h:x∈ds
  ·rw[if_pos h,if_pos (this.2 h)]
  ·rw[if_neg h,if_neg (fun h2=>h (this.1 h2))]
 have ak:∀n,(∀x,n≠nmD x)->Tb n=Ta n:=fun n h=>by
  rw[hb,if_neg (fun hm=>by obtain⟨x,_,e⟩:=List.mem_map.1 hm;exact h x e.symm)]
 have hF:∀n,(Qc d (Zi l)).foldl Ac.on T1 n=if n=nmT then none else if n=nmC then Tb nmN else if n=nmN then none else Tb n:=fun n=>by
  rw[hA,List.foldl_append,List.foldl_append,ah,aq]
  exact Zfq Tb n
 have bf:Tb nmN=T1 nmN:=by rw[ak _ (by simp[nmN,nmD]),au _ (by simp[nmN,nmD]) (by simp[nmN,nmS])]
 have bm:Tb nmT=T1 nmT:=by rw[ak _ (by simp[nmT,nmD]),au _ (by simp[nmT,nmD]) (by simp[nmT,nmS])]
 have al:∀x,(Qc d (Zi l)).foldl Ac.on T1 (nmD x)=if x∈ds then none else if x∈xs then T1 (nmS x) else T (nmD x):=fun x=>by
  rw[hF,if_neg (by simp[nmD,nmT]),if_neg (by simp[nmD,nmC]),if_neg (by simp[nmD,nmN]),bj,az,hm.rest (nmD x) (by simp[nmD,nmN]) (by simp[nmD,nmT]) (by simp[nmD,nmS])]
 have bz:∀x,T1 (nmD x)=T (nmD x):=fun x=>hm.rest (nmD x) (by simp[nmD,nmN]) (by simp[nmD,nmT]) (by simp[nmD,nmS])
 have key:∀x,(x∈xs/\x∉ds/\∃v,upH H l x=some v/\T1 (nmS x)=some (some (shL k m i x v)))∨(x∉xs/\upH H l x=none/\(x∈ds∨T (nmD x)=none))∨(x∉xs/\x∉ds/\upH H l x=H x):=fun x=>by
  by_cases hx:x∈xs
  ·obtain⟨c,hc,rfl,v,hv⟩:=(ag x).1 hx
   exact Or.inl ⟨hx,fun h9=>af _ ((aj _).1 h9).1 hx,v,by rw[Z1B hn hc,hv],hm.staged c hc v hv⟩
  ·by_cases hg:x∈Zi l
   ·obtain⟨c,hc,rfl,h2⟩:=XD.1 hg
    refine Or.inr (Or.inl ⟨hx,by rw[Z1B hn hc,h2],?_⟩)
    by_cases ht:T (nmD c.key)=none
    ·exact Or.inr ht
    ·exact Or.inl ((aj _).2 ⟨hg,by rw[bz];exact ht⟩)
   ·refine Or.inr (Or.inr ⟨hx,fun h9=>hg ((aj x).1 h9).1,Z7r fun c hc e=> ?_⟩)
    cases hv:c.val with
    |none=>exact hg (XD.2 ⟨c,hc,e,hv⟩)
    |some v=>exact hx ((ag x).2 ⟨c,hc,e,v,hv⟩)
 refine⟨?_,⟨?_,?_,?_,fun x=> ?_,fun x hx=> ?_,fun x v hx=> ?_,fun n ae=> ?_⟩,fun cj x v hx=> ?_⟩
 ·rw[hA]
  refine Z3U (Z3U (Zg6 e2 fun x hx=>(aw x).1 hx) ?_) ?_
  ·rw[ah]
   refine Z9u ?_ fun n bu=> ?_
   ·exact List.pairwise_map.2 (bq.imp fun ae e=>ae (by simpa[nmD] using e))
   ·obtain⟨x,hx,rfl⟩:=List.mem_map.1 bu
    rw[az,if_neg (af x ((aj x).1 hx).1)]
    exact((aj x).1 hx).2
  ·rw[List.foldl_append,ah,aq]
   refine⟨by rw[bf,hm.next];simp,Or.inr ⟨rfl,by simp[nmN,nmC]⟩,?_,Or.inl rfl,trivial⟩
   show(if nmT=nmC then Tb nmN else if nmT=nmN then none else Tb nmT)≠none
   rw[if_neg (by simp[nmT,nmC]),if_neg (by simp[nmT,nmN]),bm,hm.under];simp
 ·rw[hF,if_neg (by simp[nmC,nmT]),if_pos rfl,bf,hm.next]
 ·rw[hF,if_neg (by simp[nmN,nmT]),if_neg (by simp[nmN,nmC]),if_pos rfl]
 ·rw[hF,if_pos rfl]
 ·rw[hF,if_neg (by simp[nmS,nmT]),if_neg (by simp[nmS,nmC]),if_neg (by simp[nmS,nmN]),ak _ (by simp[nmS,nmD]),b9]
 ·rw[al]
  rcases key x with ⟨a1,a2,v,a3,_⟩|⟨a1,a2,a3⟩|⟨a1,a2,a3⟩
  ·rw[hx] at a3;cases a3
  ·rcases a3 with a3|a3
   ·rw[if_pos a3]
   ·by_cases ai:x∈ds
    ·rw[if_pos ai]
    ·rw[if_neg ai,if_neg a1];exact a3
  ·rw[if_neg a2,if_neg a1]
   exact hr.none_ x (by rw[<-a3];exact hx)
 ·rw[al]
  rcases key x with ⟨a1,a2,v',a3,a4⟩|⟨a1,a2,a3⟩|⟨a1,a2,a3⟩
  ·rw[hx] at a3;cases a3
   rw[if_neg a2,if_pos a1];exact Or.inr (Or.inr a4)
  ·rw[hx] at a2;cases a2
  ·rw[if_neg a2,if_neg a1]
   exact hr.some_ x v (by rw[<-a3];exact hx)
 ·rw[hF] at ae
  by_cases h1:n=nmT
  ·rw[if_pos h1] at ae;exact absurd rfl ae
  ·rw[if_neg h1] at ae
   by_cases h2:n=nmC
   ·exact Or.inl h2
   ·rw[if_neg h2] at ae
    by_cases h3:n=nmN
    ·rw[if_pos h3] at ae;exact absurd rfl ae
    ·rw[if_neg h3] at ae
     by_cases h4:∃x,n=nmD x
     ·exact Or.inr h4
     ·have ax:∀x,n≠nmD x:=fun x e=>h4 ⟨x,e⟩
      rw[ak _ ax] at ae
      by_cases h5:∃x,n=nmS x
      ·obtain⟨x,rfl⟩:=h5;rw[b9] at ae;exact absurd rfl ae
      ·have ay:∀x,n≠nmS x:=fun x e=>h5 ⟨x,e⟩
       rw[au _ ax ay,hm.rest _ h3 h1 ay] at ae
       exact hr.other n ae
 ·rw[al]
  rcases key x with ⟨a1,a2,v',a3,a4⟩|⟨a1,a2,a3⟩|⟨a1,a2,a3⟩
  ·rw[hx] at a3;cases a3
   rw[if_neg a2,if_pos a1];exact a4
  ·rw[hx] at a2;cases a2
  ·rw[if_neg a2,if_neg a1]
   exact cj x v (by rw[<-a3];exact hx)
end
section
open Go.RowKit Go.Shelf
theorem Z1k(b k m i g:Nat)(w:World)(hk:k<=4294967295)(hm:m<=4294967295)(hi:i<=4294967295)(hg:g<=4294967295)(c0:w.cell? ⟨b,0,none⟩=some (.int .i64 (k:Int)))(c1:w.cell? ⟨b,1,none⟩=some (.int .i64 (m:Int))):
  Calls prog 79 #[.pointer (some ⟨b,0,none⟩),.int .i64 (i:Int),.int .i64 (g:Int)] w fun e w'=>e=.returned (.tuple #[.string (str (QJ k m i g)),.nilIface])/\Below w.heap.size w w':=by
 have af:∀W:World,Calls prog 82 #[.string ⟨#[33]⟩,.slice (some ⟨W.heap.size,0,none⟩) 5 5] (W.alloc (.cells #[.string ⟨#[115,101,116]⟩,.string (s32 k),.string (s32 m),.string (s32 i),.string (s32 g)] 9)) fun e w'=>e=.returned (.tuple #[.string (str (QJ k m i g)),.nilIface])/\Below (W.alloc (.cells #[.string ⟨#[115,101,116]⟩,.string (s32 k),.string (s32 m),.string (s32 i),.string (s32 g)] 9)).heap.size (W.alloc (.cells #[.string ⟨#[115,101,116]⟩,.string (s32 k),.string (s32 m),.string (s32 i),.string (s32 g)] 9)) w':=fun W=>by
  have h9:=Row.new W 9 [.string ⟨#[115,101,116]⟩,.string (s32 k),.string (s32 m),.string (s32 i),.string (s32 g)]
  exact Z3y nmC (by decide) W.heap.size 5 [Z9V,Z4 k,Z4 m,Z4 i,Z4 g] [] _ h9 (by rw[ZF,Zc,Zc,Zc,Zc,Zc];simp[Zt,Zq,Z9V])
 have ae:∀A C:World,(A.cell? ⟨b,0,none⟩=some (.int .i64 (k:Int))/\A.cell? ⟨b,1,none⟩=some (.int .i64 (m:Int))/\Below w.heap.size w A)->Below A.heap.size A C->(C.cell? ⟨b,0,none⟩=some (.int .i64 (k:Int))/\C.cell? ⟨b,1,none⟩=some (.int .i64 (m:Int))/\Below w.heap.size w C):=by
  rintro A C ⟨h0,h1,h2⟩ hb
  exact⟨(hb.cell (ZjG A _ h0)).trans h0,(hb.cell (ZjG A _ h1)).trans h1,h2.trans (hb.mono h2.size)⟩
 have hs0:=ae w w.drew ⟨c0,c1,Zk9⟩ (Zk9.drew)
 have HE:=Zka af
 have HK:=Zka ae
 clear af ae
 go_enter func79,ntmps79
 go_wp2
 go_region_held3 (fun x=>x.cell? ⟨b,0,none⟩=some (.int .i64 (k:Int))/\x.cell? ⟨b,1,none⟩=some (.int .i64 (m:Int))/\Below w.heap.size w x) (first|exact hs0|(exact HK.out _ _ (by assumption) (Zk9.alloc Zk8 _))|(exact HK.out _ _ (by assumption) (by assumption)))
  (first
   |(go_at_call 80;refine(Z1O _ (by assumption) _).mono ?_;rintro e w8 ⟨rfl,ag⟩)
   |(go_at_call 82;refine(HE.out _).mono ?_;rintro e w9 ⟨rfl,ah⟩))
 rename_i hHeld
 go_wp2
 go_ret2
 exact⟨rfl,hHeld.2.2⟩
theorem ZaV{W:World}{B B':Nat}{e:TypeId}{k:Nat}{v:Value}{n:Nat}{xs:List Value}(h:W.ownsRow B e k v n xs)(hB:B'<=B):W.ownsRow B' e k v n xs:=by
 refine⟨h.1,h.2.imp id ?_⟩
 rintro⟨g,cap,cur,h1,h2,h3⟩
 exact⟨g,cap,cur,h1,Zk1 hB h2,h3⟩
theorem Zes(s:Nat)(under name:Bs)(l:List Bs)(w:World)(ae:Calls prog 157 #[.pointer (some ⟨s,0,none⟩),.string (str under)] w fun r w'=>r=.returned (.tuple #[.string (str (Yq name (Zv l))),.nilIface])/\Below w.heap.size w w')(hn:name.length<=220)(al:(Zv l).length<=9000):
  Calls prog 110 #[.pointer (some ⟨s,0,none⟩),.string (str under),.string (str name)] w fun e w'=>∃a cap,e=.returned (.tuple #[.slice a l.length cap,.nilIface])/\w'.ownsRow w.heap.size 9 1 (.slice a l.length cap) l.length (Z6 (l.map str))/\Below w.heap.size w w':=by
 have ak:(str (Zv l)).size<=100000:=by rw[Z5];omega
 have aj:∀W:World,Calls prog 155 #[.string (str (Zv l))] W fun e w'=>∃a cap,e=.returned (.tuple #[.slice a l.length cap,.nilIface])/\w'.ownsRow W.heap.size 9 1 (.slice a l.length cap) l.length (Z6 (l.map str))/\Below W.heap.size W w':=fun W=>by
  have h9:=Z0N (str (Zv l)) (l.map str) W (by rw[Ze,Z17]) ak
  rw[ZjN] at h9
  exact h9
 have HG:=Zka ae
 have HS:=Zka aj
 clear ae aj
 go_enter func110,ntmps110
 go_wp2_with (first
  |(go_at_call 157;refine HG.out.mono ?_;rintro e w1 ⟨rfl,af⟩;have S1:=Zka af;clear af)
  |(go_at_call 158;refine(Zga name (Zv l) _ hn al).mono ?_;rintro e w2 ⟨rfl,ag⟩;have S2:=Zka (S1.out.trans (ag.mono S1.out.size));clear ag)
  |(go_at_call 155;refine(HS.out _).mono ?_;rintro e w3 ⟨a,cap,rfl,ai,ah⟩;have S3:=Zka (Zkb ai (S2.out.trans (ah.mono S2.out.size)));clear ah ai))
 go_ret2
 exact⟨_,_,rfl,ZaV S3.out.1 S2.out.size,S3.out.2⟩
theorem ZcK(s:Nat)(under name:Bs)(c:Int)(hc:c≠0)(w:World)(ae:Calls prog 157 #[.pointer (some ⟨s,0,none⟩),.string (str under)] w fun r w'=>∃b,r=.returned (.tuple #[.string ⟨#[]⟩,.iface 139 (.pointer (some ⟨b,0,none⟩))])/\Zu w' w.heap.size c (.iface 139 (.pointer (some ⟨b,0,none⟩)))/\Below w.heap.size w w'):
  Calls prog 110 #[.pointer (some ⟨s,0,none⟩),.string (str under),.string (str name)] w fun e w'=>∃b,e=.returned (.tuple #[.slice none 0 0,.iface 139 (.pointer (some ⟨b,0,none⟩))])/\Zu w' w.heap.size c (.iface 139 (.pointer (some ⟨b,0,none⟩)))/\Below w.heap.size w w':=by
 have HG:=Zka ae
 clear ae
 go_enter func110,ntmps110
 go_wp2_with (go_at_call 157;refine HG.out.mono ?_;rintro e w1 ⟨b,rfl,ag,af⟩;have S1:=Zka (Zkb ag af);clear af ag)
 go_ret2
 exact⟨_,rfl,S1.out.1,S1.out.2⟩
theorem Z60(n v:ByteArray)(w:World):
  Calls prog 81 #[.string n,.string v] w fun e w'=>e=.returned (.agg #[.int .i64 1,.string n,.string ⟨#[]⟩,.string v])/\Below w.heap.size w w':=by
 go_enter func81,ntmps81
 go_wp2
 have hr:=Row.new w 151 [.int .i64 1,.string n,.string ⟨#[]⟩,.string v]
 have y0:=hr.cell (j:=0) rfl
 have y1:=hr.cell (j:=1) rfl
 have y2:=hr.cell (j:=2) rfl
 have y3:=hr.cell (j:=3) rfl
 exact bodyPost_ret (v:=.agg #[.int .i64 1,.string n,.string ⟨#[]⟩,.string v]) (by simp[results,Tryz.results81,go_sem,y0,y1,y2,y3]) rfl ⟨rfl,(Below.refl _ w).alloc Zk8 _⟩
end
section
variable{D:Dk}{E g i k m:Nat}{H:Bs->Option Bs}{K:List Bs}{S:Sto}{T:Tab}{d:Dir}{l:List Chg}{n v:Bs}
def Yi(K:List Bs):List Bs:=nmC::nmN::nmT::(K.map nmS++K.map nmD)
structure KOk(K:List Bs):Prop where
 few:K.length<=18
 len:∀x∈K,1<=x.length/\x.length<=11
theorem YD:n∈Yi K↔n=nmC∨n=nmN∨n=nmT∨(∃x∈K,n=nmS x)∨∃x∈K,n=nmD x:=by
 unfold Yi
 simp only[ZjV,ZjU,List.mem_map,eq_comm]
theorem Z0a(h:KOk K):∀n∈Yi K,1<=n.length/\n.length<=12:=fun n hn=>by
 rcases YD.1 hn with rfl|rfl|rfl|⟨x,hx,rfl⟩|⟨x,hx,rfl⟩
 ·simp[nmC]
 ·simp[nmN]
 ·simp[nmT]
 ·have:=h.len x hx;simp[nmS];omega
 ·have:=h.len x hx;simp[nmD];omega
theorem Z5c(h:KOk K):(Yi K).length<=40:=by
 have:=h.few
 unfold Yi
 simp only[ZjM,ZjI,ZjN]
 omega
theorem ZhK{x:Bs}(h:nmS x∈Yi K):x∈K:=by
 rcases YD.1 h with h|h|h|⟨y,hy,h⟩|⟨y,hy,h⟩
 ·simp[nmS,nmC] at h
 ·simp[nmS,nmN] at h
 ·simp[nmS,nmT] at h
 ·have:x=y:=by simpa[nmS] using h
  rw[this];exact hy
 ·simp[nmS,nmD] at h
structure LOk(K:List Bs)(l:List Chg):Prop where
 nd:(l.map (·.key)).Nodup
 few:l.length<=4
 key:∀c∈l,c.key∈K
 val:∀c∈l,∀v,c.val=some v->v.length<=200
structure Q8(K:List Bs)(E:Nat)(D:Dk)(S:Sto):Prop where
 img:∃recs,YL 800 100 D.reads S recs/\recs≠[]
 sm:Dir.Sm (Yi K) S.dir
 wait:D.wait=[]
 ep:S.j.epoch<=E
theorem Q8.sorted(h:Q8 K E D S):S.dir.Sorted:=by
 obtain⟨recs,hi,_⟩:=h.img;exact hi.ok.sorted
theorem Q8.few(h:Q8 K E D S)(hK:KOk K):S.dir.length<=40:=Zk1 (Z1a h.sm h.sorted) (Z5c hK)
theorem YB{R:Nat->ByteArray}:d.get n=none↔stR R d n=none:=by
 unfold stR;cases d.get n<;>simp
structure Yd(K:List Bs)(S:Sto)(acts:List Ac)(d:Dir)(f:Z1):Prop where
 plan:S.plan acts=some (d,f)
 room:Z47 S d f
 wrong:∀a∈acts,a.wrong=false
 ne:acts≠[]
 few:acts.length<=12
 in_:∀o∈S.ops acts d f,o.In 800
 sm:Dir.Sm (Yi K) d
theorem Zbx(S:Sto)(acts:List Ac)(d:Dir)(f:Z1):∃l,S.ops acts d f=l++[.fl]:=by
 unfold Sto.ops Sto.jOps
 split
 ·unfold Jn.appendOps Jn.lay;exact⟨_,(ZjL _ _ _).symm⟩
 ·unfold Jn.resetOps;exact⟨_,(ZjL _ _ _).symm⟩
theorem Z7X(S:Sto)(d:Dir)(f:Z1):(S.jNew d f).epoch<=S.j.epoch+1:=by
 unfold Sto.jNew
 split
 ·exact Nat.le_succ _
 ·exact Zk8
theorem Q8.acts(h:Q8 K E D S)(hK:KOk K){acts:List Ac}(hw:∀a∈acts,a.wrong=false)(ha:∀a∈acts,Ac.Sm (Yi K) a)(hl:acts.length<=12)(ae:acts≠[]){d0:Dir}{f:Z1}
  (hd:Ql acts 0 S.dir []=some (d0,f)) (ag:∃m,f.by m≠none∨(S.dir.get m≠none/\d0.get m=none)) (af:d0≠[]):∃d,Yd K S acts d f:=by
 obtain⟨recs,hi,_⟩:=h.img
 obtain⟨d,h1,h2,h3,h4⟩:=Z4d hi (fun m hm=>(Z0a hK m hm).2) (Z5c hK) h.sm hw ha hl hd ag af
 have ah:=YO D.reads hi.ok hi.used hw h1
 refine⟨d,h1,h2,hw,ae,hl,fun o ho=> ?_,h3⟩
 unfold Sto.ops at ho
 rcases ZjU.1 ho with ho|ho
 ·exact Zbq ah o ho
 ·have:=Z7d h2 o ho
  rw[hi.jhalf] at this
  cases o with
  |wr a s=>exact⟨Zk0 this.1 (by omega),this.2⟩
  |fl=>trivial
theorem Q8.did(h:Q8 K E D S)(hK:KOk K)(ok:D.ok 800){acts:List Ac}{d:Dir}{f:Z1}(ha:Yd K S acts d f):
  Q8 K (E+1) (Q1 (S.ops acts d f) D) (S.done d f)/\stR (Q1 (S.ops acts d f) D).reads (S.done d f).dir=acts.foldl Ac.on (stR D.reads S.dir):=by
 obtain⟨recs,hi,hr⟩:=h.img
 have ae:=YO D.reads hi.ok hi.used ha.wrong ha.plan
 have e1:(Q1 (S.ops acts d f) D).reads=Zm (S.ops acts d f) D.reads:=Jd ok.fit ha.in_
 refine⟨⟨⟨S.recs' recs d f,?_,?_⟩,ha.sm,?_,?_⟩,?_⟩
 ·rw[e1];exact hi.commit (by omega) (by omega) (by omega) ae ha.room
 ·unfold Sto.recs';split<;>simp
 ·obtain⟨l,hl⟩:=Zbx S acts d f
  rw[hl];exact Z28 l D
 ·exact Zk1 (Z7X S d f) (Nat.succ_le_succ h.ep)
 ·rw[e1];exact Z6O hi ae ha.room
theorem put_ok(hK:KOk K){n v:Bs}(hn:n∈Yi K)(hv:v.length<=500)(hp:1<=v.length):Ac.wrong ⟨1,n,[],v⟩=false/\Ac.Sm (Yi K) ⟨1,n,[],v⟩:=by
 have:=Z0a hK n hn
 refine⟨?_,hn,fun h=>by simp at h,hv,fun _=>hp⟩
 unfold Ac.wrong
 simp
 omega
theorem Z2H(hK:KOk K){n:Bs}(hn:n∈Yi K):Ac.wrong (dr1 n)=false/\Ac.Sm (Yi K) (dr1 n):=by
 have:=Z0a hK n hn
 refine⟨?_,hn,fun h=>by simp[dr1] at h,by simp[dr1],fun h=>by simp[dr1] at h⟩
 unfold Ac.wrong dr1
 simp
 omega
theorem move_ok(hK:KOk K){n t:Bs}(hn:n∈Yi K)(ht:t∈Yi K):Ac.wrong ⟨3,n,t,[]⟩=false/\Ac.Sm (Yi K) ⟨3,n,t,[]⟩:=by
 have h1:=Z0a hK n hn
 have h2:=Z0a hK t ht
 refine⟨?_,hn,fun _=>ht,by simp,fun h=>by simp at h⟩
 unfold Ac.wrong
 simp
 omega
theorem Z0j(k m i g:Nat):(QJ k m i g).length=111:=by
 unfold QJ
 rw[WP,ZF,Zc,Zc,Zc,Zc,Zc]
 simp[Zt,Zq,Z9V,QX]
theorem Z84(hk:1<=k)(hv:v.length<=200)(i:Nat):(shT k m v i).length<=201:=by
 unfold shT
 by_cases hi:i<k+m
 ·have h1:=WA k m (str v) hk i hi
  have h2:=Z2T k (str v).size hk
  rw[Z5] at h1 h2
  have h3:((Zl k m (str v)).getD i ⟨#[]⟩).data.toList.length=((Zl k m (str v)).getD i ⟨#[]⟩).size:=Array.length_toList
  omega
 ·rw[ZjE,List.getElem?_eq_none (by rw[QR];omega)];simp
theorem Z3C{key:Bs}(hk:1<=k)(hv:v.length<=200):(shL k m i key v).length<=500/\(Zv [Z4 i,Z4 v.length,shT k m v i]).length<=9000:=by
 have h1:=Z84 (m:=m) hk hv i
 unfold shL
 rw[WP,ZF,Zc,Zc,Zc]
 simp only[Zt,Zq,QX,List.map_nil,List.sum_nil]
 omega
theorem Z89(hK:KOk K){g:Nat}{l:List Chg}(h:LOk K l):(Z1h g (Zi l)).length<=500/\(Zv (Z4 g::Zi l)).length<=9000:=by
 have h1:(Zi l).length<=l.length:=by unfold Zi;exact List.length_filterMap_le _ _
 have h2:=Z7m (Zi l) 11 (fun x hx=>by
  obtain⟨c,hc,hx,_⟩:=XD.1 hx
  rw[<-hx];exact(hK.len _ (h.key c hc)).2)
 have h3:=h.few
 unfold Z1h
 rw[WP,ZF,Zc]
 simp only[Zq,QX]
 omega
theorem Q8.first{H:Bs->Option Bs}(h:Q8 K E D S)(hK:KOk K)(hk:1<=k)(hl:LOk K l):∃d f,Yd K S (Qz k m i g l) d f:=by
 have af:∀a∈Qz k m i g l,a.wrong=false/\Ac.Sm (Yi K) a:=fun a ha=>by
  unfold Qz at ha
  simp only[ZjV,ZjU,List.mem_filterMap,Zk3,or_false] at ha
  rcases ha with rfl|⟨c,hc,hs⟩|rfl
  ·exact put_ok hK (YD.2 (by simp)) (by rw[Z0j];omega) (by rw[Z0j];omega)
  ·obtain⟨v,hv,rfl⟩:=XW hs
   exact put_ok hK (YD.2 (Or.inr (Or.inr (Or.inr (Or.inl ⟨_,hl.key c hc,rfl⟩))))) (Z3C hk (hl.val c hc v hv)).1 (by unfold shL;rw[WP];omega)
  ·exact put_ok hK (YD.2 (by simp)) (Z89 hK hl).1 (by unfold Z1h;rw[WP];omega)
 have hlen:(Qz k m i g l).length<=12:=by
  have h1:(l.filterMap (Ym k m i)).length<=l.length:=List.length_filterMap_le _ _
  have:=hl.few
  unfold Qz
  simp only[ZjM,ZjI,List.length_nil]
  omega
 obtain⟨d0,f,hd⟩:=Z5v (Z6n (k:=k) (m:=m) (i:=i) (g:=g) (l:=l)) 0 S.dir []
 have ae:f.by nmT≠none/\d0.get nmT≠none:=by
  have e1:Qz k m i g l=(⟨1,nmN,[],QJ k m i (g+1)⟩::l.filterMap (Ym k m i))++[⟨1,nmT,[],Z1h (g+1) (Zi l)⟩]:=rfl
  rw[e1] at hd
  exact Z5u rfl hd
 obtain⟨d,ha⟩:=h.acts hK (fun a ha=>(af a ha).1) (fun a ha=>(af a ha).2) hlen (by unfold Qz;simp) hd ⟨nmT,Or.inl ae.1⟩ (fun e=>ae.2 (by rw[e];rfl))
 exact⟨d,f,ha⟩
theorem Q8.live{acts:List Ac}(h:Q8 K E D S)(hK:KOk K)(hw:∀a∈acts,a.wrong=false)(ha:∀a∈acts,Ac.Sm (Yi K) a)(hl:acts.length<=12)(ae:acts≠[])(ho:JF (stR D.reads S.dir) acts)
  {m:Bs} (h1:stR D.reads S.dir m≠none) (h2:acts.foldl Ac.on (stR D.reads S.dir) m=none) {m2:Bs} (h3:acts.foldl Ac.on (stR D.reads S.dir) m2≠none):∃d,Yd K S acts d []:=by
 obtain⟨d0,hd,hT⟩:=Zay (k:=0) (fun m=>YB (R:=D.reads) (d:=S.dir) (n:=m)) ho
 refine h.acts hK hw ha hl ae hd ⟨m,Or.inr ⟨fun e=>h1 (YB.1 e),(hT m).2 h2⟩⟩ (fun e=>h3 ((hT m2).1 (by rw[e];rfl)))
theorem Z86(h:Dir.Sm (Yi K) d){n:Bs}(hn:n∈d.names.filter isS):∃x∈K,n=nmS x:=by
 obtain⟨h1,h2⟩:=List.mem_filter.1 hn
 obtain⟨x,rfl⟩:=(Z09 n).1 h2
 obtain⟨y,hy,ae⟩:=List.mem_map.1 h1
 exact⟨x,ZhK (by rw[<-ae];exact(h y hy).1),rfl⟩
theorem Mid.xs{T1:Tab}(hm:Mid k m i g H l T T1){d:Dir}(hs:d.Sorted)(hd:∀n,d.get n=none↔T1 n=none):(d.names.filter isS).length<=l.length:=by
 obtain⟨xs,e1,e2,e3⟩:=Z22 hs
 rw[e1,ZjN]
 have:=e2.length_le_of_subset (l₂:=l.map (·.key)) (fun x hx=>by
  have h9:=(e3 x).1 hx
  rw[ne_eq,hd] at h9
  by_cases hc:∀c∈l,c.key=x->c.val=none
  ·exact absurd (hm.bare x hc) h9
  ·simp only[Classical.not_forall] at hc
   obtain⟨c,hc,h1,_⟩:=hc
   exact List.mem_map.2 ⟨c,hc,h1⟩)
 rwa[ZjN] at this
theorem Q8.second(h:Q8 K E D S)(hK:KOk K)(hl:LOk K l)(hr:WT k m i g H T)(hm:Mid k m i g H l T (stR D.reads S.dir)):∃d,Yd K S (Qc S.dir (Zi l)) d []:=by
 obtain⟨r1,r2,r3⟩:=ZbA hl.nd hr hm h.sorted (fun n=>YB)
 have ae:∀a∈Qc S.dir (Zi l),a.wrong=false/\Ac.Sm (Yi K) a:=fun a ha=>by
  unfold Qc at ha
  simp only[ZjU,List.mem_map,ZjV,Zk3,or_false] at ha
  rcases ha with (⟨n,hn,rfl⟩|⟨x,hx,rfl⟩)|rfl|rfl
  ·obtain⟨x,hx,rfl⟩:=Z86 h.sm hn
   exact move_ok hK (YD.2 (Or.inr (Or.inr (Or.inr (Or.inl ⟨x,hx,rfl⟩))))) (YD.2 (Or.inr (Or.inr (Or.inr (Or.inr ⟨x,hx,rfl⟩)))))
  ·obtain⟨c,hc,hx,_⟩:=XD.1 (List.mem_filter.1 hx).1
   exact Z2H hK (YD.2 (Or.inr (Or.inr (Or.inr (Or.inr ⟨x,by rw[<-hx];exact hl.key c hc,rfl⟩)))))
  ·exact move_ok hK (YD.2 (by simp)) (YD.2 (by simp))
  ·exact Z2H hK (YD.2 (by simp))
 have hlen:(Qc S.dir (Zi l)).length<=12:=by
  have h1:=hm.xs h.sorted (fun n=>YB)
  have h2:(Zi l).length<=l.length:=by unfold Zi;exact List.length_filterMap_le _ _
  have h3:((Zi l).filter fun key=>(S.dir.get (nmD key)).isSome).length<=(Zi l).length:=List.length_filter_le _ _
  have:=hl.few
  unfold Qc
  simp only[ZjI,ZjN,ZjM,List.length_nil]
  omega
 exact h.live hK (fun a ha=>(ae a ha).1) (fun a ha=>(ae a ha).2) hlen (by unfold Qc;simp) r1 (m:=nmT) (by rw[hm.under];simp) r2.under (m2:=nmC) (by rw[r2.card];simp)
theorem Z5H(l:List DOp):∀{P:Pw} {D:Dk},(∀o∈l,o.In 800)->D.Fit 800->D.dead=false->(Z2 l P D).1=0->(Z2 l P D).2.2=Q1 l D:=by
 induction l with
 |nil=>intro P D _ _ _ _;rfl
 |cons o r ih=>
  intro P D af hf hd h
  rw[Wy] at h⊢
  by_cases h0:o.code P D=0
  ·rw[if_pos h0] at h⊢
   have e:o.dk P D=o.app D:=by
    cases o with
    |wr a s=>
     show wdk P D a s=_
     have ae:YC P D a s=0:=h0
     unfold wdk
     rw[if_pos ae];rfl
    |fl=>
     show fdk P D=_
     have ae:X0 P D=0:=h0
     unfold fdk
     rw[if_pos ae];rfl
   rw[e] at h⊢
   exact ih (fun q hq=>af q (by simp[hq])) (hf.app o (af o (by simp))) (by rw[Z1E];exact hd) h
  ·rw[if_neg h0] at h
   exact absurd h h0
theorem Q8.runs(h:Q8 K E D S){n:Bs}{e:Ent}(hg:S.dir.get n=some e):Ent.Ok 800 100 e/\e.runs≠[]/\e.runs.length<=1000:=by
 obtain⟨recs,hi,_⟩:=h.img
 have h1:=hi.ok.get hg
 have h2:=h.sm _ (Dir.get_some_mem hg)
 refine⟨h1,fun e0=> ?_,?_⟩
 ·have h3:=h1.secs
  unfold Ent.secs ZH at h3
  rw[e0] at h3
  simp at h3
  have:=h2.2.2
  simp at this
  omega
 ·have h3:=Z9U e.runs (fun r hr=>(h1.many r hr).1)
  have h4:(Z9 e.runs).length=ZH e.size:=h1.secs
  unfold ZH at h4
  have:=h2.2.1
  simp at this
  omega
end
section
variable{H:Bs->Option Bs}{l l':List Chg}{x:Bs}
def JL(H:Bs->Option Bs)(l:List Chg):Bs->Option Bs:=l.foldl (fun H c x=>if x=c.key then c.val else H x) H
def later(c:Chg)(r:List Chg):Bool:=r.any fun o=>o.key==c.key
def Qq:List Chg->List Chg
 |[]=>[]
 |c::r=>if later c r=true then Qq r else c::Qq r
theorem Z4y{c:Chg}{r:List Chg}:later c r=true↔∃o∈r,o.key=c.key:=by
 unfold later;simp
theorem Z3l:∀c∈Qq l,c∈l:=by
 induction l with
 |nil=>intro c h;cases h
 |cons a r ih=>
  intro c h
  unfold Qq at h
  split at h
  ·exact ZjS _ (ih c h)
  ·rcases ZjV.1 h with rfl|h
   ·simp
   ·exact ZjS _ (ih c h)
theorem Z3k(l:List Chg):(Qq l).length<=l.length:=by
 induction l with
 |nil=>exact Zk8
 |cons a r ih=>
  unfold Qq
  split
  ·rw[ZjM];omega
  ·rw[ZjM,ZjM];omega
theorem Z4x(l:List Chg):((Qq l).map (·.key)).Nodup:=by
 induction l with
 |nil=>simp[Qq]
 |cons a r ih=>
  unfold Qq
  split
  ·exact ih
  ·rename_i h
   rw[ZjY,List.nodup_cons]
   refine⟨fun hm=>h ?_,ih⟩
   obtain⟨c,hc,e⟩:=List.mem_map.1 hm
   exact Z4y.2 ⟨c,Z3l c hc,e⟩
theorem Z19:∀{H:Bs->Option Bs},(∀c∈l,c.key≠x)->JL H l x=H x:=by
 unfold JL
 induction l with
 |nil=>intro H _;rfl
 |cons c r ih=>
  intro H h
  rw[Zk6,ih (fun o ho=>h o (by simp[ho])),if_neg (fun e=>h c (by simp) e.symm)]
theorem Z3f(H:Bs->Option Bs)(c:Chg)(r:List Chg):JL H (c::r)=JL (fun x=>if x=c.key then c.val else H x) r:=rfl
theorem ZaE:∀{H H':Bs->Option Bs},(∃c∈l,c.key=x)->JL H l x=JL H' l x:=by
 induction l with
 |nil=>rintro H H' ⟨c,hc,_⟩;cases hc
 |cons a r ih=>
  rintro H H' ⟨c,hc,rfl⟩
  rw[Z3f,Z3f]
  by_cases h:∃o∈r,o.key=c.key
  ·exact ih h
  ·have h':∀o∈r,o.key≠c.key:=fun o ho e=>h ⟨o,ho,e⟩
   rw[Z19 h',Z19 h']
   rcases ZjV.1 hc with rfl|hc
   ·simp
   ·exact absurd rfl (h' c hc)
theorem Zdg(H:Bs->Option Bs)(l:List Chg)(x:Bs):upH H (Qq l) x=JL H l x:=by
 induction l generalizing H with
 |nil=>rfl
 |cons a r ih=>
  rw[Z3f,Qq]
  by_cases hl:later a r=true
  ·rw[if_pos hl,ih H]
   by_cases hx:∃c∈r,c.key=x
   ·exact ZaE hx
   ·have ae:∀c∈r,c.key≠x:=fun c hc e=>hx ⟨c,hc,e⟩
    rw[Z19 ae,Z19 ae]
    rw[if_neg (fun e=>by
     obtain⟨o,ho,e2⟩:=Z4y.1 hl
     exact ae o ho (by rw[e2,e]))]
  ·rw[if_neg hl]
   have af:∀o∈r,o.key≠a.key:=fun o ho e=>hl (Z4y.2 ⟨o,ho,e⟩)
   unfold upH
   rw[List.find?_cons]
   by_cases hx:x=a.key
   ·subst hx
    rw[Z19 af]
    simp
   ·rw[show(a.key==x)=false from by simpa using fun e=>hx e.symm]
    have h9:=ih (fun y=>if y=a.key then a.val else H y)
    rw[<-h9]
    unfold upH
    simp only
    rw[if_neg hx]
theorem ZgP(h:l.Perm l')(hn:(l.map (·.key)).Nodup):upH H l=upH H l':=by
 have ae:(l'.map (·.key)).Nodup:=(h.map _).nodup_iff.1 hn
 funext x
 by_cases hx:∃c∈l,c.key=x
 ·obtain⟨c,hc,rfl⟩:=hx
  rw[Z1B hn hc,Z1B ae (h.mem_iff.1 hc)]
 ·rw[Z7r (fun c hc e=>hx ⟨c,hc,e⟩),Z7r (fun c hc e=>hx ⟨c,h.mem_iff.2 hc,e⟩)]
theorem LOk.of{K:List Bs}(h:l'.Perm (Qq l))(h1:l.length<=4)(h2:∀c∈l,c.key∈K)(h3:∀c∈l,∀v,c.val=some v->v.length<=200):LOk K l':=
 ⟨((h.map (·.key)).nodup_iff).2 (Z4x l),by have:=Z3k l;have:=h.length_eq;omega,fun c hc=>h2 c (Z3l c (h.mem_iff.1 hc)),fun c hc=>h3 c (Z3l c (h.mem_iff.1 hc))⟩
theorem ZeU(h:l'.Perm (Qq l)):upH H l'=JL H l:=by
 rw[ZgP h (((h.map (·.key)).nodup_iff).2 (Z4x l))]
 funext x
 exact Zdg H l x
abbrev ZS:=List (Bs×Bs)
def Hof(l:ZS):Bs->Option Bs:=fun x=>(l.find? fun p=>p.1==x).map (·.2)
def J6(l:ZS)(c:Chg):ZS:=(l.filter fun p=>p.1 !=c.key)++(match c.val with|some v=>[(c.key,v)]|none=>[])
def Je(l:ZS)(cs:List Chg):ZS:=cs.foldl J6 l
theorem Zh7{l:ZS}(hn:(l.map (·.1)).Nodup){p:Bs×Bs}(hp:p∈l):Hof l p.1=some p.2:=by
 unfold Hof
 induction l with
 |nil=>cases hp
 |cons q r ih=>
  rw[ZjY,List.nodup_cons] at hn
  rw[List.find?_cons]
  rcases ZjV.1 hp with rfl|hp
  ·simp
  ·rw[show(q.1==p.1)=false from by
    simp only[beq_eq_false_iff_ne,ne_eq]
    exact fun e=>hn.1 (by rw[e];exact List.mem_map_of_mem hp)]
   exact ih hn.2 hp
theorem Zf4{l:ZS}:Hof l x=none↔∀p∈l,p.1≠x:=by
 unfold Hof
 rw[Option.map_eq_none_iff,List.find?_eq_none]
 simp
theorem Zf5{l:ZS}{v:Bs}(h:Hof l x=some v):(x,v)∈l:=by
 unfold Hof at h
 rw[Option.map_eq_some_iff] at h
 obtain⟨p,h1,h2⟩:=h
 have h3:=List.mem_of_find?_eq_some h1
 have h4:=List.find?_some h1
 simp only[beq_iff_eq] at h4
 rw[<-h4,<-h2];exact h3
theorem Z5y{l:ZS}(hn:(l.map (·.1)).Nodup)(c:Chg):((J6 l c).map (·.1)).Nodup:=by
 unfold J6
 rw[ZjZ,List.nodup_append]
 refine⟨hn.sublist ((List.filter_sublist).map _),?_,fun a ha b hb e=> ?_⟩
 ·split<;>simp
 ·obtain⟨p,hp,rfl⟩:=List.mem_map.1 ha
  have h1:=(List.mem_filter.1 hp).2
  split at hb
  ·simp only[ZjY,List.map_nil,ZjD] at hb
   rw[e,hb] at h1;simp at h1
  ·simp at hb
theorem Zf3(l:ZS)(c:Chg)(x:Bs):Hof (J6 l c) x=if x=c.key then c.val else Hof l x:=by
 unfold Hof J6
 rw[List.find?_append]
 by_cases hx:x=c.key
 ·subst hx
  rw[if_pos rfl,List.find?_eq_none.2 (fun p hp=>by
   have:=(List.mem_filter.1 hp).2
   simpa using this)]
  cases c.val<;>simp
 ·rw[if_neg hx]
  have h1:(l.filter fun p=>p.1 !=c.key).find? (fun p=>p.1==x)=l.find? (fun p=>p.1==x):=by
   induction l with
   |nil=>rfl
   |cons p r ih=>
    rw[List.filter_cons]
    by_cases hp:p.1=c.key
    ·rw[show(p.1 !=c.key)=false from by simp[hp]]
     simp only[Bool.false_eq_true,if_false]
     rw[ih,List.find?_cons,show(p.1==x)=false from by simp only[beq_eq_false_iff_ne,ne_eq];exact fun e=>hx (by rw[<-e,hp])]
    ·rw[show(p.1 !=c.key)=true from by simp[hp]]
     simp only[if_true]
     rw[List.find?_cons,List.find?_cons,ih]
  rw[h1]
  have h2:(match c.val with|some v=>[(c.key,v)]|none=>([]:ZS)).find? (fun(p:Bs×Bs)=>p.1==x)=none:=by
   rw[List.find?_eq_none]
   intro p hp
   split at hp
   ·simp only[ZjD] at hp
    rw[hp];simpa using fun e=>hx e.symm
   ·cases hp
  rw[h2,Option.or_none]
theorem Zh6(l:ZS)(cs:List Chg):Hof (Je l cs)=JL (Hof l) cs:=by
 unfold Je JL
 induction cs generalizing l with
 |nil=>rfl
 |cons c r ih=>
  rw[Zk6,Zk6,ih]
  congr 1
  funext x
  exact Zf3 l c x
theorem Ze8(l:ZS)(c:Chg):(J6 l c).length<=l.length+1:=by
 unfold J6
 have:=List.length_filter_le (fun p:Bs×Bs=>p.1 !=c.key) l
 rw[ZjI]
 split<;>simp<;>omega
theorem Z9g{l:ZS}(hn:(l.map (·.1)).Nodup){ks:List Bs}(hk:ks.Nodup)(h:∀x,x∈ks↔Hof l x≠none):ks.length=l.length:=by
 have h1:∀x,x∈ks↔x∈l.map (·.1):=fun x=>by
  rw[h,ne_eq,Zf4]
  simp only[Classical.not_forall,List.mem_map]
  constructor
  ·rintro⟨p,hp,e⟩;exact⟨p,hp,Classical.not_not.1 e⟩
  ·rintro⟨p,hp,e⟩;exact⟨p,hp,fun h=>h e⟩
 have h2:=hk.length_le_of_subset (l₂:=l.map (·.1)) (fun x hx=>(h1 x).1 hx)
 have h3:=hn.length_le_of_subset (l₂:=ks) (fun x hx=>(h1 x).2 hx)
 rw[ZjN] at h2 h3
 omega
end
section
open Go.RowKit
variable{f:Z1}
theorem Zfh(P:Pw)(D:Dk)(o:DOp):(o.dk P D).life=D.life/\(o.dk P D).dead=D.dead:=by
 cases o with
 |wr a s=>show(wdk P D a s).life=_/\(wdk P D a s).dead=_;unfold wdk;split<;>exact⟨rfl,rfl⟩
 |fl=>show(fdk P D).life=_/\(fdk P D).dead=_;unfold fdk;split<;>exact⟨rfl,rfl⟩
theorem Wz(l:List DOp):∀ (P:Pw) (D:Dk),(Z2 l P D).2.2.life=D.life/\(Z2 l P D).2.2.dead=D.dead:=by
 induction l with
 |nil=>intro P D;exact⟨rfl,rfl⟩
 |cons o r ih=>
  intro P D
  rw[Wy]
  have h:=Zfh P D o
  split
  ·have:=ih (o.pow P D) (o.dk P D);exact⟨this.1.trans h.1,this.2.trans h.2⟩
  ·exact h
def Sto.pl(S:Sto)(acts:List Ac):Dir×Z1:=(S.plan acts).getD ([],[])
def Sto.go(S:Sto)(acts:List Ac):List DOp:=S.ops acts (S.pl acts).1 (S.pl acts).2
def Sto.nx(S:Sto)(acts:List Ac):Sto:=S.done (S.pl acts).1 (S.pl acts).2
theorem Yd.pl{K:List Bs}{S:Sto}{acts:List Ac}{d:Dir}(h:Yd K S acts d f):S.pl acts=(d,f):=by unfold Sto.pl;rw[h.plan];rfl
theorem Yd.go{K:List Bs}{S:Sto}{acts:List Ac}{d:Dir}(h:Yd K S acts d f):S.go acts=S.ops acts d f:=by unfold Sto.go;rw[h.pl]
theorem Yd.nx{K:List Bs}{S:Sto}{acts:List Ac}{d:Dir}(h:Yd K S acts d f):S.nx acts=S.done d f:=by unfold Sto.nx;rw[h.pl]
def Yr(B:Nat)(G:Eg)(bl:List Nat)(P:Pw)(Ds:Nat->Dk)(w w':World):Prop:=
 ∃Ls:Nat->List Nat,(∀i,i<G.n->PD B w' G.p (G.ds i) 800 P (Ds i) (Ls i))/\(∀i j,i<G.n->j<G.n->i≠j->∀k∈Ls i,k∉Ls j)/\(∀i,i<G.n->∀k∈Ls i,k∈bl∨w.heap.size<=k)/\Fr (G.p::bl) w w'
section
variable{B:Nat}{w w':World}{G:Eg}{V:Ev}{bl:List Nat}
theorem Yr.from{P:Pw}{Ds:Nat->Dk}{w0:World}(h:Yr B G bl P Ds w w')(hb:Below w0.heap.size w0 w):Yr B G bl P Ds w0 w':=by
 obtain⟨Ls,h1,h2,h3,h4⟩:=h
 exact⟨Ls,h1,h2,fun i hi k hk=>(h3 i hi k hk).imp id (fun h=>Zk1 hb.size h),(Fr.of_below (L:=G.p::bl) hb).trans h4 (fun i hi _=>hi)⟩
theorem Q0.blks_typed{Ls Os:Nat->List Nat}(h:Q0 B w G V Ls Os){i:Nat}(hi:i<G.n){X:List Nat}(hX:∀k∈X,k∈Os i):Zs w (X++G.p::Ls i) (Z4f++Z68):=
 ((((h.at_ i hi).typed.mono hX (fun _ he=>he):Zs w X Z68)).mono (fun _ h=>h) (fun e he=>List.mem_append_right _ he)).append ((h.pd i hi).typed.mono (fun _ h=>h) (fun e he=>List.mem_append_left _ he))
theorem Q0.dstep{Ls Os:Nat->List Nat}(h:Q0 B w G V Ls Os){i:Nat}(hi:i<G.n){X:List Nat}{P':Pw}{D':Dk}{L':List Nat}(hf:Fr (X++G.p::Ls i) w w')(hX:∀k∈X,k∈Os i)(hp:PD B w' G.p (G.ds i) 800 P' D' L')
  (hL:∀k∈L',k∈Ls i∨w.heap.size<=k):Yr B G (WU G Ls Os) P' (upd V.Ds i D') w w':=by
 have ag:Zs w X Z68:=(h.at_ i hi).typed.mono hX (fun _ he=>he)
 have af:∀j,j<G.n->j≠i->∀k∈Ls j,k∉X++G.p::Ls i:=fun j hj ah k hk hm=>by
  rcases ZjU.1 hm with hm|hm
  ·exact ag.disj ((h.pd j hj).typedL) (by decide) k hm hk
  ·rcases ZjV.1 hm with rfl|hm
   ·exact(h.pd j hj).typedL.row_ne (h.pd i hi).pw (by decide) hk
   ·exact h.dap j i hj hi ah k hk hm
 refine⟨upd Ls i L',fun j hj=> ?_,fun a b ha hb ae k hk=> ?_,fun j hj k hk=> ?_,hf.mono (fun k hk _=> ?_)⟩
 ·by_cases e:j=i
  ·subst e;simp only[Zn];exact hp
  ·simp only[Z7 _ _ e]
   exact(h.pd j hj).power hf (af j hj e) hp.pw hp.pok
 ·by_cases ea:a=i
  ·subst ea
   rw[Zn] at hk
   rw[Z7 _ _ (fun e=>ae e.symm)]
   rcases hL k hk with h1|h1
   ·exact h.dap a b ha hb ae k h1
   ·intro h2
    have:=(h.pd b hb).typedL.lt k h2
    omega
  ·rw[Z7 _ _ ea] at hk
   by_cases eb:b=i
   ·subst eb
    rw[Zn]
    intro h2
    rcases hL k h2 with h1|h1
    ·exact h.dap a b ha hb ae k hk h1
    ·have:=(h.pd a ha).typedL.lt k hk
     omega
   ·rw[Z7 _ _ eb];exact h.dap a b ha hb ae k hk
 ·by_cases e:j=i
  ·subst e
   rw[Zn] at hk
   exact(hL k hk).imp (fun h1=>QT.2 (Or.inr (Or.inl ⟨j,hj,h1⟩))) id
  ·rw[Z7 _ _ e] at hk
   exact Or.inl (QT.2 (Or.inr (Or.inl ⟨j,hj,hk⟩)))
 ·rcases ZjU.1 hk with hk|hk
  ·exact ZjS _ (QT.2 (Or.inr (Or.inr ⟨i,hi,hX k hk⟩)))
  ·rcases ZjV.1 hk with rfl|hk
   ·simp
   ·exact ZjS _ (QT.2 (Or.inr (Or.inl ⟨i,hi,hk⟩)))
structure Z5N(B:Nat)(G:Eg)(V:Ev)(bl:List Nat)(i:Nat)(S:Sto)(acts:List Ac)(w w':World):Prop where
 ok:(Z2 (S.go acts) V.P (V.Ds i)).1=0->Zf B G bl {V with P:=(Z2 (S.go acts) V.P (V.Ds i)).2.1,Ds:=upd V.Ds i (Z2 (S.go acts) V.P (V.Ds i)).2.2,Ms:=upd V.Ms i (some (S.nx acts))} w w'
 bad:Yr B G bl (Z2 (S.go acts) V.P (V.Ds i)).2.1 (upd V.Ds i (Z2 (S.go acts) V.P (V.Ds i)).2.2) w w'
 set:Row w' G.s 78 [.int .i64 V.k,.int .i64 V.m,.slice (some ⟨G.ms,0,none⟩) G.n G.cap,.int .i64 V.gen,.bool false]
theorem ZhH{K:List Bs}{E i ga oa na ca:Nat}{S:Sto}{acts:List Ac}{d:Dir}(h:EAt B w G V bl)(hi:i<G.n)(hM:V.Ms i=some S)(hD:Q8 K E (V.Ds i) S)(hK:KOk K)(hE:E<=2000000000)(ha:Yd K S acts d f)(aq:WW w ga oa acts)(ay:na=acts.length)(aw:na<=ca)(ht:Ty w)(hg:0<B){s:Nat}{o:List Value}
  (hr:Row w (G.xs i) 91 (.pointer (some ⟨G.ds i,0,none⟩):: .pointer (some ⟨s,0,none⟩)::o)):
  Calls prog 38 #[.pointer (some ⟨s,0,none⟩),.slice (some ⟨ga,oa,none⟩) na ca] w (Ans w.heap.size (Z2 (S.go acts) V.P (V.Ds i)).1 (Z5N B G V bl i S acts w)):=by
 have au:=h.bw
 obtain⟨Ls,Os,rfl,hp⟩:=h
 have aj:=hp.at_ i hi
 rw[hM] at aj
 obtain⟨s',j,hO,af,ai,ag⟩:=aj
 obtain rfl:s'=s:=by
  have e1:=af.cell (j:=1) rfl
  have e2:=hr.cell (j:=1) rfl
  rw[e1] at e2
  simpa using e2
 obtain⟨recs,ah,_⟩:=hD.img
 have al:B<=s':=hp.bO i hi s' (by rw[hO];simp)
 have ak:B<=j:=hp.bO i hi j (by rw[hO];simp)
 have hX:∀k∈[s',j],k∈Os i:=fun k hk=>by rw[hO];exact ZjS _ hk
 have hl:=Wz (S.go acts) V.P (V.Ds i)
 have hc:=Z6s B G.p (G.ds i) V.P (V.Ds i) (Ls i) s' j ga oa na ca S recs (V.Ds i).reads acts d f w (hp.pd i hi) au ai al ak aq ay aw ah ha.plan ha.room ha.wrong ha.ne ha.few (by rw[hD.wait];simp) ht hg (by have:=hD.ep;omega) (by have:=hD.few hK;omega)
 rw[<-ha.go,<-ha.nx] at hc
 refine hc.mono ?_
 rintro e w' ⟨ev,rfl,ax,⟨L',ae⟩,hok⟩
 have az:=hp.blks_typed hi hX
 refine⟨ev,rfl,ax,fun h0=> ?_,hp.dstep hi ae.fr hX ae.pd ae.grew,hp.set.fr ae.fr (az.row_ne hp.set (by decide))⟩
 refine hp.step hi (O':=Os i) ae.fr hX ae.pd ?_ ae.grew (fun k hk=>Or.inl hk)
 refine⟨s',j,hO,?_,hok h0,by rw[hl.2];exact ag⟩
 rw[hl.1]
 refine af.fr ae.fr ?_
 intro hm
 rcases ZjU.1 hm with hm|hm
 ·simp only[ZjV,Zk3,or_false] at hm
  rcases hm with e|e
  ·obtain⟨b,uv,r1,_⟩:=ai
   exact Row.ne af r1 (by decide) e
  ·obtain⟨b,uv,_,r2,_⟩:=ai
   exact Row.ne af r2 (by decide) e
 ·exact(hp.pd i hi).typed.row_ne af (by decide) hm
end
end
section
open Go.RowKit Go.Shelf
theorem ZbI{α:Type}(f:Nat->α)(i:Nat):upd f i (f i)=f:=by
 funext j;unfold upd;split
 ·rename_i h;rw[h]
 ·rfl
section
variable{B:Nat}{w w':World}{G:Eg}{V:Ev}{bl:List Nat}
theorem Q0.mcell{Ls Os:Nat->List Nat}(h:Q0 B w G V Ls Os){i:Nat}(hi:i<G.n):w.cell? ⟨G.ms,i,none⟩=some (.pointer (some ⟨G.xs i,0,none⟩)):=by
 obtain⟨sp,hm⟩:=h.mem
 exact hm.cell (by rw[ZjH (by rw[JG];exact hi)];exact Z1U _ _ _ hi)
theorem EAt.scell(h:EAt B w G V bl):Row w G.s 78 [.int .i64 V.k,.int .i64 V.m,.slice (some ⟨G.ms,0,none⟩) G.n G.cap,.int .i64 V.gen,.bool false]:=by
 obtain⟨Ls,Os,rfl,h⟩:=h;exact h.set
theorem EAt.mcell(h:EAt B w G V bl){i:Nat}(hi:i<G.n):w.cell? ⟨G.ms,i,none⟩=some (.pointer (some ⟨G.xs i,0,none⟩)):=by
 obtain⟨Ls,Os,rfl,h⟩:=h;exact h.mcell hi
theorem EAt.nle(h:EAt B w G V bl):1<=G.n/\G.n<=16:=by
 obtain⟨Ls,Os,rfl,h⟩:=h;exact⟨h.n1,h.n16⟩
end
theorem JX(B:Nat)(w:World)(G:Eg)(V:Ev)(bl:List Nat)(i:Nat)(h:EAt B w G V bl)(hi:i<G.n)(S:Sto)(hM:V.Ms i=some S):
  Calls prog 34 #[.pointer (some ⟨G.s,0,none⟩),.int .i64 (i:Int)] w fun e w'=>e=.returned (.bool true)/\Below w.heap.size w w':=by
 have c2:=h.scell.cell (j:=2) rfl
 have cm:=h.mcell hi
 obtain⟨Ls,Os,rfl,h⟩:=h
 have af:=h.at_ i hi
 rw[hM] at af
 obtain⟨s,j,hO,hr,aj,hd⟩:=af
 obtain⟨gh,v,hL,ae⟩:=(h.pd i hi).dk
 have x0:=hr.cell (j:=0) rfl
 have x2:=hr.cell (j:=2) rfl
 have x3:=hr.cell (j:=3) rfl
 have q1:=Z39 G.p (G.ds i) gh v (V.Ds i) w ae
 have q2:=Z3n G.p (G.ds i) gh v (V.Ds i) w ae
 have ak:(i:Int)<(G.n:Int):=by omega
 have ah:∀k,Calls prog 22 #[.pointer (some ⟨G.ds i,0,none⟩)] (w.drewN k) fun e w'=>e=.returned (.bool false)/\w'=w.drewN k:=fun k=>by
  rw[<-hd]
  exact(Z39 G.p (G.ds i) gh v (V.Ds i) (w.drewN k) (ae.fr (Fr.of_below (L:=[]) (Zp Zk9 k)) (by simp) (by simp) (by simp))).mono fun e w' h=>⟨h.1,h.2.symm⟩
 have ai:∀k,Calls prog 72 #[.pointer (some ⟨G.ds i,0,none⟩)] (w.drewN k) fun e w'=>e=.returned (.int .i64 (V.Ds i).life)/\w'=w.drewN k:=fun k=>
  (Z3n G.p (G.ds i) gh v (V.Ds i) (w.drewN k) (ae.fr (Fr.of_below (L:=[]) (Zp Zk9 k)) (by simp) (by simp) (by simp))).mono fun e w' h=>⟨h.1,h.2.symm⟩
 have HQ:=Zka (Zkb ah ai)
 obtain⟨lf,ag⟩:∃lf,(V.Ds i).life=lf:=⟨_,rfl⟩
 rw[ag] at x2 HQ
 clear h hr aj hd ae hM q1 q2 ah ai ag
 go_enter func34,ntmps34
 go_wp2
 go_quiet (first
  |(go_at_call 22;exact Calls.quiet_of_same (HQ.out.1 _))
  |(go_at_call 72;exact Calls.quiet_of_same (HQ.out.2 _)))
 go_wp2
 go_ret
 exact⟨rfl,Zp Zk9 _⟩
theorem EAt.gone{B:Nat}{w:World}{G:Eg}{V:Ev}{bl:List Nat}(h:EAt B w G V bl){i:Nat}(hi:i<G.n)(hM:V.Ms i=none){w':World}(hf:Fr [G.xs i] w w'){sv:Value}{lf:Int}{inn:Bool}(hr:Row w' (G.xs i) 91 [.pointer (some ⟨G.ds i,0,none⟩),sv,.int .i64 lf,.bool inn])(ag:inn=true->(V.Ds i).dead=true∨(V.Ds i).life≠lf):Zf B G bl V w w':=by
 obtain⟨Ls,Os,rfl,h⟩:=h
 have ae:=h.at_ i hi
 rw[hM] at ae
 obtain⟨ak,aj,ai,hO,ah,_⟩:=ae
 have af:=h.pd i hi
 have hx:G.xs i∉G.p::Ls i:=af.typed.row_ne ah (by decide)
 have e:V={V with P:=V.P,Ds:=upd V.Ds i (V.Ds i),Ms:=upd V.Ms i none}:=by rw[ZbI,<-hM,ZbI]
 rw[e]
 exact h.step hi (X:=[G.xs i]) (L':=Ls i) (O':=[G.xs i]) (hf.mono (fun k hk _=>List.mem_append_left _ hk)) (fun k hk=>by rw[hO];exact hk) (af.fr hf (fun k hk hm=>by rw[ZjD] at hk;subst hk;exact hx hm)) ⟨sv,lf,inn,rfl,hr,ag⟩ (fun k hk=>Or.inl hk) (fun k hk=>Or.inl (by rw[hO];exact hk))
theorem Z0H(B:Nat)(w:World)(G:Eg)(V:Ev)(bl:List Nat)(i:Nat)(h:EAt B w G V bl)(hi:i<G.n)(hM:V.Ms i=none):
  Calls prog 34 #[.pointer (some ⟨G.s,0,none⟩),.int .i64 (i:Int)] w fun e w'=>e=.returned (.bool false)/\Zf B G bl V w w':=by
 have c2:=h.scell.cell (j:=2) rfl
 have cm:=h.mcell hi
 have H:=Zka h
 obtain⟨Ls,Os,rfl,h⟩:=h
 have aj:=h.at_ i hi
 rw[hM] at aj
 obtain⟨sv,lf,inn,hO,hr,ae⟩:=aj
 obtain⟨gh,v,hL,ai⟩:=(h.pd i hi).dk
 have x0:=hr.cell (j:=0) rfl
 have x2:=hr.cell (j:=2) rfl
 have x3:=hr.cell (j:=3) rfl
 have x1:=hr.cell (j:=1) rfl
 have f1:=hr.free (j:=1) (by simp)
 have f3:=hr.free (j:=3) (by simp)
 have aw:(i:Int)<(G.n:Int):=by omega
 obtain⟨dd,ag⟩:∃dd,(V.Ds i).dead=dd:=⟨_,rfl⟩
 obtain⟨dl,ah⟩:∃dl,(V.Ds i).life=dl:=⟨_,rfl⟩
 have al:∀k,Calls prog 22 #[.pointer (some ⟨G.ds i,0,none⟩)] (w.drewN k) fun e w'=>e=.returned (.bool dd)/\w'=w.drewN k:=fun k=>by
  rw[<-ag]
  exact(Z39 G.p (G.ds i) gh v (V.Ds i) (w.drewN k) (ai.fr (Fr.of_below (L:=[]) (Zp Zk9 k)) (by simp) (by simp) (by simp))).mono fun e w' h=>⟨h.1,h.2.symm⟩
 have aq:∀k,Calls prog 72 #[.pointer (some ⟨G.ds i,0,none⟩)] (w.drewN k) fun e w'=>e=.returned (.int .i64 dl)/\w'=w.drewN k:=fun k=>by
  rw[<-ah]
  exact(Z3n G.p (G.ds i) gh v (V.Ds i) (w.drewN k) (ai.fr (Fr.of_below (L:=[]) (Zp Zk9 k)) (by simp) (by simp) (by simp))).mono fun e w' h=>⟨h.1,h.2.symm⟩
 have HQ:=Zka (Zkb al aq)
 have HR:=Zka (Zkb hM hr)
 rw[ag,ah] at ae
 have au:=Zka (Zkb ag ah)
 clear h hr ai hM al aq ag ah hL hO
 have fin:∀k,Zf B G (WU G Ls Os) V w (w.drewN k):=fun k=>Zf.same H.out (Zp Zk9 k)
 have af:∀k,inn=true->Zf B G (WU G Ls Os) V w (((w.drewN k).setCell ⟨G.xs i,3,none⟩ (.bool false)).setCell ⟨G.xs i,1,none⟩ (.pointer none)):=fun k _=>by
  have hf:Fr [G.xs i] w (((w.drewN k).setCell ⟨G.xs i,3,none⟩ (.bool false)).setCell ⟨G.xs i,1,none⟩ (.pointer none)):=((Fr.of_below (L:=[G.xs i]) (Zp Zk9 k)).setCell (Or.inl (by simp)) _).setCell (Or.inl (by simp)) _
  exact EAt.gone H.out hi HR.out.1 hf (((HR.out.2.drewN k).set 3 (.bool false)).set 1 (.pointer none)) (fun h=>by cases h)
 have HF:=Zka (Zkb fin af)
 clear fin af
 cases inn with
 |false=>
  clear ae
  go_enter func34,ntmps34
  go_wp2
  go_quiet (first
   |(go_at_call 22;exact Calls.quiet_of_same (HQ.out.1 _))
   |(go_at_call 72;exact Calls.quiet_of_same (HQ.out.2 _)))
  go_wp2
  go_ret
  exact⟨rfl,HF.out.1 _⟩
 |true=>
  have ae:=ae rfl
  cases dd with
  |true=>
   clear ae
   go_enter func34,ntmps34
   go_wp2
   go_quiet (first
    |(go_at_call 22;exact Calls.quiet_of_same (HQ.out.1 _))
    |(go_at_call 72;exact Calls.quiet_of_same (HQ.out.2 _)))
   go_wp2
   go_ret
   exact⟨rfl,HF.out.2 _ trivial⟩
  |false=>
   have ak:dl≠lf:=by simpa using ae
   clear ae
   have hb:(dl !=lf)=true:=by simpa using ak
   clear ak
   go_enter func34,ntmps34
   go_wp2
   go_quiet (first
    |(go_at_call 22;exact Calls.quiet_of_same (HQ.out.1 _))
    |(go_at_call 72;exact Calls.quiet_of_same (HQ.out.2 _)))
   go_wp2
   go_ret
   exact⟨rfl,HF.out.2 _ trivial⟩
theorem Zhx(B:Nat)(w:World)(G:Eg)(V:Ev)(bl:List Nat)(i:Nat)(h:EAt B w G V bl)(hi:i<G.n):
  Calls prog 34 #[.pointer (some ⟨G.s,0,none⟩),.int .i64 (i:Int)] w fun e w'=>e=.returned (.bool (V.Ms i).isSome)/\Zf B G bl V w w':=by
 cases hM:V.Ms i with
 |none=>exact Z0H B w G V bl i h hi hM
 |some S=>exact(JX B w G V bl i h hi S hM).mono fun e w' hx=>⟨hx.1,Zf.same h hx.2⟩
end
end Go.Proofs.YthppfllkocphbaaGreatDoor
