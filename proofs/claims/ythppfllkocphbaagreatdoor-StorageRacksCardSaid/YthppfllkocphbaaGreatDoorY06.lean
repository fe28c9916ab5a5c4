/- Part 7: lemmas about what the program computes. -/
import Derived.Sort.KeysCollected
import Derived.WideMake
import Derived.Test.YthppfllkocphbaaGreatDoorY05
namespace Go.Proofs.YthppfllkocphbaaGreatDoor
set_option linter.unusedVariables false
set_option linter.unusedSimpArgs false
set_option maxHeartbeats 25600000
set_option maxRecDepth 100000
open Tryz
section
variable{f:Z1}{half n:Nat}{rs:List (Nat×Nat)}
inductive Rec where
 |all (d:Dir)
 |some (l:List (Bs×Option Ent))
def Rec.enc:Rec->Bs
 |.all d=>Ya d
 |.some l=>Jb l
def Dt(d:Dir)(x:Bs×Option Ent):Dir:=match x.2 with
 |some e=>(d.del x.1).put x.1 e
 |none=>d.del x.1
def Rec.app(d:Dir):Rec->Dir
 |.all d'=>d'.foldl (λd x=>(d.del x.1).put x.1 x.2) []
 |.some l=>l.foldl Dt d
theorem ON(d:Dir)(x:Bs×Option Ent)(n:Bs):(Dt d x).get n=if n=x.1 then x.2 else d.get n:=by
 unfold Dt
 match x with
 |(m,none)=>simp only;rw[Dir.get_del]
 |(m,some e)=>simp only;rw[Dir.get_put,Dir.get_del];split<;>rfl
theorem Rq{d:Dir}(h:d.Sorted)(x:Bs×Option Ent):(Dt d x).Sorted:=by
 match x with
 |(m,none)=>exact Dir.sorted_del h m
 |(m,some e)=>exact Dir.sorted_put (Dir.sorted_del h m) m e
theorem Rr{d:Dir}(h:d.Sorted)(l:List (Bs×Option Ent)):(l.foldl Dt d).Sorted:=by
 induction l generalizing d with
 |nil=>exact h
 |cons x l ih=>exact ih (Rq h x)
theorem Kx{d:Dir}{l:List (Bs×Option Ent)}{n:Bs}(h:∀x∈l,x.1≠n):(l.foldl Dt d).get n=d.get n:=by
 induction l generalizing d with
 |nil=>rfl
 |cons x l ih=>rw[Z5B,ih (λy C=>h y (by grind)),ON,if_neg (λe=>h x (by simp) e.symm)]
theorem Z2u{d:Dir}{l:List (Bs×Option Ent)}(h:(l.map (·.1)).Nodup){x:Bs×Option Ent}(hx:x∈l):(l.foldl Dt d).get x.1=x.2:=by
 induction l generalizing d with
 |nil=>cases hx
 |cons y l ih=>
  simp only[Z5t,List.nodup_cons,List.mem_map,not_exists,not_and] at h;rw[Z5B];rcases Z5q.1 hx with rfl|hm
  .rw[Kx (λz C e=>h.1 z C e),ON,if_pos rfl]
  .simp_all
theorem Dir.names_nodup{d:Dir}(h:d.Sorted):d.names.Nodup:=by refine List.pairwise_map.2 (h.imp ?_);grind
theorem Dir.both_sorted{a:Dir}(h:a.Sorted)(b:Dir):(a.both b).Sorted:=by
 induction b generalizing a with
 |nil=>exact h
 |cons x b ih=>exact ih (Dir.sorted_put h _ _)
theorem Dir.both_get{a b:Dir}(n:Bs)(C:b.Sorted):(a.both b).get n=match b.get n with|some e=>some e|none=>a.get n:=by
 unfold Dir.both
 induction b generalizing a with
 |nil=>rfl
 |cons x b ih=>
  obtain⟨F,h⟩:=List.pairwise_cons.1 C;rw[Z5B,ih h,Dir.get,Dir.get_put];by_cases e:x.1=n
  .rw[if_pos e,if_pos e.symm,Dir.get_none.2];grind
  .grind
theorem Qy{d:Dir}{n:Bs}:n∈d.names↔d.get n≠none:=by
 constructor
 .intro h F;obtain⟨x,hx,rfl⟩:=List.mem_map.1 h;exact Dir.get_none.1 F x hx rfl
 .intro h;cases C:d.get n with
  |none=>exact absurd C h
  |some e=>exact List.mem_map.2 ⟨(n,e),Dir.get_some_mem C,rfl⟩
theorem AT{was now:Dir}{n:Bs}{x:Bs×Option Ent}(h:chg was now f n=some x):x.1=n/\x.2=now.get n:=by unfold chg at h;grind
theorem CH(l:List Bs)(g:Bs->Option (Bs×Option Ent))(C:∀n x,g n=some x->x.1=n):((l.filterMap g).map (·.1)).Sublist l:=by
 induction l with
 |nil=>exact List.Sublist.slnil
 |cons n l ih=>
  rw[List.filterMap_cons];cases h:g n with
  |none=>exact ih.cons n
  |some x=>simp;rw[C n x h];exact ih.cons_cons n
theorem SM{was now:Dir}(hw:was.Sorted):((QM was now f).map (·.1)).Nodup:=(CH _ _ (λn x h=>(AT h).1)).nodup (Dir.names_nodup (Dir.both_sorted hw now))
theorem CX{a b:Nat}{r s:Bs}(ha:a<4294967296)(F:b<4294967296)(h:Z4 a++r=Z4 b++s):a=b/\r=s:=by have C:Z4 a=Z4 b/\r=s:=List.append_inj h (by rfl);exact⟨OM ha F C.1,C.2⟩
theorem Z00{a b:List (Nat×Nat)}(ha:∀r∈a,r.1<4294967296/\r.2<4294967296)(C:∀r∈b,r.1<4294967296/\r.2<4294967296)(h:Qr a=Qr b):a=b:=by
 induction a generalizing b with
 |nil=>
  cases b with
  |nil=>rfl
  |cons y b=>have:=congrArg List.length h;simp[Qr,Zw] at this;omega
 |cons x a ih=>
  cases b with
  |nil=>have:=congrArg List.length h;simp[Qr,Zw] at this
  |cons y b=>obtain⟨e1,h⟩:=CX (ha x (by simp)).1 (C y (by simp)).1 h;obtain⟨e2,h⟩:=CX (ha x (by simp)).2 (C y (by simp)).2 h;rw[Prod.ext e1 e2,ih (λr F=>ha r (by grind)) (λr F=>C r (by grind)) h]
theorem Ent.Ok.small{e:Ent}(h:Ent.Ok n half e)(F:n<=8192):∀r∈e.runs,r.1<4294967296/\r.2<4294967296:=λr C=>by have:=h.many r C;omega
theorem Z2o{a b:Ent}(F:n<=8192)(ha:Ent.Ok n half a)(C:Ent.Ok n half b)(h:a.tail=b.tail):a=b:=by have J:=ha.size;have b1:=C.size;obtain⟨e1,h⟩:=CX (by omega) (by omega) h;obtain⟨e2,h⟩:=CX ha.sum C.sum h;have M:=Z00 (ha.small F) (C.small F) h;cases a;cases b;simp_all
theorem Dir.Ok.get{d:Dir}(h:d.Ok n half){m:Bs}{e:Ent}(hm:d.get m=some e):Ent.Ok n half e:=h.ent _ (Dir.get_some_mem hm)
theorem Hu{was now:Dir}(Z:n<=8192)(hw:was.Ok n half)(J:now.Ok n half):Rec.app was (.some (QM was now f))=now:=by
 refine Dir.ext (Rr hw.sorted _) J.sorted λm=> ?_;show((QM was now f).foldl Dt was).get m=now.get m;cases hc:(QM was now f).find? (λx=>x.1==m) with
 |some x=>
  have hx:=List.mem_of_find?_eq_some hc;have hm:x.1=m:=by grind
  obtain⟨k,_,U⟩:=List.mem_filterMap.1 hx;have:=AT U;rw[<-hm,Z2u (SM hw.sorted) hx,this.2,this.1]
 |none=>
  have M:∀x∈QM was now f,x.1≠m:=by grind
  rw[Kx M];have key:chg was now f m=none∨m∉(was.both now).names:=by
   by_cases hm:m∈(was.both now).names
   .left;cases h:chg was now f m with
    |none=>rfl
    |some x=>exact absurd (AT h).1 (M x (List.mem_filterMap.2 ⟨m,hm,h⟩))
   .simp_all
  rcases key with h|h
  .unfold chg at h;cases C:now.get m with
   |none=>rw[C] at h;cases h
   |some e=>
    rw[C] at h;cases F:was.get m with
    |none=>rw[F] at h;cases h
    |some o=>
     rw[F] at h;simp only at h;split at h
     .rename_i O;rw[Z2o Z (J.get C) (hw.get F) O.2]
     .grind
  .have:(was.both now).get m=none:=by
    cases hg:(was.both now).get m with
    |none=>rfl
    |some e=>exact absurd (Qy.2 (by simp_all)) h
   rw[Dir.both_get m J.sorted] at this;cases C:now.get m with
   |none=>rw[C] at this;exact this
   |some e=>rw[C] at this;cases this
theorem KI{d was:Dir}(h:d.Sorted):Rec.app was (.all d)=d:=by
 have key:∀ (l:Dir) (a:Dir),a.Sorted->l.Sorted->(l.foldl (λd x=>(d.del x.1).put x.1 x.2) a).Sorted/\∀m,(l.foldl (λd x=>(d.del x.1).put x.1 x.2) a).get m=match l.get m with|some e=>some e|none=>a.get m:=by
  intro l
  induction l with
  |nil=>intro a ha _;exact⟨ha,λm=>rfl⟩
  |cons x l ih=>
   intro a ha hl;obtain⟨F,C⟩:=List.pairwise_cons.1 hl;obtain⟨s,g⟩:=ih _ (Dir.sorted_put (Dir.sorted_del ha x.1) x.1 x.2) C;refine⟨s,λm=> ?_⟩;rw[Z5B,g,Dir.get,Dir.get_put,Dir.get_del];by_cases e:x.1=m
   .rw[if_pos e,if_pos e.symm,Dir.get_none.2];grind
   .grind
 obtain⟨s,g⟩:=key d [] List.Pairwise.nil h;exact Dir.ext s h λm=>by refine(g m).trans ?_;cases d.get m<;>rfl
def Zb(rs:List (Nat×Nat)):List Nat:=rs.flatMap λr=>List.range' r.1 r.2
theorem OW(rs:List (Nat×Nat))(a:Nat):Zb (W7 rs a)=Zb rs++[a]:=by
 unfold W7;cases h:rs.getLast? with
 |none=>
  have:rs=[]:=by simp_all
  subst this;simp[Zb]
 |some r=>
  obtain⟨F,C⟩:=List.getLast?_eq_some_iff.1 h;simp only;split
  .rename_i e;subst C;rw[List.dropLast_concat];simp[Zb];rw[List.range'_1_concat,e]
  .simp[Zb]
theorem Cd(l:List Nat):Zb (ZZ l)=l:=by
 have:∀ (l:List Nat) rs,Zb (l.foldl W7 rs)=Zb rs++l:=by
  intro l
  induction l with
  |nil=>intro rs;simp
  |cons a l ih=>intro rs;rw[Z5B,ih,OW];simp
 simpa[ZZ,Zb] using this l []
theorem Sl(h:∀r∈rs,1<=r.2)(a:Nat):∀r∈W7 rs a,1<=r.2:=by
 intro r C;unfold W7 at C;split at C
 .split at C
  .rcases Z5p.1 C with C|C
   .exact h r (List.dropLast_subset _ C)
   .simp_all
  .grind
 .simp_all
theorem GQ(l:List Nat):∀r∈ZZ l,1<=r.2:=by
 have:∀ (l:List Nat) rs,(∀r∈rs,1<=r.2)->∀r∈l.foldl W7 rs,1<=r.2:=by
  intro l
  induction l with
  |nil=>intro rs h;exact h
  |cons a l ih=>intro rs h;exact ih _ (Sl h a)
 exact this l [] (by simp)
theorem Sk(rs:List (Nat×Nat))(a:Nat):(W7 rs a).length<=rs.length+1:=by unfold W7;grind
theorem Pg(l:List Nat):(ZZ l).length<=l.length:=by
 have:∀ (l:List Nat) rs,(l.foldl W7 rs).length<=rs.length+l.length:=by
  intro l
  induction l with
  |nil=>intro rs;simp
  |cons a l ih=>intro rs;rw[Z5B,Z5h];have:=ih (W7 rs a);have:=Sk rs a;omega
 simpa[ZZ] using this l []
theorem FJ{r:Nat×Nat}(h:r∈rs)(i:Nat)(hi:i<r.2):r.1+i∈Zb rs:=List.mem_flatMap.2 ⟨r,h,by rw[List.mem_range'_1];omega⟩
end
section
variable{D:Dk}{R R':Nat->ByteArray}{l:List (Nat×ByteArray)}{n:Nat}
def WT(x s:ByteArray)(t:Nat):ByteArray:=str (s.data.toList.take t++x.data.toList.drop t)
theorem Ks(x s:ByteArray):WT x s 0=x:=by rfl
def EP(R:Nat->ByteArray)(x:Nat×ByteArray)(t:Nat):Nat->ByteArray:=λb=>if b=x.1 then WT (R b) x.2 t else R b
def Ak:List (Nat×ByteArray)->(Nat->ByteArray)->(Nat->ByteArray)->Prop
 |[],R,R'=>R'=R
 |x::l,R,R'=>∃t,t<=64/\Ak l (EP R x t) R'
theorem Ak.snoc(h:Ak l R R')(x:Nat×ByteArray)(t:Nat)(C:t<=64):Ak (l++[x]) R (EP R' x t):=by
 induction l generalizing R with
 |nil=>cases h;exact⟨t,C,rfl⟩
 |cons y l ih=>obtain⟨s,hs,h⟩:=h;exact⟨s,hs,ih h⟩
theorem Ak.other(h:Ak l R R'){b:Nat}(C:∀x∈l,x.1≠b):R' b=R b:=by
 induction l generalizing R with
 |nil=>cases h;rfl
 |cons y l ih=>obtain⟨s,hs,h⟩:=h;rw[ih h (λx hx=>C x (by grind))];unfold EP;rw[if_neg (λe=>C y (by simp) e.symm)]
theorem LR{has:List UInt8}{a:Nat}(s:ByteArray)(t b:Nat)(h:has.length=64*n)(ha:a<n)(hs:s.size=64)(C:t<=64):(⟨(sec (QK has (a*64) (s.data.toList.take t)) b).toArray⟩:ByteArray)=if b=a then WT ⟨(sec has b).toArray⟩ s t else⟨(sec has b).toArray⟩:=by
 by_cases e:b=a
 .subst e;rw[if_pos rfl,F9 has b _ (by omega) (by simp_all)];unfold WT str;simp_all
 .rw[if_neg e,DI has a b _ (by omega) (by simp_all) (λh=>e h.symm)]
theorem K9(h:D.Fit n)(keep:List Bool)(t0:Nat)(C:t0<=64)(k:Nat):(D.losing keep t0 k).1.length=64*n/\(D.losing keep t0 k).2<=64:=by
 induction k with
 |zero=>exact⟨h.len,C⟩
 |succ k ih=>
  simp[Dk.losing];split
  .omega
  .rename_i x hx;have hm:=List.mem_of_getElem? hx;obtain⟨p1,p2⟩:=h.pend x hm;split
   .exact⟨Bf _ x n ih.1 p1 p2,ih.2⟩
   .refine⟨?_,Nat.zero_le _⟩;rw[WZ _ _ _ (by grind),ih.1]
theorem Z1v(h:D.Fit n)(keep:List Bool)(t:Int):(D.lost keep t).Fit n:=⟨(K9 h keep (Ye t) (Gd t) _).1,h.n1,by simp[Dk.lost]⟩
theorem LV(h:D.Fit n)(keep:List Bool)(t:Int):Ak D.wait D.lasts (D.lost keep t).lasts:=by
 have key:∀k,k<=D.wait.length->Ak (D.wait.take k) D.lasts (λb=>⟨(sec (D.losing keep (Ye t) k).1 b).toArray⟩):=by
  intro k
  induction k with
  |zero=>intro _;rw[List.take_zero];rfl
  |succ k ih=>
   intro O;have C:k<D.wait.length:=(by omega);have F:=ih (by omega);obtain⟨J,M⟩:=K9 h keep (Ye t) (Gd t) k;have hx:D.wait[k]? =some D.wait[k]:=(by simp);obtain⟨p1,p2⟩:=h.pend D.wait[k] (Z5r C);have hl:D.wait[k].2.data.toList.length=64:=(by simp_all);rw[Z5f C];simp only[Dk.losing,hx];split
   .have:=F.snoc D.wait[k] 64 Z5D;refine(congrArg (Ak _ _) (funext λb=> ?_)).mp this;have e:=LR (n:=n) D.wait[k].2 64 b J p1 p2 Z5D;rw[Z5o (by omega)] at e;unfold EP WM;rw[e]
   .have:=F.snoc D.wait[k] _ M;refine(congrArg (Ak _ _) (funext λb=> ?_)).mp this;unfold EP;rw[LR (n:=n) D.wait[k].2 _ b J p1 p2 M]
 have:=key D.wait.length Z5D;rw[Z5A] at this;exact this
abbrev Seg:=List (Nat×ByteArray)
def Seg.ops(s:Seg):List DOp:=s.map (λx=>.wr x.1 x.2)++[.fl]
def Y4(l:List Seg):List DOp:=l.flatMap Seg.ops
def rdW(s:Seg)(R:Nat->ByteArray):Nat->ByteArray:=s.foldl (λR x=>λb=>if x.1=b then x.2 else R b) R
def Cut:List Seg->(Nat->ByteArray)->(Nat->ByteArray)->Prop
 |[],R,R'=>R'=R
 |s::r,R,R'=>(∃j,Ak (s.take j) R R')∨Cut r (rdW s R) R'
theorem AH(s:Seg)(R:Nat->ByteArray):Zt (s.map λx=>DOp.wr x.1 x.2) R=rdW s R:=by
 induction s generalizing R with
 |nil=>rfl
 |cons x s ih=>exact ih _
theorem Md(s:Seg)(R:Nat->ByteArray):Zt s.ops R=rdW s R:=by unfold Seg.ops;rw[Q1,AH];rfl
theorem Es(l:List Seg)(R:Nat->ByteArray):Zt (Y4 l) R=l.foldl (λR s=>rdW s R) R:=by
 induction l generalizing R with
 |nil=>rfl
 |cons s r ih=>rw[Y4,Z5s,Q1,Md];exact ih _
theorem Ru(s:Seg)(D:Dk):(ZU (s.map λx=>DOp.wr x.1 x.2) D).wait=D.wait++s/\(ZU (s.map λx=>DOp.wr x.1 x.2) D).has=D.has:=by
 induction s generalizing D with
 |nil=>simp[ZU]
 |cons x s ih=>
  obtain⟨h,C⟩:=ih (DOp.app D (.wr x.1 x.2));refine⟨?_,?_⟩
  .show(ZU (s.map λx=>DOp.wr x.1 x.2) (DOp.app D (.wr x.1 x.2))).wait=_;rw[h];simp[DOp.app]
  .show(ZU (s.map λx=>DOp.wr x.1 x.2) (DOp.app D (.wr x.1 x.2))).has=_;rw[C];rfl
theorem NZ(s:Seg)(k:Nat)(h:k<=s.length):s.ops.take k=(s.take k).map λx=>DOp.wr x.1 x.2:=by unfold Seg.ops;rw[List.take_append_of_le_length (by simp_all),List.map_take]
theorem Kc(s:Seg):s.ops.length=s.length+1:=by simp[Seg.ops]
theorem Z2b{l:List Seg}(h:D.Fit n)(hw:D.wait=[])(F:∀o∈Y4 l,o.In n)(k:Nat)(keep:List Bool)(t:Int):Cut l D.lasts ((ZU ((Y4 l).take k) D).lost keep t).lasts:=by
 induction l generalizing D k with
 |nil=>
  have:((ZU ((Y4 []).take k) D).lost keep t).lasts=D.lasts:=by have J:=LV h keep t;rw[hw] at J;have e:(Y4 []).take k=[]:=(by simp[Y4]);rw[e];exact J
  exact this
 |cons s r ih=>
  rw[Y4,Z5s];rw[Y4,Z5s] at F;by_cases Z:k<=s.length
  .left;refine⟨k,?_⟩;rw[List.take_append_of_le_length (by rw[Kc];omega),NZ s k Z];obtain⟨w1,w2⟩:=Ru (s.take k) D
   have M:(ZU ((s.take k).map λx=>DOp.wr x.1 x.2) D).Fit n:=h.apps (λo C=>F o (by
    rw[<-NZ s k Z] at C
    exact List.mem_append_left _ (List.mem_of_mem_take C)))
   have J:=LV M keep t;have:(ZU ((s.take k).map λx=>DOp.wr x.1 x.2) D).lasts=D.lasts:=by funext a;rw[NE,NE,w2]
   simp_all
  .right;rw[List.take_append,Z5o (by rw[Kc];omega),EV];have O:∀o∈s.ops,o.In n:=(by simp_all);have M:=h.apps O;have U:(ZU s.ops D).wait=[]:=CD _ _;have hl:(ZU s.ops D).lasts=rdW s D.lasts:=by have e1:=Xo h O;rw[Md] at e1;have e2:(ZU s.ops D).reads=(ZU s.ops D).lasts:=funext λa=>BV U a;have e3:D.reads=D.lasts:=funext λa=>BV hw a;simp_all
   have:=ih M U (λo C=>F o (List.mem_append_right _ C)) (k-s.ops.length);rw[hl] at this;exact this
end
section
variable{R R':Nat->ByteArray}{a:Nat}{l:Seg}{rs:List Bs}{x:Nat×ByteArray}
def Xy(a:Nat)(l:Bs):Seg:=(List.range (l.length / 64)).map λi=>(a+i,ZQ l i)
theorem Ln(a:Nat)(l:Bs):wrs a l=(Xy a l).map λx=>DOp.wr x.1 x.2:=by simp[wrs,Xy]
def Jn.cleanS(J:Jn)(s:Bool)(k:Nat):Seg:=if J.half<=k then[] else[(J.at_ s k,QF)]
theorem Fo(J:Jn)(s:Bool)(k:Nat):J.clean s k=(J.cleanS s k).map λx=>DOp.wr x.1 x.2:=by unfold Jn.clean Jn.cleanS;split<;>rfl
def Jn.laySegs(J:Jn)(s:Bool)(k:Nat)(l:Bs):List Seg:=[Xy (J.at_ s k) (ZC l)++J.cleanS s (k+l.length / 64),Xy (J.at_ s k) (l.take 64)]
theorem NF(J:Jn)(s:Bool)(k:Nat)(l:Bs):J.lay s k l=Y4 (J.laySegs s k l):=by unfold Jn.lay Jn.laySegs Y4 Seg.ops;simp[Ln,Fo]
def Jn.appendSegs(J:Jn)(r:Bs):List Seg:=J.laySegs J.second J.next (Zh J.epoch (J.many+1) r)
theorem GK(J:Jn)(r:Bs):J.appendOps r=Y4 (J.appendSegs r):=NF _ _ _ _
def Jn.resetSegs(J:Jn)(r:Bs):List Seg:=
 [Xy (J.at_ (!J.second) 1) (Zh (J.epoch+1) 1 r)++J.cleanS (!J.second) (1+Zf r.length / 64)++Xy (J.at_ (!J.second) 0) (ZC (Zh (J.epoch+1) 0 ZM)),
  Xy (J.at_ (!J.second) 0) (Zh (J.epoch+1) 0 ZM)]
theorem Kg(J:Jn)(r:Bs):J.resetOps r=Y4 (J.resetSegs r):=by unfold Jn.resetOps Jn.resetSegs Y4 Seg.ops;simp[Ln,Fo]
theorem NI{l:Bs}(h:x∈Xy a l):∃i,i<l.length / 64/\x=(a+i,ZQ l i):=by simp[Xy] at h;grind
theorem Jy{J:Jn}{s:Bool}{k:Nat}(h:x∈J.cleanS s k):k<J.half/\x=(J.at_ s k,QF):=by unfold Jn.cleanS at h;simp_all
theorem OT(a:Nat)(l:Bs):(Xy a l).map Prod.fst=List.range' a (l.length / 64):=by unfold Xy;rw[List.map_map,List.range'_eq_map_range];rfl
theorem Ak.once(h:Ak l R R')(C:(l.map Prod.fst).Nodup){b:Nat}{s:ByteArray}(hs:∀x∈l,x.1=b->x.2=s):∃t,t<=64/\R' b=WT (R b) s t:=by
 induction l generalizing R with
 |nil=>cases h;exact⟨0,by omega,(Ks _ _).symm⟩
 |cons x l ih=>
  obtain⟨t,M,h⟩:=h;rw[Z5t,List.nodup_cons] at C;by_cases e:x.1=b
  .refine⟨t,M,?_⟩;rw[h.other (λy O e2=>C.1 (by grind))];unfold EP;rw[if_pos e.symm,hs x (by simp) e]
  .obtain⟨t2,F,J⟩:=ih h C.2 (λy O=>hs y (by grind));refine⟨t2,F,?_⟩;rw[J];unfold EP;rw[if_neg (λe2=>e e2.symm)]
theorem Bw(x s:ByteArray)(t:Nat)(hs:1<=s.size):WT x s t=x∨WW (WT x s t)=WW s:=by
 by_cases h:t=0
 .subst h;exact Or.inl (Ks x s)
 .right;have hl:s.data.toList.length=s.size:=by simp
  unfold WW WT;rw[Zn];grind
theorem Ge(l:Bs)(hl:64<=l.length)(t:Nat)(h:1<=t):WT (ZQ (ZC l) 0) (ZQ l 0) t=ZQ l 0:=by
 unfold WT ZQ;rw[Zn,Zn];congr 1;have e:sec (ZC l) 0=0::(sec l 0).drop 1:=by
  unfold sec ZC;cases l with
  |nil=>simp at hl
  |cons a r=>simp
 obtain⟨q,rfl⟩:∃q,t=q+1:=⟨t-1,by omega⟩;simp_all
theorem KO{A:Seg}{s:ByteArray}(hm:∀t,1<=t->WT (rdW A R a) s t=s)(h:Cut [A,[(a,s)]] R R'):(∃j,Ak (A.take j) R R')∨R'=rdW A R∨R'=rdW [(a,s)] (rdW A R):=by
 rcases h with h|h|h
 .simp_all
 .obtain⟨j,h⟩:=h;right;cases j with
  |zero=>left;exact h
  |succ j=>
   rw[List.take_succ_cons,List.take_nil] at h;obtain⟨t,F,h⟩:=h;by_cases C:t=0
   .left;rw[h];funext b;unfold EP;subst C
    split
    .rfl
    .rfl
   .right;rw[h];funext b;unfold EP
    show(if b=a then _ else _)=if a=b then s else rdW A R b;grind
 .exact Or.inr (Or.inr h)
theorem CP{b:Nat}(h:∀x∈l,x.1≠b):rdW l R b=R b:=by rw[<-AH];refine JJ λa s hm=> ?_;grind
theorem Kf(a b:Seg)(R:Nat->ByteArray):rdW (a++b) R=rdW b (rdW a R):=by simp[rdW]
theorem Z1Y(a:Nat)(l:Bs)(R:Nat->ByteArray)(b:Nat):rdW (Xy a l) R b=if a<=b/\b<a+l.length / 64 then ZQ l (b-a) else R b:=by rw[<-AH,<-Ln];exact Cp a l R b
theorem Cy(a:Nat)(l:Bs)(h:l.length=64):Xy a l=[(a,ZQ l 0)]:=by unfold Xy;rw[h];rfl
theorem Yp.loose{J:Jn}(h:Yp R J rs)(C:∀b,(b<J.at_ J.second 0+J.next∨J.at_ J.second 0+J.half<=b)->R' b=R b)(hs:J.next<J.half->WW (R' (J.at_ J.second 0+J.next))≠1):Yp R' J rs:=by
 have hn:=h.next
 have F:=h.on.fits;have M:J.at_ (!J.second) 0+J.half<=J.at_ J.second 0∨J.at_ J.second 0+J.half<=J.at_ (!J.second) 0:=by unfold Jn.at_;cases J.second<;>simp
 refine⟨⟨by rw[C _ (by omega)];exact h.on.head,h.on.recs.congr (λb O U=>C b (by omega)),F,λZ=> ?_⟩,?_,h.many,h.next,h.epoch⟩
 .simp_all
 .have e:=C (J.at_ (!J.second) 0) (by omega);unfold Hq;rw[e];exact h.off
theorem Yp.loose2{J:Jn}(h:Yp R J rs)(F:∀b,J.at_ J.second 0<=b->b<J.at_ J.second 0+J.half->R' b=R b)(C:WW (R' (J.at_ (!J.second) 0))≠1∨R' (J.at_ (!J.second) 0)=R (J.at_ (!J.second) 0)):Yp R' J rs:=by
 have O:=h.on.fits;refine⟨⟨by rw[F _ (by omega) (by omega)];exact h.on.head,h.on.recs.congr (λb U Z=>F b (by omega) (by omega)),O,λM=> ?_⟩,?_,h.many,h.next,h.epoch⟩
 .rw[F _ (by omega) (by omega)];exact h.on.stop M
 .rcases C with C|C
  .exact Or.inl C
  .unfold Hq;rw[C];exact h.off
theorem Ep(h:(l.map Prod.fst).Nodup)(j:Nat):((l.take j).map Prod.fst).Nodup:=by grind
theorem BF(l:Bs)(h:64<=l.length):1<=(ZQ (ZC l) 0).size:=by unfold ZQ sec;rw[Z5,Nat.zero_mul,List.drop_zero,Z5j,Qf l (by grind)];omega
theorem Yp.cut_append{J:Jn}(h:Yp R J rs)(r:Bs)(hr:Zf r.length / 64<=J.half-J.next)(hc:Cut (J.appendSegs r) R R'):(Yp R' J rs/\∀b,2*J.half<=b->R' b=R b)∨R'=Zt (J.appendOps r) R:=by
 obtain⟨l,hl⟩:=Z5H (Zh J.epoch (J.many+1) r);obtain⟨m1,m2⟩:=Jk J.epoch (J.many+1) r;have hp:=Br r.length;have ag:=XE J.epoch (J.many+1) r;have F:∀k,J.at_ J.second k=J.at_ J.second 0+k:=λk=>by unfold Jn.at_;split<;>omega
 have ak:J.at_ J.second 0+J.half<=2*J.half:=by unfold Jn.at_;split<;>omega
 rw[GK,Es];unfold Jn.appendSegs Jn.laySegs at hc⊢;rw[hl] at hc m1 m2 ag⊢;have ae:64<=l.length:=by omega
 have au:(l.take 64).length=64:=by rw[Z5j];omega
 have hB:Xy (J.at_ J.second J.next) (l.take 64)=[(J.at_ J.second J.next,ZQ l 0)]:=by rw[Cy _ _ au];unfold ZQ;rw[OB]
 obtain⟨A,O⟩:=Z5H (Xy (J.at_ J.second J.next) (ZC l)++J.cleanS J.second (J.next+l.length / 64));rw[hB,O] at hc⊢;have ah:(ZC l).length=l.length:=Qf l ag;have U:∀x∈A,J.at_ J.second 0+J.next<=x.1/\x.1<J.at_ J.second 0+J.half/\(x.1=J.at_ J.second 0+J.next->x.2=ZQ (ZC l) 0):=by
  intro x hx;rw[<-O,Z5p] at hx;rcases hx with hx|hx
  .obtain⟨i,hi,rfl⟩:=NI hx;have:=F J.next
   refine⟨by simp only;omega,by simp only;omega,λe=> ?_⟩;rw[show i=0 from by omega]
  .obtain⟨hk,rfl⟩:=Jy hx;have:=F (J.next+l.length / 64);omega
 have aq:(A.map Prod.fst).Nodup:=by
  rw[<-O,Z5u,OT,ah,List.nodup_append];refine⟨List.nodup_range',?_,?_⟩
  .unfold Jn.cleanS;split<;>simp
  .intro a ha b C;rw[List.mem_range'_1] at ha;obtain⟨x,hx,rfl⟩:=List.mem_map.1 C;obtain⟨hk,rfl⟩:=Jy hx;have:=F (J.next+l.length / 64);have:=F J.next
   omega
 have Z:rdW A R (J.at_ J.second J.next)=ZQ (ZC l) 0:=by
  rw[<-O,Kf,CP,Z1Y,if_pos ⟨by omega,by rw[ah];omega⟩,Nat.sub_self];intro x hx;obtain⟨hk,rfl⟩:=Jy hx;have:=F (J.next+l.length / 64);have:=F J.next
  omega
 have al:∀t,1<=t->WT (rdW A R (J.at_ J.second J.next)) (ZQ l 0) t=ZQ l 0:=λt ht=>by rw[Z];exact Ge l ae t ht
 rcases KO al hc with ⟨j,C⟩|C|C
 .left;have M:∀b,(b<J.at_ J.second 0+J.next∨J.at_ J.second 0+J.half<=b)->R' b=R b:=λb aj=>C.other λx hx e=>by have:=U x (List.mem_of_mem_take hx);omega
  refine⟨h.loose M (λaf=> ?_),λb ai=>M b (by omega)⟩;obtain⟨t,ht,e⟩:=C.once (Ep aq j) (b:=J.at_ J.second 0+J.next) (s:=ZQ (ZC l) 0) (λx hx=>(U x (List.mem_of_mem_take hx)).2.2);rw[e];rcases Bw (R (J.at_ J.second 0+J.next)) (ZQ (ZC l) 0) t (BF l ae) with e2|e2
  .rw[e2,h.next];exact h.on.stop (by rw[<-h.next];exact af)
  .rw[e2];exact XW l
 .left;have M:∀b,(b<J.at_ J.second 0+J.next∨J.at_ J.second 0+J.half<=b)->R' b=R b:=λb aj=>by rw[C];exact CP λx hx e=>by have:=U x hx;omega
  refine⟨h.loose M (λaf=> ?_),λb ai=>M b (by omega)⟩;rw[<-F,C,Z];exact XW l
 .right;exact C
theorem Yp.cut_reset{J:Jn}(h:Yp R J rs)(r:Bs)(hr:1+Zf r.length / 64<=J.half)(hc:Cut (J.resetSegs r) R R'):(Yp R' J rs/\∀b,2*J.half<=b->R' b=R b)∨R'=Zt (J.resetOps r) R:=by
 obtain⟨l,hl⟩:=Z5H (Zh (J.epoch+1) 1 r);obtain⟨C,ak⟩:=Z5H (Zh (J.epoch+1) 0 ZM);obtain⟨m1,m2⟩:=Jk (J.epoch+1) 1 r;have U:C.length=64:=by rw[<-ak];exact QP _
 have ah:C≠[]:=by intro e;rw[e] at U;simp at U
 have Z:∀k,J.at_ (!J.second) k=J.at_ (!J.second) 0+k:=λk=>by unfold Jn.at_;split<;>omega
 have ai:J.at_ (!J.second) 0+J.half<=J.at_ J.second 0∨J.at_ J.second 0+J.half<=J.at_ (!J.second) 0:=by unfold Jn.at_;cases J.second<;>simp
 have aj:J.at_ (!J.second) 0+J.half<=2*J.half:=by unfold Jn.at_;split<;>omega
 rw[Kg,Es];unfold Jn.resetSegs at hc⊢;rw[hl,ak] at hc⊢;rw[hl] at m1;obtain⟨O,hO⟩:=Z5H (J.at_ (!J.second) 0);rw[hO] at Z ai aj;rw[Cy _ _ U,hO,Z 1] at hc⊢;obtain⟨A,M⟩:=Z5H (Xy (O+1) l++J.cleanS (!J.second) (1+Zf r.length / 64)++Xy O (ZC C));rw[M] at hc⊢;have au:(ZC C).length=64:=by rw[Qf C ah,U]
 rw[Cy _ _ au] at M;have ae:∀x∈A,O<=x.1/\x.1<O+J.half/\(x.1=O->x.2=ZQ (ZC C) 0):=by
  intro x hx;rw[<-M,Z5p,Z5p] at hx;rcases hx with (hx|hx)|hx
  .obtain⟨i,hi,rfl⟩:=NI hx;omega
  .obtain⟨hk,rfl⟩:=Jy hx;simp_all
  .grind
 have aq:(A.map Prod.fst).Nodup:=by
  rw[<-M,Z5u,Z5u,OT,List.nodup_append,List.nodup_append];refine⟨⟨List.nodup_range',?_,?_⟩,by simp,?_⟩
  .unfold Jn.cleanS;split<;>simp
  .intro a ha b F;rw[List.mem_range'_1] at ha;obtain⟨x,hx,rfl⟩:=List.mem_map.1 F;obtain⟨hk,rfl⟩:=Jy hx;grind
  .intro a ha b F;simp at F;rcases Z5p.1 ha with ha|ha
   .rw[List.mem_range'_1] at ha;omega
   .obtain⟨x,hx,rfl⟩:=List.mem_map.1 ha;obtain⟨hk,rfl⟩:=Jy hx;have:=Z (1+Zf r.length / 64);omega
 have af:rdW A R O=ZQ (ZC C) 0:=by rw[<-M,Kf];show(if O=O then _ else _)=_;simp
 have al:∀t,1<=t->WT (rdW A R O) (ZQ C 0) t=ZQ C 0:=λt ht=>by rw[af];exact Ge C (by omega) t ht
 have done:∀{Q:Nat->ByteArray},(∀b,(∀x∈A,x.1≠b)->Q b=R b)->(WW (Q O)≠1∨Q O=R O)->Yp Q J rs/\∀b,2*J.half<=b->Q b=R b:=by intro Q hQ hq;refine⟨h.loose2 (λb aw az=>hQ b λx hx e=>by have:=ae x hx;omega) (by simp_all),λb F=>hQ b λx hx e=>by have:=ae x hx;omega⟩
 rcases KO al hc with ⟨j,F⟩|F|F
 .left;refine done (λb ag=>F.other λx hx=>ag x (List.mem_of_mem_take hx)) ?_;obtain⟨t,ht,e⟩:=F.once (Ep aq j) (b:=O) (s:=ZQ (ZC C) 0) (λx hx=>(ae x (List.mem_of_mem_take hx)).2.2);rw[e];rcases Bw (R O) (ZQ (ZC C) 0) t (BF C (by omega)) with e2|e2
  .right;exact e2
  .left;rw[e2];exact XW C
 .left;refine done (λb ag=>by rw[F];exact CP ag) (Or.inl ?_);rw[F,af];exact XW C
 .right;exact F
end
section
variable{R:Nat->ByteArray}{d d' d0:Dir}{e:Ent}{half i k n:Nat}
theorem Z2a(n:Bs)(e:Ent)(d:Dir):(Dir.ins n e d).secs.Perm (e.secs++d.secs):=by
 induction d with
 |nil=>simp[Dir.ins,Dir.secs]
 |cons x r ih=>
  unfold Dir.ins;split
  .rfl
  .show(x.2.secs++(Dir.ins n e r).secs).Perm (e.secs++(x.2.secs++Dir.secs r));grind
theorem Iq(d:Dir)(n:Bs)(e:Ent):(d.put n e).secs.Perm (e.secs++(d.del n).secs):=Z2a n e _
theorem Ub(hs:d.Sorted){n:Bs}{e:Ent}(h:d.get n=some e):d.secs.Perm (e.secs++(d.del n).secs):=by
 induction d with
 |nil=>cases h
 |cons x r ih=>
  obtain⟨F,C⟩:=List.pairwise_cons.1 hs;rw[Dir.get] at h;split at h
  .rename_i hx;cases h;have:Dir.del (x::r) n=r:=by unfold Dir.del;rw[List.filter_cons,if_neg (by grind)];refine List.filter_eq_self.2 (λy J=> ?_);grind
   rw[this];exact List.Perm.refl _
  .rename_i hx;have:Dir.del (x::r) n=x::Dir.del r n:=by unfold Dir.del;rw[List.filter_cons,if_pos (by grind)]
   rw[this];show(x.2.secs++Dir.secs r).Perm (e.secs++(x.2.secs++(Dir.del r n).secs));refine(List.Perm.append_left _ (ih C h)).trans ?_;grind
theorem Yv{n:Bs}(h:i∈(d.del n).secs):i∈d.secs:=by obtain⟨x,hx,hi⟩:=List.mem_flatMap.1 h;exact List.mem_flatMap.2 ⟨x,(Dir.mem_del.1 hx).1,hi⟩
theorem Xt(h:d.secs.Nodup)(n:Bs):(d.del n).secs.Nodup:=by
 have:(d.del n).secs.Sublist d.secs:=by
  unfold Dir.secs Dir.del
  induction d with
  |nil=>exact List.Sublist.refl _
  |cons x r ih=>
   have C:Dir.secs r|>.Nodup:=by unfold Dir.secs at h⊢;grind
   grind
 grind
theorem Z14(h:∀x∈d,1<=x.1.length/\x.1.length<=220){m:Bs}{e:Ent}(hm:d.get m=some e):1<=m.length/\m.length<=220:=h _ (Dir.get_some_mem hm)
def Z1.by:Z1->Bs->Option Nat
 |[],_=>none
 |x::r,m=>if x.1=m then some x.2 else Z1.by r m
theorem Z1.by_del(f:Z1)(n m:Bs):(f.del n).by m=if m=n then none else f.by m:=by
 induction f with
 |nil=>simp[Z1.del,Z1.by]
 |cons x r ih=>
  unfold Z1.del at ih⊢;rw[List.filter_cons];by_cases hx:x.1=n
  .rw[if_neg (by grind),ih,Z1.by];grind
  .rw[if_pos (by grind),Z1.by,ih,Z1.by];grind
theorem Z1.by_append(f g:Z1)(m:Bs):Z1.by (f++g) m=match f.by m with|some k=>some k|none=>g.by m:=by
 induction f with
 |nil=>rfl
 |cons x r ih=>rw[List.cons_append,Z1.by,Z1.by,ih];grind
theorem Z1.has_by(f:Z1)(m:Bs):f.has m=(f.by m).isSome:=by
 unfold Z1.has
 induction f with
 |nil=>rfl
 |cons x r ih=>rw[List.any_cons,Z1.by,ih];grind
theorem Z1.by_mem{f:Z1}(h:(f.map (·.1)).Nodup){x:Bs×Nat}(hx:x∈f):f.by x.1=some x.2:=by
 induction f with
 |nil=>cases hx
 |cons y r ih=>rw[Z1.by];grind
theorem Z1.mem_by{f:Z1}{m:Bs}(h:f.by m=some k):(m,k)∈f:=by
 induction f with
 |nil=>cases h
 |cons y r ih=>rw[Z1.by] at h;grind
theorem Z1.mem_del{f:Z1}{n:Bs}{x:Bs×Nat}:x∈f.del n↔x∈f/\x.1≠n:=by simp[Z1.del]
theorem Z1.del_nodup{f:Z1}(h:(f.map (·.1)).Nodup)(n:Bs):((f.del n).map (·.1)).Nodup:=h.sublist ((List.filter_sublist).map _)
def AM(R:Nat->ByteArray)(e:Ent):Bs:=(e.secs.flatMap λa=>(R a).data.toList).take e.size
theorem ES{R':Nat->ByteArray}(h:∀b∈e.secs,R' b=R b):AM R' e=AM R e:=by
 unfold AM;have:(e.secs.flatMap λa=>(R' a).data.toList)=e.secs.flatMap λa=>(R a).data.toList:=by
  revert h
  induction e.secs with
  |nil=>intro _;rfl
  |cons a l ih=>intro h;rw[Z5s,Z5s,ih (λb C=>h b (by grind)),h a (by simp)]
 grind
abbrev Tab:=Bs->Option (Option Bs)
def Fu(R:Nat->ByteArray)(e:Ent):Option Bs:=if Wt (AM R e)=e.sum then some (AM R e) else none
def stR(R:Nat->ByteArray)(d:Dir):Tab:=λm=>(d.get m).map (Fu R)
def Ac.on(T:Tab)(a:Ac):Tab:=match a.kind with
 |1=>λm=>if m=a.name then some (some a.value) else T m
 |2=>λm=>if m=a.name then none else T m
 |3=>λm=>if m=a.to then T a.name else if m=a.name then none else T m
 |_=>T
def acV(acts:List Ac)(k:Nat):Bs:=(acts.getD k ⟨0,[],[],[]⟩).value
def EL(R:Nat->ByteArray)(acts:List Ac)(d:Dir)(f:Z1):Tab:=λm=>match f.by m with
 |some k=>some (some (acV acts k))
 |none=>(d.get m).map (Fu R)
structure Fg(n half:Nat)(d0:Dir)(acts:List Ac)(d:Dir)(f:Z1):Prop where
 sorted:d.Sorted
 name:∀x∈d,1<=x.1.length/\x.1.length<=220
 apart:d.secs.Nodup
 sub:∀i∈d.secs,i∈d0.secs
 fr:(f.map (·.1)).Nodup
 fresh:∀x∈f,∃e,d.get x.1=some e/\e.runs=[]/\e.size=(acV acts x.2).length/\e.sum=Wt (acV acts x.2)/\e.size<=12000/\x.2<acts.length
 old:∀m e,d.get m=some e->f.by m=none->Ent.Ok n half e
theorem Gn(v:Bs):Wt v<4294967296:=by unfold Wt;exact BitVec.isLt _
theorem Ac.put_ok{a:Ac}(h:a.wrong=false)(C:a.kind=1):1<=a.name.length/\a.name.length<=220/\a.value.length<=12000:=by unfold Ac.wrong at h;simp_all
theorem Ac.move_ok{a:Ac}(h:a.wrong=false)(C:a.kind=3):1<=a.to.length/\a.to.length<=220:=by unfold Ac.wrong at h;simp_all
theorem Fg.act{acts:List Ac}{f f':Z1}{a:Ac}(h:Fg n half d0 acts d f)(hk:k<acts.length)(hv:acV acts k=a.value)(ha:a.wrong=false)(F:Wh k a d f=some (d',f')):Fg n half d0 acts d' f':=by
 unfold Wh at F;split at F
 .rename_i h1;obtain⟨rfl,rfl⟩:=F;obtain⟨a1,a2,a3⟩:=Ac.put_ok ha h1;have ae:∀m,((d.del a.name).put a.name ⟨a.value.length,Wt a.value,[]⟩).get m=if m=a.name then some ⟨a.value.length,Wt a.value,[]⟩ else d.get m:=λm=>by rw[Dir.get_put,Dir.get_del];split<;>rfl
  have U:=Iq (d.del a.name) a.name ⟨a.value.length,Wt a.value,[]⟩;have ak:((d.del a.name).put a.name ⟨a.value.length,Wt a.value,[]⟩).secs.Perm ((d.del a.name).del a.name).secs:=U;refine⟨Dir.sorted_put (Dir.sorted_del h.sorted _) _ _,?_,ak.nodup_iff.2 (Xt (Xt h.apart _) _),?_,?_,?_,?_⟩
  .intro x hx;rcases Dir.mem_put.1 hx with rfl|⟨hx,_⟩
   .simp_all
   .exact h.name x (Dir.mem_del.1 hx).1
  .intro i hi;exact h.sub i (Yv (Yv (ak.mem_iff.1 hi)))
  .rw[Z5u,List.nodup_append];refine⟨Z1.del_nodup h.fr _,by simp,?_⟩;intro x hx y Z;simp at Z;subst Z;obtain⟨z,hz,rfl⟩:=List.mem_map.1 hx;exact(Z1.mem_del.1 hz).2
  .intro x hx;rcases Z5p.1 hx with hx|hx
   .obtain⟨M,ai⟩:=Z1.mem_del.1 hx;obtain⟨e,he,r⟩:=h.fresh x M;grind
   .simp_all
  .intro m e hm C;rw[Z1.by_append,Z1.by_del] at C;rw[ae] at hm;by_cases J:m=a.name
   .rw[if_pos J] at C;simp[Z1.by,J] at C
   .rw[if_neg J] at hm C;refine h.old m e hm ?_;grind
 .rename_i h2;split at F
  .rename_i e0 ag;obtain⟨rfl,rfl⟩:=F;refine⟨Dir.sorted_del h.sorted _,λx hx=>h.name x (Dir.mem_del.1 hx).1,Xt h.apart _,λi hi=>h.sub i (Yv hi),Z1.del_nodup h.fr _,?_,?_⟩
   .intro x hx;obtain⟨M,ai⟩:=Z1.mem_del.1 hx;obtain⟨e,he,r⟩:=h.fresh x M;exact⟨e,by rw[Dir.get_del,if_neg ai];exact he,r⟩
   .intro m e hm C;rw[Z1.by_del] at C;rw[Dir.get_del] at hm;by_cases J:m=a.name
    .simp_all
    .rw[if_neg J] at hm C;exact h.old m e hm C
  .grind
 .rename_i h3;split at F
  .rename_i e0 ag;split at F
   .grind
   .rename_i aq;obtain⟨rfl,rfl⟩:=F;have ae:∀m,((d.del a.name).put a.to e0).get m=if m=a.to then some e0 else if m=a.name then none else d.get m:=λm=>(by rw[Dir.get_put,Dir.get_del]);have af:f.by a.name=none:=by have:=Z1.has_by f a.name;simp_all
    have U:=Iq (d.del a.name) a.to e0;have hs:=Ub h.sorted ag;have O:=hs.nodup_iff.1 h.apart;rw[List.nodup_append] at O;refine⟨Dir.sorted_put (Dir.sorted_del h.sorted _) _ _,?_,?_,?_,Z1.del_nodup (Z1.del_nodup h.fr _) _,?_,?_⟩
    .intro x hx;rcases Dir.mem_put.1 hx with rfl|⟨hx,_⟩
     .exact Ac.move_ok ha h3
     .exact h.name x (Dir.mem_del.1 hx).1
    .refine U.nodup_iff.2 (List.nodup_append.2 ⟨O.1,Xt O.2.1 _,λx hx y Z=>O.2.2 x hx y (Yv Z)⟩)
    .intro i hi;rcases Z5p.1 (U.mem_iff.1 hi) with hi|hi
     .exact h.sub i (hs.mem_iff.2 (List.mem_append_left _ hi))
     .exact h.sub i (Yv (Yv hi))
    .intro x hx;obtain⟨M,ai⟩:=Z1.mem_del.1 hx;obtain⟨al,au⟩:=Z1.mem_del.1 M;obtain⟨e,he,r⟩:=h.fresh x al;grind
    .intro m e hm C;rw[ae] at hm;by_cases ah:m=a.to
     .rw[if_pos ah] at hm;cases hm;exact h.old a.name e0 ag af
     .rw[if_neg ah] at hm;by_cases aj:m=a.name
      .simp_all
      .rw[if_neg aj] at hm;rw[Z1.by_del,if_neg ah,Z1.by_del,if_neg aj] at C;exact h.old m e hm C
  .grind
 .grind
theorem Z3W{acts:List Ac}{f f':Z1}{a:Ac}(hv:acV acts k=a.value)(h:Wh k a d f=some (d',f')):EL R acts d' f'=Ac.on (EL R acts d f) a:=by
 unfold Wh at h
 funext m
 split at h
 .rename_i J;obtain⟨rfl,rfl⟩:=h;unfold Ac.on EL;rw[J];rw[Z1.by_append,Z1.by_del,Dir.get_put,Dir.get_del];by_cases hm:m=a.name
  .simp[hm,Z1.by,hv]
  .simp[hm];cases Z:f.by m with
   |some q=>rfl
   |none=>simp[Z1.by];rw[if_neg (λe=>hm e.symm)]
 .rename_i O;split at h
  .rename_i e0 C;obtain⟨rfl,rfl⟩:=h;unfold Ac.on EL;rw[Z1.by_del,Dir.get_del];grind
  .grind
 .rename_i U;split at h
  .rename_i e0 C;split at h
   .grind
   .rename_i M;obtain⟨rfl,rfl⟩:=h;have F:f.by a.name=none:=by have:=Z1.has_by f a.name;simp_all
    unfold Ac.on EL;rw[Z1.by_del,Z1.by_del,Dir.get_put,Dir.get_del,F,C];grind
  .grind
 .grind
theorem KG{acts:List Ac}(l:List Ac)(k:Nat)(hl:l=acts.drop k){d d':Dir}{f f':Z1}(h:Fg n half d0 acts d f)(ha:∀a∈acts,a.wrong=false)(C:Qi l k d f=some (d',f')):Fg n half d0 acts d' f'/\EL R acts d' f'=l.foldl Ac.on (EL R acts d f):=by
 induction l generalizing k d f with
 |nil=>simp[Qi] at C;obtain⟨rfl,rfl⟩:=C;exact⟨h,rfl⟩
 |cons a r ih=>
  rw[Qi] at C;split at C
  .rename_i d1 f1 J;have M:k<acts.length:=by
    by_cases M:k<acts.length
    .omega
    .rw[List.drop_of_length_le (by omega)] at hl;cases hl
   have F:acts[k]? =some a:=by have:=congrArg (λl=>l[0]?) hl;grind
   have hv:acV acts k=a.value:=by unfold acV;rw[Z59,F];rfl
   have O:r=acts.drop (k+1):=by have:=congrArg (List.drop 1) hl;rw[List.drop_drop] at this;grind
   obtain⟨U,i2⟩:=ih (k+1) O (h.act M hv (ha a (List.mem_of_getElem? F)) J) C;refine⟨U,?_⟩;rw[i2,Z3W hv J];rfl
  .grind
theorem Fq(e:Ent)(l:List Nat):Ent.secs {e with runs:=ZZ l}=l:=Cd l
theorem KW{r:Nat×Nat}{rs:List (Nat×Nat)}(h:r∈rs)(C:1<=r.2):r.1∈Zb rs/\r.1+(r.2-1)∈Zb rs:=⟨by have:=FJ h 0 (by omega);simpa using this,FJ h (r.2-1) (by omega)⟩
theorem SN{l:List Nat}(F:∀i∈l,2*half<=i/\i<n)(hl:l.length=ZJ e.size)(hs:e.size<=12000)(hc:e.sum<4294967296):Ent.Ok n half {e with runs:=ZZ l}:=by refine⟨λr h=> ?_,by rw[Fq];exact hl,hs,hc⟩;have C:=GQ l r h;obtain⟨a,b⟩:=KW h C;rw[Cd] at a b;grind
theorem Im(todo:Z1):∀ (free:List Nat) (d d':Dir),Yn free todo d=some d'->d.Sorted->(∀x∈d,1<=x.1.length/\x.1.length<=220)->d.secs.Nodup->free.Nodup->(∀i∈free,i∉d.secs)->(∀i∈free,2*half<=i/\i<n)->(todo.map (·.1)).Nodup-> (∀x∈todo,∃e,d.get x.1=some e/\e.runs=[]/\e.size<=12000/\e.sum<4294967296)-> d'.Sorted/\(∀x∈d',1<=x.1.length/\x.1.length<=220)/\d'.secs.Nodup/\(∀i∈d'.secs,i∈d.secs∨i∈free)/\(∀m,(∀x∈todo,x.1≠m)->d'.get m=d.get m)/\ (∀x∈todo,∃e M,d.get x.1=some e/\d'.get x.1=some M/\M.size=e.size/\M.sum=e.sum/\(∀i∈M.secs,i∈free)/\Ent.Ok n half M):=by
 induction todo with
 |nil=>intro free d d' h hs hn ha _ _ _ _ _;simp[Yn] at h;grind
 |cons x r ih=>
  intro free d d' h hs hn ha aw al aq J au;obtain⟨e,he,b8,b7,az⟩:=au x (by simp);rw[Yn,he] at h;simp only at h;split at h
  .rename_i hle;rw[Z5t,List.nodup_cons] at J;obtain⟨e1,ah⟩:∃e1:Ent,{e with runs:=ZZ (free.take (ZJ e.size))}=e1:=⟨_,rfl⟩;have ag:e1.secs=free.take (ZJ e.size):=by rw[<-ah];exact Fq e _
   have ak:e1.size=e.size:=(by grind);have aj:e1.sum=e.sum:=(by grind);have ai:Ent.Ok n half e1:=by rw[<-ah];exact SN (λi hi=>aq i (List.mem_of_mem_take hi)) (by simp_all) b7 az
   rw[ah] at h;have Z:=Iq d x.1 e1;rw[ag] at Z;have ae:free=free.take (ZJ e.size)++free.drop (ZJ e.size):=(by simp);have af:=aw;rw[ae,List.nodup_append] at af;obtain⟨n1,n2,n3⟩:=af;have U:∀m,(d.put x.1 e1).get m=if m=x.1 then some e1 else d.get m:=λm=>Dir.get_put d x.1 e1 m;obtain⟨i1,i2,i3,i4,i5,i6⟩:=ih (free.drop (ZJ e.size)) (d.put x.1 e1) d' h (Dir.sorted_put hs _ _)
    (λy C=>by
     rcases Dir.mem_put.1 C with rfl|⟨C,_⟩
     .exact Z14 hn he
     .exact hn y C)
    (Z.nodup_iff.2 (List.nodup_append.2 ⟨n1,Xt ha _,λa hx b C e2=>al a (List.mem_of_mem_take hx) (by rw[e2];exact Yv C)⟩))
    n2
    (λi hi hm=>by
     rcases Z5p.1 (Z.mem_iff.1 hm) with hm|hm
     .exact n3 i hm i hi rfl
     .exact al i (List.mem_of_mem_drop hi) (Yv hm))
    (λi hi=>aq i (List.mem_of_mem_drop hi)) J.2
    (λy C=>by
     obtain⟨e2,k1,k2⟩:=au y (by grind);have:y.1≠x.1:=λO=>J.1 (by rw[<-O];exact List.mem_map_of_mem C)
     exact⟨e2,by rw[U,if_neg this];exact k1,k2⟩)
   refine⟨i1,i2,i3,?_,?_,?_⟩
   .intro i hi;rcases i4 i hi with F|F
    .rcases Z5p.1 (Z.mem_iff.1 F) with F|F
     .exact Or.inr (List.mem_of_mem_take F)
     .exact Or.inl (Yv F)
    .exact Or.inr (List.mem_of_mem_drop F)
   .intro m hm;rw[i5 m (λy C=>hm y (by grind)),U,if_neg (λe2=>hm x (by simp) e2.symm)]
   .intro y C;rcases Z5q.1 C with rfl|C
    .refine⟨e,e1,he,?_,ak,aj,λi hi=>by rw[ag] at hi;exact List.mem_of_mem_take hi,ai⟩;rw[i5 y.1 (λz hz O=>J.1 (by rw[<-O];exact List.mem_map_of_mem hz)),U,if_pos rfl]
    .obtain⟨a,b,k1,k2,k3,k4,k5,k6⟩:=i6 y C;have:y.1≠x.1:=λO=>J.1 (by rw[<-O];exact List.mem_map_of_mem C);rw[U,if_neg this] at k1;exact⟨a,b,k1,k2,k3,k4,λi hi=>List.mem_of_mem_drop (k5 i hi),k6⟩
  .grind
theorem Xa:i∈Wu (Q6 n half d)↔i<n/\2*half<=i/\i∉d.secs:=by
 unfold Wu;have hl:(Q6 n half d).length=n:=by simp[Q6]
 rw[List.mem_filter,List.mem_range,hl];constructor
 .rintro⟨h,C⟩;rw[Z59,Q6,List.getElem?_map,List.getElem?_range h] at C;simp_all
 .rintro⟨h,C,F⟩;refine⟨h,?_⟩;rw[Z59,Q6,List.getElem?_map,List.getElem?_range h];simp_all
theorem Bd(u:List Bool):(Wu u).Nodup:=List.nodup_range.sublist List.filter_sublist
theorem GC(h:d.Ok n half){i:Nat}(hi:i∈d.secs):2*half<=i/\i<n:=by obtain⟨x,hx,hi⟩:=List.mem_flatMap.1 hi;obtain⟨r,C,hi⟩:=List.mem_flatMap.1 hi;have:=(h.ent x hx).many r C;grind
theorem Tm(h:d.Ok n half)(J:2*half<=n):(Wu (Q6 n half d)).length+d.secs.length+2*half=n:=by
 have F:(Wu (Q6 n half d)++(d.secs++List.range (2*half))).Perm (List.range n):=by
  rw[List.perm_ext_iff_of_nodup]
  .intro i;rw[Z5p,Z5p,Xa,List.mem_range,List.mem_range];constructor
   .rintro(h1|h1|h1)
    .omega
    .exact(GC h h1).2
    .omega
   .grind
  .rw[List.nodup_append,List.nodup_append];refine⟨Bd _,⟨h.apart,List.nodup_range,λa ha b C e=> ?_⟩,λa ha b C e=> ?_⟩
   .have:=GC h ha;rw[List.mem_range] at C;omega
   .obtain⟨k1,M,O⟩:=Xa.1 ha;grind
  .grind
 have:=F.length_eq;grind
structure A8(n half:Nat)(R:Nat->ByteArray)(d0:Dir)(acts:List Ac)(d:Dir)(f:Z1):Prop where
 ok:d.Ok n half
 fr:(f.map (·.1)).Nodup
 fresh:∀x∈f,∃e,d.get x.1=some e/\e.size=(acV acts x.2).length/\e.sum=Wt (acV acts x.2)/\(∀i∈e.secs,2*half<=i/\i<n/\i∉d0.secs)/\x.2<acts.length
 old:∀m e,d.get m=some e->f.by m=none->∀i∈e.secs,i∈d0.secs
 tab:∀m,(match f.by m with|some k=>some (some (acV acts k))|none=>(d.get m).map (Fu R))=acts.foldl Ac.on (stR R d0) m
theorem YD{S:Sto}{acts:List Ac}{f:Z1}(R:Nat->ByteArray)(F:S.dir.Ok n half)(hu:S.used=Q6 n half S.dir)(ha:∀a∈acts,a.wrong=false)(C:S.plan acts=some (d,f)):A8 n half R S.dir acts d f:=by
 unfold Sto.plan at C;split at C
 .rename_i d1 f1 af;split at C
  .rename_i d2 Z;simp at C;obtain⟨rfl,rfl⟩:=C;have h0:Fg n half S.dir acts S.dir []:=⟨F.sorted,F.name,F.apart,λi hi=>hi,by simp,by simp,λm e hm _=>F.get hm⟩;obtain⟨p1,p2⟩:=KG (R:=R) acts 0 rfl h0 ha af;rw[hu] at Z;have ae:∀i∈Wu (Q6 n half S.dir),i∉d1.secs:=λi hi hm=>(Xa.1 hi).2.2 (p1.sub i hm);obtain⟨q1,q2,q3,q4,q5,q6⟩:=Im (n:=n) (half:=half) f1 _ d1 d2 Z p1.sorted p1.name p1.apart (Bd _) ae
    (λi hi=>by have:=Xa.1 hi;exact⟨this.2.1,this.1⟩) p1.fr (λx hx=>by
     obtain⟨e,k1,J,k3,M,k5,O⟩:=p1.fresh x hx
     exact⟨e,k1,J,k5,by rw[M];exact Gn _⟩)
   have U:∀m,f1.by m=none->∀x∈f1,x.1≠m:=λm hm x hx e=>by rw[<-e,Z1.by_mem p1.fr hx] at hm;cases hm
   refine⟨⟨q1,?_,q2,q3⟩,p1.fr,?_,?_,?_⟩
   .intro x hx;have hg:=Dir.mem_get q1 (n:=x.1) (e:=x.2) hx;cases h:f1.by x.1 with
    |none=>rw[q5 x.1 (U _ h)] at hg;exact p1.old x.1 x.2 hg h
    |some k=>obtain⟨a,b,_,J,_,_,_,O⟩:=q6 _ (Z1.mem_by h);simp_all
   .intro x hx;obtain⟨e,k1,J,k3,M,k5,O⟩:=p1.fresh x hx;obtain⟨a,b,j1,j2,j3,j4,j5,j6⟩:=q6 x hx;rw[k1] at j1;cases j1;exact⟨b,j2,by rw[j3,k3],by rw[j4,M],λi hi=>by have:=Xa.1 (j5 i hi);exact⟨this.2.1,this.1,this.2.2⟩,O⟩
   .intro m e hm h i hi;rw[q5 m (U _ h)] at hm;exact p1.sub i (List.mem_flatMap.2 ⟨(m,e),Dir.get_some_mem hm,hi⟩)
   .intro m;have:=congrFun p2 m;have e0:EL R acts S.dir []=stR R S.dir:=rfl;rw[e0] at this;rw[<-this];unfold EL;grind
  .grind
 .grind
theorem Ko(h:d.secs.Nodup)(hs:d.Sorted){x y:Bs×Ent}(hx:x∈d)(C:y∈d)(F:x.1≠y.1){i:Nat}(J:i∈x.2.secs)(M:i∈y.2.secs):False:=by
 unfold Dir.secs at h
 induction d with
 |nil=>cases hx
 |cons z r ih=>
  rw[Z5s,List.nodup_append] at h;obtain⟨_,n2,O⟩:=h;rcases Z5q.1 hx with rfl|hx'
  .grind
  .rcases Z5q.1 C with rfl|hy'
   .grind
   .exact ih n2 (List.pairwise_cons.1 hs).2 hx' hy'
theorem Ly(h:d.secs.Nodup){x:Bs×Ent}(hx:x∈d):x.2.secs.Nodup:=by unfold Dir.secs at h;grind
end
section
variable{v:Bs}
theorem NH{l:List Nat}{a:Nat}{s:ByteArray}(h:DOp.wr a s∈Qd l v):a∈l:=by
 induction l generalizing v with
 |nil=>cases h
 |cons b r ih=>rw[Qd] at h;grind
theorem TJ(v:Bs):(Ja v).size=64:=by unfold Ja;rw[Z5,Z5d,List.length_replicate];grind
theorem Z47{n:Nat}{l:List Nat}(h:∀a∈l,a<n):∀o∈Qd l v,o.In n:=by
 induction l generalizing v with
 |nil=>intro o C;cases C
 |cons b r ih=>
  intro o C;rcases Z5q.1 C with rfl|C
  .exact⟨h b (by simp),TJ v⟩
  .grind
theorem Z48{l:List Nat}:∀{v:Bs} {R:Nat->ByteArray} {i b:Nat},l.Nodup->l[i]? =some b->Zt (Qd l v) R b=Ja (v.drop (64*i)):=by
 induction l with
 |nil=>intro v R i b _ h;simp at h
 |cons a r ih=>
  intro v R i b C h;rw[List.nodup_cons] at C;show Zt (Qd r (v.drop 64)) (DOp.rd R (.wr a (Ja v))) b=_
  match i,h with
  |0,h=>simp at h;subst h;rw[JJ (λc s hm e=>C.1 (by rw[<-e];exact NH hm))];simp[DOp.rd]
  |i+1,h=>rw[ih C.2 h,List.drop_drop,show 64+64*i=64*(i+1) from by omega]
theorem Ve{l:List Nat}{R:Nat->ByteArray}:∀{v:Bs},(∀i b,l[i]? =some b->R b=Ja (v.drop (64*i)))->l.length=ZJ v.length->(l.flatMap λa=>(R a).data.toList).take v.length=v:=by
 induction l with
 |nil=>
  intro v _ hl;have:v.length=0:=by unfold ZJ at hl;simp at hl;omega
  rw[List.length_eq_zero_iff.1 this];rfl
 |cons a r ih=>
  intro v h hl;rw[Z5s];have C:=h 0 a rfl;simp at C;rw[C];have M:(Ja v).data.toList=v.take 64++List.replicate (64- (v.take 64).length) 0:=rfl;rw[M];by_cases F:64<=v.length
  .have e1:(v.take 64).length=64:=by rw[Z5j];omega
   rw[e1,Nat.sub_self,List.replicate_zero,Z5C,List.take_append,e1,List.take_take,Nat.min_eq_right F];have J:r.length=ZJ (v.drop 64).length:=by rw[List.length_drop];unfold ZJ at hl⊢;rw[Z5h] at hl;omega
   have:=ih (v:=v.drop 64) (λi b hi=>by
    have:=h (i+1) b (by simp_all)
    rw[this,List.drop_drop,show 64+64*i=64*(i+1) from by omega]) J
   simp_all
  .grind
theorem Z2w(d:Dir)(acts:List Ac):Yb d acts []=[]:=rfl
def Ll(d:Dir)(acts:List Ac)(x:Bs×Nat):List DOp:=match d.get x.1 with
 |some e=>Qd e.secs (acV acts x.2)
 |none=>[]
theorem BA(d:Dir)(acts:List Ac)(x:Bs×Nat)(f:Z1):Yb d acts (x::f)=Ll d acts x++Yb d acts f:=by rfl
theorem Ii{d:Dir}{acts:List Ac}{f:Z1}{a:Nat}{s:ByteArray}(h:DOp.wr a s∈Yb d acts f):∃x∈f,∃e,d.get x.1=some e/\a∈e.secs:=by
 induction f with
 |nil=>cases h
 |cons x r ih=>
  rw[BA] at h;rcases Z5p.1 h with h|h
  .unfold Ll at h;split at h
   .rename_i e he;exact⟨x,by simp,e,he,NH h⟩
   .grind
  .simp_all
theorem Z49{n:Nat}{d:Dir}{acts:List Ac}{f:Z1}(h:∀x∈f,∀e,d.get x.1=some e->∀a∈e.secs,a<n):∀o∈Yb d acts f,o.In n:=by
 induction f with
 |nil=>intro o C;cases C
 |cons x r ih=>
  intro o C;rw[BA] at C;rcases Z5p.1 C with C|C
  .unfold Ll at C;split at C
   .rename_i e he;exact Z47 (λa ha=>h x (by simp) e he a ha) o C
   .grind
  .grind
theorem Z4a{d:Dir}{acts:List Ac}{f:Z1}(hs:d.Sorted)(ha:d.secs.Nodup)(J:(f.map (·.1)).Nodup){x:Bs×Nat}(hx:x∈f){e:Ent}(he:d.get x.1=some e){i b:Nat}(hi:e.secs[i]? =some b)(R:Nat->ByteArray):Zt (Yb d acts f) R b=Ja ((acV acts x.2).drop (64*i)):=by
 have C:b∈e.secs:=by grind
 induction f generalizing R with
 |nil=>cases hx
 |cons y r ih=>
  rw[BA,Q1];rcases Z5q.1 hx with rfl|hx
  .rw[JJ,Ll,he]
   .exact Z48 (Ly ha (Dir.get_some_mem he)) hi
   .intro a s hm e1;obtain⟨z,M,e2,F,h⟩:=Ii hm;subst e1;refine Ko ha hs (Dir.get_some_mem F) (Dir.get_some_mem he) ?_ h C;grind
  .simp_all
def Ky:List Nat->Bs->Seg
 |[],_=>[]
 |a::r,v=>(a,Ja v)::Ky r (v.drop 64)
theorem Z2v(l:List Nat)(v:Bs):Qd l v=(Ky l v).map λx=>DOp.wr x.1 x.2:=by
 induction l generalizing v with
 |nil=>rfl
 |cons a r ih=>rw[Qd,Ky,ih];rfl
def Un(d:Dir)(acts:List Ac)(x:Bs×Nat):Seg:=match d.get x.1 with
 |some e=>Ky e.secs (acV acts x.2)
 |none=>[]
def Ix(d:Dir)(acts:List Ac)(f:Z1):Seg:=f.flatMap (Un d acts)
theorem Z0p(d:Dir)(acts:List Ac)(x:Bs×Nat)(f:Z1):Ix d acts (x::f)=Un d acts x++Ix d acts f:=by rfl
theorem Iw(d:Dir)(acts:List Ac)(f:Z1):Yb d acts f=(Ix d acts f).map λx=>DOp.wr x.1 x.2:=by
 induction f with
 |nil=>rfl
 |cons x r ih=>
  rw[BA,ih,Z0p,Z5u,Ll,Un];congr 1;split
  .exact Z2v _ _
  .rfl
def E1(d:Dir)(acts:List Ac)(f:Z1):List Seg:=if(Yb d acts f).isEmpty then[] else[Ix d acts f]
theorem N7(d:Dir)(acts:List Ac)(f:Z1):Q3 d acts f=Y4 (E1 d acts f):=by
 unfold Q3 E1;split
 .rfl
 .show Yb d acts f++[DOp.fl]=Y4 [Ix d acts f];unfold Y4 Seg.ops;rw[Z5s,List.flatMap_nil,Z5C,Iw]
def Sto.jSegs(S:Sto)(d:Dir)(f:Z1):List Seg:=
 if Zf (Jb (QM S.dir d f)).length / 64<=S.j.half-S.j.next then S.j.appendSegs (Jb (QM S.dir d f)) else S.j.resetSegs (Ya d)
theorem Vs(S:Sto)(d:Dir)(f:Z1):S.jOps d f=Y4 (S.jSegs d f):=by
 unfold Sto.jOps Sto.jSegs;split
 .exact GK _ _
 .exact Kg _ _
def Sto.segs(S:Sto)(acts:List Ac)(d:Dir)(f:Z1):List Seg:=E1 d acts f++S.jSegs d f
theorem NY(S:Sto)(acts:List Ac)(d:Dir)(f:Z1):S.ops acts d f=Y4 (S.segs acts d f):=by unfold Sto.ops Sto.segs;rw[N7,Vs];simp[Y4]
theorem I3(J:Jn)(s:Bool)(k:Nat):∀o∈J.clean s k,o.In (2*J.half):=by
 intro o h;unfold Jn.clean at h;split at h
 .grind
 .rw[Z58] at h;subst h;exact⟨by unfold Jn.at_;split<;>omega,Dv⟩
theorem MT(J:Jn)(s:Bool)(k:Nat):J.at_ s k<=J.half+k:=by unfold Jn.at_;split<;>omega
theorem VB(J:Jn)(s:Bool)(k:Nat)(l:Bs)(hl:l.length%64=0)(C:l≠[])(M:k+l.length / 64<=J.half):∀o∈J.lay s k l,o.In (2*J.half):=by
 have F:=MT J s k;intro o h;unfold Jn.lay at h;simp only[Z5p,Z58] at h;rcases h with (((h|h)|rfl)|h)|rfl
 .exact Gj (by rw[Qf l C];exact hl) (by rw[Qf l C];omega) o h
 .exact I3 J s _ o h
 .trivial
 .exact Gj (by grind) (by grind) o h
 .trivial
theorem UE(J:Jn)(r:Bs)(h:Zf r.length / 64<=J.half-J.next):∀o∈J.appendOps r,o.In (2*J.half):=by obtain⟨m1,m2⟩:=Jk J.epoch (J.many+1) r;have:=Br r.length;exact VB J _ _ _ m2 (XE _ _ _) (by omega)
theorem Z23(J:Jn)(r:Bs)(O:1+Zf r.length / 64<=J.half):∀o∈J.resetOps r,o.In (2*J.half):=by
 obtain⟨m1,m2⟩:=Jk (J.epoch+1) 1 r;have F:=MT J (!J.second) 1;have M:=MT J (!J.second) 0;have hh:=QP (J.epoch+1);have C:Zh (J.epoch+1) 0 ZM≠[]:=by grind
 intro o h;unfold Jn.resetOps at h;simp only[Z5p,Z58] at h;rcases h with ((((h|h)|h)|rfl)|h)|rfl
 .exact Gj m2 (by omega) o h
 .exact I3 J _ _ o h
 .exact Gj (by rw[Qf _ C,hh]) (by rw[Qf _ C,hh];omega) o h
 .trivial
 .exact Gj (by omega) (by omega) o h
 .trivial
theorem LG(half:Nat)(hh:2<=half):∀o∈Jn.format half,o.In (2*half):=by
 have C:=QP 1;intro o h;unfold Jn.format at h;simp at h;rcases h with h|h
 .exact I3 ⟨half,false,1,0,1,false⟩ _ _ o h
 .exact VB ⟨half,false,1,0,1,false⟩ false 0 (Zh 1 0 ZM) (by omega) (XE _ _ _) (by grind) o h
theorem Z4H{l:List DOp}{m:Nat}(h:∀o∈l,o.In m)(R:Nat->ByteArray){b:Nat}(C:m<=b):Zt l R b=R b:=JJ λa s hm e=>by have:=(h _ hm).1;omega
def Rec.Ok(n half:Nat):Rec->Prop
 |.all d=>d.Ok n half/\d≠[]
 |.some l=>l≠[]/\(l.map (·.1)).Pairwise (· < ·)/\∀x∈l,1<=x.1.length/\x.1.length<=220/\∀e:Ent,x.2=Option.some e->Ent.Ok n half e
structure YN(n half:Nat)(R:Nat->ByteArray)(S:Sto)(recs:List Rec):Prop where
 nn:S.n=n
 hh:S.half=half
 jhalf:S.j.half=half
 open_:S.j.closed=false
 img:Yp R S.j (recs.map Rec.enc)
 dir:recs.foldl Rec.app []=S.dir
 pre:∀k,k<=recs.length->Dir.Ok n half ((recs.take k).foldl Rec.app [])
 used:S.used=Q6 n half S.dir
 small:∀r∈recs,r.enc.length<=60000
 few:∀k,k<=recs.length->((recs.take k).foldl Rec.app []).length<=10000
 recs:∀r∈recs,r.Ok n half
theorem YN.ok{n half:Nat}{R:Nat->ByteArray}{S:Sto}{recs:List Rec}(h:YN n half R S recs):S.dir.Ok n half:=by have:=h.pre recs.length Z5D;rw[Z5A,h.dir] at this;omega
theorem YN.congr{n half:Nat}{R R':Nat->ByteArray}{S:Sto}{recs:List Rec}(h:YN n half R S recs)(C:1<=half)(F:∀b,b<2*half->R' b=R b):YN n half R' S recs:=⟨h.nn,h.hh,h.jhalf,h.open_,h.img.congr (λb J=>F b (by rw[<-h.jhalf];exact J)) (by rw[h.jhalf];exact C),h.dir,h.pre,h.used,h.small,h.few,h.recs⟩
theorem Mi{R R':Nat->ByteArray}{d:Dir}(h:∀b∈d.secs,R' b=R b):stR R' d=stR R d:=by
 funext m
 unfold stR;cases hm:d.get m with
 |none=>rfl
 |some e=>have:AM R' e=AM R e:=ES λb C=>h b (List.mem_flatMap.2 ⟨(m,e),Dir.get_some_mem hm,C⟩);unfold Fu;grind
structure Fi(S:Sto)(d:Dir)(f:Z1):Prop where
 some_:(Jb (QM S.dir d f)).length<=60000
 whole:(Ya d).length<=60000
 fits:1+Zf (Ya d).length / 64<=S.j.half
 ne1:QM S.dir d f≠[]
 ne2:d≠[]
 many:d.length<=10000
def Sto.recs'(S:Sto)(recs:List Rec)(d:Dir)(f:Z1):List Rec:=
 if Zf (Jb (QM S.dir d f)).length / 64<=S.j.half-S.j.next then recs++[.some (QM S.dir d f)] else[.all d]
theorem Z31{n half:Nat}{was now:Dir}{f:Z1}(hw:was.Ok n half)(F:now.Ok n half)(O:QM was now f≠[]):Rec.Ok n half (.some (QM was now f)):=by
 refine⟨O,?_,?_⟩
 .have Z:((QM was now f).map (·.1)).Sublist (was.both now).names:=CH _ _ λn x h=>(AT h).1;have h2:((was.both now).names).Pairwise (· < ·):=by have:=Dir.both_sorted hw.sorted now;unfold Dir.names;rw[List.pairwise_map];exact this
  grind
 .intro x hx;obtain⟨m,hm,U⟩:=List.mem_filterMap.1 hx;obtain⟨e1,e2⟩:=AT U;subst e1;have C:=Qy.1 hm;rw[Dir.both_get _ F.sorted] at C;refine⟨?_,?_,λe he=>F.get (by rw[<-e2];exact he)⟩
  all_goals
   cases M:now.get x.1 with
   |some e=>have:=F.name _ (Dir.get_some_mem M);exact(by simp_all)
   |none=>
    rw[M] at C;cases J:was.get x.1 with
    |some e=>have:=hw.name _ (Dir.get_some_mem J);exact(by simp_all)
    |none=>exact absurd J C
theorem KV{S:Sto}{d:Dir}{f:Z1}(C:Fi S d f):∀o∈S.jOps d f,o.In (2*S.j.half):=by
 unfold Sto.jOps;split
 .rename_i h;exact UE S.j _ h
 .exact Z23 S.j _ C.fits
section
variable{n half:Nat}{R:Nat->ByteArray}{S:Sto}{recs:List Rec}{acts:List Ac}{d:Dir}{f:Z1}
theorem RH(C:A8 n half R S.dir acts d f):∀o∈Q3 d acts f,o.In n:=by
 intro o h;unfold Q3 at h;split at h
 .grind
 .rcases Z5p.1 h with h|h
  .refine Z49 (λx hx e he a ha=> ?_) o h;obtain⟨J,F,_,_,M,_⟩:=C.fresh x hx;simp_all
  .rw[Z58] at h;subst h;trivial
theorem RS{b:Nat}(C:∀x∈f,∀e,d.get x.1=some e->b∉e.secs)(R:Nat->ByteArray):Zt (Q3 d acts f) R b=R b:=by
 refine JJ λa s hm e=> ?_;unfold Q3 at hm;split at hm
 .grind
 .rcases Z5p.1 hm with hm|hm
  .obtain⟨x,hx,e2,h,ha⟩:=Ii hm;grind
  .simp_all
theorem FQ(R:Nat->ByteArray):Zt (Q3 d acts f) R=Zt (Yb d acts f) R:=by
 unfold Q3;split
 .simp_all
 .rw[Q1];rfl
theorem A8.apart(h:A8 n half R S.dir acts d f){b:Nat}(M:b<2*half∨b∈S.dir.secs):∀x∈f,∀e,d.get x.1=some e->b∉e.secs:=by intro x hx e he hm;obtain⟨F,C,_,_,J,_⟩:=h.fresh x hx;grind
theorem YN.commit(h:YN n half R S recs)(h1:1<=half)(h2:2*half<=n)(O:n<=8192)(C:A8 n half R S.dir acts d f)(J:Fi S d f):YN n half (Zt (S.ops acts d f) R) (S.done d f) (S.recs' recs d f):=by
 have U:Yp (Zt (Q3 d acts f) R) S.j (recs.map Rec.enc):=h.img.congr (λb hb=>RS (C.apart (Or.inl (by rw[<-h.jhalf];exact hb))) R) (by rw[h.jhalf];exact h1);have e0:Zt (S.ops acts d f) R=Zt (S.jOps d f) (Zt (Q3 d acts f) R):=by unfold Sto.ops;rw[Q1]
 rw[e0];unfold Sto.recs' Sto.done;have ae:(S.jNew d f).half=S.j.half:=by unfold Sto.jNew;split<;>rfl
 have Z:(S.jNew d f).closed=S.j.closed:=by unfold Sto.jNew;split<;>rfl
 refine⟨h.nn,h.hh,by simp only;rw[ae];exact h.jhalf,by simp only;rw[Z];exact h.open_,?_,?_,?_,by simp only;rw[h.nn,h.hh],?_,?_,?_⟩
 .simp only;unfold Sto.jOps Sto.jNew;split
  .rename_i hf;rw[Z5u];exact U.append _ hf
  .exact U.reset _ J.fits
 .simp only;split
  .rw[List.foldl_append,h.dir];exact Hu O h.ok C.ok
  .exact KI (was:=[]) C.ok.sorted
 .split
  .intro k F;by_cases M:k<=recs.length
   .rw[List.take_append_of_le_length M];exact h.pre k M
   .rw[Z5o (by grind),List.foldl_append,h.dir];show Dir.Ok n half (Rec.app S.dir (.some (QM S.dir d f)));rw[Hu O h.ok C.ok];exact C.ok
  .intro k F
   match k,F with
   |0,_=>exact⟨List.Pairwise.nil,by simp,by simp,List.nodup_nil⟩
   |1,_=>show Dir.Ok n half (Rec.app [] (.all d));rw[KI C.ok.sorted];exact C.ok
   |k+2,F=>simp at F
 .split
  .intro r hm;rcases Z5p.1 hm with hm|hm
   .exact h.small r hm
   .rw[Z58] at hm;subst hm;exact J.some_
  .intro r hm;rw[Z58] at hm;subst hm;exact J.whole
 .split
  .intro k F;by_cases M:k<=recs.length
   .rw[List.take_append_of_le_length M];exact h.few k M
   .rw[Z5o (by grind),List.foldl_append,h.dir];show(Rec.app S.dir (.some (QM S.dir d f))).length<=10000;rw[Hu O h.ok C.ok];exact J.many
  .intro k F
   match k,F with
   |0,_=>exact Nat.zero_le _
   |1,_=>show(Rec.app [] (.all d)).length<=10000;rw[KI (was:=[]) C.ok.sorted];exact J.many
   |k+2,F=>simp at F
 .split
  .intro r hm;rcases Z5p.1 hm with hm|hm
   .exact h.recs r hm
   .rw[Z58] at hm;subst hm;exact Z31 h.ok C.ok J.ne1
  .intro r hm;rw[Z58] at hm;subst hm;exact⟨C.ok,J.ne2⟩
theorem Kr(h:YN n half R S recs)(F:A8 n half R S.dir acts d f)(hr:Fi S d f):stR (Zt (S.ops acts d f) R) d=acts.foldl Ac.on (stR R S.dir):=by
 funext m
 rw[<-F.tab m];have ae:∀o∈S.jOps d f,o.In (2*half):=by rw[<-h.jhalf];exact KV hr
 have O:∀b,2*half<=b->Zt (S.ops acts d f) R b=Zt (Q3 d acts f) R b:=λb C=>by unfold Sto.ops;rw[Q1,Z4H ae _ C]
 unfold stR;cases hm:d.get m with
 |none=>
  have:f.by m=none:=by
   cases C:f.by m with
   |none=>rfl
   |some k=>obtain⟨e,he,_⟩:=F.fresh _ (Z1.mem_by C);simp_all
  simp_all
 |some e=>
  have U:∀b∈e.secs,2*half<=b:=λb C=>(GC F.ok (List.mem_flatMap.2 ⟨(m,e),Dir.get_some_mem hm,C⟩)).1;have af:AM (Zt (S.ops acts d f) R) e=AM (Zt (Q3 d acts f) R) e:=ES λb C=>O b (U b C);cases C:f.by m with
  |none=>have:AM (Zt (Q3 d acts f) R) e=AM R e:=ES λb Z=>RS (F.apart (Or.inr (F.old m e hm C b Z))) R;unfold Fu;simp_all
  |some k=>
   obtain⟨e',J,M,ag,_,_⟩:=F.fresh _ (Z1.mem_by C);rw[hm] at J;cases J;have hv:AM (Zt (Q3 d acts f) R) e=acV acts k:=by unfold AM;rw[M,FQ];refine Ve (λi b hi=> ?_) (by rw[<-M];exact(F.ok.get hm).secs);exact Z4a F.ok.sorted F.ok.apart F.fr (Z1.mem_by C) hm hi R
   unfold Fu;simp_all
theorem YN.cut(h:YN n half R S recs)(U:1<=half)(hp:A8 n half R S.dir acts d f)(hr:Fi S d f){R':Nat->ByteArray}(hc:Cut (S.segs acts d f) R R'):(YN n half R' S recs/\stR R' S.dir=stR R S.dir)∨R'=Zt (S.ops acts d f) R:=by
 have old:∀{Q:Nat->ByteArray},(∀b,(b<2*half∨b∈S.dir.secs)->Q b=R b)->YN n half Q S recs/\stR Q S.dir=stR R S.dir:=λF=>⟨h.congr U (λb C=>F b (Or.inl C)),Mi λb C=>F b (Or.inr C)⟩;have O:∀x∈Ix d acts f,∀b,(b<2*half∨b∈S.dir.secs)->x.1≠b:=by
  intro x hx b C e;have hm:DOp.wr x.1 x.2∈Yb d acts f:=by rw[Iw];exact List.mem_map_of_mem hx
  obtain⟨y,hy,e2,af,ha⟩:=Ii hm;rw[e] at ha;exact hp.apart C y hy e2 af ha
 have M:∀{Q:Nat->ByteArray},(∀b,(b<2*half∨b∈S.dir.secs)->Q b=R b)->Zt (Q3 d acts f) R=Q->Cut (S.jSegs d f) Q R'->(YN n half R' S recs/\stR R' S.dir=stR R S.dir)∨R'=Zt (S.ops acts d f) R:=by
  intro Q F hd hc;have Z:Yp Q S.j (recs.map Rec.enc):=h.img.congr (λb C=>F b (Or.inl (by rw[<-h.jhalf];exact C))) (by rw[h.jhalf];exact U);have fin:(Yp R' S.j (recs.map Rec.enc)/\∀b,2*S.j.half<=b->R' b=Q b)->YN n half R' S recs/\stR R' S.dir=stR R S.dir:=by rintro⟨g1,g2⟩;refine⟨⟨h.nn,h.hh,h.jhalf,h.open_,g1,h.dir,h.pre,h.used,h.small,h.few,h.recs⟩,Mi λb C=> ?_⟩;have:=(GC h.ok C).1;rw[g2 b (by rw[h.jhalf];exact this)];simp_all
  have e0:Zt (S.ops acts d f) R=Zt (S.jOps d f) Q:=by unfold Sto.ops;rw[Q1,hd]
  rw[e0];unfold Sto.jSegs at hc;unfold Sto.jOps;split at hc
  .rename_i J;rcases Z.cut_append _ J hc with g|g
   .simp_all
   .simp_all
  .rename_i J;rw[if_neg J];rcases Z.cut_reset _ hr.fits hc with g|g
   .simp_all
   .simp_all
 unfold Sto.segs E1 at hc;split at hc
 .rename_i he;refine M (Q:=R) (λb _=>rfl) ?_ hc;unfold Q3;rw[if_pos he];rfl
 .rename_i he;rcases hc with ⟨j,C⟩|hc
  .left;exact old λb ae=>C.other λx hx=>O x (List.mem_of_mem_take hx) b ae
  .refine M (Q:=rdW (Ix d acts f) R) (λb C=>CP λx hx=>O x hx b C) ?_ hc;rw[FQ,Iw,AH]
end
end
section
open Go.RowKit Go.Maps
variable{L:List Nat}{a:Option Addr}{b len n:Nat}{d:Dir}{rs:List (Nat×Nat)}{w w':World}
def Qp(l:List (Nat×Nat)):List Value:=l.flatMap λr=>[.int .i64 (r.1:Int),.int .i64 (r.2:Int)]
theorem Wq(l:List (Nat×Nat)):(Qp l).length=2*l.length:=by
 induction l with
 |nil=>rfl
 |cons x l ih=>simp[Qp] at ih⊢;omega
theorem PS(x:Nat×Nat)(l:List (Nat×Nat)):Qp (x::l)=.int .i64 (x.1:Int):: .int .i64 (x.2:Int)::Qp l:=rfl
theorem JQ(a b:List (Nat×Nat)):Qp (a++b)=Qp a++Qp b:=by simp[Qp]
theorem AF(l:List (Nat×Nat))(i:Nat)(h:i<l.length):(Qp l)[2*i]? =some (.int .i64 ((l.getD i (0,0)).1:Int))/\(Qp l)[2*i+1]? =some (.int .i64 ((l.getD i (0,0)).2:Int)):=by
 induction l generalizing i with
 |nil=>simp at h
 |cons x l ih=>
  match i,h with
  |0,_=>exact⟨rfl,rfl⟩
  |i+1,h=>rw[PS];grind
def Fj(w:World)(a:Option Addr)(len:Nat)(rs:List (Nat×Nat)):Prop:=len=rs.length/\(rs=[]∨∃g sp,a=some ⟨g,0,none⟩/\Row w g 197 (Qp rs++sp))
def MH(w:World)(a:Option Addr)(len cap:Nat)(rs:List (Nat×Nat)):Prop:=Fj w a len rs/\(rs=[]->a=none/\cap=0)
def Xe(w:World)(v:Value)(e:Ent):Prop:=∃a len cap,v=.agg #[.int .i64 (e.size:Int),.int .u32 (e.sum:Int),.slice a len cap]/\MH w a len cap e.runs
structure ZE(w:World)(b n:Nat)(d:Dir):Prop where
 map:∃fv,ZA w b n fv/\(∀k,d.get k=none->fv k=none)/\∀k e,d.get k=some e->∃v,fv k=some v/\Xe w v e
theorem Fj.fr(h:Fj w a len rs)(O:Fr L w w')(M:∀k,k∈L->∀l,¬Row w k 197 l):Fj w' a len rs:=by obtain⟨F,J⟩:=h;refine⟨F,J.imp id ?_⟩;rintro⟨g,sp,ha,C⟩;exact⟨g,sp,ha,C.fr O (λhm=>M g hm _ C)⟩
theorem MH.fr{cap:Nat}(h:MH w a len cap rs)(F:Fr L w w')(C:∀k,k∈L->∀l,¬Row w k 197 l):MH w' a len cap rs:=⟨h.1.fr F C,h.2⟩
theorem Xe.fr{v:Value}{e:Ent}(h:Xe w v e)(F:Fr L w w')(C:∀k,k∈L->∀l,¬Row w k 197 l):Xe w' v e:=by obtain⟨a,len,cap,hv,J⟩:=h;exact⟨a,len,cap,hv,J.fr F C⟩
theorem ZE.fr(h:ZE w b n d)(C:Fr L w w')(Z:b∉L)(U:∀k,k∈L->∀l,¬Row w k 197 l):ZE w' b n d:=by obtain⟨F,J,M,O⟩:=h;refine⟨F,J.fr C Z,M,λk e hk=> ?_⟩;obtain⟨v,hv,he⟩:=O k e hk;exact⟨v,hv,he.fr C U⟩
theorem ZE.after(h:ZE w b n d)(C:Below w.heap.size w w'):ZE w' b n d:=h.fr (Fr.of_below (L:=[]) C) (by simp) (by simp)
def WR(n lim:Nat)(vis:List Nat):List Value:=(List.range n).map λi=>.bool (decide (i<lim)||vis.contains i)
theorem Yu(n lim:Nat)(h:List Nat):(WR n lim h).length=n:=by simp[WR]
theorem Ji(n lim:Nat)(C:List Nat)(i:Nat)(h:i<n):(WR n lim C)[i]? =some (.bool (decide (i<lim)||C.contains i)):=by simp[WR,h]
theorem VI(n k:Nat)(C:List Nat)(h:k<n):(WR n k C).set k (.bool true)=WR n (k+1) C:=by
 apply List.ext_getElem?;intro i;rw[List.getElem?_set];by_cases hi:i<n
 .rw[Ji n (k+1) C i hi];by_cases e:k=i
  .subst e;rw[if_pos rfl,if_pos (by rw[Yu];exact h)];simp
  .rw[if_neg e,Ji n k C i hi];have:decide (i<k)=decide (i<k+1):=(by grind);grind
 .have F:(WR n (k+1) C)[i]? =none:=List.getElem?_eq_none (by rw[Yu];omega);have J:(WR n k C)[i]? =none:=List.getElem?_eq_none (by rw[Yu];omega);grind
theorem VH(n lim:Nat)(C:List Nat)(k:Nat)(h:k<n):(WR n lim C).set k (.bool true)=WR n lim (C++[k]):=by
 apply List.ext_getElem?;intro i;rw[List.getElem?_set];by_cases hi:i<n
 .rw[Ji n lim (C++[k]) i hi];by_cases e:k=i
  .subst e;rw[if_pos rfl,if_pos (by rw[Yu];exact h)];simp
  .rw[if_neg e,Ji n lim C i hi];grind
 .have F:(WR n lim (C++[k]))[i]? =none:=List.getElem?_eq_none (by rw[Yu];omega);have J:(WR n lim C)[i]? =none:=List.getElem?_eq_none (by rw[Yu];omega);simp_all
theorem Tz(n half:Nat)(d:Dir)(C:List Nat)(h:∀i,i∈C↔i∈d.secs):WR n (2*half) C=(Q6 n half d).map .bool:=by unfold WR Q6;simp_all
def Ao(w:World)(v:Value)(used:List Bool):Prop:=∃g,v=.slice (some ⟨g,0,none⟩) used.length used.length/\Row w g 4 (used.map .bool)
theorem Lq:(prog.info? 4).map (λi=>(i.zero,i.size,i.bytes))=some (some (.bool false),1,1):=by kernel_rfl
theorem Ld(i0:TypeInfo)(hi:prog.info? 4=some i0)(C:i0.zero=some (.bool false))(hs:i0.size=1)(M:i0.bytes=1)(n:Nat)(O:n<=140737488355328)(W:World):(Instr.makeSlice 37 (.int .i64 (n:Int)) (.int .i64 (n:Int))).run prog W=.ok (.slice (some ⟨W.heap.size,0,none⟩) n n) (W.alloc (.cells (List.replicate n (Value.bool false)).toArray 4)):=by
 have h:=run_make (P:=prog) W 37 4 i0 (.bool false) underlying37 hi C .i64 .i64 (n:Int) (n:Int) (by omega) (by omega) (by grind) (by omega);have e:madeCells (Value.bool false).cells (((n:Nat):Int).toNat*i0.size)=(List.replicate n (Value.bool false)).toArray:=by
  rw[hs,Int.toNat_natCast,Nat.mul_one];apply Array.ext
  .simp[madeCells]
  .intro i F J;simp[madeCells,Value.cells,Nat.mod_one]
 rw[e] at h;simpa using h
theorem TA(n:Nat):List.replicate n (Value.bool false)=WR n 0 []:=by
 apply List.ext_getElem?;intro i;by_cases hi:i<n
 .rw[Ji n 0 [] i hi];simp[hi]
 .rw[List.getElem?_eq_none (by simp_all),List.getElem?_eq_none (by rw[Yu];omega)]
theorem EF(c a:Int)(hc:c≠0)(w:World):Calls prog 83 #[.int .i64 c,.int .i64 a] w λe w'=>∃b,e=.returned (.iface 139 (.pointer (some ⟨b,0,none⟩)))/\Zk w' w.heap.size c (.iface 139 (.pointer (some ⟨b,0,none⟩)))/\Below w.heap.size w w':=by go_enter func83,ntmps83;go_wp2;go_ret;exact⟨w.heap.size,rfl,Ng hc Z5D (Row.new w _ [.int .i64 c,.int .i64 a,.nilIface]),Z5E.alloc Z5D _⟩
theorem EE(n:Nat)(h:n<=1000000000)(w:World):Calls prog 90 #[.int .i64 n] w λe w'=>e=.returned (.int .i64 (ZJ n:Nat))/\w=w':=by go_enter func90,ntmps90;go_wp2;go_ret;exact⟨Wm (by unfold ZJ;omega),rfl⟩
theorem OF(n:Nat)(h:n<=4294967295)(w:World):Calls prog 189 #[.int .i64 n] w λe w'=>e=.returned (.string (s32 n))/\Below w.heap.size w w':=by go_enter func189,ntmps189;go_wp2_with (go_at_call 125;refine(NV n h _).mono ?_;rintro e w' ⟨rfl,C⟩);go_ret;simp_all
end
section
open Go.RowKit Go.Maps
variable{b cnt g half n nm r:Nat}{d:Dir}{e:TypeId}{fv:Bs->Option Value}{l:List Value}{todo:Bs->Bool}{vis:List Nat}{w wr:World}
theorem Yz{C:TypeId}{l':List Value}(h:Row w g e l)(F:Row w g C l'):e=C:=by obtain⟨f,M,_⟩:=h;obtain⟨f',J,_⟩:=F;simp_all
theorem Yh(h:Row w g e l){es:Array MapEntry}{F:Nat}(J:w.heap[g]? =some (.map es F)):False:=by obtain⟨f,C,_⟩:=h;rw[J] at C;cases C
theorem He(h:Row w g e l){a b c d}(F:w.heap[g]? =some (.mapIter a b c d)):False:=by obtain⟨f,C,_⟩:=h;rw[F] at C;cases C
structure TkS(w:World)(b r nm n half:Nat)(fv:Bs->Option Value)(d:Dir)(g:Nat)(todo:Bs->Bool)(vis:List Nat)(cnt:Nat)(wr:World):Prop where
 rg:YJ wr b r nm fv todo cnt
 used:Row wr g 4 (WR n (2*half) vis)
 bel:Below w.heap.size w wr
 gge:w.heap.size<=g
 rge:w.heap.size<=r
theorem TkS.fr{w':World}(h:TkS w b r nm n half fv d g todo vis cnt wr)(C:Below wr.heap.size wr w'):TkS w b r nm n half fv d g todo vis cnt w':=by exact⟨h.rg.after C,h.used.after C,h.bel.trans (C.mono h.bel.size),h.gge,h.rge⟩
theorem TkS.mark(h:TkS w b r nm n half fv d g todo vis cnt wr)(k:Nat)(J:k<n):TkS w b r nm n half fv d g todo (vis++[k]) cnt (wr.setCell ⟨g,k,none⟩ (.bool true)):=by
 have hc:=h.rg;have F:Fr [g] wr (wr.setCell ⟨g,k,none⟩ (.bool true)):=(Fr.refl _ _).setCell (Or.inl (by simp)) _;obtain⟨es,O,hm⟩:=hc.owns.block;obtain⟨U,Z,x3,x4,hi⟩:=hc.iter;have C:b∉[g]:=by rw[Z58];rintro rfl;exact Yh h.used hm
 have M:r∉[g]:=by rw[Z58];rintro rfl;exact He h.used hi
 refine⟨hc.fr F C M,?_,h.bel.setCell h.gge _,h.gge,h.rge⟩;rw[<-VH n _ vis k J];exact h.used.set k _
theorem DH(rs:List (Nat×Nat))(h:∀r∈rs,1<=r.2):rs.length<=(rs.flatMap λr=>List.range' r.1 r.2).length:=by
 induction rs with
 |nil=>simp
 |cons x l ih=>grind
theorem JM(rs:List (Nat×Nat))(q:Nat)(h:q<rs.length):Zb (rs.take (q+1))=Zb (rs.take q)++List.range' (rs.getD q (0,0)).1 (rs.getD q (0,0)).2:=by unfold Zb;rw[Z5f h,Z59,Z5a h,List.flatMap_append];simp
theorem Au(rs:List (Nat×Nat))(q:Nat):∃z,Zb rs=Zb (rs.take q)++z:=by refine⟨Zb (rs.drop q),?_⟩;unfold Zb;rw[<-List.flatMap_append,Z5z]
theorem Z3N{rs:List (Nat×Nat)}(h:(Zb rs).Nodup)(q t:Nat)(C:q<rs.length)(J:t<(rs.getD q (0,0)).2):(rs.getD q (0,0)).1+t∉Zb (rs.take q)++List.range' (rs.getD q (0,0)).1 t/\(rs.getD q (0,0)).1+t∈Zb rs:=by obtain⟨z,F⟩:=Au rs (q+1);rw[JM rs q C] at F;grind
theorem CW(B p d n:Nat)(P:Pw)(D:Dk)(L:List Nat)(s half b nm:Nat)(dir:Dir)(w:World)(h:PD B w p d n P D L)(hs0:w.cell? ⟨s,0,none⟩=some (.pointer (some ⟨d,0,none⟩)))(fj:w.cell? ⟨s,2,none⟩=some (.int .i64 half))(df:ZE w b nm dir)(er:Dir.Ok n half dir)(h2:2*half<=n):Calls prog 94 #[.pointer (some ⟨s,0,none⟩),.map (some b)] w λe w'=>∃uv,e=.returned (.tuple #[uv,.bool true])/\Ao w' uv (Q6 n half dir)/\Below w.heap.size w w':=by
 obtain⟨i0,hi,ey,ez,fa⟩:=info_parts Lq;have hn:=h.ok.n2;have ct:=λW=>Ld i0 hi ey ez fa n (by omega) W;have fm:s<w.heap.size:=Z5b w _ fj;obtain⟨fv,hm,b7,b9⟩:=df;obtain⟨gh,v,_,hd⟩:=h.dk;have HK:=Z5F h.ok.len;have HD:=Z5F hd;have HM:=Z5K hm b7 b9;have HO:=Z5F er;clear h hd hm b7 b9 er hi ey ez fa;go_enter func94,ntmps94;go_wp2_with (go_at_call 138;refine(Ys p d gh v D n _ HD.out HK.out hn).mono ?_;rintro e w' ⟨rfl,rfl⟩);go_loopw [7,24] (λ_ C wr=>∃k:Nat,k<=2*half/\C=.int .i64 k/\Row wr w.heap.size 4 (WR n k [])/\Below w.heap.size w wr) (λ_ C _=>2*half- (intOf C).toNat)
 case atStart=>exact⟨0,by omega,rfl,by rw[<-TA];exact Row.new w _ _,Z5E.alloc Z5D _⟩
 case round=>
  obtain⟨k,hk,rfl,U,hb⟩:=hrel;by_cases O:k<2*half
  .have cr:=U.free (j:=k) (by rw[Yu];omega);have aw:=U.cell (Ji n k [] k (by omega));have k1:(k:Int)<(n:Int):=(by omega);have k2:k<n:=(by omega);have HR:=Z5J U hb;clear U hb ct;go_wp2;go_roundw
   case rel=>exact⟨k+1,by omega,by go_num,by rw[<-VI n k [] (by omega)];exact HR.out.1.set k _,HR.out.2.setCell Z5D _⟩
   case measure=>simp[intOf];omega
  .obtain rfl:k=2*half:=(by omega);rw[show((2*half:Nat):Int)=2*(half:Int) from by omega];have HR:=Z5J U hb;have hz:=hb.size;have ef:ZA wr b nm fv:=HM.out.1.fr (Fr.of_below (L:=[]) hb) (by simp);clear U hb ct;go_wp2_with (at_range;refine C2 _ rfl _ 155 rfl 164 underlying155 b nm fv rfl ef ?_;intro w1 cnt cu dc dp);have T0:TkS w b wr.heap.size nm n half fv dir w.heap.size (λk=>(fv k).isSome) [] cnt w1:=
    ⟨cu,HR.out.1.after dc,HR.out.2.trans (dc.mono hz),Z5D,hz⟩
   have cw:∀k,(fv k).isSome=true->dir.get k≠none:=λk hk he=>by rw[HM.out.2.1 k he] at hk;cases hk
   have bf:∀i,i∈([]:List Nat)↔∃x∈dir,(fv x.1).isSome=false/\i∈x.2.secs:=λi=>by
    constructor
    .intro h;cases h
    .rintro⟨x,hx,J,_⟩;obtain⟨u,hu,_⟩:=HM.out.2.2 x.1 x.2 (Dir.mem_get HO.out.sorted hx);rw[hu] at J;cases J
   have bu:=Z5K T0 cw bf;obtain⟨r,hr⟩:=Z5H wr.heap.size;rw[hr] at bu⊢;obtain⟨g,hg⟩:=Z5H w.heap.size;have HG:=Z5F hg;rw[hg] at bu;clear T0 cw bf cu dc dp hr ef hz;rw[hg];clear hg;go_frame;go_loopw [9] (λ_ wq=>∃ (todo:Bs->Bool) (vis:List Nat) (ak:Nat),TkS w b r nm n half fv dir g todo vis ak wq/\(∀k,todo k=true->dir.get k≠none)/\∀i,i∈vis↔∃x∈dir,todo x.1=false/\i∈x.2.secs) (λ_ wq=>wq.rangeLeft b r)
   case atStart=>exact⟨_,_,_,bu.out.1,bu.out.2.1,bu.out.2.2⟩
   case round=>
    obtain⟨todo,vis,ak,hS,ew,cz⟩:=hrel;have ag:=hS.rg;have F:=Z5K hS ew cz;have ae:World.rangeLeft _ b r=ak:=ag.left_eq;have fe:=Z5F ae;clear hS ew cz ae;go_wp2_with (at_next;refine C1 _ rfl _ rfl b r nm fv todo ak rfl ag ?_ ?_)
    .intro az
     have cn:Ao _ (.slice (some ⟨g,0,none⟩) n n) (Q6 n half dir):=⟨g,by simp[Q6],by
      rw[<-Tz n half dir vis (λi=>by
       rw[F.out.2.2 i];unfold Dir.secs;rw[List.mem_flatMap]
       exact⟨λ⟨x,hx,_,hi⟩=>⟨x,hx,hi⟩,λ⟨x,hx,hi⟩=>⟨x,hx,az _,hi⟩⟩)]
      exact F.out.1.used⟩
     have HF:=Z5J cn F.out.1.bel;clear az cn ag;go_wp2;go_ret2;exact⟨_,rfl,HF.out.1,HF.out.2⟩
    .intro k v w2 al fh dq ee cu O dj gj fu;obtain⟨e,he⟩:∃e,dir.get k=some e:=by
      cases fg:dir.get k with
      |none=>exact absurd fg (F.out.2.1 k dq)
      |some e=>exact⟨e,rfl⟩
     obtain⟨v',dt,ff⟩:=HM.out.2.2 k e he;rw[ee] at dt;obtain rfl:=Option.some.inj dt;obtain⟨a,len,cap,rfl,⟨hlen,b8⟩, -⟩:=ff;have ai:=Dir.get_some_mem he;have eu:r≠g:=by rintro rfl;obtain⟨x1,x2,x3,x4,hi⟩:=ag.iter;exact He F.out.1.used hi
     have de:Below w.heap.size w w2:=F.out.1.bel.trans (dj.below F.out.1.bel.size (by simp;exact F.out.1.rge));have T1:TkS w b r nm n half fv dir g (λm=>todo m&& !decide (m=k)) vis al w2:=⟨cu,F.out.1.used.fr dj (by grind),de,F.out.1.gge,F.out.1.rge⟩;have cj:∀q,q<e.runs.length->∃gr,a=some ⟨gr,0,none⟩/\∀W,Below w.heap.size w W->W.cell? ⟨gr,q*2,none⟩=some (.int .i64 ((e.runs.getD q (0,0)).1:Int))/\W.cell? ⟨gr,q*2+1,none⟩=some (.int .i64 ((e.runs.getD q (0,0)).2:Int)):=by
      intro q hq;rcases b8 with h0|⟨gr,sp,ha,U⟩
      .rw[h0] at hq;cases hq
      .refine⟨gr,ha,λW hW=> ?_⟩;have h1:=U.after hW;obtain⟨g1,g2⟩:=AF e.runs q hq;have hl:=Wq e.runs;exact⟨h1.cell (by rw[Z5c (by omega),Nat.mul_comm];exact g1),h1.cell (by rw[Z5c (by omega),Nat.mul_comm];exact g2)⟩
     have aq:Ent.Ok n half e:=HO.out.ent _ ai;have ah:=aq.many;have ek:(Zb e.runs).Nodup:=Ly HO.out.apart ai;have dy:∀i,i∈Zb e.runs->i∉vis:=λi hi hv=>by obtain⟨x,hx,J,ft⟩:=(F.out.2.2 i).1 hv;refine Ko HO.out.apart HO.out.sorted hx ai ?_ ft hi;rintro e1;simp only at e1;rw[e1,dq] at J;cases J
     have fw:e.runs.length<=100000:=by have:=aq.secs;have h3:=aq.size;have h4:e.runs.length<=e.secs.length:=DH e.runs (λr hr=>(ah r hr).1);unfold ZJ at this;omega
     have HT:=Z5K T1 O ai;have HE:=Z5L cj ah ek dy;have fo:=de.size;clear T1 cj ah ek dy aq b8 ee he dt cu dj ag dq fh O ai de;subst hlen;go_wp2;have T3:=HT.out.1.fr ((Below.refl w2.heap.size w2).alloc Z5D (Obj.cells #[Value.int IntKind.i64 ↑e.size,Value.int IntKind.u32 ↑e.sum,Value.slice a e.runs.length cap] 164));have du:=Z5F T3;clear T3;obtain⟨af,bj⟩:=Z5H (λm=>todo m&& !decide (m=k));have dx:=Z5F bj;rw[bj] at du HT;clear bj;go_loopw [40] (λC Z=>∃q:Nat,q<=e.runs.length/\C=.int .i64 q/\TkS w b r nm n half fv dir g af (vis++Zb (e.runs.take q)) al Z) (λC _=>e.runs.length- (intOf C).toNat)
     case atStart=>exact⟨0,by omega,rfl,by simpa[Zb] using du.out⟩
     case round=>
      obtain⟨q,hq,rfl,bz⟩:=hrel;obtain⟨Z,fq⟩:∃Z:World,Z=wr:=⟨_,rfl⟩;subst fq;have HQ:=Z5F bz;by_cases O:q<e.runs.length
      .obtain⟨gr,rfl,cj⟩:=HE.out.1 q O;obtain⟨c1,c2⟩:=cj _ bz.bel;obtain⟨f,J⟩:=Z5H (e.runs.getD q (0,0)).1;obtain⟨m,hm⟩:=Z5H (e.runs.getD q (0,0)).2;have eh:=HE.out.2.1 (e.runs.getD q (0,0)) (by rw[Z59,Z5a O];exact Z5r O);have bh:=λt ht=>Z3N HE.out.2.2.1 q t O ht;have dh:=JM e.runs q O;rw[J,hm] at eh bh dh;rw[J] at c1;rw[hm] at c2;have ia:=bz.bel.size;have HN:=Z5J bh dh;clear bh dh cj J hm;obtain⟨m1,m2,m3⟩:=eh;go_wp2;obtain⟨x,hx⟩:=Z5H Z.heap.size;have T4:=HQ.out.fr ((Below.refl Z.heap.size Z).alloc Z5D (Obj.cells #[Value.int IntKind.i64 ↑f,Value.int IntKind.i64 ↑m] 197));have aj:=Row.new Z 197 [.int .i64 (f:Int),.int .i64 (m:Int)];rw[hx] at aj;have dw:=Z5J T4 aj;have HX:=Z5F hx;rw[hx];clear T4 aj hx c1 c2;go_loopw [12] (λC wj=>∃t:Nat,t<=m/\C=.int .i64 ((f+t:Nat):Int)/\TkS w b r nm n half fv dir g af (vis++(Zb (e.runs.take q)++List.range' f t)) al wj/\Row wj x 197 [.int .i64 (f:Int),.int .i64 (m:Int)]) (λC _=>f+m- (intOf C).toNat)
       case atStart=>exact⟨0,by omega,by simp,by simpa using dw.out.1,dw.out.2⟩
       case round=>
        obtain⟨t,ht,rfl,bg,bq⟩:=hrel;have x0:=bq.cell (j:=0) rfl;have x1:=bq.cell (j:=1) rfl;by_cases fp:t<m
        .obtain⟨C,dm⟩:=Z5H (f+t);obtain⟨au,bm⟩:=HN.out.1 t fp;rw[dm] at au bm⊢;have eo:=HE.out.2.2.2 C bm;have ct:(decide (C<2*half)||(vis++(Zb (e.runs.take q)++List.range' f t)).contains C)=false:=by have h1:¬C<2*half:=(by omega);simp only[h1,decide_false,Bool.false_or];rw[List.contains_eq_mem];simp only[decide_eq_false_iff_not,Z5p,not_or] at au⊢;exact⟨eo,au⟩
         have aw:=bg.used.cell (Ji n (2*half) (vis++(Zb (e.runs.take q)++List.range' f t)) C (by omega));rw[ct] at aw;have cr:=bg.used.free (j:=C) (by rw[Yu];omega);have k1:(C:Int)<(n:Int):=(by omega);have k2:C<n:=(by omega);have k3:(C:Int)<(f:Int)+(m:Int):=(by omega);have fi:x≠g:=λe1=>by have:=Yz bq (by rw[e1];exact bg.used);revert this;decide
         have M:=Z5L bg bq dm fi;clear bg bq dm ct eo au bm;go_wp2;go_roundw
         case rel=>
          refine⟨t+1,by omega,?_,?_,?_⟩
          .rw[<-M.out.2.2.1];go_num
          .have:=M.out.1.mark C k2;rw[Z5g,Z5g,<-M.out.2.2.1,<-List.range'_1_concat,M.out.2.2.1] at this;exact this
          .exact M.out.2.1.other M.out.2.2.2 _
         case measure=>have:=M.out.2.2.1;simp[intOf];omega
        .obtain rfl:t=m:=(by omega);have k3:¬ ((f+t:Nat):Int)<(f:Int)+(t:Int):=(by omega);have M:=Z5F bg;clear bg bq;go_wp2;go_roundw
         case rel=>exact⟨q+1,by omega,by go_num,by rw[HN.out.2];exact M.out⟩
         case measure=>simp[intOf];omega
      .obtain rfl:q=e.runs.length:=(by omega);have ae:=bz.rg.left_eq;have fc:=Z5F ae;clear bz ae;go_wp2;go_roundw
       case rel=>
        have h5:=HQ.out;rw[Z5A] at h5;refine⟨af,vis++Zb e.runs,al,h5,?_,?_⟩
        .intro m hm;rw[<-dx.out] at hm;simp only[Bool.and_eq_true] at hm;exact F.out.2.1 m hm.1
        .intro i;rw[Z5p,F.out.2.2 i,<-dx.out];constructor
         .rintro(⟨x,hx,J,hi⟩|hi)
          .exact⟨x,hx,by simp[J],hi⟩
          .exact⟨(k,e),HT.out.2.2,by simp,hi⟩
         .rintro⟨x,hx,J,hi⟩;by_cases hk:x.1=k
          .right;have h1:=Dir.mem_get HO.out.sorted hx;have h2:dir.get k=some e:=Dir.mem_get HO.out.sorted HT.out.2.2;rw[hk,h2] at h1;rw[Option.some.inj h1];exact hi
          .left;have dz:(todo x.1&& !decide (x.1=k))=false:=J;rw[decide_eq_false hk,Bool.not_false,Bool.and_true] at dz;exact⟨x,hx,dz,hi⟩
       case measure=>rw[fc.out,fe.out];exact HT.out.2.1
end
section
open Go.RowKit Go.Maps Go.WideMaps
variable{b n:Nat}{w:World}
theorem ZA.tight{f:Bs->Option Value}(h:ZA w b n f)(l:List Bs)(hl:∀k,(f k).isSome=true->k∈l):ZA w b l.length f:=by
 obtain⟨D,⟨es,O,hb,F,hs,rfl⟩,ht⟩:=h;refine⟨_,⟨es,O,hb,F,?_,rfl⟩,ht⟩;have ae:∀p∈es.toList.map (WideElems.rg prog 9 Xl),∃k:Bs,p.1=.string k/\k∈l:=by intro p J;obtain⟨x,hx,rfl⟩:=List.mem_map.1 J;obtain⟨y,C⟩:=F.reads x hx;have hk:=WideElems.rd_key C;rw[WideElems.rg_of C];obtain⟨s,e1,e2,e3⟩:=string_of_keyOf underlying9 hk;refine⟨s.data.toList,e2,hl _ ?_⟩;rw[<-(ht _).1,has_eq,List.any_eq_true];exact⟨y,mem_sorted.2 (List.mem_map.2 ⟨x,hx,WideElems.rg_of C⟩),by rw[e2,Z2I];simp⟩
 have M:=F.apart (string_law underlying9);obtain⟨g,hg⟩:∃g:Lit×DataW Value->Bs,g=λp=>match p.1 with|.string k=>k|_=>[]:=⟨_,rfl⟩
 have U:((es.toList.map (WideElems.rg prog 9 Xl)).map g).Nodup:=by unfold List.Nodup;rw[List.pairwise_map];refine List.Pairwise.imp_of_mem (fun{p q} J hq hne=> ?_) M;grind
 have Z:∀k,k∈(es.toList.map (WideElems.rg prog 9 Xl)).map g->k∈l:=by grind
 have:=U.length_le_of_subset Z;simp_all
theorem ZE.tight{d:Dir}(h:ZE w b n d):ZE w b d.length d:=by obtain⟨J,M,C,O⟩:=h;refine⟨J,?_,C,O⟩;have:=M.tight d.names (λk F=>Qy.2 (λe=>by rw[C k e] at F;cases F));rwa[show d.names.length=d.length from Z5i ..] at this
def AcV(a:Ac):Value:=.agg #[.int .i64 (a.kind:Int),.string (str a.name),.string (str a.to),.string (str a.value)]
theorem Bo(s:ByteArray)(hs:s.size<=1000000)(h:1<=s.size)(C:s.size<=220)(w:World):Calls prog 128 #[.string s] w λe w'=>e=.returned (.bool true)/\w=w':=by
 have d2:decide ((s.size:Int)<=220)=true:=by grind
 go_enter func128,ntmps128;go_wp2;go_ret;simp
theorem Z3T(N V:ByteArray)(h:1<=N.size)(C:N.size<=220)(F:V.size<=12000)(w:World):Calls prog 84 #[.agg #[.int .i64 1,.string N,.string ⟨#[]⟩,.string V]] w λe w'=>e=.returned (.bool false)/\Below w.heap.size w w':=by go_enter func84,ntmps84;go_wp2_with (go_at_call 128;refine(Bo N (by omega) h C _).mono ?_;rintro e w' ⟨rfl,rfl⟩);go_ret;refine⟨?_,Z5E.alloc Z5D _⟩;rw[decide_eq_false (by omega)];rfl
theorem Z3U(N:ByteArray)(h:1<=N.size)(C:N.size<=220)(w:World):Calls prog 84 #[.agg #[.int .i64 2,.string N,.string ⟨#[]⟩,.string ⟨#[]⟩]] w λe w'=>e=.returned (.bool false)/\Below w.heap.size w w':=by go_enter func84,ntmps84;go_wp2_with (go_at_call 128;refine(Bo N (by omega) h C _).mono ?_;rintro e w' ⟨rfl,rfl⟩);go_ret;exact⟨rfl,Z5E.alloc Z5D _⟩
theorem Z3V(N T:ByteArray)(C:1<=N.size)(F:N.size<=220)(t1:1<=T.size)(t2:T.size<=220)(w:World):Calls prog 84 #[.agg #[.int .i64 3,.string N,.string T,.string ⟨#[]⟩]] w λe w'=>e=.returned (.bool false)/\Below w.heap.size w w':=by have h:=Z5F True.intro;go_enter func84,ntmps84;go_wp2_with (first|(go_at_call 128;clear h;refine(Bo T (by omega) t1 t2 _).mono ?_;rintro e w' ⟨rfl,rfl⟩)|(go_at_call 128;refine(Bo N (by omega) C F _).mono ?_;rintro e w' ⟨rfl,rfl⟩));go_ret;exact⟨rfl,Z5E.alloc Z5D _⟩
theorem Ui(a:Ac)(h:a.wrong=false)(w:World):Calls prog 84 #[AcV a] w λe w'=>e=.returned (.bool false)/\Below w.heap.size w w':=by
 obtain⟨kind,name,J,value⟩:=a;unfold Ac.wrong at h;split at h
 .rename_i e;subst e;simp at h;obtain⟨⟨⟨C,F⟩,rfl⟩,h3,h4⟩:=h;exact Z3V (str name) (str J) (by rw[Z5];omega) (by rw[Z5];omega) (by rw[Z5];omega) (by rw[Z5];omega) w
 .split at h
  .rename_i _ e;subst e;simp at h;obtain⟨⟨rfl,C,F⟩,rfl⟩:=h;exact Z3U (str name) (by rw[Z5];omega) (by rw[Z5];omega) w
  .split at h
   .rename_i _ _ e;subst e;simp at h;obtain⟨⟨⟨C,F⟩,rfl⟩,h3⟩:=h;exact Z3T (str name) (str value) (by rw[Z5];omega) (by rw[Z5];omega) (by rw[Z5];omega) w
   .grind
def CI(used:List Bool)(k:Nat):Nat:=((List.range k).filter λi=> !used.getD i true).length
theorem Tl(used:List Bool)(k:Nat):CI used (k+1)=CI used k+if used.getD k true=false then 1 else 0:=by unfold CI;rw[List.range_succ,List.filter_append,Z5d];grind
theorem Z12(used:List Bool)(k:Nat):CI used k<=k:=by unfold CI;exact Z5w (List.length_filter_le _ _) (by simp)
theorem Z04(s:Nat)(uv:Value)(used:List Bool)(w:World)(h4:w.cell? ⟨s,4,none⟩=some uv)(h5:w.cell? ⟨s,5,none⟩=some (.bool false))(hu:Ao w uv used)(hn:used.length<=100000):Calls prog 88 #[.pointer (some ⟨s,0,none⟩)] w λe w'=>e=.returned (.int .i64 ((Wu used).length:Nat))/\w=w':=by
 obtain⟨g,rfl,J⟩:=hu
 have M:∀k,k<used.length->w.cell? ⟨g,k,none⟩=some (.bool (used.getD k true)):=λk F=>J.cell (by
  rw[List.getElem?_map,Z5a F,Z59,Z5a F];rfl)
 have Z:=Z5F M;clear M J;go_enter func88,ntmps88;go_wp2;go_loop [3,11] (λz i=>∃k:Nat,k<=used.length/\i=.int .i64 k/\z=.int .i64 (CI used k:Nat)) (λ_ i=>used.length- (intOf i).toNat)
 case atStart=>exact⟨0,by omega,rfl,rfl⟩
 case round=>
  obtain⟨k,F,rfl,rfl⟩:=hrel;by_cases U:k<used.length
  .have hc:=Z.out k U;have hf:=Z12 used k;have hs:=Tl used k;obtain⟨z,O⟩:=Z5H (CI used k);cases h:used.getD k true
   .rw[h] at hc;rw[h,if_pos rfl] at hs;have C:=Z5F hs;clear hs h O;go_wp2;go_round
    case measure=>simp[intOf];omega
    case rel=>exact⟨k+1,by omega,by go_num,by rw[C.out];go_num⟩
   .rw[h] at hc;rw[h,if_neg (by simp),Nat.add_zero] at hs;have C:=Z5F hs;clear hs h O;go_wp2;go_round
    case measure=>simp[intOf];omega
    case rel=>exact⟨k+1,by omega,by go_num,by rw[C.out];rfl⟩
  .obtain rfl:k=used.length:=(by omega);go_wp2;go_ret;exact⟨rfl,rfl⟩
end
section
open Go.RowKit Go.Maps Go.WideMaps Go.Sort
variable{base cap g n:Nat}{l:List Bs}{v:Value}{w w':World}
def Strs(w:World)(base:Nat)(v:Value)(l:List Bs):Prop:=w.ownsRow base 9 1 v l.length (Z7 (l.map str))
theorem Strs.nil(w:World)(base:Nat):Strs w base (.slice none 0 0) []:=World.ownsRow_nil _ _ _ _
theorem Strs.fr{L:List Nat}(h:Strs w base v l)(F:Fr L w w')(C:∀g,v.ownBlock=some g->g∉L):Strs w' base v l:=Qa h F C
theorem Strs.after(h:Strs w base v l)(C:Below w.heap.size w w'):Strs w' base v l:=h.fr (Fr.of_below (L:=[]) C) (by simp)
theorem Strs.ge(h:Strs w base v l):∀k,k∈ZG v->base<=k:=λk C=>Jj h (ZK.1 C)
theorem Strs.cells(h:Strs w base v l){g:Nat}(C:v.ownBlock=some g):∃cur fr,w.heap[g]? =some (.cells cur 9 fr):=by
 rcases h.2 with ⟨hv,_⟩|⟨F,cap,cur,hv,_,hh,_⟩
 .rw[hv] at C;cases C
 .rw[hv] at C;simp[Value.ownBlock] at C;simp_all
theorem YJ.own_fr{b r:Nat}{f:Bs->Option Value}{todo:Bs->Bool}{C:Nat}(h:YJ w b r n f todo C)(hs:Strs w base v l)(F:Fr (ZG v) w w'):YJ w' b r n f todo C:=by
 refine h.fr F (λhm=> ?_) (λhm=> ?_)
 .obtain⟨cur,fr,hc⟩:=hs.cells (ZK.1 hm);obtain⟨es,J,M⟩:=h.owns.block;simp_all
 .obtain⟨cur,fr,hc⟩:=hs.cells (ZK.1 hm);obtain⟨O,U,Z,x4,hi⟩:=h.iter;simp_all
theorem KC{ops:Array Oper}{rest:List Oper}{o:Oper}{a:Act}{Q:Exit->Act->World->Prop}(w:World)(Z:o.guard=none)(s x:Operand)(ho:o.op=.call {callee:=.builtin .append,args:= #[s,x],argTypes:= #[96,96]})(base:Nat)(v:Value)(l:List Bs)(hs:a.eval s=v)(h:Strs w base v l)(p:Nat)(t:Bs)(hx:a.eval x=.slice (some ⟨p,0,none⟩) 1 1)(hc:w.heap[p]? =some (.cells #[.string (str t)] 9 (0,0)))(U:base<=w.heap.size)(hl:l.length<=1000000)(hK:∀v' w',Strs w' base v' (l++[t])->Fr (ZG v) w w'->wpList prog ops Q rest (a.put o.dst v') w'):wpList prog ops Q (o::rest) a w:=by
 obtain⟨j0,C,F,J,M⟩:=info_parts XK;refine wpList_append_own w Z s x 96 ho base 9 j0 _ 1 16 underlying96 C F J M rfl (by omega) v l.length _ hs h ⟨p,0,none⟩ 1 1 [.string (str t)] hx rfl (World.news_of_block hc) (by simp[Value.oneCell']) (by unfold maxLen;omega) (by omega) U ?_;intro v' w' h1 O _;refine hK v' w' ?_ ((Fr.refl (ZG v) w).grown O (λk hk=>Or.inl (ZK.2 hk)));unfold Strs;have e:Z7 (l.map str++[str t])=Z7 (l.map str)++[.string (str t)]:=by simp[Z7]
 simp_all
theorem Strs.sorted{q:Nat}{l':List Bs}{os:Array Obj}(h:Strs w base (.slice (some ⟨g,0,none⟩) n cap) l)(hl:l'.length=l.length):Strs (grow (putRow encStr (Sort.ahead w q) g 0 l'.toArray) os) base (.slice (some ⟨g,0,none⟩) n cap) l'/\Fr [g] w (grow (putRow encStr (Sort.ahead w q) g 0 l'.toArray) os):=by
 rcases h.2 with ⟨hv,_⟩|⟨g',O,cur,hv,F,hh,h1,J,M,h4⟩
 .grind
 .simp at hv;obtain⟨rfl,rfl,rfl⟩:=hv;have U:g<w.heap.size:=by grind
  have C:(grow (putRow encStr (Sort.ahead w q) g 0 l'.toArray) os).heap[g]? =some (.cells (putCells encStr 0 l'.toArray cur) 9 (0,0)):=by rw[heap_grow_old _ _ (by simp_all)];show(w.heap.modify g (onCells (putCells encStr 0 l'.toArray)))[g]? =_;rw[Array.getElem?_modify,if_pos rfl,hh];rfl
  refine⟨⟨by simp[Z7],Or.inr ⟨g,cap,_,?_,F,C,by omega,J,?_,?_⟩⟩,?_⟩
  .grind
  .rw[<-M];simp[putCells]
  .apply List.ext_getElem?;intro i;rw[List.getElem?_take];by_cases hi:i<l'.length*1
   .rw[if_pos hi];have hc:i<cur.size:=(by omega);simp only[putCells,Array.getElem?_toList,Array.getElem?_mapIdx,Array.getElem?_eq_getElem hc,Option.map_some,Z7,List.getElem?_map];rw[if_pos ⟨by omega,by simp;omega⟩];have:l'[i]? =some (l'[i]'(by omega)):=(by simp);rw[this];congr 2;grind
   .rw[if_neg hi,List.getElem?_eq_none (by simp[Z7];omega)]
  .refine⟨rfl,rfl,rfl,?_,λk hk Z=> ?_⟩
   .simp
   .rw[heap_grow_old _ _ (by simp_all)];show(w.heap.modify g (onCells (putCells encStr 0 l'.toArray)))[k]? =_;grind
theorem Strs.holds(h:Strs w base (.slice (some ⟨g,0,none⟩) n cap) l):Holds encStr w g 0 l.toArray/\g<w.heap.size/\n=l.length/\l.length<=cap:=by
 rcases h.2 with ⟨hv,_⟩|⟨U,M,cur,hv,O,hh,F,Z,h3,J⟩
 .grind
 .simp at hv;obtain⟨rfl,rfl,rfl⟩:=hv;refine⟨λj hj=> ?_,(Z5l.1 hh).1,rfl,F⟩;have C:j<l.length:=by omega
  have e:cur[j]? =some (encStr (l.toArray[j]!)):=by have:=congrArg (λx=>x[j]?) J;simp only[List.getElem?_take,if_pos (show j<l.length*1 by omega),Z7,Array.getElem?_toList] at this;rw[this];simp[str,C]
  exact⟨by simp[World.cell?,hh,e],by simp[World.frozen?,hh]⟩
theorem NT{d:Dir}(hs:d.Sorted){l:List Bs}(C:l.Nodup)(hl:∀k,k∈l↔d.get k≠none):(l.mergeSort λx y=>decide (x<=y))=d.names:=by have F:l.Perm d.names:=(List.perm_ext_iff_of_nodup C (Dir.names_nodup hs)).2 (λk=>by rw[hl,Qy]);rw[mergeSort_of_perm F];refine List.mergeSort_of_pairwise ?_;unfold Dir.names;rw[List.pairwise_map];refine hs.imp fun{a b} h=> ?_;grind
end
section
open Go.RowKit Go.Maps Go.WideMaps
variable{b cnt n r:Nat}{f:Bs->Option Value}{l:List Bs}{todo:Bs->Bool}{v:Value}{w w2 wr:World}
structure Met(w:World)(b r n:Nat)(f:Bs->Option Value)(todo:Bs->Bool)(cnt:Nat)(v:Value)(l:List Bs)(wr:World):Prop where
 rg:YJ wr b r n f todo cnt
 own:Strs wr w.heap.size v l
 below:Below w.heap.size w wr
 rge:w.heap.size<=r
 nodup:l.Nodup
 mem:∀k,k∈l↔(f k).isSome=true/\todo k=false
theorem Met.own2{F:World}(h:Met w b r n f todo cnt v l wr)(C:Fr [r] wr w2)(J:Below w2.heap.size w2 F):Strs F w.heap.size v l/\Below w.heap.size w F:=by
 have M:∀g,v.ownBlock=some g->g∉[r]:=λg O hm=>by obtain⟨cur,fr,hc⟩:=h.own.cells O;obtain⟨U,Z,x3,x4,hi⟩:=h.rg.iter;simp_all
 exact⟨(h.own.fr C M).after J,(h.below.trans (C.below h.below.size (by simp;exact h.rge))).trans (J.mono (Z5w h.below.size C.size))⟩
theorem Met.next{F:Nat}{v':Value}{w3:World}{k:Bs}{x:Value}(h:Met w b r n f todo cnt v l wr)(af:todo k=true)(ae:f k=some x)(Z:YJ w2 b r n f (λm=>todo m&& !decide (m=k)) F)(U:Fr [r] wr w2){O:World}(J:Below w2.heap.size w2 O)(hs:Strs w3 w.heap.size v' (l++[k]))(M:Fr (ZG v) O w3):Met w b r n f (λm=>todo m&& !decide (m=k)) F v' (l++[k]) w3:=by
 obtain⟨own2,C⟩:=h.own2 U J;refine⟨(Z.after J).own_fr own2 M,hs,C.trans (M.below C.size (λi hi=>own2.ge i hi)),h.rge,?_,λm=> ?_⟩
 .refine List.nodup_append.2 ⟨h.nodup,by simp,λa ha c hc e=> ?_⟩;have:=((h.mem a).1 ha).2;simp_all
 .rw[Z5p,Z58,h.mem m];grind
theorem Met.few(h:Met w b r n f todo cnt v l wr)(C:List Bs)(hl:∀k,(f k).isSome=true->k∈C):l.length<=C.length:=h.nodup.length_le_of_subset (λk F=>hl k ((h.mem k).1 F).1)
theorem EH(b nm:Nat)(dir:Dir)(w:World)(h:ZE w b nm dir)(hs:dir.Sorted)(bz:dir.length<=100000):Calls prog 132 #[.map (some b)] w λe w'=>∃v,e=.returned v/\Strs w' w.heap.size v dir.names/\Below w.heap.size w w':=by
 obtain⟨C,hm,ag,ah⟩:=h;have ai:∀k,(C k).isSome=true->k∈dir.names:=λk M=>Qy.2 (λe=>by rw[ag k e] at M;cases M)
 have aj:∀k,(C k).isSome=true↔dir.get k≠none:=λk=>⟨λM=>Qy.1 (ai k M),λM=>by
  cases hg:dir.get k with
  |none=>exact absurd hg M
  |some e=>obtain⟨v,hv,_⟩:=ah k e hg;rw[hv];rfl⟩
 have bu:dir.names.length=dir.length:=Z5i ..;have HM:=Z5L aj ai hs bu;go_enter func132,ntmps132;go_wp2_with (at_range;refine C2 _ rfl _ 155 rfl 164 underlying155 b nm C rfl hm ?_;intro w1 cnt Z bh cn);have M0:Met w b w.heap.size nm C (λk=>(C k).isSome) cnt (.slice none 0 0) [] w1:=⟨Z,Strs.nil _ _,bh,Z5D,by simp,λk=>by cases C k<;>simp⟩;have au:=Z5F M0;obtain⟨r,hr⟩:=Z5H w.heap.size;rw[show Met w b w.heap.size nm C (λk=>(C k).isSome) cnt (.slice none 0 0) [] w1=Met w b r nm C (λk=>(C k).isSome) cnt (.slice none 0 0) [] w1 from by rw[hr]] at au;rw[show(Value.pointer (some ⟨w.heap.size,0,none⟩))=Value.pointer (some ⟨r,0,none⟩) from by rw[hr]];go_frame;go_loopw [3] (λv wq=>∃ (todo:Bs->Bool) (l:List Bs) (O:Nat),Met w b r nm C todo O v l wq) (λ_ wq=>wq.rangeLeft b r)
 case atStart=>exact⟨_,_,_,au.out⟩
 case round=>
  obtain⟨todo,l,O,hS⟩:=hrel;have ae:=hS.rg;have hlen:l.length<=100000:=Z5w (hS.few dir.names HM.out.2.1) (by rw[HM.out.2.2.2];exact bz);have F:=Z5F hS;have bf:Hid (World.rangeLeft _ b r=O):=Z5F ae.left_eq;go_wp2_with (at_next;refine C1 _ rfl _ rfl b r nm C todo O rfl ae ?_ ?_)
  .intro af;have ak:(l.mergeSort λx y=>decide (x<=y))=dir.names:=NT HM.out.2.2.1 F.out.nodup (λk=>by rw[F.out.mem k,af k,<-HM.out.1 k];simp);have HF:=Z5F ak;rcases F.out.own.2 with ⟨hv,h0⟩|⟨g,cap,cur,hv,_⟩
   .rw[hv];have bm:l=[]:=(by simp_all);go_wp2_with (go_at_call 98;refine(Tryz.slices_Sort_string_none none 0 _).mono ?_;rintro e w' ⟨rfl,rfl⟩);go_ret;refine⟨_,rfl,?_,F.out.below⟩;have:=HF.out;rw[bm] at this;rw[<-this];simpa using Strs.nil _ _
   .have ho:=F.out.own;rw[hv] at ho⊢;obtain⟨hH,U,_,_⟩:=ho.holds;have HO:=Z5F ho;go_wp2_with (go_at_call 98;refine(Tryz.slices_Sort_string g 0 cap l _ hH U (by omega)).mono ?_;rw[HF.out];rintro e w' ⟨rfl,q,os,rfl⟩);have bq:dir.names.length=l.length:=by rw[<-HF.out];exact(List.mergeSort_perm l _).length_eq
    obtain⟨s1,s2⟩:=HO.out.sorted (q:=q) (os:=os) bq;go_ret;refine⟨_,rfl,s1,F.out.below.trans (s2.below F.out.below.size (λi hi=> ?_))⟩;simp_all
  .intro k x w2 bg bj b9 b7 Z U al cj cr;have aw:∀o,Below w2.heap.size w2 (w2.alloc o):=λo=>(Below.refl _ w2).alloc Z5D o;have J:=Z5M b9 b7 Z al U;have ct:w.heap.size<=w2.heap.size:=Z5w F.out.below.size al.size;clear ae b9 b7 Z al U bj cj;go_wp2_with (at_builtin;refine KC _ rfl (.tmp 11) (.tmp 13) rfl w.heap.size _ l rfl (F.out.own2 J.out.2.2.2.1 (aw _)).1 w2.heap.size k rfl (heap_alloc_new w2 _) (by simp;omega) (by omega) ?_;intro v' w3 b8 az;have M3:=F.out.next J.out.1 J.out.2.1 J.out.2.2.1 J.out.2.2.2.1 (aw _) b8 az;have aq:=Z5F M3;clear M3 b8 az);go_roundw
   case rel=>exact⟨_,_,_,aq.out⟩
   case measure=>rw[aq.out.rg.left_eq,bf.out];exact J.out.2.2.2.2
end
section
open Go.RowKit Go.Maps Go.WideMaps
variable{B b eb:Nat}{l:Bs}{rv:Value}{sm sz:Int}{w w' wr:World}
theorem GA(n:Nat):s32 n=str (Z4 n):=rfl
structure TlS(w:World)(B b eb:Nat)(l:Bs)(sz sm:Int)(rv:Value)(wr:World):Prop where
 bld:Bld wr B b l
 e0:wr.cell? ⟨eb,0,none⟩=some (.int .i64 sz)
 e1:wr.cell? ⟨eb,1,none⟩=some (.int .u32 sm)
 e2:wr.cell? ⟨eb,2,none⟩=some rv
 ebl:eb<wr.heap.size
 below:Below w.heap.size w wr
 lo:w.heap.size<=B
 lo2:B<=wr.heap.size
 ebB:eb<B
theorem TlS.after(h:TlS w B b eb l sz sm rv wr)(C:Below wr.heap.size wr w'):TlS w B b eb l sz sm rv w':=⟨h.bld.after C,(C.cell (p:=⟨eb,0,none⟩) h.ebl).trans h.e0,(C.cell (p:=⟨eb,1,none⟩) h.ebl).trans h.e1,(C.cell (p:=⟨eb,2,none⟩) h.ebl).trans h.e2,Z5v h.ebl C.size,h.below.trans (C.mono h.below.size),h.lo,Z5w h.lo2 C.size,h.ebB⟩
theorem TlS.wrote{l':Bs}(h:TlS w B b eb l sz sm rv wr)(F:Bld w' B b l')(C:Below B wr w'):TlS w B b eb l' sz sm rv w':=⟨F,(C.cell (p:=⟨eb,0,none⟩) h.ebB).trans h.e0,(C.cell (p:=⟨eb,1,none⟩) h.ebB).trans h.e1,(C.cell (p:=⟨eb,2,none⟩) h.ebB).trans h.e2,Z5v h.ebl C.size,h.below.trans (C.mono h.lo),h.lo,Z5w h.lo2 C.size,h.ebB⟩
theorem U6(rs:List (Nat×Nat))(k:Nat)(h:k<rs.length):Qr (rs.take (k+1))=Qr (rs.take k)++(Z4 (rs.getD k (0,0)).1++Z4 (rs.getD k (0,0)).2):=by unfold Qr;rw[Z5f h,List.flatMap_append,Z59,Z5a h];simp
theorem AK(rs:List (Nat×Nat)):(Qr rs).length=8*rs.length:=by
 unfold Qr
 induction rs with
 |nil=>rfl
 |cons x l ih=>rw[Z5s,Z5d,ih,Z5d,Zw,Zw,Z5h];omega
theorem EM(v:Value)(e:Ent)(w:World)(h:Xe w v e)(h1:e.size<=4294967295)(h2:e.sum<=4294967295)(h3:∀r∈e.runs,r.1<=4294967295/\r.2<=4294967295)(h4:e.runs.length<=100000):Calls prog 133 #[v] w λr w'=>r=.returned (.string (str e.tail))/\Below w.heap.size w w':=by
 obtain⟨a,len,cap,rfl,⟨hlen,ae⟩, -⟩:=h;subst hlen;have HR:=Z5J ae h3;clear ae h3;go_enter func133,ntmps133;go_wp2_with fail;obtain⟨w1,ah⟩:=Z5I (w.alloc (.cells #[.int .i64 e.size,.int .u32 e.sum,.slice a e.runs.length cap] 164));have bj:w1.heap.size=w.heap.size+1:=by rw[ah];simp
 have T0:TlS w (w.heap.size+1) (w.heap.size+1) w.heap.size [] e.size e.sum (.slice a e.runs.length cap) (w1.alloc (.cells #[.pointer none,.slice none 0 0] 258)):=by have hr:=Row.new w 164 [.int .i64 e.size,.int .u32 e.sum,.slice a e.runs.length cap];have ak:=hr.after ((Below.refl _ (w.alloc _)).alloc Z5D (.cells #[.pointer none,.slice none 0 0] 258));subst ah;exact⟨by rw[<-bj];exact Bld.new _,ak.cell (j:=0) rfl,ak.cell (j:=1) rfl,ak.cell (j:=2) rfl,by simp;omega,((Below.refl _ w).alloc Z5D _).alloc (by simp) _,by omega,by simp,by omega⟩
 rw[<-ah];clear ah;generalize w1.alloc (.cells #[.pointer none,.slice none 0 0] 258)=w2 at*
 have c0:=T0.e0;have c1:=T0.e1;have cat:∀W,(Op.stringOp .add (s32 e.size) (s32 e.sum)).run prog W=.ok (.string (s32 e.size++s32 e.sum)) W:=λW=>run_string_add_sum W _ _ (by rw[Y3,Y3];omega);have M:s32 e.size++s32 e.sum=str (Z4 e.size++Z4 e.sum):=by rw[GA,GA,Lg];rfl
 have O:(str (Z4 e.size++Z4 e.sum)).size<=100:=by rw[Z5];simp[Zw]
 rw[M] at cat;have az:=Z5F O;clear M O;clear c0 c1;have T1:=T0.after ((Below.refl _ w2).drew);have c0:=T1.e0;have c1:=T1.e1;clear T0;have bm:IntKind.i64.wrap (e.sum:Int)=(e.sum:Int):=Z5x _ (by omega);go_cut [] from 6 to 14 (λwx=>TlS w (w.heap.size+1) (w.heap.size+1) w.heap.size (Z4 e.size++Z4 e.sum) e.size e.sum (.slice a e.runs.length cap) wx)
 case first=>
  go_region_with (first|(go_at_call 189;refine(OF _ (by assumption) _).mono ?_;rintro e w3 ⟨rfl,F⟩;have T3:=TlS.after (w:=w) (by assumption) F;have c3:=T3.e0;have c4:=T3.e1;clear F)|(go_at_call 164;refine(Aq (w.heap.size+1) (w.heap.size+1) [] _ _ (TlS.bld (w:=w) (by assumption)) (by have:=az.out;simp;omega) (TlS.lo2 (w:=w) (by assumption))).mono ?_;rintro e w4 ⟨rfl,ai,aj⟩))
  all_goals have U:=TlS.wrote (w:=w) (by assumption) ai aj
  all_goals go_wp2_with fail
  all_goals go_meet
  all_goals (rw[List.nil_append,Zn] at U;exact U)
 case rest=>
  have T2:=hcut;have c2:=T2.e2;have au:=Z5F T2;clear hcut T2 cat bm T1 c0 c1;go_wp2_with fail;obtain⟨T,hT⟩:=Z5H (Z4 e.size++Z4 e.sum);have b8:=Z5F hT;have bh:T.length=8:=by rw[<-hT];rfl
  rw[hT] at au;clear hT;go_loopw [18] (λkk wr=>∃k:Nat,k<=e.runs.length/\kk=.int .i64 k/\TlS w (w.heap.size+1) (w.heap.size+1) w.heap.size (T++Qr (e.runs.take k)) e.size e.sum (.slice a e.runs.length cap) wr) (λkk _=>e.runs.length- (intOf kk).toNat)
  case atStart=>exact⟨0,by omega,rfl,by simpa[Qr] using au.out⟩
  case round=>
   obtain⟨k,hk,rfl,C⟩:=hrel;have HS:=Z5F C;by_cases J:k<e.runs.length
   .obtain⟨g,sp,rfl,af⟩:∃g sp,a=some ⟨g,0,none⟩/\Row w g 197 (Qp e.runs++sp):=by
     rcases HR.out.1 with h0|h0
     .rw[h0] at J;cases J
     .exact h0
    have al:=af.after C.below;obtain⟨g1,g2⟩:=AF e.runs k J;have hl:=Wq e.runs;have d1:=al.cell (j:=k*2) (by rw[Z5c (by omega),Nat.mul_comm];exact g1);have d2:=al.cell (j:=k*2+1) (by rw[Z5c (by omega),Nat.mul_comm];exact g2);obtain⟨m1,m2⟩:=HR.out.2 (e.runs.getD k (0,0)) (by rw[Z59,Z5a J];exact Z5r J);have Z:=U6 e.runs k J;obtain⟨f,hf⟩:=Z5H (e.runs.getD k (0,0)).1;obtain⟨m,hm⟩:=Z5H (e.runs.getD k (0,0)).2;rw[hf] at m1 d1 Z;rw[hm] at m2 d2 Z;have bg:(T++Qr (e.runs.take k)).length<=1000000:=by rw[Z5d,AK,bh,Z5j];omega
    obtain⟨q,hq⟩:=Z5H (T++Qr (e.runs.take k));rw[hq] at C HS bg;have HK:=Z5J Z hq;clear C af al g1 g2 hl hf hm Z hq;go_wp2_with fail;obtain⟨x,hx⟩:=Z5H wr.heap.size;have aq:=Row.new wr 197 [.int .i64 (f:Int),.int .i64 (m:Int)];have T5:=HS.out.after ((Below.refl wr.heap.size wr).alloc Z5D (.cells #[.int .i64 (f:Int),.int .i64 (m:Int)] 197));rw[hx] at aq⊢;generalize wr.alloc (.cells #[.int .i64 (f:Int),.int .i64 (m:Int)] 197)=w6 at*
    have T6:=T5.after ((Below.refl _ w6).drew);have ag:=aq.after ((Below.refl _ w6).drew);have c0:=ag.cell (j:=0) rfl;have c1:=ag.cell (j:=1) rfl;have cat:∀W,(Op.stringOp .add (s32 f) (s32 m)).run prog W=.ok (.string (s32 f++s32 m)) W:=λW=>run_string_add_sum W _ _ (by rw[Y3,Y3];omega);have M:s32 f++s32 m=str (Z4 f++Z4 m):=by rw[GA,GA,Lg];rfl
    have O:(str (Z4 f++Z4 m)).size<=100:=by rw[Z5];simp[Zw]
    rw[M] at cat;have b7:=Z5F O;clear M O T5 aq d1 d2 hx;go_region_with (first|(go_at_call 189;refine(OF _ (by assumption) _).mono ?_;rintro e w3 ⟨rfl,F⟩;have T3:=TlS.after (w:=w) (by assumption) F;have aw:=Row.after (g:=x) (by assumption) F;have c3:=aw.cell (j:=0) rfl;have c4:=aw.cell (j:=1) rfl;clear F)|(go_at_call 164;refine(Aq (w.heap.size+1) (w.heap.size+1) q _ _ (TlS.bld (w:=w) (by assumption)) (by have:=b7.out;omega) (TlS.lo2 (w:=w) (by assumption))).mono ?_;rintro e w4 ⟨rfl,ai,aj⟩))
    all_goals have U:=TlS.wrote (w:=w) (by assumption) ai aj
    all_goals go_wp2_with fail
    all_goals rw[Zn] at U
    all_goals go_roundw
    all_goals first
     |exact⟨k+1,by omega,by go_num,by rw[HK.out.1,<-Z5g,HK.out.2];exact U⟩
     |(simp[intOf];omega)
   .obtain rfl:k=e.runs.length:=(by omega);have hb:=C.bld;have bf:=C.lo2;rw[Z5A] at hb;clear C;go_wp2_with (go_at_call 165;refine(Df (w.heap.size+1) (w.heap.size+1) _ _ hb bf).mono ?_;rintro e w7 ⟨rfl,b9⟩);go_ret;refine⟨?_,HS.out.below.trans (b9.mono HS.out.lo)⟩;unfold Ent.tail;rw[b8.out];rfl
end
section
open Go.RowKit Go.Maps Go.WideMaps
variable{w:World}
theorem Rj(s:ByteArray)(hs:4<=s.size)(w:World):Calls prog 218 #[.string s] w λe w'=>e=.returned (.int .i64 (Yw s.data.toList:Int))/\∃q,w'=w.drewN q:=by
 have i0:0<s.size:=by omega
 have i1:(1:Int)<(s.size:Int):=by omega
 have i2:(2:Int)<(s.size:Int):=by omega
 have i3:(3:Int)<(s.size:Int):=by omega
 have hr:(Yw s.data.toList:Int)=(s[0].toNat:Int)*16777216+(s[1].toNat:Int)*65536+(s[2].toNat:Int)*256+(s[3].toNat:Int):=by
  have g:∀i (h:i<s.size),s.data.toList.getD i 0=s[i]:=by intro i h;have C:i<s.data.toList.length:=(by simp_all);rw[Z59,Z5a C];rfl
  unfold Yw;rw[g 0 (by omega),g 1 (by omega),g 2 (by omega),g 3 (by omega)];omega
 obtain⟨e1,e2,J,M,O,U,Z,e8,e9,F⟩:=Er s[0].toNat s[1].toNat s[2].toNat s[3].toNat s[0].toNat_lt s[1].toNat_lt s[2].toNat_lt s[3].toNat_lt;go_enter func218,ntmps218;go_wp2;go_quiet (fail);go_wp2;go_ret;exact⟨La (Cw (by omega)),_,rfl⟩
theorem Mh(s:ByteArray)(hs:4<=s.size)(w:World):Calls prog 218 #[.string s] w λe w'=>e=.returned (.int .i64 (Yw s.data.toList:Int))/\Below w.heap.size w w':=(Rj s hs w).mono λ_ _ ⟨he,q,hw⟩=>⟨he,by rw[hw];exact Zv Z5E q⟩
structure Yf(w:World)(s d:Nat)(S:Sto):Prop where
 mem:∃j b uv,Row w s 157 [.pointer (some ⟨d,0,none⟩),.pointer (some ⟨j,0,none⟩),.int .i64 S.half,.map (some b),uv,.bool false]/\JAt w j d S.j/\ZE w b S.dir.length S.dir/\Ao w uv S.used
theorem BW(B p d:Nat)(P:Pw)(D:Dk)(L:List Nat)(w:World)(h:PD B w p d 800 P D L):Calls prog 107 #[.pointer (some ⟨d,0,none⟩)] w λe w'=>∃s b,e=.returned (.tuple #[.pointer (some ⟨s,0,none⟩),.nilIface])/\Row w' s 157 [.pointer (some ⟨d,0,none⟩),.pointer none,.int .i64 100,.map (some b),.slice none 0 0,.bool false]/\ZE w' b 0 []/\w.heap.size<=s/\w.heap.size<=b/\Below w.heap.size w w':=by
 obtain⟨gh,v,_,J⟩:=h.dk;have hl:=h.ok.len;have mk:=λW=>run_makeMap_plain (P:=prog) W 155;go_enter func107,ntmps107;go_wp2_with (go_at_call 138;refine(Ys p d gh v D 800 _ J hl (by omega)).mono ?_;rintro e w' ⟨rfl,rfl⟩);go_ret2;have hm:=ZA.made w;have F:Below w.heap.size w (w.alloc (.map #[] 0)):=(Below.refl _ w).alloc Z5D _;have M:(w.alloc (.map #[] 0)).heap.size=w.heap.size+1:=by simp
 have C:=Row.new (w.alloc (.map #[] 0)) 157 [.pointer (some ⟨d,0,none⟩),.pointer none,.int .i64 100,.map (some w.heap.size),.slice none 0 0,.bool false];rw[M] at C;refine⟨_,w.heap.size,rfl,C,?_,by simp,Z5D,F.alloc (by simp) _⟩;exact⟨λ_=>none,hm.after (Z5E.alloc Z5D _),λ_ _=>rfl,λk e h=>by cases h⟩
def Uy(w:World)(v:Value)(rs:List (Nat×Nat)):Prop:=∃a cap,v=.slice a rs.length cap/\Fj w a rs.length rs
theorem I9:(prog.info? 197).map (λi=>(i.zero,i.size,i.bytes))=some (some (.agg #[.int .i64 0,.int .i64 0]),2,16):=by kernel_rfl
theorem A7{base:Nat}{e:TypeId}{v:Value}{n:Nat}{xs:List Value}(h:w.ownsRow base e 2 v n xs)(Z:v≠.slice none 0 0):∃g cap sp,v=.slice (some ⟨g,0,none⟩) n cap/\base<=g/\n<=cap/\cap<=maxLen/\Row w g e (xs++sp):=by
 rcases h.2 with ⟨U,_⟩|⟨g,cap,cur,hv,M,hh,C,F,O,J⟩
 .simp_all
 .refine⟨g,cap,cur.toList.drop (n*2),hv,M,C,F,Row.mk ?_⟩;rw[<-J,Z5z];omega
theorem TS(rs:List (Nat×Nat)):∀u∈Qp rs,u.oneCell'=true:=by intro u hu;obtain⟨r,_,hu⟩:=List.mem_flatMap.1 hu;simp at hu;rcases hu with rfl|rfl<;>rfl
theorem Ry(g cap:Nat)(rs:List (Nat×Nat))(sp:List Value)(w:World)(h:Row w g 197 (Qp rs++sp))(hn:rs.length<=1000000):Calls prog 142 #[.slice (some ⟨g,0,none⟩) rs.length cap] w λe w'=>∃v,e=.returned v/\Uy w' v rs/\Below w.heap.size w w':=by
 obtain⟨i0,hi,U,Z,ae⟩:=info_parts I9;have HR:=Z5F h;have hq:∀W,(binOp .eql 162 (.slice (some ⟨g,0,none⟩) rs.length cap) (.slice none 0 0)).run prog W=.ok (.bool false) W:=λW=>by rfl
 go_enter func142,ntmps142;go_wp2_with (at_builtin;refine wpList_append_own _ rfl (.tmp 5) (.tmp 6) 162 rfl w.heap.size 197 i0 _ 2 16 underlying162 hi U Z ae rfl (by omega) _ 0 [] rfl ⟨rfl,Or.inr ⟨w.heap.size,0,#[],rfl,Z5D,heap_alloc_new w _,Z5D,by simp,rfl,rfl⟩⟩ ⟨g,0,none⟩ rs.length cap (Qp rs) rfl (by rw[Wq];omega) (λj u hj=> ?_) (λu hu=> ?_) (by unfold maxLen;omega) (by omega) (by simp) ?_)
 .have C:=HR.out.after ((Below.refl _ w).alloc Z5D (.cells #[] 197));rw[show(⟨g,0,none⟩:Addr).add j=⟨g,j,none⟩ from by unfold Addr.add;split<;>simp_all];exact C.cell (by grind)
 .exact TS rs u hu
 .intro v' w' C h2 h3;have O:v'≠.slice none 0 0:=h3;have hb:Below w.heap.size w w':=Fr.nil_below ((((Fr.refl [] w).alloc _).grown h2 (λk J=>by simp[Value.ownBlock] at J;subst J;exact Or.inr Z5D)));obtain⟨F,M,af,hv,_,_,_,hr⟩:=A7 C O;subst hv;go_wp2;go_ret;exact⟨_,rfl,⟨some ⟨F,0,none⟩,M,rfl,rfl,Or.inr ⟨F,af,rfl,hr⟩⟩,hb⟩
theorem Aa(w:World):(zeroValue 164).run prog w=.ok (.agg #[.int .i64 0,.int .u32 0,.slice none 0 0]) w:=by kernel_rfl
theorem Yf.after{w':World}{s d:Nat}{S:Sto}(h:Yf w s d S)(C:Below w.heap.size w w'):Yf w' s d S:=by obtain⟨j,b,uv,F,J,M,g,hv,O⟩:=h;exact⟨j,b,uv,F.after C,J.after C,M.after C,g,hv,O.after C⟩
theorem Bm(s d:Nat)(S:Sto)(name:Bs)(e:Ent)(w:World)(h:Yf w s d S)(hn:name.length<=1000000)(hg:S.dir.get name=some e)(af:e.runs≠[])(O:e.runs.length<=1000000):Calls prog 97 #[.pointer (some ⟨s,0,none⟩),.string (str name)] w λr w'=>∃v,r=.returned (.tuple #[v,.nilIface])/\Uy w' v e.runs/\Below w.heap.size w w':=by
 obtain⟨j,b,uv,F,h2,⟨fv,m1,m2,m3⟩,h4⟩:=h;obtain⟨v,hv,a,len,cap,rfl,⟨hlen,hr⟩, -⟩:=m3 name e hg;have ae:=m1.look_some (t:=155) (e:=164) underlying155 (Aa w) (show name.length<=maxLen by unfold maxLen;omega) hv;obtain⟨g,sp,rfl,J⟩:∃g sp,a=some ⟨g,0,none⟩/\Row w g 197 (Qp e.runs++sp):=by simp_all
 have c3:=F.cell (j:=3) rfl;have c5:=F.cell (j:=5) rfl;have U:=Z5F J;go_enter func97,ntmps97;have M:Below w.heap.size w (w.alloc (.cells #[.int .i64 (e.size:Int),.int .u32 (e.sum:Int),.slice (some ⟨g,0,none⟩) e.runs.length cap] 164)):=(Below.refl _ w).alloc Z5D _;have C:=Z5F M;go_wp2_with (go_at_call 142;refine(Ry g cap e.runs sp _ (U.out.after C.out) O).mono ?_;rintro r w' ⟨v,rfl,hv,Z⟩);go_ret2;exact⟨_,rfl,hv,C.out.trans (Z.mono C.out.size)⟩
theorem Bl(s d:Nat)(S:Sto)(name:Bs)(w:World)(h:Yf w s d S)(hn:name.length<=1000000)(O:S.dir.get name=none):Calls prog 97 #[.pointer (some ⟨s,0,none⟩),.string (str name)] w λr w'=>∃b,r=.returned (.tuple #[.slice none 0 0,.iface 139 (.pointer (some ⟨b,0,none⟩))])/\Zk w' w.heap.size 13 (.iface 139 (.pointer (some ⟨b,0,none⟩)))/\Below w.heap.size w w':=by obtain⟨j,b,uv,F,h2,⟨fv,m1,m2,m3⟩,h4⟩:=h;have U:=m1.look_none (t:=155) (e:=164) underlying155 (Aa w) (show name.length<=maxLen by unfold maxLen;omega) (m2 name O);have c3:=F.cell (j:=3) rfl;have Z:=F.cell (j:=5) rfl;go_enter func97,ntmps97;have J:Below w.heap.size w (w.alloc (.cells #[.int .i64 0,.int .u32 0,.slice none 0 0] 164)):=(Below.refl _ w).alloc Z5D _;have C:=Z5F J;go_wp2_with (go_at_call 83;refine(EF 13 0 (by omega) _).mono ?_;rintro r w' ⟨bb,rfl,hv,M⟩);go_ret2;exact⟨_,rfl,hv.base (by simp),C.out.trans (M.mono C.out.size)⟩
end
section
open Go.RowKit
def QH(w w':World):Prop:=∀g et l,et≠258->et≠5->Row w g et l->Row w' g et l
theorem P7(B b:Nat)(bs:List Value)(w:World)(h:Lib.IsBuilder 258 5 B b bs w):Calls prog 229 #[.pointer (some ⟨b,0,none⟩)] w λe w'=>e=.returned (.tuple #[])/\(Lib.BuilderAt 258 5 B b (.pointer (some ⟨b,0,none⟩)) bs w'/\Below B w w'/\QH w w'):=by
 rcases h with h|h
 .refine(Ca b w h.cell0 h.shape h.frozen0).mono ?_;rintro e w' ⟨rfl,rfl⟩;refine⟨rfl,h.used _,(Below.refl B w).setCell (p:=⟨b,0,none⟩) h.1 _,λg F l J O C=>C.other (λe=>J ?_) _⟩;obtain⟨_,v,M,_⟩:=h;exact Yz C (by rw[e];exact Row.mk (l:=[_,_]) M)
 .refine(De b w h.cell0).mono ?_;rintro e w' ⟨rfl,rfl⟩;exact⟨rfl,h,Below.refl B _,λg F l _ _ C=>C⟩
theorem Pc(B b:Nat)(bs:List Value)(s:ByteArray)(w:World)(h:Lib.IsBuilder 258 5 B b bs w)(hlen:bs.length+s.size<=140737488355328)(aq:B<=w.heap.size):Calls prog 164 #[.pointer (some ⟨b,0,none⟩),.string s] w λe w'=>e=.returned (.tuple #[.int .i64 s.size,.nilIface])/\(Lib.BuilderAt 258 5 B b (.pointer (some ⟨b,0,none⟩)) (bs++Lib.strCells s) w'/\Below B w w'/\QH w w'):=by
 obtain⟨i0,hi,aj,ak,al⟩:=info_parts Xw;go_enter func164,ntmps164;go_wp2_with (go_at_call 229;refine(P7 B b bs _ h).mono ?_);rintro e w1 ⟨rfl,F,U,ag⟩;have ae:=Z5F ag;obtain⟨hB,v,af,M,ai⟩:=F;have c1:w1.cell? ⟨b,1,none⟩=some v:=by rw[Lib.cell_of_heap af];rfl
 go_wp2_with (at_builtin;refine Lib.wpList_append_own_string _ rfl _ _ 75 9 rfl B 5 i0 underlying75 underlying9 hi aj ak al _ _ _ rfl M s rfl ?c3 ?c4 ?c5 ?_)
 case c3=>unfold maxLen;omega
 case c4=>omega
 case c5=>have:=U.size;omega
 intro v' w2 O J _;have ah:b<w1.heap.size:=by grind
 have C:w2.heap[b]? =some (.cells #[.pointer (some ⟨b,0,none⟩),v] 258 (0,0)):=by rw[J.block b ah (λe=>ai e.symm)];omega
 have d1:w2.cell? ⟨b,1,none⟩=some v:=by rw[Lib.cell_of_heap C];rfl
 have f1:w2.frozen? ⟨b,1,none⟩=false:=Lib.frozen_of_heap C 1;obtain⟨Z,n',cap,rfl⟩:∃Z n' cap,v'=.slice Z n' cap:=by
  rcases O.2 with ⟨hv,_⟩|⟨g,cap,cur,hv,_⟩
  .simp_all
  .simp_all
 go_wp2;go_ret2;refine⟨rfl,?_,?_,?_⟩
 .exact Lib.BuilderAt.put (T:=258) (e:=5) hB C (bs':=bs++Lib.strCells s) (by simpa[Lib.strCells_length] using O) (by simp)
 .exact(U.grown J (by omega) (λk hk=>(M.lt k hk).1)).setCell (p:=⟨b,1,none⟩) hB _
 .intro g et l F h2 hr;have r1:=ae.out g et l F h2 hr;have r2:Row w2 g et l:=Ae r1 J (XD r1 M h2);exact r2.other (λe=>F (Yz r2 (by rw[e];exact Row.mk C))) _
theorem GO(B b:Nat)(l:List UInt8)(s:ByteArray)(w:World)(h:Bld w B b l)(hlen:l.length+s.size<=140737488355328)(C:B<=w.heap.size):Calls prog 164 #[.pointer (some ⟨b,0,none⟩),.string s] w λe w'=>e=.returned (.tuple #[.int .i64 s.size,.nilIface])/\Bld w' B b (l++s.data.toList)/\Below B w w'/\QH w w':=by
 refine(Pc B b _ s w h (by simpa[Lib.byteCells] using hlen) C).mono ?_;rintro e w' ⟨rfl,hw,F,J⟩;refine⟨rfl,Or.inr ?_,F,J⟩;have:Lib.byteCells l++Lib.strCells s=Lib.byteCells (l++s.data.toList):=by simp[Lib.byteCells,Lib.strCells]
 simp_all
