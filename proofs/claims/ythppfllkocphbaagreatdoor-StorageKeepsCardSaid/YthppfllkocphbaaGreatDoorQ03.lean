/-
  Part 4 of the proof: lemmas about what the program computes.
-/
import Derived.Deep.RegionHeld3
import Derived.Lib.IndexBytes
import Derived.Lib.Builder
import Derived.Lib.AppendStr
import Derived.Lib.MakeNoZero
import Derived.Laws.Externs
import Derived.Test.YthppfllkocphbaaGreatDoorQ02
import Derived.Test.YthppfllkocphbaaGreatDoorQS
namespace Go.Proofs.YthppfllkocphbaaGreatDoor
set_option linter.unusedVariables false
set_option linter.unusedSimpArgs false
set_option maxHeartbeats 25600000
set_option maxRecDepth 100000
open Tryz
section
open Go.RowKit
variable{s:ByteArray}{w:World}
theorem Zp{B:Nat}{a:World}(h:Below B a w)(q:Nat):Below B a (w.drewN q):=⟨h.os,h.tape,h.output,h.size,h.block⟩
theorem Y3{w':World}{base:Nat}{e:TypeId}{size:Nat}{v:Value}{n:Nat}{xs:List Value}(h:w.ownsRow base e size v n xs)(hb:Below w.heap.size w w'):w'.ownsRow base e size v n xs:=
 ZZ h (Fr.of_below (L:=[]) hb) (by simp)
theorem Z3w(s:ByteArray)(hs:4<=s.size)(w:World):
  Calls prog 214 #[.string s] w fun e w'=>e=.returned (.int .i64 (YI s.data.toList:Int))/\Below w.heap.size w w':=
 (Z3v s hs w).mono fun _ _ ⟨he,q,hw⟩=>⟨he,by rw[hw];exact Zp Zk9 q⟩
theorem Z3e(c a:Int)(hc:c≠0)(w:World):
  Calls prog 180 #[.int .i64 c,.int .i64 a] w fun e w'=>∃v,e=.returned v/\Zu w' w.heap.size c v/\v≠.nilIface/\Below w.heap.size w w':=by
 go_enter func180,ntmps180
 go_wp2
 go_ret
 exact⟨_,rfl,Or.inr ⟨hc,1,⟨w.heap.size,a,.nilIface,rfl,Zk8,Row.new w _ [.int .i64 c,.int .i64 a,.nilIface],Or.inl rfl⟩⟩,by simp,Zk9.alloc Zk8 _⟩
def Z4M(e n:Int):Bool:=decide (0<=e)&&(decide (e<=4611686018427387904)&&(decide (0<=n)&&decide (n<=4294967295)))
theorem Z0m(e n:Int)(w:World):
  Calls prog 213 #[.int .i64 e,.int .i64 n] w fun r w'=>r=.returned (.bool (Z4M e n))/\w=w':=by
 go_enter func213,ntmps213
 go_wp2
 all_goals go_ret
 all_goals (refine⟨?_,rfl⟩;unfold Z4M;simp_all)
 all_goals (intros;omega)
theorem Z7K(e n:Nat)(he:e<=4611686018427387904)(hn:n<=4294967295):Z4M e n=true:=by
 unfold Z4M;simp;omega
def Z8(n:Nat):Nat:=(24+n+63) / 64*64
theorem Z5Z(n:Nat)(hn:n<=1000000000000)(w:World):
  Calls prog 215 #[.int .i64 n] w fun e w'=>e=.returned (.int .i64 (Z8 n:Int))/\w=w':=by
 go_enter func215,ntmps215
 go_wp2
 go_ret
 refine⟨Z04 (Xy ?_),rfl⟩
 unfold Z8
 omega
theorem Z3I(s:ByteArray)(e n:Int)(w:World)(h:s.size=0∨s.data.toList.getD 0 0≠1):
  Calls prog 154 #[.string s,.int .i64 e,.int .i64 n] w fun r w'=>∃v,r=.returned (.tuple #[.string ⟨#[]⟩,.int .i64 0,v])/\Zu w' w.heap.size 20 v/\v≠.nilIface/\Below w.heap.size w w':=by
 have hs0:24<=s.size->∃h0:0<s.size,((s[0].toNat:Int) !=1)=true:=by
  intro af
  refine⟨by omega,?_⟩
  rcases h with h|h
  ·omega
  ·have:s.data.toList.getD 0 0=s[0]:=by
    have h2:0<s.data.toList.length:=by simp;omega
    rw[ZjE,ZjF h2]
    exact Xq s 0 (by omega) h2
   rw[this] at h
   simp only[bne_iff_ne,ne_eq]
   intro e1
   apply h
   exact UInt8.toNat_inj.1 (by have:s[0].toNat=1:=by omega
                               rw[this];rfl)
 have H:=Zka hs0
 clear hs0 h
 cases hr:Z4M e n
 ·go_enter func154,ntmps154
  go_wp2_with (first|(go_at_call 213;refine(Z0m _ _ _).mono ?_;rw[hr];rintro e w' ⟨rfl,rfl⟩)|(go_at_call 180;refine(Z3e _ _ (by decide) _).mono ?_;rintro e w' ⟨v,rfl,hv,ae,hb⟩))
  go_ret3
  exact⟨v,rfl,hv,ae,hb⟩
 ·by_cases af:s.size<24
  ·go_enter func154,ntmps154
   go_wp2_with (first|(go_at_call 213;refine(Z0m _ _ _).mono ?_;rw[hr];rintro e w' ⟨rfl,rfl⟩)|(go_at_call 180;refine(Z3e _ _ (by decide) _).mono ?_;rintro e w' ⟨v,rfl,hv,ae,hb⟩))
   go_ret3
   exact⟨v,rfl,hv,ae,hb⟩
  ·obtain⟨h0,h1⟩:=H.out (by omega)
   go_enter func154,ntmps154
   go_wp2_with (first|(go_at_call 213;refine(Z0m _ _ _).mono ?_;rw[hr];rintro e w' ⟨rfl,rfl⟩)|(go_at_call 180;refine(Z3e _ _ (by decide) _).mono ?_;rintro e w' ⟨v,rfl,hv,ae,hb⟩))
   go_ret3
   exact⟨v,rfl,hv,ae,hb⟩
def Xl(e n len:Nat):List UInt8:=Z4 len++Z4 n++Z4 (e / 4294967296)++Z4 e
def Z0P(e n:Nat)(p:List UInt8):Nat:=(XR (crc (Xl e n p.length)) p).toNat
def Zb(e n:Nat)(p:List UInt8):List UInt8:=[1,0,0,0]++Xl e n p.length++Z4 (Z0P e n p)++p++List.replicate (Z8 p.length- (24+p.length)) 0
theorem Z5Y(n:Nat):24+n<=Z8 n:=by unfold Z8;omega
theorem XB(n:Nat):Z8 n%64=0:=by unfold Z8;omega
theorem Yx(e n:Nat)(p:List UInt8):(Zb e n p).length=Z8 p.length:=by
 have:=Z5Y p.length
 simp[Zb,Xl,Zq];omega
theorem Z6t{a m r:List UInt8}(h:s.data.toList=a++m++r)(i j:Nat)(hi:i=a.length)(hj:j=a.length+m.length):s.extract i j=⟨m.toArray⟩:=by
 apply ByteArray.ext
 apply Array.toList_inj.1
 rw[Lib.extract_data,h,hi,hj,ZjL,List.drop_left]
 show _=m
 rw[show a.length+m.length-a.length=m.length from by omega,List.take_left]
theorem Zi9(a b c:Nat):(⟨(Z4 a++Z4 b++Z4 c).toArray⟩:ByteArray)=s32 a++s32 b++s32 c:=by
 apply ByteArray.ext
 apply Array.toList_inj.1
 simp[s32]
theorem W7{l:List UInt8}(h:s.data.toList=l):s.size=l.length:=by
 rw[<-h];simp
theorem Zev(e n:Nat)(p r:List UInt8):
  (Zb e n p++r=[1,0,0,0]++(Z4 p.length++(Z4 n++Z4 (e / 4294967296)++Z4 e++(Z4 (Z0P e n p)++(p++(List.replicate (Z8 p.length- (24+p.length)) 0++r)))))):=by
 simp[Zb,Xl]
theorem Z50(s:ByteArray)(e n:Nat)(p r:List UInt8)(w:World)(h:s.data.toList=Zb e n p++r)(he:e<=4000000000)(hn:n<=4000000000)(hp:p.length<=60000)(hs:s.size<=140737488355328):
  Calls prog 154 #[.string s,.int .i64 e,.int .i64 n] w fun x w'=>x=.returned (.tuple #[.string ⟨p.toArray⟩,.int .i64 (Z8 p.length:Int),.nilIface])/\Below w.heap.size w w':=by
 have hr:=Z7K e n (by omega) (by omega)
 have hlen:s.size=Z8 p.length+r.length:=by rw[W7 h,ZjI,Yx]
 have bf:=Z5Y p.length
 have ay:24<=s.size:=by omega
 have h0:0<s.size:=by omega
 have h1:((s[0].toNat:Int) !=1)=false:=by
  have:s.data.toList.getD 0 0=s[0]:=by
   have h2:0<s.data.toList.length:=by simp;omega
   rw[ZjE,ZjF h2]
   exact Xq s 0 (by omega) h2
  rw[h] at this
  have e1:s[0]=1:=by rw[<-this];rfl
  rw[e1];rfl
 rw[Zev] at h
 obtain⟨E,hE⟩:∃E,e / 4294967296=E:=⟨_,rfl⟩
 rw[hE] at h
 have HE:=Zka hE;clear hE
 obtain⟨t4,i4⟩:∃t,s.extract 4 s.size=t:=⟨_,rfl⟩
 have d4:t4.data.toList=Z4 p.length++(Z4 n++Z4 (E)++Z4 e++(Z4 (Z0P e n p)++(p++(List.replicate (Z8 p.length- (24+p.length)) 0++r)))):=by
  rw[<-i4,Lib.extract_to_end,h];rfl
 have bg:YI t4.data.toList=p.length:=by rw[d4,Yy _ (by omega)]
 have cn:4<=t4.size:=by rw[W7 d4];simp[Zq]
 have i8:s.extract 8 20=s32 n++s32 (E)++s32 e:=by
  rw[<-Zi9]
  exact Z6t (a:=[1,0,0,0]++Z4 p.length) (r:=Z4 (Z0P e n p)++(p++(List.replicate (Z8 p.length- (24+p.length)) 0++r))) (by rw[h];simp) 8 20 rfl rfl
 obtain⟨t20,af⟩:∃t,s.extract 20 s.size=t:=⟨_,rfl⟩
 have d20:t20.data.toList=Z4 (Z0P e n p)++(p++(List.replicate (Z8 p.length- (24+p.length)) 0++r)):=by
  rw[<-af,Lib.extract_to_end,h];rfl
 obtain⟨c,hc⟩:∃c,XR (crc (Xl e n p.length)) p=c:=⟨_,rfl⟩
 have ak:((YI t20.data.toList:Nat):Int)=uv c:=by
  rw[d20,Yy _ (by unfold Z0P;exact BitVec.isLt _),QE];unfold Z0P;rw[hc]
 have aw:4<=t20.size:=by rw[W7 d20];simp[Zq]
 obtain⟨ah,ag⟩:∃t,s.extract 4 20=t:=⟨_,rfl⟩
 have ae:ah=⟨(Xl e n p.length).toArray⟩:=by
  rw[<-ag]
  exact Z6t (a:=[1,0,0,0]) (m:=Xl e n p.length) (r:=Z4 (Z0P e n p)++(p++(List.replicate (Z8 p.length- (24+p.length)) 0++r))) (by rw[h];simp[Xl,HE.out]) 4 20 rfl rfl
 have ip:s.extract 24 (24+p.length)=⟨p.toArray⟩:=
  Z6t (a:=[1,0,0,0]++Xl e n p.length++Z4 (Z0P e n p)) (r:=List.replicate (Z8 p.length- (24+p.length)) 0++r) (by rw[h];simp[Xl,HE.out]) _ _ rfl rfl
 have ax:ah.size<=maxLen:=by rw[ae];show 16<=_;unfold maxLen;omega
 have lp:(⟨p.toArray⟩:ByteArray).size<=maxLen:=by show p.length<=_;unfold maxLen;omega
 have ct:(⟨p.toArray⟩:ByteArray).size<=140737488355328:=by show p.length<=_;omega
 have b9:crc ah.data.toList=crc (Xl e n p.length):=by rw[ae]
 have bm:=Zka i4
 have bz:=Zka bg
 have HL:=Zka hlen
 have H:=Zka h
 have D4:=Zka (Zkb d4 d20)
 have bh:=Zka ae
 have HC:=Zka hc
 have aq:=Zka ak
 have bj:=Zka b9
 have bq:=Zka i8
 have al:=Zka af
 have ai:=Zka ag
 have bu:=Zka ip
 clear i4 bg hlen h d4 d20 ae hc ak b9 i8 af ag ip
 have c0:=ZM c
 have c1:=ZL c
 go_enter func154,ntmps154
 go_wp2_with (first|(go_at_call 213;refine(Z0m _ _ _).mono ?_;rw[hr];rintro e w' ⟨rfl,rfl⟩)|(go_at_call 214;rw[bm.out];refine(Z3v _ cn _).mono ?_;rw[bz.out];rintro e w' ⟨rfl,q,rfl⟩))
 have i20:(20:Int)<=(s.size:Int):=by omega
 have cz:(24:Int)+(p.length:Int)<=(s.size:Int):=by have:=HL.out;omega
 obtain⟨w1,au⟩:∃w1,w1=w.drewN q:=⟨_,rfl⟩
 have cj:Below w.heap.size w w1:=by rw[au];exact Zp Zk9 _
 rw[<-au]
 clear au
 have HH:=Zka (Zkb he (Zkb hn (Zkb hp (Zkb hs (Zkb bf ay)))))
 have g1:decide ((60000:Int)<(p.length:Int))=false:=decide_eq_false (by omega)
 have g2:decide (s.size<Z8 p.length)=false:=decide_eq_false (by rw[HL.out];omega)
 have cy:(e:Int) / 4294967296=(E:Int):=by have:=HE.out;omega
 have cu:∀W,(Op.stringOp .add (s32 n) (s32 (E))).run prog W=.ok (.string (s32 n++s32 (E))) W:=fun W=>run_string_add_sum W _ _ (by rw[Qa,Qa];omega)
 have cw:∀W,(Op.stringOp .add (s32 n++s32 (E)) (s32 e)).run prog W=.ok (.string (s32 n++s32 (E)++s32 e)) W:=fun W=>run_string_add_sum W _ _ (by rw[ByteArray.size_append,Qa,Qa,Qa];omega)
 have wc:IntKind.i64.wrap (uv c)=uv c:=Zk2 _ (by omega)
 have wp1:IntKind.i64.wrap (24+(p.length:Int))=24+(p.length:Int):=Zk2 _ (by omega)
 have wp2:0<=24+(p.length:Int):=by omega
 have wp3:(24:Int)<=24+(p.length:Int):=by omega
 have wp4:(24+(p.length:Int)).toNat=24+p.length:=by omega
 have k8:=bq.out
 have dc:=al.out
 have cr:=ai.out
 have kp:=bu.out
 clear he hn hp hs bf ay
 go_region_held3 (fun w'=>Below w.heap.size w w') (first|assumption|exact cj.drew)
  (first
  |(go_at_call 215;refine(Z5Z _ (by have:=HH.out;omega) _).mono ?_;rintro e w8 ⟨rfl,rfl⟩)
  |(go_at_call 181;refine(Jv _ (by have:=HH.out;omega) _).mono ?_;rintro e w8 ⟨rfl,aj⟩;have az:Below w.heap.size w w8:=Below.trans (by assumption) (aj.mono (Below.size (by assumption)));clear aj)
  |(go_at_call 214;refine(Z3v _ aw _).mono ?_;rw[aq.out];rintro e w8 ⟨rfl,q8,rfl⟩;have az:=Zp (B:=w.heap.size) (a:=w) (by assumption) q8)
  |(go_at_call 130;refine(Z2S _ _ ax).mono ?_;rw[bj.out];rintro e w8 ⟨rfl,rfl⟩)
  |(go_at_call 186;refine(Z6a _ _ _ lp).mono ?_;rw[show(⟨p.toArray⟩:ByteArray).data.toList=p from rfl,HC.out];rintro e w8 ⟨rfl,rfl⟩))
 all_goals go_wp2_with (first|(go_at_call 216;refine(Z4b _ _ ct).mono ?_;rintro e w8 ⟨rfl,aj⟩;have az:Below w.heap.size w w8:=Below.trans (by assumption) (aj.mono (Below.size (by assumption)));clear aj)|(go_at_call 215;refine(Z5Z _ (by have:=HH.out;omega) _).mono ?_;rintro e w8 ⟨rfl,rfl⟩))
 all_goals go_ret3
 all_goals exact⟨rfl,by assumption⟩
end
section
abbrev Bs:=List UInt8
def str(l:Bs):ByteArray:=⟨l.toArray⟩
theorem Ze(l:Bs):(str l).data.toList=l:=rfl
theorem Z5(l:Bs):(str l).size=l.length:=by simp[str,ByteArray.size]
theorem Z6N(s:ByteArray):str s.data.toList=s:=rfl
theorem Z2R{a b:Bs}(h:str a=str b):a=b:=by
 have:=congrArg (fun s:ByteArray=>s.data.toList) h
 simpa[str] using this
def Qf:ByteArray:=str (List.replicate 64 0)
def ZJ(l:Bs)(i:Nat):ByteArray:=str (sec l i)
def wrs(a:Nat)(l:Bs):List DOp:=(List.range (l.length / 64)).map fun i=>.wr (a+i) (ZJ l i)
def ZI:Bs:=[106,111,117,114,110,97,108]
structure Jn where
 half:Nat
 second:Bool
 epoch:Nat
 many:Nat
 next:Nat
 closed:Bool
def Jn.at_(J:Jn)(second:Bool)(k:Nat):Nat:=if second then k+J.half else k
def ZA(l:Bs):Bs:=0::l.drop 1
def Jn.clean(J:Jn)(second:Bool)(k:Nat):List DOp:=if J.half<=k then[] else[.wr (J.at_ second k) Qf]
def Jn.lay(J:Jn)(second:Bool)(k:Nat)(l:Bs):List DOp:=
 wrs (J.at_ second k) (ZA l)++J.clean second (k+l.length / 64)++[.fl]++wrs (J.at_ second k) (l.take 64)++[.fl]
def Jn.format(half:Nat):List DOp:=
 let J:Jn:=⟨half,false,1,0,1,false⟩
 J.clean true 0++J.lay false 0 (Zb 1 0 ZI)
def Jn.first(half:Nat):Jn:=⟨half,false,1,0,1,false⟩
def Jn.appendOps(J:Jn)(r:Bs):List DOp:=J.lay J.second J.next (Zb J.epoch (J.many+1) r)
def Jn.appended(J:Jn)(r:Bs):Jn:={J with many:=J.many+1,next:=J.next+Z8 r.length / 64}
def Jn.resetOps(J:Jn)(r:Bs):List DOp:=
 wrs (J.at_ (!J.second) 1) (Zb (J.epoch+1) 1 r)++J.clean (!J.second) (1+Z8 r.length / 64)++wrs (J.at_ (!J.second) 0) (ZA (Zb (J.epoch+1) 0 ZI))++[.fl]
  ++wrs (J.at_ (!J.second) 0) (Zb (J.epoch+1) 0 ZI)++[.fl]
def Jn.reset(J:Jn)(r:Bs):Jn:={J with second:= !J.second,epoch:=J.epoch+1,many:=1,next:=1+Z8 r.length / 64}
def Yz(e m:Nat):List Bs->Bs
 |[]=>[]
 |r::rs=>Zb e (m+1) r++Yz e (m+1) rs
def Zjv(t:Bs):Prop:=t=[]∨t.getD 0 0≠1
def Zdq(t:Bs)(e:Nat)(rs:List Bs):Prop:=∃rest,t=Zb e 0 ZI++(Yz e 0 rs++rest)/\Zjv rest
def Zg(rs:List Bs):Nat:=(rs.map fun r=>Z8 r.length / 64).sum
def Dk.text(D:Dk)(a n:Nat):Bs:=(List.range n).flatMap fun i=>(D.reads (a+i)).data.toList
structure Ent where
 size:Nat
 sum:Nat
 runs:List (Nat×Nat)
def Ent.secs(e:Ent):List Nat:=e.runs.flatMap fun r=>List.range' r.1 r.2
abbrev Dir:=List (Bs×Ent)
def Dir.get:Dir->Bs->Option Ent
 |[],_=>none
 |x::r,n=>if x.1=n then some x.2 else Dir.get r n
def Dir.del(d:Dir)(n:Bs):Dir:=d.filter fun x=>x.1 !=n
def Dir.ins(n:Bs)(e:Ent):Dir->Dir
 |[]=>[(n,e)]
 |x::r=>if n<x.1 then(n,e)::x::r else x::Dir.ins n e r
def Dir.put(d:Dir)(n:Bs)(e:Ent):Dir:=Dir.ins n e (d.del n)
def Dir.Sorted(d:Dir):Prop:=d.Pairwise fun a b=>a.1<b.1
def Dir.names(d:Dir):List Bs:=d.map (·.1)
def Dir.secs(d:Dir):List Nat:=d.flatMap fun x=>x.2.secs
structure Ac where
 kind:Nat
 name:Bs
 «to»:Bs
 value:Bs
def Ac.wrong(a:Ac):Bool:=
 if a.kind=3 then !(decide (1<=a.to.length)&&decide (a.to.length<=220))|| !a.value.isEmpty|| !(decide (1<=a.name.length)&&decide (a.name.length<=220))
 else if a.kind=2 then !a.value.isEmpty|| !(decide (1<=a.name.length)&&decide (a.name.length<=220))|| !a.to.isEmpty
 else if a.kind=1 then !(decide (1<=a.name.length)&&decide (a.name.length<=220))|| !a.to.isEmpty||decide (12000<a.value.length)
 else true
abbrev Z1:=List (Bs×Nat)
def Z1.del(f:Z1)(n:Bs):Z1:=f.filter fun x=>x.1 !=n
def Z1.has(f:Z1)(n:Bs):Bool:=f.any fun x=>x.1==n
def Wq(v:Bs):Nat:=(crc v).toNat
def YU(k:Nat)(a:Ac)(d:Dir)(f:Z1):Option (Dir×Z1):=
 match a.kind with
 |1=>some ((d.del a.name).put a.name ⟨a.value.length,Wq a.value,[]⟩,f.del a.name++[(a.name,k)])
 |2=>match d.get a.name with
  |some _=>some (d.del a.name,f.del a.name)
  |none=>none
 |3=>match d.get a.name with
  |some e=>if a.to=a.name∨f.has a.name=true then none else some ((d.del a.name).put a.to e,(f.del a.name).del a.to)
  |none=>none
 |_=>none
def Ql:List Ac->Nat->Dir->Z1->Option (Dir×Z1)
 |[],_,d,f=>some (d,f)
 |a::r,k,d,f=>match YU k a d f with
  |some (d',f')=>Ql r (k+1) d' f'
  |none=>none
def ZH(n:Nat):Nat:=(n+63) / 64
def YZ(rs:List (Nat×Nat))(a:Nat):List (Nat×Nat):=
 match rs.getLast? with
 |some (f,m)=>if f+m=a then rs.dropLast++[(f,m+1)] else rs++[(a,1)]
 |none=>[(a,1)]
def ZY(l:List Nat):List (Nat×Nat):=l.foldl YZ []
def Wr(used:List Bool):List Nat:=(List.range used.length).filter fun i=> !used.getD i true
def Yp(free:List Nat):Z1->Dir->Option Dir
 |[],d=>some d
 |x::r,d=>match d.get x.1 with
  |some e=>if ZH e.size<=free.length then Yp (free.drop (ZH e.size)) r (d.put x.1 {e with runs:=ZY (free.take (ZH e.size))}) else none
  |none=>none
def XG(v:Bs):ByteArray:=str (v.take 64++List.replicate (64- (v.take 64).length) 0)
def Q6:List Nat->Bs->List DOp
 |[],_=>[]
 |a::r,v=>.wr a (XG v)::Q6 r (v.drop 64)
def Ya(d:Dir)(acts:List Ac)(f:Z1):List DOp:=
 f.flatMap fun x=>match d.get x.1 with
  |some e=>Q6 e.secs (acts.getD x.2 ⟨0,[],[],[]⟩).value
  |none=>[]
def Q5(d:Dir)(acts:List Ac)(f:Z1):List DOp:=if(Ya d acts f).isEmpty then[] else Ya d acts f++[.fl]
def Qi(l:List (Nat×Nat)):Bs:=l.flatMap fun r=>Z4 r.1++Z4 r.2
def Ent.tail(e:Ent):Bs:=Z4 e.size++Z4 e.sum++Qi e.runs
def W5:Bs:=[97,108,108]
def Yj:Bs:=[115,111,109,101]
def Y5(d:Dir):Bs:=Zv (W5::d.map fun x=>Zv [x.1,x.2.tail])
def Dir.both(a b:Dir):Dir:=b.foldl (fun d x=>d.put x.1 x.2) a
def chg(was now:Dir)(f:Z1)(n:Bs):Option (Bs×Option Ent):=
 match now.get n with
 |some e=>match was.get n with
  |some o=>if f.has n=false/\e.tail=o.tail then none else some (n,some e)
  |none=>some (n,some e)
 |none=>some (n,none)
def QF(was now:Dir)(f:Z1):List (Bs×Option Ent):=(was.both now).names.filterMap (chg was now f)
def Qk(x:Bs×Option Ent):Bs:=match x.2 with
 |some e=>Zv [x.1,e.tail]
 |none=>Zv [x.1]
def Ja(l:List (Bs×Option Ent)):Bs:=Zv (Yj::l.map Qk)
structure Sto where
 n:Nat
 half:Nat
 j:Jn
 dir:Dir
 used:List Bool
def ZV(n half:Nat)(d:Dir):List Bool:=(List.range n).map fun i=>decide (i<2*half)||d.secs.contains i
structure Ent.Ok(n half:Nat)(e:Ent):Prop where
 many:∀r∈e.runs,1<=r.2/\2*half<=r.1/\r.1+r.2<=n
 secs:e.secs.length=ZH e.size
 size:e.size<=12000
 sum:e.sum<4294967296
structure Dir.Ok(n half:Nat)(d:Dir):Prop where
 sorted:d.Sorted
 ent:∀x∈d,Ent.Ok n half x.2
 name:∀x∈d,1<=x.1.length/\x.1.length<=220
 apart:d.secs.Nodup
def Sto.plan(S:Sto)(acts:List Ac):Option (Dir×Z1):=
 match Ql acts 0 S.dir [] with
 |some (d,f)=>match Yp (Wr S.used) f d with
  |some d'=>some (d',f)
  |none=>none
 |none=>none
def Sto.jOps(S:Sto)(d:Dir)(f:Z1):List DOp:=
 if Z8 (Ja (QF S.dir d f)).length / 64<=S.j.half-S.j.next then S.j.appendOps (Ja (QF S.dir d f)) else S.j.resetOps (Y5 d)
def Sto.jNew(S:Sto)(d:Dir)(f:Z1):Jn:=
 if Z8 (Ja (QF S.dir d f)).length / 64<=S.j.half-S.j.next then S.j.appended (Ja (QF S.dir d f)) else S.j.reset (Y5 d)
def Sto.ops(S:Sto)(acts:List Ac)(d:Dir)(f:Z1):List DOp:=Q5 d acts f++S.jOps d f
def Sto.done(S:Sto)(d:Dir)(f:Z1):Sto:={S with j:=S.jNew d f,dir:=d,used:=ZV S.n S.half d}
def Dk.value(D:Dk)(e:Ent):Bs:=(e.secs.flatMap fun a=>(D.reads a).data.toList).take e.size
def Xr(P:Pw)(D:Dk):Int:=if P.gone then 10 else if D.dead then 11 else 0
theorem Dir.get_some_mem{d:Dir}{n:Bs}{e:Ent}(h:d.get n=some e):(n,e)∈d:=by
 induction d with
 |nil=>cases h
 |cons x r ih=>
  unfold Dir.get at h
  split at h
  ·rename_i hx;cases h;simp[<-hx]
  ·exact ZjS _ (ih h)
theorem Dir.get_none{d:Dir}{n:Bs}:d.get n=none↔∀x∈d,x.1≠n:=by
 induction d with
 |nil=>simp[Dir.get]
 |cons x r ih=>
  unfold Dir.get
  split
  ·rename_i hx;simp[hx]
  ·rename_i hx;rw[ih];simp[hx]
theorem QI(a:Bs):¬a<a:=List.lt_irrefl a
theorem JU{a b c:Bs}(h:a<b)(k:b<c):a<c:=List.lt_trans h k
theorem ZdH(a b:Bs):a<b∨a=b∨b<a:=by
 rcases Decidable.em (a<b) with h|h
 ·exact Or.inl h
 ·rcases Decidable.em (b<a) with k|k
  ·exact Or.inr (Or.inr k)
  ·exact Or.inr (Or.inl (List.le_antisymm (List.not_lt.1 k) (List.not_lt.1 h)))
theorem Dir.mem_get{d:Dir}(hs:d.Sorted){n:Bs}{e:Ent}(h:(n,e)∈d):d.get n=some e:=by
 induction d with
 |nil=>cases h
 |cons x r ih=>
  obtain⟨h1,h2⟩:=List.pairwise_cons.1 hs
  unfold Dir.get
  rcases ZjV.1 h with e1|hm
  ·rw[<-e1];simp
  ·have:x.1≠n:=by
    intro e1
    have:=h1 _ hm
    rw[e1] at this
    exact QI _ this
   rw[if_neg this]
   exact ih h2 hm
theorem Dir.get_del(d:Dir)(n m:Bs):(d.del n).get m=if m=n then none else d.get m:=by
 unfold Dir.del
 induction d with
 |nil=>simp[Dir.get]
 |cons x r ih=>
  rw[List.filter_cons]
  by_cases hx:x.1=n
  ·have:(x.1 !=n)=false:=by simp[hx]
   rw[this]
   simp only[Bool.false_eq_true,if_false]
   rw[ih,Dir.get]
   by_cases hm:m=n
   ·simp[hm]
   ·rw[if_neg hm,if_neg hm,if_neg (by rw[hx];exact fun e=>hm e.symm)]
  ·have:(x.1 !=n)=true:=by simp[hx]
   rw[this]
   simp only[if_true]
   rw[Dir.get,Dir.get,ih]
   by_cases hm:x.1=m
   ·rw[if_pos hm,if_pos hm,if_neg (by rw[<-hm];exact hx)]
   ·rw[if_neg hm,if_neg hm]
theorem Dir.get_ins{d:Dir}(n:Bs)(e:Ent)(m:Bs)(hn:d.get n=none):(Dir.ins n e d).get m=if m=n then some e else d.get m:=by
 induction d with
 |nil=>simp[Dir.ins,Dir.get,eq_comm]
 |cons x r ih=>
  unfold Dir.ins
  split
  ·rw[Dir.get]
   by_cases hm:m=n
   ·simp[hm]
   ·simp[hm,Ne.symm hm]
  ·rw[Dir.get] at hn⊢
   split at hn
   ·cases hn
   ·rename_i hx
    rw[ih hn,Dir.get]
    by_cases hm:x.1=m
    ·rw[if_pos hm,if_pos hm,if_neg (by rw[<-hm];exact hx)]
    ·rw[if_neg hm,if_neg hm]
theorem Dir.get_put(d:Dir)(n:Bs)(e:Ent)(m:Bs):(d.put n e).get m=if m=n then some e else d.get m:=by
 unfold Dir.put
 rw[Dir.get_ins n e m (by rw[Dir.get_del,if_pos rfl]),Dir.get_del]
 split<;>rfl
theorem Dir.sorted_del{d:Dir}(h:d.Sorted)(n:Bs):(d.del n).Sorted:=List.Pairwise.filter _ h
theorem Dir.mem_ins{d:Dir}{n:Bs}{e:Ent}{x:Bs×Ent}:x∈Dir.ins n e d↔x=(n,e)∨x∈d:=by
 induction d with
 |nil=>simp[Dir.ins]
 |cons y r ih=>
  unfold Dir.ins
  split
  ·simp
  ·simp only[ZjV,ih]
   constructor
   ·rintro(h|h|h)<;>simp[h]
   ·rintro(h|h|h)<;>simp[h]
theorem Dir.mem_del{d:Dir}{n:Bs}{x:Bs×Ent}:x∈d.del n↔x∈d/\x.1≠n:=by simp[Dir.del]
theorem Dir.mem_put{d:Dir}{n:Bs}{e:Ent}{x:Bs×Ent}:x∈d.put n e↔x=(n,e)∨(x∈d/\x.1≠n):=by
 unfold Dir.put;rw[Dir.mem_ins,Dir.mem_del]
theorem Dir.sorted_ins{d:Dir}(h:d.Sorted)(n:Bs)(e:Ent)(hn:d.get n=none):(Dir.ins n e d).Sorted:=by
 induction d with
 |nil=>simp[Dir.ins,Dir.Sorted]
 |cons x r ih=>
  obtain⟨h1,h2⟩:=List.pairwise_cons.1 h
  have af:=Dir.get_none.1 hn
  unfold Dir.ins
  split
  ·rename_i ae
   refine List.pairwise_cons.2 ⟨fun y hy=> ?_,h⟩
   rcases ZjV.1 hy with rfl|hy
   ·exact ae
   ·exact JU ae (h1 y hy)
  ·rename_i ae
   refine List.pairwise_cons.2 ⟨fun y hy=> ?_,ih h2 (Dir.get_none.2 fun y hy=>af y (ZjS _ hy))⟩
   rcases Dir.mem_ins.1 hy with rfl|hy
   ·rcases ZdH n x.1 with k|k|k
    ·exact absurd k ae
    ·exact absurd k.symm (af x (by simp))
    ·exact k
   ·exact h1 y hy
theorem Dir.sorted_put{d:Dir}(h:d.Sorted)(n:Bs)(e:Ent):(d.put n e).Sorted:=
 Dir.sorted_ins (Dir.sorted_del h n) n e (by rw[Dir.get_del,if_pos rfl])
theorem Dir.ext{a b:Dir}(ha:a.Sorted)(hb:b.Sorted)(h:∀n,a.get n=b.get n):a=b:=by
 induction a generalizing b with
 |nil=>
  cases b with
  |nil=>rfl
  |cons y r=>have:=h y.1;simp[Dir.get] at this
 |cons x r ih=>
  cases b with
  |nil=>have:=h x.1;simp[Dir.get] at this
  |cons y s=>
   obtain⟨a1,a2⟩:=List.pairwise_cons.1 ha
   obtain⟨b1,b2⟩:=List.pairwise_cons.1 hb
   have key:x.1=y.1:=by
    rcases ZdH x.1 y.1 with k|k|k
    ·exfalso
     have e1:=h x.1
     rw[Dir.get,if_pos rfl] at e1
     have:=Dir.get_some_mem e1.symm
     rcases ZjV.1 this with e2|hm
     ·rw[<-e2] at k;exact QI _ k
     ·exact QI _ (JU k (b1 _ hm))
    ·exact k
    ·exfalso
     have e1:=h y.1
     rw[Dir.get.eq_2 y.1 y s,if_pos rfl] at e1
     have:=Dir.get_some_mem e1
     rcases ZjV.1 this with e2|hm
     ·rw[<-e2] at k;exact QI _ k
     ·exact QI _ (JU k (a1 _ hm))
   have e0:=h x.1
   rw[Dir.get,if_pos rfl,Dir.get,if_pos key.symm] at e0
   have ae:x=y:=Prod.ext key (Option.some.inj e0)
   subst ae
   rw[ih a2 b2]
   intro n
   by_cases hn:x.1=n
   ·subst hn
    rw[Dir.get_none.2,Dir.get_none.2]
    ·intro z hz e1;have:=b1 z hz;rw[e1] at this;exact QI _ this
    ·intro z hz e1;have:=a1 z hz;rw[e1] at this;exact QI _ this
   ·have:=h n
    rwa[Dir.get,if_neg hn,Dir.get,if_neg hn] at this
end
section
variable{n:Nat}
def DOp.app(D:Dk):DOp->Dk
 |.wr a s=>{D with wait:=D.wait++[(a,s)]}
 |.fl=>D.flushed
def Q1(l:List DOp)(D:Dk):Dk:=l.foldl DOp.app D
def DOp.In(n:Nat):DOp->Prop
 |.wr a s=>a<n/\s.size=64
 |.fl=>True
def DOp.rd(R:Nat->ByteArray):DOp->Nat->ByteArray
 |.wr a s=>fun b=>if a=b then s else R b
 |.fl=>R
def Zm(l:List DOp)(R:Nat->ByteArray):Nat->ByteArray:=l.foldl DOp.rd R
def Pw.lets(P:Pw)(k:Nat):Prop:=P.gone=false/\(P.fuse<0∨(k:Int)<=P.fuse)
def Pw.less(P Q:Pw)(k:Nat):Prop:=Q.gone=false/\Q.fuse=(if P.fuse<0 then P.fuse else P.fuse-k)
theorem Z3M(a b:List DOp)(D:Dk):Q1 (a++b) D=Q1 b (Q1 a D):=by simp[Q1]
theorem Q3(a b:List DOp)(R:Nat->ByteArray):Zm (a++b) R=Zm b (Zm a R):=by simp[Zm]
theorem Z2i{P:Pw}{D:Dk}{a:Nat}(hg:P.gone=false)(hd:D.dead=false)(hl:D.has.length=64*n)(ha:a<n):rdy P D a=0:=by
 rw[Z1W hg hd hl,if_neg (by omega)]
structure Dk.Fit(D:Dk)(n:Nat):Prop where
 len:D.has.length=64*n
 n1:1<=n
 pend:∀x,x∈D.wait->x.1<n/\x.2.size=64
theorem Dk.ok.fit{D:Dk}(h:D.ok n):D.Fit n:=⟨h.len,h.n1,fun x hx=>⟨h.at_ x hx,h.size x hx⟩⟩
theorem Dk.Fit.app{D:Dk}(h:D.Fit n)(o:DOp)(ho:o.In n):(o.app D).Fit n:=by
 cases o with
 |wr a s=>exact⟨h.len,h.n1,by intro x hx;simp only[DOp.app,ZjU,ZjD] at hx;rcases hx with hx|rfl;exact h.pend x hx;exact ho⟩
 |fl=>exact⟨JV _ _ n h.len h.pend,h.n1,by simp[DOp.app,Dk.flushed]⟩
theorem Z1E(D:Dk)(o:DOp):(o.app D).dead=D.dead:=by cases o<;>rfl
theorem Zag(D:Dk)(l:List DOp):(Q1 l D).dead=D.dead:=by
 induction l generalizing D with
 |nil=>rfl
 |cons o l ih=>exact(ih _).trans (Z1E D o)
theorem Z31{P:Pw}(hg:P.gone=false)(hf:P.fuse<0∨1<=P.fuse):P.can=true/\P.act.gone=false/\P.act.fuse=if P.fuse<0 then P.fuse else P.fuse-1:=by
 have ae:P.fuse≠0:=by omega
 refine⟨by simp[Pw.can,ae],?_,?_⟩
 ·unfold Pw.act;rw[if_neg ae];exact hg
 ·unfold Pw.act;rw[if_neg ae]
  show(if 0<P.fuse then P.fuse-1 else P.fuse)=_
  split<;>split<;>omega
theorem Z7n{P:Pw}{D:Dk}{o:DOp}(h:D.Fit n)(hg:P.gone=false)(hd:D.dead=false)(ho:o.In n)(hf:P.fuse<0∨1<=P.fuse):o.code P D=0/\o.pow P D=P.act/\o.dk P D=o.app D:=by
 have hc:=(Z31 hg hf).1
 cases o with
 |wr a s=>
  have hr:=Z2i hg hd h.len ho.1
  have e1:YC P D a s=0:=by unfold YC;rw[if_pos hr,if_pos ho.2,hc];rfl
  refine⟨e1,?_,?_⟩
  ·show Xz P D a s=_;unfold Xz;rw[if_pos ⟨hr,ho.2⟩]
  ·show wdk P D a s=_;unfold wdk;rw[if_pos e1];rfl
 |fl=>
  have hr:rdy P D 0=0:=Z2i hg hd h.len (a:=0) (by have:=h.n1;omega)
  have e1:X0 P D=0:=by unfold X0;rw[if_pos hr,hc];rfl
  refine⟨e1,?_,?_⟩
  ·show JW P D=_;unfold JW;rw[if_pos hr]
  ·show fdk P D=_;unfold fdk;rw[if_pos e1];rfl
theorem Za4{P:Pw}{D:Dk}{o:DOp}(h:D.Fit n)(hg:P.gone=false)(hd:D.dead=false)(ho:o.In n)(hf:P.fuse=0):o.code P D=10/\(o.pow P D).gone=true/\o.dk P D=D:=by
 have hc:P.can=false:=by simp[Pw.can,hf]
 have ha:P.act.gone=true:=by unfold Pw.act;rw[if_pos hf]
 cases o with
 |wr a s=>
  have hr:=Z2i hg hd h.len ho.1
  have e1:YC P D a s=10:=by unfold YC;rw[if_pos hr,if_pos ho.2,hc];rfl
  refine⟨e1,?_,?_⟩
  ·show(Xz P D a s).gone=_;unfold Xz;rw[if_pos ⟨hr,ho.2⟩];exact ha
  ·show wdk P D a s=_;unfold wdk;rw[e1];rfl
 |fl=>
  have hr:rdy P D 0=0:=Z2i hg hd h.len (a:=0) (by have:=h.n1;omega)
  have e1:X0 P D=10:=by unfold X0;rw[if_pos hr,hc];rfl
  refine⟨e1,?_,?_⟩
  ·show(JW P D).gone=_;unfold JW;rw[if_pos hr];exact ha
  ·show fdk P D=_;unfold fdk;rw[e1];rfl
theorem Z4P{l:List DOp}{P:Pw}{D:Dk}(h:D.Fit n)(hd:D.dead=false)(ae:∀o∈l,o.In n)(hl:P.lets l.length):∃Q,Z2 l P D=(0,Q,Q1 l D)/\P.less Q l.length:=by
 induction l generalizing P D with
 |nil=>exact⟨P,rfl,hl.1,by split<;>simp⟩
 |cons o l ih=>
  obtain⟨hg,hf⟩:=hl
  simp only[ZjM] at hf
  have af:P.fuse<0∨1<=P.fuse:=by omega
  obtain⟨e1,e2,e3⟩:=Z7n h hg hd (ae o (by simp)) af
  obtain⟨_,a2,a3⟩:=Z31 hg af
  obtain⟨Q,q1,q2,q3⟩:=ih (P:=P.act) (D:=o.app D) (h.app o (ae o (by simp))) (by rw[Z1E,hd]) (fun q hq=>ae q (by simp[hq])) ⟨a2,by rw[a3];split<;>omega⟩
  refine⟨Q,?_,q2,?_⟩
  ·simp only[Z2];rw[if_pos e1,e2,e3,q1];rfl
  ·rw[q3,a3,ZjM];(repeat' split)<;>omega
theorem Zdx{D:Dk}(h:D.Fit n)(o:DOp):(o.app D).reads=o.rd D.reads:=by
 cases o with
 |wr a s=>funext b;show Dk.reads {D with wait:=D.wait++[(a,s)]} b=_;rw[Z1X,Z9C];rfl
 |fl=>
  funext b
  show D.flushed.reads b=D.reads b
  rw[show D.flushed.reads b=D.flushed.lasts b from rfl,Z1X,Z02,Z02]
  exact Z3Q D.wait D.has n b h.len h.pend
theorem Jd{D:Dk}{l:List DOp}(h:D.Fit n)(ae:∀o∈l,o.In n):(Q1 l D).reads=Zm l D.reads:=by
 induction l generalizing D with
 |nil=>rfl
 |cons o l ih=>
  show(Q1 l (o.app D)).reads=_
  rw[ih (h.app o (ae o (by simp))) (fun q hq=>ae q (by simp[hq])),Zdx h o];rfl
theorem Z28(l:List DOp)(D:Dk):(Q1 (l++[.fl]) D).wait=[]:=by rw[Z3M];rfl
end
section
variable{J:Jn}{R R':Nat->ByteArray}{a b e m:Nat}{rs:List Bs}
def WV(s:ByteArray):UInt8:=s.data.toList.getD 0 0
def Jz(R:Nat->ByteArray)(e:Nat):Nat->Nat->List Bs->Prop
 |_,_,[]=>True
 |a,m,r::rs=>(∀q,q<Z8 r.length / 64->R (a+q)=ZJ (Zb e (m+1) r) q)/\Jz R e (a+Z8 r.length / 64) (m+1) rs
structure ZgW(R:Nat->ByteArray)(base half e:Nat)(rs:List Bs):Prop where
 head:R base=str (Zb e 0 ZI)
 recs:Jz R e (base+1) 0 rs
 fits:1+Zg rs<=half
 stop:1+Zg rs<half->WV (R (base+(1+Zg rs)))≠1
def Z5O(R:Nat->ByteArray)(base e:Nat):Prop:=WV (R base)≠1∨∃e',e'<e/\R base=str (Zb e' 0 ZI)
structure Yk(R:Nat->ByteArray)(J:Jn)(rs:List Bs):Prop where
 on:ZgW R (J.at_ J.second 0) J.half J.epoch rs
 off:Z5O R (J.at_ (!J.second) 0) J.epoch
 many:J.many=rs.length
 next:J.next=1+Zg rs
 epoch:1<=J.epoch
theorem ZeG(l:Bs)(i n:Nat)(h:l.length=64*n)(hi:i<n):(ZJ l i).size=64:=by
 unfold ZJ;rw[Z5,Z3z l n i h hi]
theorem Z2y:Qf.size=64:=by unfold Qf;rw[Z5,List.length_replicate]
theorem XC:WV Qf≠1:=by unfold WV Qf;rw[Ze];decide
theorem Qh(l:Bs)(h:l≠[]):(ZA l).length=l.length:=by
 cases l with
 |nil=>exact absurd rfl h
 |cons x r=>simp[ZA]
theorem Zd5(l:Bs)(i:Nat)(hi:1<=i):sec (ZA l) i=sec l i:=by
 unfold sec
 cases l with
 |nil=>
  obtain⟨m,hm⟩:∃m,i*64=m+1:=⟨i*64-1,by omega⟩
  rw[hm];simp[ZA]
 |cons x r=>
  obtain⟨m,hm⟩:∃m,i*64=m+1:=⟨i*64-1,by omega⟩
  rw[hm];simp[ZA]
theorem Jx(a:Nat)(l:Bs):(wrs a l).length=l.length / 64:=by simp[wrs]
theorem Z53{n:Nat}{l:Bs}(hl:l.length%64=0)(h:a+l.length / 64<=n):∀o∈wrs a l,o.In n:=by
 intro o ho
 simp only[wrs,List.mem_map,List.mem_range] at ho
 obtain⟨i,hi,rfl⟩:=ho
 exact⟨by omega,ZeG l i (l.length / 64) (by omega) hi⟩
theorem Zgo{o:DOp}(h:∀a s,o=.wr a s->a≠b):o.rd R b=R b:=by
 cases o with
 |wr a s=>show(if a=b then s else R b)=_;rw[if_neg (h a s rfl)]
 |fl=>rfl
theorem JH{l:List DOp}(h:∀a s,.wr a s∈l->a≠b):Zm l R b=R b:=by
 induction l generalizing R with
 |nil=>rfl
 |cons o l ih=>
  show Zm l (o.rd R) b=_
  rw[ih (fun a s hm=>h a s (by simp[hm])),Zgo (fun a s e=>h a s (by simp[<-e]))]
theorem Z1V(a:Nat)(l:Bs)(R:Nat->ByteArray)(b:Nat):Zm (wrs a l) R b=if a<=b/\b<a+l.length / 64 then ZJ l (b-a) else R b:=by
 unfold wrs
 generalize l.length / 64=m
 induction m with
 |zero=>rw[if_neg (by omega)];rfl
 |succ m ih=>
  rw[List.range_succ,ZjZ,Q3]
  show DOp.rd _ (.wr (a+m) (ZJ l m)) b=_
  show(if a+m=b then ZJ l m else _)=_
  by_cases h:a+m=b
  ·rw[if_pos h,if_pos (by omega)];subst h;rw[Nat.add_sub_cancel_left]
  ·rw[if_neg h,ih]
   by_cases h2:a<=b/\b<a+m
   ·rw[if_pos h2,if_pos (by omega)]
   ·rw[if_neg h2,if_neg (by omega)]
theorem Jz.congr(h:Jz R e a m rs)(hR:∀b,a<=b->b<a+Zg rs->R' b=R b):Jz R' e a m rs:=by
 induction rs generalizing a m with
 |nil=>trivial
 |cons r rs ih=>
  obtain⟨h1,h2⟩:=h
  have hl:Zg (r::rs)=Z8 r.length / 64+Zg rs:=rfl
  exact⟨fun q hq=>by rw[hR _ (by omega) (by omega)];exact h1 q hq,ih h2 (fun b ae af=>hR b (by omega) (by omega))⟩
theorem Z0L(a b:List Bs):Zg (a++b)=Zg a+Zg b:=by simp[Zg]
theorem Jz.snoc{r:Bs}(h:Jz R e a m rs)(hr:∀q,q<Z8 r.length / 64->R (a+Zg rs+q)=ZJ (Zb e (m+rs.length+1) r) q):Jz R e a m (rs++[r]):=by
 induction rs generalizing a m with
 |nil=>exact⟨fun q hq=>hr q hq,trivial⟩
 |cons x rs ih=>
  obtain⟨h1,h2⟩:=h
  refine⟨h1,ih h2 (fun q hq=> ?_)⟩
  have:=hr q hq
  rw[show Zg (x::rs)=Z8 x.length / 64+Zg rs from rfl,ZjM] at this
  rw[show a+Z8 x.length / 64+Zg rs+q=a+(Z8 x.length / 64+Zg rs)+q from by omega,this,show m+(rs.length+1)+1=m+1+rs.length+1 from by omega]
theorem Yk.congr(h:Yk R J rs)(hR:∀b,b<2*J.half->R' b=R b)(h1:1<=J.half):Yk R' J rs:=by
 have af:∀s k,k<J.half->J.at_ s k<2*J.half:=fun s k hk=>by unfold Jn.at_;split<;>omega
 have ae:∀s k,J.at_ s 0+k=J.at_ s k:=fun s k=>by unfold Jn.at_;split<;>omega
 have e0:=hR _ (af J.second 0 (by omega))
 have e1:=hR _ (af (!J.second) 0 (by omega))
 have hf:=h.on.fits
 refine⟨⟨by rw[e0];exact h.on.head,h.on.recs.congr (fun b ag ah=>hR b ?_),hf,fun hs=> ?_⟩,?_,h.many,h.next,h.epoch⟩
 ·have:=af J.second (J.half-1) (by omega)
  have e:=ae J.second (J.half-1)
  omega
 ·have:=af J.second (1+Zg rs) (by omega)
  rw[<-ae] at this
  rw[hR _ this];exact h.on.stop hs
 ·unfold Z5O;rw[e1];exact h.off
theorem WN(e n:Nat)(r:Bs):Zb e n r≠[]:=by unfold Zb;simp
theorem Jg(e n:Nat)(r:Bs):(Zb e n r).length / 64=Z8 r.length / 64/\(Zb e n r).length%64=0:=by
 rw[Yx];exact⟨rfl,XB _⟩
theorem WZ(n:Nat):1<=Z8 n / 64:=by unfold Z8;omega
theorem Qx(e:Nat):(Zb e 0 ZI).length=64:=by rw[Yx];rfl
theorem ZbC(l:Bs)(h:l.length=64):sec l 0=l:=by unfold sec;rw[Nat.zero_mul,List.drop_zero,ZjT (by omega)]
theorem Z9X(l:Bs):sec (l.take 64) 0=sec l 0:=by unfold sec;rw[Nat.zero_mul,List.drop_zero,List.drop_zero,List.take_take];rfl
theorem Zey(J:Jn)(s:Bool)(k:Nat)(l:Bs)(R:Nat->ByteArray)(hl:l.length%64=0)(h0:l≠[])(b:Nat):
  Zm (J.lay s k l) R b=if J.at_ s k<=b/\b<J.at_ s k+l.length / 64 then ZJ l (b-J.at_ s k)
   else if b=J.at_ s (k+l.length / 64)/\k+l.length / 64<J.half then Qf else R b:=by
 have ag:64<=l.length:=by
  have:0<l.length:=List.length_pos_iff.2 h0
  omega
 have ae:J.at_ s (k+l.length / 64)=J.at_ s k+l.length / 64:=by unfold Jn.at_;split<;>omega
 have ah:(l.take 64).length=64:=by rw[ZjO];omega
 unfold Jn.lay
 rw[Q3,Q3,Q3,Q3]
 show Zm [DOp.fl] _ b=_
 show Zm (wrs (J.at_ s k) (l.take 64)) _ b=_
 rw[Z1V,ah]
 by_cases af:b=J.at_ s k
 ·rw[if_pos (by omega),if_pos (by omega),af,Nat.sub_self]
  unfold ZJ;rw[Z9X]
 ·rw[if_neg (by omega)]
  show Zm (J.clean s (k+l.length / 64)) _ b=_
  have hw:∀R,Zm (wrs (J.at_ s k) (ZA l)) R b=if J.at_ s k<=b/\b<J.at_ s k+l.length / 64 then ZJ l (b-J.at_ s k) else R b:=by
   intro R
   rw[Z1V,Qh l h0]
   split
   ·unfold ZJ;rw[Zd5 _ _ (by omega)]
   ·rfl
  unfold Jn.clean
  by_cases hc:J.half<=k+l.length / 64
  ·rw[if_pos hc,show Zm [] (Zm (wrs (J.at_ s k) (ZA l)) R) b=Zm (wrs (J.at_ s k) (ZA l)) R b from rfl,hw]
   split
   ·rfl
   ·rw[if_neg (by omega)]
  ·rw[if_neg hc]
   show(if J.at_ s (k+l.length / 64)=b then Qf else Zm (wrs (J.at_ s k) (ZA l)) R b)=_
   by_cases hb:J.at_ s (k+l.length / 64)=b
   ·rw[if_pos hb,if_neg (by omega),if_pos ⟨hb.symm,by omega⟩]
   ·rw[if_neg hb,hw]
    split
    ·rfl
    ·rw[if_neg (fun h=>hb h.1.symm)]
theorem Yk.append(h:Yk R J rs)(r:Bs)(hr:Z8 r.length / 64<=J.half-J.next):Yk (Zm (J.appendOps r) R) (J.appended r) (rs++[r]):=by
 have hn:=h.next
 have hf:=h.on.fits
 have hp:=WZ r.length
 obtain⟨m1,m2⟩:=Jg J.epoch (J.many+1) r
 have key:=fun b=>Zey J J.second J.next (Zb J.epoch (J.many+1) r) R m2 (WN _ _ _) b
 rw[m1] at key
 change∀b,Zm (J.appendOps r) R b=_ at key
 have ae:∀s k,J.at_ s k=J.at_ s 0+k:=fun s k=>by unfold Jn.at_;split<;>omega
 have af:J.at_ (!J.second) 0+J.half<=J.at_ J.second 0∨J.at_ J.second 0+J.half<=J.at_ (!J.second) 0:=by
  unfold Jn.at_;cases J.second<;>simp
 have ag:Zg (rs++[r])=Zg rs+Z8 r.length / 64:=by rw[Z0L];rfl
 have same:∀b,(b<J.at_ J.second 0+J.next∨J.at_ J.second 0+J.half<=b)->Zm (J.appendOps r) R b=R b:=by
  intro b hb
  rw[key,ae J.second J.next,ae J.second (J.next+_)]
  rw[if_neg (by omega),if_neg (by omega)]
 refine⟨⟨?_,?_,?_,?_⟩,?_,?_,?_,h.epoch⟩
 ·show Zm (J.appendOps r) R (J.at_ J.second 0)=_
  rw[same _ (by omega)];exact h.on.head
 ·show Jz _ J.epoch (J.at_ J.second 0+1) 0 (rs++[r])
  refine(h.on.recs.congr (fun b ah ai=>same b (by omega))).snoc (fun q hq=> ?_)
  rw[key,ae J.second J.next,if_pos (by omega)]
  rw[show J.at_ J.second 0+1+Zg rs+q- (J.at_ J.second 0+J.next)=q from by omega,h.many,Nat.zero_add]
 ·show 1+Zg (rs++[r])<=J.half;omega
 ·intro hs
  change 1+Zg (rs++[r])<J.half at hs
  show WV (Zm (J.appendOps r) R (J.at_ J.second 0+(1+Zg (rs++[r]))))≠1
  rw[key,ae J.second J.next,ae J.second (J.next+_),if_neg (by omega),if_pos (by omega)]
  exact XC
 ·show Z5O _ (J.at_ (!J.second) 0) J.epoch
  have e:=same (J.at_ (!J.second) 0) (by omega)
  unfold Z5O;rw[e];exact h.off
 ·show J.many+1=_;rw[h.many,ZjI];rfl
 ·show J.next+Z8 r.length / 64=_;rw[ag];omega
theorem Yk.reset(h:Yk R J rs)(r:Bs)(hr:1+Z8 r.length / 64<=J.half):Yk (Zm (J.resetOps r) R) (J.reset r) [r]:=by
 have hp:=WZ r.length
 obtain⟨m1,m2⟩:=Jg (J.epoch+1) 1 r
 have ae:∀s k,J.at_ s k=J.at_ s 0+k:=fun s k=>by unfold Jn.at_;split<;>omega
 have ah:J.at_ (!J.second) 0+J.half<=J.at_ J.second 0∨J.at_ J.second 0+J.half<=J.at_ (!J.second) 0:=by
  unfold Jn.at_;cases J.second<;>simp
 have hh:(Zb (J.epoch+1) 0 ZI).length / 64=1:=by rw[Qx]
 have hu:(ZA (Zb (J.epoch+1) 0 ZI)).length / 64=1:=by rw[Qh _ (WN _ _ _),Qx]
 have key:∀b,Zm (J.resetOps r) R b=if b=J.at_ (!J.second) 0 then str (Zb (J.epoch+1) 0 ZI)
   else if b=J.at_ (!J.second) 0+(1+Z8 r.length / 64)/\1+Z8 r.length / 64<J.half then Qf
   else if J.at_ (!J.second) 0+1<=b/\b<J.at_ (!J.second) 0+1+Z8 r.length / 64 then ZJ (Zb (J.epoch+1) 1 r) (b- (J.at_ (!J.second) 0+1)) else R b:=by
  intro b
  unfold Jn.resetOps
  rw[Q3,Q3,Q3,Q3,Q3]
  show Zm (wrs (J.at_ (!J.second) 0) (Zb (J.epoch+1) 0 ZI)) _ b=_
  rw[Z1V,hh]
  by_cases hb:b=J.at_ (!J.second) 0
  ·rw[if_pos (by omega),if_pos hb,hb,Nat.sub_self];unfold ZJ;rw[ZbC _ (Qx _)]
  ·rw[if_neg (by omega),if_neg hb]
   show Zm (wrs (J.at_ (!J.second) 0) (ZA (Zb (J.epoch+1) 0 ZI))) _ b=_
   rw[Z1V,hu,if_neg (by omega)]
   unfold Jn.clean
   by_cases hc:J.half<=1+Z8 r.length / 64
   ·rw[if_pos hc,if_neg (by omega)]
    show Zm (wrs (J.at_ (!J.second) 1) (Zb (J.epoch+1) 1 r)) R b=_
    rw[Z1V,m1,ae (!J.second) 1]
   ·rw[if_neg hc]
    show(if J.at_ (!J.second) (1+Z8 r.length / 64)=b then Qf else Zm (wrs (J.at_ (!J.second) 1) (Zb (J.epoch+1) 1 r)) R b)=_
    rw[ae (!J.second) (1+_)]
    by_cases af:b=J.at_ (!J.second) 0+(1+Z8 r.length / 64)
    ·rw[if_pos af.symm,if_pos ⟨af,by omega⟩]
    ·rw[if_neg (fun e=>af e.symm),if_neg (fun e=>af e.1),Z1V,m1,ae (!J.second) 1]
 have ag:Zg [r]=Z8 r.length / 64:=by simp[Zg]
 refine⟨⟨?_,⟨fun q hq=> ?_,trivial⟩,?_,fun hs=> ?_⟩,?_,rfl,?_,?_⟩
 ·show Zm (J.resetOps r) R (J.at_ (!J.second) 0)=str (Zb (J.epoch+1) 0 ZI)
  rw[key,if_pos rfl]
 ·show Zm (J.resetOps r) R (J.at_ (!J.second) 0+1+q)=ZJ (Zb (J.epoch+1) 1 r) q
  rw[key,if_neg (by omega),if_neg (by omega),if_pos (by omega)]
  congr 1;omega
 ·show 1+Zg [r]<=J.half;omega
 ·change 1+Zg [r]<J.half at hs
  show WV (Zm (J.resetOps r) R (J.at_ (!J.second) 0+(1+Zg [r])))≠1
  rw[key,if_neg (by omega),ag,if_pos ⟨rfl,by omega⟩];exact XC
 ·refine Or.inr ⟨J.epoch,by show J.epoch<J.epoch+1;omega,?_⟩
  show Zm (J.resetOps r) R (J.at_ (!!J.second) 0)=_
  rw[Bool.not_not,key,if_neg (by omega),if_neg (by omega),if_neg (by omega)]
  exact h.on.head
 ·show 1+Z8 r.length / 64=_;rw[ag]
 ·show 1<=J.epoch+1;omega
theorem Yk.format(R:Nat->ByteArray)(half:Nat)(hh:2<=half):Yk (Zm (Jn.format half) R) (Jn.first half) []:=by
 have key:=fun b=>Zey ⟨half,false,1,0,1,false⟩ false 0 (Zb 1 0 ZI) (Zm (Jn.clean ⟨half,false,1,0,1,false⟩ true 0) R) (by rw[Qx]) (WN _ _ _) b
 rw[Qx] at key
 have e:∀b,Zm (Jn.format half) R b=_:=fun b=>by
  have:Zm (Jn.format half) R=Zm (Jn.lay ⟨half,false,1,0,1,false⟩ false 0 (Zb 1 0 ZI)) (Zm (Jn.clean ⟨half,false,1,0,1,false⟩ true 0) R):=by
   unfold Jn.format;rw[Q3]
  rw[this,key]
 simp only[Jn.at_,Bool.false_eq_true,if_false,Nat.zero_add] at e
 refine⟨⟨?_,trivial,?_,fun hs=> ?_⟩,Or.inl ?_,rfl,rfl,?_⟩
 ·show Zm (Jn.format half) R 0=_
  rw[e,if_pos (by omega)];unfold ZJ;rw[ZbC _ (Qx _)];rfl
 ·show 1+0<=half;omega
 ·show WV (Zm (Jn.format half) R (0+(1+0)))≠1
  rw[e,if_neg (by omega),if_pos (by omega)];exact XC
 ·show WV (Zm (Jn.format half) R (0+half))≠1
  rw[Nat.zero_add,e,if_neg (by omega),if_neg (by omega)]
  unfold Jn.clean
  rw[if_neg (by show¬half<=0;omega)]
  show WV (if 0+half=half then Qf else R half)≠1
  rw[if_pos (by omega)];exact XC
 ·exact Nat.le_refl 1
end
section
open Go.RowKit
variable{B d j n p:Nat}{D:Dk}{L:List Nat}{P:Pw}{a b:ByteArray}{w:World}
theorem Zj6(h:a=b):Ending.returned (.string a)=.returned (.string b):=by rw[h]
def JAt(w:World)(j d:Nat)(J:Jn):Prop:=Row w j 225 [.pointer (some ⟨d,0,none⟩),.int .i64 0,.int .i64 J.half,.bool J.second,.int .i64 J.epoch,.int .i64 J.many,.int .i64 J.next,.bool J.closed]
theorem JAt.after{w':World}{J:Jn}(h:JAt w j d J)(hb:Below w.heap.size w w'):JAt w' j d J:=Row.after h hb
theorem JAt.did{X:List Nat}{P1:Pw}{D1:Dk}{w1:World}{L1:List Nat}{J:Jn}(h:Did B p d n L X P1 D1 w w1 L1)(h0:PD B w p d n P D L)(hj:JAt w j d J)(hX:j∉X):JAt w1 j d J:=
 h.row h0 hj hX (by decide) (by decide) (by decide) (by decide)
structure Jn.Fit(J:Jn):Prop where
 half:J.half<=100000
 epoch:J.epoch<=3000000000
 many:J.many<=100000
 next:J.next<=100000
theorem Zjo(J:Jn)(s:Bool)(k:Nat):J.at_ s k<=k+J.half:=by unfold Jn.at_;split<;>omega
theorem Z5a(j d:Nat)(J:Jn)(s:Bool)(k:Nat)(w:World)(h:JAt w j d J)(hk:k<=100000000)(hh:J.half<=100000):
  Calls prog 212 #[.pointer (some ⟨j,0,none⟩),.bool s,.int .i64 k] w fun e w'=>e=.returned (.int .i64 (J.at_ s k:Nat))/\w=w':=by
 have c1:=h.cell (j:=1) rfl
 have c2:=h.cell (j:=2) rfl
 clear h
 cases s
 ·go_enter func212,ntmps212
  go_wp2
  go_ret
  exact⟨YP (by simp[Jn.at_]),rfl⟩
 ·go_enter func212,ntmps212
  go_wp2
  go_ret
  exact⟨YP (by simp[Jn.at_]),rfl⟩
theorem Yc(h:a.data.toList=b.data.toList):a=b:=ByteArray.ext (Array.toList_inj.1 h)
theorem Z7o(a b:ByteArray):a++b=str (a.data.toList++b.data.toList):=by
 apply Yc;simp[str]
theorem Z4Z(s:ByteArray)(w:World)(hs:1<=s.size)(hm:s.size<=1000000):
  Calls prog 245 #[.string s] w fun e w'=>e=.returned (.string (str (ZA s.data.toList)))/\w=w':=by
 have ae:(1:Int)<=s.size:=by omega
 go_enter func245,ntmps245
 go_wp2
 go_ret
 exact⟨Zj6 (Yc (by rw[Ze];simp[ZA];exact ZjT (by simp))),rfl⟩
theorem ZdF(w:World):
  Calls prog 250 #[] w fun e w'=>e=.returned (.string Qf)/\Below w.heap.size w w':=by
 obtain⟨i0,hi,ai,aj,ak⟩:=info_parts Xw
 obtain⟨q,hq⟩:∃q:Nat,q=64:=⟨64,rfl⟩
 have ag:=fun W=>WD (P:=prog) 75 5 i0 underlying75 hi ai aj ak q (by omega) W
 have af:=fun(W:World) (h:Row W w.heap.size 5 (Z3 (List.replicate q 0)))=>Qv (P:=prog) W 75 9 5 underlying75 underlying5 underlying9 h 0 q q (List.replicate q 0) (by simp) (by rw[List.drop_zero,ZjT (by simp[Zh])])
 have al:=af _ (Row.new w 5 (Z3 (List.replicate q 0)))
 have ah:(64:Int)=(q:Int):=by omega
 have ae:=ag w
 rw[<-ah] at ae
 have HQ:=Zka hq
 clear hi ai aj ak ag af hq ah
 go_enter func250,ntmps250
 go_wp2
 go_ret
 refine⟨?_,Zk9.alloc Zk8 _⟩
 rw[HQ.out];rfl
theorem Qo(s:ByteArray):s.data.toList.length=s.size:=by simp
theorem Zb4(s:ByteArray)(i:Nat):s.extract (64*i) (64*i+64)=ZJ s.data.toList i:=by
 apply Yc
 rw[Lib.extract_data]
 unfold ZJ sec;rw[Ze,Nat.mul_comm,show i*64+64-i*64=64 from by omega]
theorem Z8V(s:ByteArray)(a:Nat)(ha:a+64<=s.size):(s.extract a s.size).extract 0 64=s.extract a (a+64):=by
 apply Yc
 rw[Lib.extract_data,Lib.extract_data,Lib.extract_data,List.drop_zero,List.take_take]
 congr 1;omega
theorem ZgT(a:Nat)(l:Bs)(i:Nat)(hi:i<l.length / 64):(wrs a l).take (i+1)=(wrs a l).take i++[.wr (a+i) (ZJ l i)]:=by
 have hl:i<(wrs a l).length:=by rw[Jx];exact hi
 rw[ZjK hl]
 simp[wrs]
theorem Z0n(B p d n j:Nat)(P:Pw)(D:Dk)(L:List Nat)(J:Jn)(sd:Bool)(k:Nat)(s:ByteArray)(w:World)(h:PD B w p d n P D L)(hB:B<=w.heap.size)(hj:JAt w j d J)
  (hm:s.size%64=0) (hs:s.size<=1000000) (hk:k<=100000) (hh:J.half<=100000) (bu:D.wait.length<=1000000000):
  Calls prog 244 #[.pointer (some ⟨j,0,none⟩),.bool sd,.int .i64 k,.string s] w (Ans w.heap.size (Z2 (wrs (J.at_ sd k) s.data.toList) P D).1 (Ran B p d n L [] (wrs (J.at_ sd k) s.data.toList) P D w)):=by
 obtain⟨m,ay⟩:∃m,s.size=64*m:=⟨s.size / 64,by omega⟩
 have bg:s.data.toList.length / 64=m:=by rw[Qo s,ay];omega
 have cw:m<=100000:=by omega
 obtain⟨ops,ho⟩:∃ops,wrs (J.at_ sd k) s.data.toList=ops:=⟨_,rfl⟩
 have bh:ops.length=m:=by rw[<-ho,Jx,bg]
 have ak:∀i,i<m->ops.take (i+1)=ops.take i++[.wr (J.at_ sd k+i) (ZJ s.data.toList i)]:=fun i hi=>by rw[<-ho];exact ZgT _ _ i (by omega)
 have cu:=Zjo J sd k
 have ah:∀i,J.at_ sd (k+i)=J.at_ sd k+i:=fun i=>by unfold Jn.at_;split<;>omega
 have ag:ops.take m=ops:=ZjT (by omega)
 rw[ho]
 have H:=Zka (Zkb h hj)
 have HB:=Zka hB
 have aq:=Zka (Zkb ak (Zkb ah ag))
 have b9:=Zka ay
 have HO:=Zka (Zkb ho bh)
 clear h hj hB ak ah ag hm bg ho bh ay
 go_enter func244,ntmps244
 go_wp2
 go_loopw [2,3] (fun kk ss wr=>∃i,i<=m/\kk=.int .i64 ((k+i:Nat):Int)/\ss=.string (s.extract (64*i) s.size)/\∃Pr Dr Lr,Z2 (ops.take i) P D=(0,Pr,Dr)/\Did B p d n L [] Pr Dr w wr Lr) (fun kk _ _=>k+m- (intOf kk).toNat)
 case atStart=>exact⟨0,by omega,by simp,by rw[Nat.mul_zero];congr 1;apply Yc;rw[Lib.extract_to_end];rfl,P,D,L,rfl,Did.same H.out.1 [] Zk9⟩
 case round=>
  obtain⟨i,hi,rfl,rfl,Pr,Dr,Lr,ae,af⟩:=hrel
  by_cases bz:i<m
  ·have bm:(s.extract (64*i) s.size).size=s.size-64*i:=by rw[ByteArray.size_extract];omega
   have az:=b9.out
   have cj:0<s.size-64*i:=by omega
   have ct:(64:Int)<=((s.size-64*i:Nat):Int):=by omega
   have ax:(s.extract (64*i) s.size).extract 0 64=ZJ s.data.toList i:=by rw[Z8V s _ (by omega),Zb4]
   have cn:(Z2 (ops.take i) P D).2.2.wait.length<=1000000000+i:=by
    have:=Z6J (ops.take i) P D
    have:=List.length_take_le i ops
    omega
   rw[ae] at cn
   have hj:JAt wr j d J:=JAt.did af H.out.1 H.out.2 (by simp)
   have bq:B<=wr.heap.size:=Zk1 HB.out af.fr.size
   have c0:=hj.cell (j:=0) rfl
   clear az
   go_wp2_with fail
   have S0:=Zka (Zkb hj af)
   go_still_tail 10,(by kernel_rfl)
   still_call (XJ (Z5a j d J sd (k+i) _ S0.out.1 (by omega) hh))
   repeat still_step
   refine wpStill_nil ?_
   change wpList _ _ _ _ _ wr.drew
   have bf:Did B p d n L [] Pr Dr w wr.drew Lr:=S0.out.2.after (Zk9.drew)
   have ak:=aq.out.1 i bz
   have au:=aq.out.2.1 i
   rw[au]
   have S1:=Zka (Zkb bf (Zkb ak au))
   have ai:=af
   clear ak au bf c0 hj af
   go_wp2_with fail
   refine(PD.write S1.out.1.pd (show B<=wr.drew.heap.size from bq) ((J.at_ sd k+i:Nat):Int) (ZJ s.data.toList i) (by omega)).mono ?_
   rintro e w1 ⟨ev,rfl,he,L1,aw⟩
   have al:Did B p d n L [] (Xz Pr Dr ((J.at_ sd k+i:Nat):Int) (ZJ s.data.toList i)) (wdk Pr Dr ((J.at_ sd k+i:Nat):Int) (ZJ s.data.toList i)) w w1 L1:=S1.out.1.trans aw
   rcases he.split with ⟨hc,rfl⟩|⟨hc,b,rfl⟩
   ·have aj:Z2 (ops.take (i+1)) P D=(0,Xz Pr Dr ((J.at_ sd k+i:Nat):Int) (ZJ s.data.toList i),wdk Pr Dr ((J.at_ sd k+i:Nat):Int) (ZJ s.data.toList i)):=by
     rw[S1.out.2.1,Z5G _ _ P Pr D Dr ae]
     exact congrArg (fun c=>(c,_,_)) hc
    have bj:(s.extract (64*i) s.size).extract 64 (s.size-64*i)=s.extract (64*(i+1)) s.size:=by
     apply Yc
     rw[Lib.extract_data,Lib.extract_to_end,Lib.extract_to_end,List.drop_drop,ZjT (by simp;omega)]
     congr 1
    have S2:=Zka (Zkb aj (Zkb al bj))
    clear aj al bj he aw hc ae
    go_wp2
    go_roundw
    case rel=>exact⟨i+1,by omega,by go_num,by rw[<-S2.out.2.2],_,_,L1,S2.out.1,S2.out.2.1⟩
    case measure=>simp[intOf];omega
   ·have aj:Z2 ops P D=(YC Pr Dr ((J.at_ sd k+i:Nat):Int) (ZJ s.data.toList i),Xz Pr Dr ((J.at_ sd k+i:Nat):Int) (ZJ s.data.toList i),wdk Pr Dr ((J.at_ sd k+i:Nat):Int) (ZJ s.data.toList i)):=by
     refine Z8m ops (i+1) P _ D _ _ ?_ hc
     rw[S1.out.2.1,Z5G _ _ P Pr D Dr ae];rfl
    have S2:=Zka (Zkb aj (Zkb al he))
    have cr:=ai.fr.size
    clear aj al he aw hc ae ax bm
    go_wp2
    go_ret
    refine⟨_,rfl,?_,L1,?_⟩
    ·rw[S2.out.1];exact S2.out.2.2.base cr
    ·rw[S2.out.1];exact S2.out.2.1
  ·obtain rfl:i=m:=by omega
   have bm:(s.extract (64*i) s.size).size=0:=by rw[ByteArray.size_extract,b9.out];omega
   have ag:=aq.out.2.2
   rw[ag] at ae
   have S2:=Zka (Zkb ae af)
   clear ae af ag
   go_wp2
   go_ret
   rw[show Z2 ops P D=(0,Pr,Dr) from S2.out.1]
   exact⟨_,rfl,Zu.nil _ _,Lr,by rw[S2.out.1];exact S2.out.2⟩
theorem Z4a(B p d n j:Nat)(P:Pw)(D:Dk)(L:List Nat)(J:Jn)(sd:Bool)(k:Nat)(w:World)(h:PD B w p d n P D L)(hB:B<=w.heap.size)(hj:JAt w j d J)
  (hk:k<=100000) (hh:J.half<=100000) (ah:D.wait.length<=1000100000):
  Calls prog 209 #[.pointer (some ⟨j,0,none⟩),.bool sd,.int .i64 k] w (Ans w.heap.size (Z2 (J.clean sd k) P D).1 (Ran B p d n L [] (J.clean sd k) P D w)):=by
 have c0:=hj.cell (j:=0) rfl
 have c2:=hj.cell (j:=2) rfl
 have H:=Zka (Zkb h hj)
 have HB:=Zka hB
 clear h hj hB
 by_cases ag:J.half<=k
 ·have e:J.clean sd k=[]:=by unfold Jn.clean;rw[if_pos ag]
  rw[e]
  go_enter func209,ntmps209
  go_wp2
  go_ret
  exact⟨_,rfl,Zu.nil _ _,L,Did.same H.out.1 [] Zk9⟩
 ·have e:J.clean sd k=[.wr (J.at_ sd k) Qf]:=by unfold Jn.clean;rw[if_neg ag]
  rw[e]
  have ai:decide ((J.half:Int)<=(k:Int))=false:=by simpa using ag
  clear e
  go_enter func209,ntmps209
  go_wp2_with fail
  have S0:=Zka (Zkb (H.out.1.after ((Below.refl w.heap.size w).drew)) (JAt.after H.out.2 ((Below.refl w.heap.size w).drew)))
  go_region_held3 (fun w'=>w'.cell? ⟨j,0,none⟩=some (.pointer (some ⟨d,0,none⟩))) (first|assumption|exact S1.out.1.2.cell (j:=0) rfl|exact S2.out.cell (j:=0) rfl)
   (first
    |((go_at_call 212;refine(Z5a j d J sd k _ S0.out.2 (by omega) hh).mono ?_;rintro e w1 ⟨rfl,rfl⟩))
    |((go_at_call 250;refine(ZdF _).mono ?_;rintro e w1 ⟨rfl,ae⟩;have S1:=Zka (Zkb (Zkb (S0.out.1.after ae) (JAt.after S0.out.2 ae)) ae);clear ae))
    |((go_at_call 190;refine(PD.write S1.out.1.1 (Zk1 HB.out S1.out.2.size) _ Qf (by omega)).mono ?_;rintro e w2 ⟨ev,rfl,he,L1,af⟩;have S2:=Zka (JAt.did af S1.out.1.1 S1.out.1.2 (by simp));have S3:=Zka (Zkb he (af.from (w0:=w) (((Below.refl w.heap.size w).drew).trans S1.out.2)));have aj:=S1.out.2.size;clear he af)))
  go_wp2
  go_ret
  refine⟨_,rfl,?_,Ran.one ⟨L1,S3.out.2⟩⟩
  rw[Z0v]
  exact S3.out.1.base aj
theorem PD.flush1(h:PD B w p d n P D L)(hB:B<=w.heap.size):
  Calls prog 191 #[.pointer (some ⟨d,0,none⟩)] w (Ans w.heap.size (Z2 [.fl] P D).1 (Ran B p d n L [] [.fl] P D w)):=
 (PD.flush h hB).mono fun e w' ⟨ev,he,hv,hr⟩=>⟨ev,he,by rw[Z0v];exact hv,Ran.one hr⟩
theorem Zbv(B p d n j:Nat)(P:Pw)(D:Dk)(L:List Nat)(J:Jn)(sd:Bool)(k:Nat)(s:ByteArray)(w:World)(h:PD B w p d n P D L)(hB:B<=w.heap.size)(hj:JAt w j d J)
  (hm:s.size%64=0) (h1:64<=s.size) (hs:s.size<=100000) (hk:k<=50000) (hh:J.half<=100000) (au:D.wait.length<=1000000):
  Calls prog 195 #[.pointer (some ⟨j,0,none⟩),.bool sd,.int .i64 k,.string s] w (Ans w.heap.size (Z2 (J.lay sd k s.data.toList) P D).1 (Ran B p d n L [] (J.lay sd k s.data.toList) P D w)):=by
 have ai:s.data.toList≠[]:=by intro e;have:=Qo s;rw[e] at this;simp at this;omega
 have ah:(ZA s.data.toList).length=s.size:=by rw[Qh _ ai,Qo]
 have ak:(str (ZA s.data.toList)).size=s.size:=by rw[Z5,ah]
 have aj:s.data.toList.length / 64=s.size / 64:=by rw[Qo]
 have hx:s.extract 0 64=str (s.data.toList.take 64):=by apply Yc;rw[Lib.extract_data,Ze];rfl
 have al:(str (s.data.toList.take 64)).size=64:=by rw[Z5,ZjO,Qo];omega
 have b9:(64:Int)<=s.size:=by omega
 unfold Jn.lay
 rw[aj]
 obtain⟨A1,ae⟩:∃A1,wrs (J.at_ sd k) (ZA s.data.toList)=A1:=⟨_,rfl⟩
 obtain⟨A2,af⟩:∃A2,J.clean sd (k+s.size / 64)=A2:=⟨_,rfl⟩
 obtain⟨A4,ag⟩:∃A4,wrs (J.at_ sd k) (s.data.toList.take 64)=A4:=⟨_,rfl⟩
 have bg:A1.length<=5000:=by rw[<-ae,Jx,ah];omega
 have bh:A2.length<=1:=by rw[<-af];unfold Jn.clean;split<;>simp
 rw[ae,af,ag]
 have c0:=hj.cell (j:=0) rfl
 have H:=Zka (Zkb h hj)
 have HB:=Zka hB
 have HA:=Zka (Zkb ae (Zkb af ag))
 have HU:=Zka (Zkb ak al)
 clear h hj hB ae af ag ak al ah aj ai
 go_enter func195,ntmps195
 go_wp2_with (go_at_call 245;refine(Z4Z s _ (by omega) (by omega)).mono ?_;rintro e w' ⟨rfl,rfl⟩)
 refine(Z0n B p d n j P D L J sd k _ w H.out.1 HB.out H.out.2 (by rw[HU.out.1];exact hm) (by rw[HU.out.1];omega) (by omega) hh (by omega)).mono ?_
 rw[Ze,HA.out.1]
 rintro e w1 ⟨ev,rfl,he,hr⟩
 have T0:=Stg.start H.out.1 [] (Below.refl _ w)
 rcases he.split with ⟨hc,rfl⟩|⟨hc,b,rfl⟩
 case inr=>
  have HZ:=Zka (Zkb hc (T0.fail he hr))
  clear hc he hr T0
  go_wp2
  go_ret
  exact Q9 (ZN (ZN (ZN HZ.out.1))) (Q9 (ZN (ZN HZ.out.1)) (Q9 (ZN HZ.out.1) (Q9 HZ.out.1 HZ.out.2)))
 obtain⟨P1,D1,L1,T1⟩:=T0.next hc hr
 rw[List.nil_append] at T1
 have S1:=Zka T1
 have c1:=(JAt.did T1.did H.out.1 H.out.2 (by simp)).cell (j:=0) rfl
 have aw:=T1.size
 have bf:=T1.few
 clear T0 hc he hr T1 c0
 go_wp2_with fail
 refine(Z4a B p d n j P1 D1 L1 J sd (k+s.size / 64) w1 S1.out.did.pd (Zk1 HB.out aw) (JAt.did S1.out.did H.out.1 H.out.2 (by simp)) (by omega) hh (by omega)).mono ?_
 rw[HA.out.2.1]
 rintro e w2 ⟨ev,rfl,he,hr⟩
 rcases he.split with ⟨hc,rfl⟩|⟨hc,b,rfl⟩
 case inr=>
  have HZ:=Zka (Zkb (S1.out.code_ne hc) (S1.out.fail he hr))
  clear hc he hr
  go_wp2
  go_ret
  exact Q9 (ZN (ZN HZ.out.1)) (Q9 (ZN HZ.out.1) (Q9 HZ.out.1 HZ.out.2))
 obtain⟨P2,D2,L2,T2⟩:=S1.out.next hc hr
 have S2:=Zka T2
 have c2:=(JAt.did T2.did H.out.1 H.out.2 (by simp)).cell (j:=0) rfl
 have ax:=T2.size
 clear hc he hr T2 c1
 go_wp2_with fail
 refine(PD.flush1 S2.out.did.pd (Zk1 HB.out ax)).mono ?_
 rintro e w3 ⟨ev,rfl,he,hr⟩
 rcases he.split with ⟨hc,rfl⟩|⟨hc,b,rfl⟩
 case inr=>
  have HZ:=Zka (Zkb (S2.out.code_ne hc) (S2.out.fail he hr))
  clear hc he hr
  go_wp2
  go_ret
  exact Q9 (ZN HZ.out.1) (Q9 HZ.out.1 HZ.out.2)
 obtain⟨P3,D3,L3,T3⟩:=S2.out.next hc hr
 have S3:=Zka T3
 have c3:=(JAt.did T3.did H.out.1 H.out.2 (by simp)).cell (j:=0) rfl
 have ay:=T3.size
 have aq:=T3.few
 simp only[ZjI,ZjM,List.length_nil] at aq
 clear hc he hr T3 c2
 go_wp2_with fail
 refine(Z0n B p d n j P3 D3 L3 J sd k _ w3 S3.out.did.pd (Zk1 HB.out ay) (JAt.did S3.out.did H.out.1 H.out.2 (by simp)) (by rw[HU.out.2]) (by rw[HU.out.2];omega) (by omega) hh (by omega)).mono ?_
 rw[Ze,HA.out.2.2]
 rintro e w4 ⟨ev,rfl,he,hr⟩
 rcases he.split with ⟨hc,rfl⟩|⟨hc,b,rfl⟩
 case inr=>
  have HZ:=Zka (Zkb (S3.out.code_ne hc) (S3.out.fail he hr))
  clear hc he hr
  go_wp2
  go_ret
  exact Q9 HZ.out.1 HZ.out.2
 obtain⟨P4,D4,L4,T4⟩:=S3.out.next hc hr
 have S4:=Zka T4
 have c4:=(JAt.did T4.did H.out.1 H.out.2 (by simp)).cell (j:=0) rfl
 have az:=T4.size
 clear hc he hr T4 c3
 go_wp2_with fail
 refine(PD.flush1 S4.out.did.pd (Zk1 HB.out az)).mono ?_
 rintro e w5 ⟨ev,rfl,he,hr⟩
 have HZ:=Zka (S4.out.fail he hr)
 clear he hr
 go_wp2
 go_ret
 exact HZ.out
end
section
open Go.RowKit
variable{B b:Nat}{l:List UInt8}{w w':World}
theorem Zbo:(prog.info? 258).map (·.size)=some 2:=by kernel_rfl
theorem Zhd:liesAt prog prog.depth 258 (2 / prog.cellsOf 258) 0 258 1=true:=by kernel_rfl
theorem Z2o(b:Nat)(w:World)(h0:w.cell? ⟨b,0,none⟩=some (.pointer (some ⟨b,0,none⟩))):
  Calls prog 229 #[.pointer (some ⟨b,0,none⟩)] w fun e w'=>e=.returned (.tuple #[])/\w'=w:=by
 obtain⟨j,hj,_⟩:=Option.map_eq_some_iff.1 Zbo
 go_enter func229,ntmps229
 go_wp2
 rw[Lib.run_neq_ptr_same w _ underlying256 hj]
 go_wp2
 go_end0
 exact⟨rfl,rfl⟩
theorem Z1H(b:Nat)(w:World)(h0:w.cell? ⟨b,0,none⟩=some (.pointer none))(ae:w.shape? b=some (258,2))(ag:w.frozen? ⟨b,0,none⟩=false):
  Calls prog 229 #[.pointer (some ⟨b,0,none⟩)] w fun e w'=>e=.returned (.tuple #[])/\w'=w.setCell ⟨b,0,none⟩ (.pointer (some ⟨b,0,none⟩)):=by
 obtain⟨j,hj,af⟩:=Option.map_eq_some_iff.1 Zbo
 go_enter func229,ntmps229
 go_wp2
 rw[Lib.run_to_unsafe w ⟨b,0,none⟩ underlying256 underlying236 hj (by rw[af];decide) ae (Nat.zero_lt_succ 1)]
 simp only[Result.andThen]
 rw[Oper.upon_value]
 go_wp2
 rw[run_callFunc_extern func256 (by kernel_rfl) (by kernel_rfl) (by kernel_rfl) (e:=Extern.AbiNoEscape.same) (by kernel_rfl)]
 rw[Lib.run_noEscape]
 simp only[Result.andThen]
 rw[Oper.upon_value]
 go_wp2
 rw[Lib.run_from_unsafe w ⟨b,0,none⟩ underlying236 underlying256 hj ae Zhd]
 simp only[Result.andThen]
 rw[Oper.upon_value]
 go_wp2
 go_end0
 exact⟨rfl,rfl⟩
theorem ZbZ(B b:Nat)(bs:List Value)(w:World)(h:Lib.IsBuilder 258 5 B b bs w):
  Calls prog 229 #[.pointer (some ⟨b,0,none⟩)] w fun e w'=>e=.returned (.tuple #[])/\(Lib.BuilderAt 258 5 B b (.pointer (some ⟨b,0,none⟩)) bs w'/\Below B w w'):=by
 rcases h with h|h
 ·refine(Z1H b w h.cell0 h.shape h.frozen0).mono ?_
  rintro e w' ⟨rfl,rfl⟩
  exact⟨rfl,h.used _,(Below.refl B w).setCell (p:=⟨b,0,none⟩) h.1 _⟩
 ·refine(Z2o b w h.cell0).mono ?_
  rintro e w' ⟨rfl,rfl⟩
  exact⟨rfl,h,Below.refl B _⟩
theorem Zc4(B b:Nat)(bs:List Value)(s:ByteArray)(w:World)(h:Lib.IsBuilder 258 5 B b bs w)(hlen:bs.length+s.size<=140737488355328)(ax:B<=w.heap.size):
  Calls prog 164 #[.pointer (some ⟨b,0,none⟩),.string s] w fun e w'=>e=.returned (.tuple #[.int .i64 s.size,.nilIface])/\(Lib.BuilderAt 258 5 B b (.pointer (some ⟨b,0,none⟩)) (bs++Lib.strCells s) w'/\Below B w w'):=by
 obtain⟨i0,hi,aq,au,aw⟩:=info_parts Xw
 go_enter func164,ntmps164
 go_wp2_with (go_at_call 229;refine(ZbZ B b bs _ h).mono ?_)
 rintro e w1 ⟨rfl,h1,aj⟩
 obtain⟨hB,v,ai,ag,al⟩:=h1
 have c0:w1.cell? ⟨b,0,none⟩=some (.pointer (some ⟨b,0,none⟩)):=by rw[Lib.cell_of_heap ai];rfl
 have c1:w1.cell? ⟨b,1,none⟩=some v:=by rw[Lib.cell_of_heap ai];rfl
 go_wp2_with (at_builtin;refine Lib.wpList_append_own_string _ rfl _ _ 75 9 rfl B 5 i0 underlying75 underlying9 hi aq au aw _ _ _ rfl ag s rfl ?c3 ?c4 ?c5 ?_)
 case c3=>unfold maxLen;omega
 case c4=>omega
 case c5=>have:=aj.size;omega
 intro v' w2 af ae _
 have ak:b<w1.heap.size:=by
  rcases Nat.lt_or_ge b w1.heap.size with h'|h'
  ·exact h'
  ·simp[Array.getElem?_eq_none h'] at ai
 have ah:w2.heap[b]? =some (.cells #[.pointer (some ⟨b,0,none⟩),v] 258 (0,0)):=by
  rw[ae.block b ak (fun e=>al e.symm)]
  exact ai
 have d0:w2.cell? ⟨b,0,none⟩=some (.pointer (some ⟨b,0,none⟩)):=by rw[Lib.cell_of_heap ah];rfl
 have d1:w2.cell? ⟨b,1,none⟩=some v:=by rw[Lib.cell_of_heap ah];rfl
 have f1:w2.frozen? ⟨b,1,none⟩=false:=Lib.frozen_of_heap ah 1
 obtain⟨ao,n',cap,rfl⟩:∃ao n' cap,v'=.slice ao n' cap:=by
  rcases af.2 with ⟨hv,_⟩|⟨g,cap,cur,hv,_⟩
  ·exact⟨_,_,_,hv⟩
  ·exact⟨_,_,_,hv⟩
 go_wp2
 go_ret2
 refine⟨rfl,?_,?_⟩
 ·exact Lib.BuilderAt.put (T:=258) (e:=5) hB ah (bs':=bs++Lib.strCells s) (by simpa[Lib.strCells_length] using af) (by decide)
 ·exact(aj.grown ae (by have:=aj.size;omega) (fun k hk=>(ag.lt k hk).1)).setCell (p:=⟨b,1,none⟩) hB _
def Bld(w:World)(B b:Nat)(l:List UInt8):Prop:=Lib.IsBuilder 258 5 B b (Lib.byteCells l) w
theorem Bld.new(w:World):Bld (w.alloc (.cells #[.pointer none,.slice none 0 0] 258)) w.heap.size w.heap.size []:=Lib.fresh_isBuilder 258 5 w
theorem Bld.fr(h:Bld w B b l){L:List Nat}(hf:Fr L w w')(hL:∀i,i∈L->i<B):Bld w' B b l:=by
 have k:∀p,Lib.BuilderAt 258 5 B b p (Lib.byteCells l) w->Lib.BuilderAt 258 5 B b p (Lib.byteCells l) w':=by
  rintro p ⟨hB,v,hb,ae,ag⟩
  have af:b<w.heap.size:=(ZjQ.1 hb).1
  refine⟨hB,v,(hf.block b af (fun hm=>by have:=hL b hm;omega)).trans hb,ZZ ae hf (fun g hg hm=> ?_),ag⟩
  have:=hL g hm
  have:=(ae.lt g hg).1
  omega
 exact h.imp (k _) (k _)
theorem Bld.after(h:Bld w B b l)(hb:Below w.heap.size w w'):Bld w' B b l:=h.fr (Fr.of_below (L:=[]) hb) (by simp)
theorem Z0i(B b:Nat)(l:List UInt8)(s:ByteArray)(w:World)(h:Bld w B b l)(hlen:l.length+s.size<=140737488355328)(ae:B<=w.heap.size):
  Calls prog 164 #[.pointer (some ⟨b,0,none⟩),.string s] w fun e w'=>e=.returned (.tuple #[.int .i64 s.size,.nilIface])/\Bld w' B b (l++s.data.toList)/\Below B w w':=by
 refine(Zc4 B b _ s w h (by simpa[Lib.byteCells] using hlen) ae).mono ?_
 rintro e w' ⟨rfl,hw,hb⟩
 refine⟨rfl,Or.inr ?_,hb⟩
 have:Lib.byteCells l++Lib.strCells s=Lib.byteCells (l++s.data.toList):=by
  simp[Lib.byteCells,Lib.strCells]
 rw[<-this]
 exact hw
theorem Z2p(B b:Nat)(l:List UInt8)(w:World)(h:Bld w B b l)(ae:B<=w.heap.size):
  Calls prog 165 #[.pointer (some ⟨b,0,none⟩)] w fun e w'=>e=.returned (.string ⟨l.toArray⟩)/\Below B w w':=
 Tryz.Builder_String_any B b l w h ae
end
end Go.Proofs.YthppfllkocphbaaGreatDoor
