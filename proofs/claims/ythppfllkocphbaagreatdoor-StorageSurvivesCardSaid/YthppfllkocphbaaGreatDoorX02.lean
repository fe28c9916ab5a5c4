/- Part 3: lemmas about what the program computes. -/
import Derived.Test.YthppfllkocphbaaGreatDoorX01
namespace Go.Proofs.YthppfllkocphbaaGreatDoor
set_option linter.all false
set_option maxHeartbeats 25600000
set_option maxRecDepth 100000
open Tryz Go.RowKit
open Go renaming World->Qs,Value->Qt,TypeId->Qu,Ending->Qv
def data_append(a b:Qq):(a++b).data.toList=a.data.toList++b.data.toList:=by rfl
def IS{a b:Qq}(h:a.data.toList=b.data.toList):a=b:=Zg1 (Zft.1 h)
def BD(s:Qq):s.data.toList.length=s.size:=by rfl
def Z3s:Qq:=⟨#[1,0,0,0]⟩
def GW(e n len:Nat):Qq:=s32 len++s32 n++s32 (e / 4294967296)++s32 e
def OM(e n len:Nat):(GW e n len).data.toList=JQ e n len:=by rfl
def Z2b(e n len:Nat):(GW e n len).size=16:=by rfl
def FF(e n:Nat)(p:Qq)(w:Qs)(he:e<=4000000000)(hn:n<=4000000000)(hp:p.size<=60000):Calls prog 193 #[(e:Int),(n:Int),.string p] w λx w'=>x=.returned (.tuple #[.string ⟨(QO e n p.data.toList).toArray⟩,.nilIface])/\Below w w w':=by
 have hr:=Ox e n Qw Qw;obtain⟨E,hE⟩:=ZK (e / 4294967296);have bf:(e:Int) / 4294967296=(E:Int):=Qw;have bg:E<=4:=Qw;obtain⟨h,ag⟩:=ZK (s32 p.size++s32 n++s32 E++s32 e);have O:h=GW e n p.size:=by rw[<-ag,GW,hE]
 have U:h.size=16:=by rw[O,Z2b]
 have az:h.size<=maxLen:=by rw[U];unfold maxLen;omega
 have lp:p.size<=maxLen:=by unfold maxLen;omega
 obtain⟨c,hc⟩:=ZK (Bi (crc h.data.toList) p.data.toList);have ae:uv c=((Ag e n p.data.toList:Nat):Int):=by rw[YU,<-hc,O,OM];unfold Ag;rw[BD]
 obtain⟨q,hq⟩:=ZK (Ag e n p.data.toList);rw[hq] at ae;have bm:q<4294967296:=by rw[<-hq];unfold Ag;exact BitVec.isLt _
 have au:=Kk p.size;obtain⟨m,hm⟩:=ZK (QP p.size);obtain⟨z,hz⟩:=ZK (m- (24+p.size));have bj:m<=60100:=by rw[<-hm];unfold QP;omega
 obtain⟨b1,C⟩:=ZK (Z3s++h);obtain⟨b2,F⟩:=ZK (b1++s32 q);obtain⟨M,J⟩:=ZK (b2++p);have ah:b1.size=20:=by rw[<-C,ZdS,U];rfl
 have ai:b2.size=24:=by rw[<-F,ZdS,ah];rfl
 have Z:M.size=24+p.size:=by rw[<-J,ZdS,ai]
 have k1:∀W,(Op.stringOp .add (s32 p.size) (s32 n)).run prog W=.ok (.string (s32 p.size++s32 n)) W:=λW=>Zdl W _ _ QA;have k2:∀W,(Op.stringOp .add (s32 p.size++s32 n) (s32 E)).run prog W=.ok (.string (s32 p.size++s32 n++s32 E)) W:=λW=>Zdl W _ _ QA;have k3:∀W,(Op.stringOp .add (s32 p.size++s32 n++s32 E) (s32 e)).run prog W=.ok (.string h) W:=λW=>by rw[<-ag];exact Zdl W _ _ QA
 have k4:∀W,(Op.stringOp .add ⟨#[1,0,0,0]⟩ h).run prog W=.ok (.string b1) W:=λW=>by rw[<-C];exact Zdl W _ _ (by rw[U];show 4+16<=_;omega)
 have k5:∀W,(Op.stringOp .add b1 (s32 q)).run prog W=.ok (.string b2) W:=λW=>by rw[<-F];exact Zdl W _ _ QA
 have k6:∀W,(Op.stringOp .add b2 p).run prog W=.ok (.string M) W:=λW=>by rw[<-J];exact Zdl W _ _ Qw
 have k7:∀W,(Op.stringOp .add M (XG z)).run prog W=.ok (.string (M++XG z)) W:=λW=>Zdl W _ _ (by rw[Z,DN];omega);have af:M++XG z=⟨(QO e n p.data.toList).toArray⟩:=by apply IS;rw[<-J,<-F,<-C,O,data_append,data_append,data_append,data_append,OM];show[1,0,0,0]++JQ e n p.size++QI q++p.data.toList++List.replicate z 0=QO e n p.data.toList;unfold QO;rw[BD,hq,hm,hz]
 have HF:=ZI af;have HX:=Q1 ag O hc hq hm hz au;have HY:=ZO ah ai Z U;have HS:=ZI ae;have bq:z<=60100:=Qw;have aw:m=24+p.size+z:=Qw;have ay:=ZI aw;have bh:p.size<=60000:=Qw;clear af ag O hc hq hm hz au ah ai U ae aw C F J hE;have zl:M.size<=60100:=by rw[Z];omega
 have HD:Qi ((m:Int)- (M.size:Int)=(z:Int)):=ZI (by rw[Z];have:=ay.o;omega);clear Z;have T0:=ZI True.intro;go_enter func193,ntmps193;go_wp2_with (first|(go_at_call 213;refine(Fl _ _ _).mono ?_;rw[hr];rintro e w' ⟨rfl,rfl⟩)|(go_at_call 181;have t0:=T0.o;clear T0 t0;refine(Cc p.size Qw _).mono ?_;rintro e w1 ⟨rfl,C⟩;have T1:=ZI C;clear C)|(go_at_call 181;have t1:=T1.o;clear T1;refine(Cc n Qw _).mono ?_;rintro e w2 ⟨rfl,F⟩;have T2:=ZI (t1.trans (F.mono t1.size));clear F t1)|(go_at_call 181;have t2:=T2.o;clear T2;refine(Cc E Qw _).mono ?_;rintro e w3 ⟨rfl,J⟩;have T3:=ZI (t2.trans (J.mono t2.size));clear J t2)|(go_at_call 181;have t3:=T3.o;clear T3;refine(Cc e Qw _).mono ?_;rintro e w4 ⟨rfl,aj⟩;have T4:=ZI (t3.trans (aj.mono t3.size));clear aj t3)|(go_at_call 130;refine(G5 _ _ az).mono ?_;rintro e w8 ⟨rfl,rfl⟩)|(go_at_call 186;refine(Lc _ _ _ lp).mono ?_;rw[HX.3,HS.o];rintro e w8 ⟨rfl,rfl⟩)|(go_at_call 181;have t4:=T4.o;clear T4;refine(Cc q Qw _).mono ?_;rintro e w5 ⟨rfl,ak⟩;have T5:=ZI (t4.trans (ak.mono t4.size));clear ak t4)|(go_at_call 215;refine(Kl p.size Qw _).mono ?_;rw[HX.5];rintro e w8 ⟨rfl,rfl⟩)|(go_at_call 120;rw[HD.o];refine(Tryz.strings_Repeat ⟨#[0]⟩ z _ Qw (by show 1*z<=_;omega)).mono ?_;rw[FN];rintro e w6 ⟨rfl,aq⟩;have t5:=T5.o;have T6:=ZI (t5.trans (aq.mono t5.size));clear aq t5));go_ret2;exact⟨by rw[HF.o];rfl,T6.o⟩
def Z7f(ss:List Qq)(k:Nat)(h:k<ss.length):QR (ss.take (k+1))=QR (ss.take k)++[.string (ss.getD k ⟨#[]⟩)]:=by rw[Zc h,Sp,Z7,Z8 h];rfl
def M5(ss:List Qq)(k:Nat)(h:k<ss.length):Y8 (Yr ss)=(QI ss.length++Xz (Yr (ss.take k)))++(QI (ss.getD k ⟨#[]⟩).size++((ss.getD k ⟨#[]⟩).data.toList++Xz (Yr (ss.drop (k+1))))):=by
 have e:ss=ss.take k++[ss.getD k ⟨#[]⟩]++ss.drop (k+1):=QB;have e2:Yr ss=Yr (ss.take k)++[(ss.getD k ⟨#[]⟩).data.toList]++Yr (ss.drop (k+1)):=by unfold Yr;rw[<-List.map_singleton (f:=λs:Qq=>s.data.toList),<-Zo,<-Zo,<-e]
 rw[Y8,CV,e2,KV,KV,Pz,BD];simp
def Ih(ss:List Qq)(k:Nat):(QI ss.length++Xz (Yr (ss.take k))).length=4+Yx (Yr (ss.take k)):=by rw[Zb,Hh];rfl
def Ig(s:Qq)(ss:List Qq)(w:Qs)(h:s.data.toList=Y8 (Yr ss))(hs:s.size<=100000):Calls prog 155 #[.string s] w λe w'=>∃a cap,e=.returned (.tuple #[.slice a ss.length cap,.nilIface])/\w'.ownsRow w 9 1 (.slice a ss.length cap) ss.length (QR ss)/\Below w w w':=by
 obtain⟨j0,cw,de,df,dh⟩:=ZE C8;have hlen:s.size=4+Yx (Yr ss):=by rw[CJ h,Xi]
 have dm:4*ss.length<=100000:=by have:=Ec (Yr ss);rw[CV] at this;omega
 have F:Ww s.data.toList=ss.length:=by rw[h,Y8,AU _ (by rw[CV];omega),CV]
 have bu:4<=s.size:=Qw;have dp:ss.length<=s.size-4:=by have:=Ec (Yr ss);rw[CV] at this;omega
 have cy:(ss.length:Int)<=(s.size:Int)-4:=Qw;have ai:∀k,k<ss.length->4+Yx (Yr (ss.take k))+4+(ss.getD k ⟨#[]⟩).size+Yx (Yr (ss.drop (k+1)))=s.size:=λk C=>by rw[CJ h,M5 ss k C,Zb,Ih,Zb,Zb,Hh,BD];simp[Wj];omega
 have ag:∀k,k<ss.length->4+Yx (Yr (ss.take (k+1)))=4+Yx (Yr (ss.take k))+4+(ss.getD k ⟨#[]⟩).size:=λk C=>by rw[GE ss k C,Hg,KU,BD];omega
 have bq:∀k,k<ss.length->Ww (s.extract (4+Yx (Yr (ss.take k))) s.size).data.toList=(ss.getD k ⟨#[]⟩).size:=λk C=>by rw[Lib.extract_to_end,h,M5 ss k C,<-Ih ss k,ZeN,AU _ QA]
 have hcut:∀k,k<ss.length->s.extract (4+Yx (Yr (ss.take k))+4) (4+Yx (Yr (ss.take k))+4+(ss.getD k ⟨#[]⟩).size)=ss.getD k ⟨#[]⟩:=λk C=>by have:=GC (s:=s) (a:=QI ss.length++Xz (Yr (ss.take k))++QI (ss.getD k ⟨#[]⟩).size) (m:=(ss.getD k ⟨#[]⟩).data.toList) (r:=Xz (Yr (ss.drop (k+1)))) (by rw[h,M5 ss k C];simp) (4+Yx (Yr (ss.take k))+4) (4+Yx (Yr (ss.take k))+4+(ss.getD k ⟨#[]⟩).size) (by rw[Zb,Ih];rfl) (by rw[Zb,Ih,BD];rfl);rw[this]
 have H:=ZI h;have HL:=ZI hlen;have HR:=ZI F;have HE:=ZI ai;have HS:=ZI ag;have ct:=ZI bq;have HC:=ZI hcut;clear h hlen F ai ag bq hcut;go_enter func155,ntmps155;have U:=ZI True.intro;go_wp2_with (first|(go_at_call 214;have m0:=U.o;clear U m0;refine(I4 _ bu _).mono ?_;rw[HR.o];rintro e w1 ⟨rfl,bj⟩;have Z:=ZI bj;clear bj)|(go_at_call 214;refine(I4 _ bu _).mono ?_;rw[HR.o];rintro e w2 ⟨rfl,bm⟩;have M2:=ZI (Z.o.trans (bm.mono Z.o.size));clear bm));have ah:=M2.o;go_loopw [5,6,25] (λl z i wr=>∃k:Nat,k<=ss.length/\i=(k:Int)/\z=((4+Yx (Yr (ss.take k)):Nat):Int)/\wr.ownsRow w 9 1 l k (QR (ss.take k))/\Below w w wr) (λ_ _ i _=>ss.length- (intOf i).toNat)
 .exact⟨0,Qw,rfl,rfl,ZA _ _ _ _,ah⟩
 obtain⟨k,C,rfl,rfl,J,M⟩:=hrel;have hz:=M.size;by_cases O:k<ss.length
 .have he:=HE.o k O;have ay:=HS.o k O;have F:=ct.o k O;have hc:=HC.o k O;have az:=Z7f ss k O;obtain⟨t,ht⟩:=ZK (ss.getD k ⟨#[]⟩);obtain⟨z,bg⟩:=ZK (4+Yx (Yr (ss.take k)));rw[ht] at he ay F hc az;rw[bg] at he ay F hc⊢;have e1:z+4+t.size<=s.size:=Qw;have e2:¬ ((s.size:Int)- (z:Int)<4):=Qw;have e3:¬ ((s.size:Int)- (z:Int)-4<(t.size:Int)):=Qw;have e4:(z:Int)<=(s.size:Int):=Qw;have e5:(z:Int)+4+(t.size:Int)<=(s.size:Int):=Qw;have bz:4<=(s.extract z s.size).size:=by rw[Zdq];omega
  have cz:t.size<=140737488355328:=Qw;have dj:=ZI he;have cu:=ZI ay;have bh:=ZI F;have cr:=ZI hc;have HT:=ZI az;have HX:=ZM ht bg;have S0:=ZM J M;have U:=ZI True.intro;clear he ay F hc az ht bg J M;go_wp2_with (first|(go_at_call 214;have m0:=U.o;clear U m0;refine(I4 _ bz _).mono ?_;rw[bh.o];rintro e w3 ⟨rfl,aq⟩;have Z:=ZM (AS S0.1 aq) (S0.2.trans (aq.mono hz));have cj:=Zq hz aq.size;clear aq)|(go_at_call 214;have m1:=Z.o;clear Z;refine(I4 _ bz _).mono ?_;rw[bh.o];rintro e w4 ⟨rfl,au⟩;have M2:=ZM (AS m1.1 au) (m1.2.trans (au.mono cj));have cn:=Zq cj au.size;clear au m1)|(go_at_call 216;rw[cr.o];refine(K5 _ _ cz).mono ?_;rintro e w5 ⟨rfl,aw⟩;have m2:=M2.o;clear M2;have M3:=ZM (AS m2.1 aw) (m2.2.trans (aw.mono cn));have bf:=Zq cn aw.size;clear aw m2)|(at_builtin;have m3:=M3.o;clear M3;refine ZdO _ rfl (.tmp 57) (.tmp 63) 96 rfl w.heap.size 9 j0 _ 1 16 underlying96 cw de df dh rfl Qw _ k (QR (ss.take k)) rfl (m3.1.alloc _) ⟨w5,0,none⟩ 1 1 [.string t] rfl rfl (Zdy (cs:= #[.string t]) (t:=9) (fr:=(0,0)) (ZB w5 _)) (by simp[Value.oneCell']) (by unfold maxLen;omega) Qw (Zq bf Qx) ?_;intro v' w7 af aj ak;clear ak;have S4:=ZM af (FE (m3.1.alloc _) (m3.2.alloc bf _) (Zq bf Qx) aj);clear af aj));go_roundw
  .refine⟨k+1,Qw,QC,B4 ?_,?_,S4.2⟩
   .rw[cu.o];omega
   .rw[HT.o];exact S4.1
  simp[intOf];omega
 .obtain rfl:k=ss.length:=by omega
  rw[Zs] at J⊢;obtain⟨a,cap,rfl⟩:=BY J;have ae:4+Yx (Yr ss)=s.size:=HL.o.symm;rw[ae];have S0:=ZM J M;clear J M ae;go_wp2;go_ret2;exact⟨a,cap,rfl,S0.1,S0.2⟩
