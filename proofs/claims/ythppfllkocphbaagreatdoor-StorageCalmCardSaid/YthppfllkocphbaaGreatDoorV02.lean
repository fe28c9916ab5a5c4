/- Part 3: lemmas about what the program computes. -/
import Derived.Test.YthppfllkocphbaaGreatDoorV01
namespace Go.Proofs.YthppfllkocphbaaGreatDoor
set_option linter.all false
set_option maxHeartbeats 25600000
set_option maxRecDepth 100000
open Tryz Go.RowKit
open Go renaming World->Qs,Value->Qt,TypeId->Qu,Ending->Qv
def data_append(a b:Qq):(a++b).data.toList=a.data.toList++b.data.toList:=by rfl
def K2{a b:Qq}(h:a.data.toList=b.data.toList):a=b:=ZgA (Zg1.1 h)
def BM(s:Qq):s.data.toList.length=s.size:=by rfl
def Z3P:Qq:=⟨#[1,0,0,0]⟩
def Hf(e n len:Nat):Qq:=s32 len++s32 n++s32 (e / 4294967296)++s32 e
def Pg(e n len:Nat):(Hf e n len).data.toList=JU e n len:=by rfl
def Z2C(e n len:Nat):(Hf e n len).size=16:=by rfl
def FO(e n:Nat)(p:Qq)(w:Qs)(he:e<=4000000000)(hn:n<=4000000000)(hp:p.size<=60000):Calls prog 193 #[(e:Int),(n:Int),.string p] w λx w'=>x=.returned (.tuple #[.string ⟨(QO e n p.data.toList).toArray⟩,.nilIface])/\Below w w w':=by
 have hr:=OV e n Qw Qw;have⟨E,hE⟩:=ZK (e / 4294967296);have:(e:Int) / 4294967296=(E:Int):=Qw;have:E<=4:=Qw;have⟨h,ag⟩:=ZK (s32 p.size++s32 n++s32 E++s32 e);have O:h=Hf e n p.size:=by rw[<-ag,Hf,hE]
 have U:h.size=16:=by rw[O,Z2C]
 have az:h.size<=maxLen:=by rw[U];unfold maxLen;omega
 have lp:p.size<=maxLen:=by unfold maxLen;omega
 have⟨c,hc⟩:=ZK (Bt (crc h.data.toList) p.data.toList);have ae:uv c=((Am e n p.data.toList:Nat):Int):=by rw[YX,<-hc,O,Pg];unfold Am;rw[BM]
 have⟨q,hq⟩:=ZK (Am e n p.data.toList);rw[hq] at ae;have:q<4294967296:=by rw[<-hq];unfold Am;exact BitVec.isLt _
 have au:=KB p.size;have⟨m,hm⟩:=ZK (QQ p.size);have⟨z,hz⟩:=ZK (m- (24+p.size));have:m<=60100:=by rw[<-hm];unfold QQ;omega
 have⟨b1,C⟩:=ZK (Z3P++h);have⟨b2,F⟩:=ZK (b1++s32 q);have⟨M,J⟩:=ZK (b2++p);have ah:b1.size=20:=by rw[<-C,Zep,U];rfl
 have ai:b2.size=24:=by rw[<-F,Zep,ah];rfl
 have Z:M.size=24+p.size:=by rw[<-J,Zep,ai]
 have:∀W,(Op.stringOp .add (s32 p.size) (s32 n)).run prog W=.ok (.string (s32 p.size++s32 n)) W:=λW=>ZdO W _ _ QA;have:∀W,(Op.stringOp .add (s32 p.size++s32 n) (s32 E)).run prog W=.ok (.string (s32 p.size++s32 n++s32 E)) W:=λW=>ZdO W _ _ QA;have:∀W,(Op.stringOp .add (s32 p.size++s32 n++s32 E) (s32 e)).run prog W=.ok (.string h) W:=λW=>by rw[<-ag];exact ZdO W _ _ QA
 have:∀W,(Op.stringOp .add ⟨#[1,0,0,0]⟩ h).run prog W=.ok (.string b1) W:=λW=>by rw[<-C];exact ZdO W _ _ (by rw[U];show 4+16<=_;omega)
 have:∀W,(Op.stringOp .add b1 (s32 q)).run prog W=.ok (.string b2) W:=λW=>by rw[<-F];exact ZdO W _ _ QA
 have:∀W,(Op.stringOp .add b2 p).run prog W=.ok (.string M) W:=λW=>by rw[<-J];exact ZdO W _ _ Qw
 have:∀W,(Op.stringOp .add M (XN z)).run prog W=.ok (.string (M++XN z)) W:=λW=>ZdO W _ _ (by rw[Z,DV];omega);have af:M++XN z=⟨(QO e n p.data.toList).toArray⟩:=by apply K2;rw[<-J,<-F,<-C,O,data_append,data_append,data_append,data_append,Pg];show[1,0,0,0]++JU e n p.size++QI q++p.data.toList++List.replicate z 0=QO e n p.data.toList;unfold QO;rw[BM,hq,hm,hz]
 have HF:=ZI af;have HX:=Q1 ag O hc hq hm hz au;have:=ZO ah ai Z U;have HS:=ZI ae;have:z<=60100:=Qw;have aw:m=24+p.size+z:=Qw;have ay:=ZI aw;have:p.size<=60000:=Qw;clear af ag O hc hq hm hz au ah ai U ae aw C F J hE;have:M.size<=60100:=by rw[Z];omega
 have HD:Qi ((m:Int)- (M.size:Int)=(z:Int)):=ZI (by rw[Z];have:=ay.o;omega);clear Z;have T0:=ZI True.intro;go_enter func193,ntmps193;go_wp2_with (first|(go_at_call 213;refine(Ft _ _ _).mono ?_;rw[hr];rintro e w' ⟨rfl,rfl⟩)|(go_at_call 181;have t0:=T0.o;clear T0 t0;go_fit (Cn p.size Qw _);rintro e w1 ⟨rfl,C⟩;have T1:=ZI C;clear C)|(go_at_call 181;have t1:=T1.o;clear T1;go_fit (Cn n Qw _);rintro e w2 ⟨rfl,F⟩;have T2:=ZI (t1.trans (F.mono t1.size));clear F t1)|(go_at_call 181;have t2:=T2.o;clear T2;go_fit (Cn E Qw _);rintro e w3 ⟨rfl,J⟩;have T3:=ZI (t2.trans (J.mono t2.size));clear J t2)|(go_at_call 181;have t3:=T3.o;clear T3;go_fit (Cn e Qw _);rintro e w4 ⟨rfl,aj⟩;have T4:=ZI (t3.trans (aj.mono t3.size));clear aj t3)|(go_at_call 130;go_fit (Ge _ _ az);rintro e w8 ⟨rfl,rfl⟩)|(go_at_call 186;refine(Ly _ _ _ lp).mono ?_;rw[HX.3,HS.o];rintro e w8 ⟨rfl,rfl⟩)|(go_at_call 181;have t4:=T4.o;clear T4;go_fit (Cn q Qw _);rintro e w5 ⟨rfl,ak⟩;have T5:=ZI (t4.trans (ak.mono t4.size));clear ak t4)|(go_at_call 215;refine(KC p.size Qw _).mono ?_;rw[HX.5];rintro e w8 ⟨rfl,rfl⟩)|(go_at_call 120;rw[HD.o];refine(Tryz.strings_Repeat ⟨#[0]⟩ z _ Qw (by show 1*z<=_;omega)).mono ?_;rw[FW];rintro e w6 ⟨rfl,aq⟩;have t5:=T5.o;have T6:=ZI (t5.trans (aq.mono t5.size));clear aq t5));go_ret2;exact⟨by rw[HF.o];rfl,T6.o⟩
def Z7E(ss:List Qq)(k:Nat)(h:k<ss.length):QS (ss.take (k+1))=QS (ss.take k)++[.string (ss.getD k ⟨#[]⟩)]:=by rw[Zc h,Tg,Z7,Z8 h];rfl
def Mu(ss:List Qq)(k:Nat)(h:k<ss.length):Y8 (Ys ss)=(QI ss.length++XG (Ys (ss.take k)))++(QI (ss.getD k ⟨#[]⟩).size++((ss.getD k ⟨#[]⟩).data.toList++XG (Ys (ss.drop (k+1))))):=by
 have e:ss=ss.take k++[ss.getD k ⟨#[]⟩]++ss.drop (k+1):=QB;have e2:Ys ss=Ys (ss.take k)++[(ss.getD k ⟨#[]⟩).data.toList]++Ys (ss.drop (k+1)):=by unfold Ys;rw[<-List.map_singleton (f:=λs:Qq=>s.data.toList),<-Zo,<-Zo,<-e]
 rw[Y8,Dh,e2,Ln,Ln,Ra,BM];simp
def Iq(ss:List Qq)(k:Nat):(QI ss.length++XG (Ys (ss.take k))).length=4+Yy (Ys (ss.take k)):=by rw[Zb,Hr];rfl
def Ip(s:Qq)(ss:List Qq)(w:Qs)(h:s.data.toList=Y8 (Ys ss))(hs:s.size<=100000):Calls prog 155 #[.string s] w λe w'=>∃a cap,e=.returned (.tuple #[.slice a ss.length cap,.nilIface])/\w'.ownsRow w 9 1 (.slice a ss.length cap) ss.length (QS ss)/\Below w w w':=by
 have⟨j0,cw,de,df,dh⟩:=ZE Cj;have hlen:s.size=4+Yy (Ys ss):=by rw[CV h,Xo]
 have dm:4*ss.length<=100000:=by have:=Ep (Ys ss);rw[Dh] at this;omega
 have F:Wz s.data.toList=ss.length:=by rw[h,Y8,B5 _ (by rw[Dh];omega),Dh]
 have bu:4<=s.size:=Qw;have dp:ss.length<=s.size-4:=by have:=Ep (Ys ss);rw[Dh] at this;omega
 have cy:(ss.length:Int)<=(s.size:Int)-4:=Qw;have ai:∀k,k<ss.length->4+Yy (Ys (ss.take k))+4+(ss.getD k ⟨#[]⟩).size+Yy (Ys (ss.drop (k+1)))=s.size:=λk C=>by rw[CV h,Mu ss k C,Zb,Iq,Zb,Zb,Hr,BM];simp[Wl];omega
 have ag:∀k,k<ss.length->4+Yy (Ys (ss.take (k+1)))=4+Yy (Ys (ss.take k))+4+(ss.getD k ⟨#[]⟩).size:=λk C=>by rw[GO ss k C,Hq,Lm,BM];omega
 have bq:∀k,k<ss.length->Wz (s.extract (4+Yy (Ys (ss.take k))) s.size).data.toList=(ss.getD k ⟨#[]⟩).size:=λk C=>by rw[Lib.extract_to_end,h,Mu ss k C,<-Iq ss k,Zfm,B5 _ QA]
 have hcut:∀k,k<ss.length->s.extract (4+Yy (Ys (ss.take k))+4) (4+Yy (Ys (ss.take k))+4+(ss.getD k ⟨#[]⟩).size)=ss.getD k ⟨#[]⟩:=λk C=>by have:=GM (s:=s) (a:=QI ss.length++XG (Ys (ss.take k))++QI (ss.getD k ⟨#[]⟩).size) (m:=(ss.getD k ⟨#[]⟩).data.toList) (r:=XG (Ys (ss.drop (k+1)))) (by rw[h,Mu ss k C];simp) (4+Yy (Ys (ss.take k))+4) (4+Yy (Ys (ss.take k))+4+(ss.getD k ⟨#[]⟩).size) (by rw[Zb,Iq];rfl) (by rw[Zb,Iq,BM];rfl);rw[this]
 have H:=ZI h;have HL:=ZI hlen;have HR:=ZI F;have HE:=ZI ai;have HS:=ZI ag;have ct:=ZI bq;have HC:=ZI hcut;clear h hlen F ai ag bq hcut;go_enter func155,ntmps155;have U:=ZI True.intro;go_wp2_with (first|(go_at_call 214;have m0:=U.o;clear U m0;refine(Ic _ bu _).mono ?_;rw[HR.o];rintro e w1 ⟨rfl,bj⟩;have Z:=ZI bj;clear bj)|(go_at_call 214;refine(Ic _ bu _).mono ?_;rw[HR.o];rintro e w2 ⟨rfl,bm⟩;have M2:=ZI (Z.o.trans (bm.mono Z.o.size));clear bm));have ah:=M2.o;go_loopw [5,6,25] (λl z i wr=>∃k:Nat,k<=ss.length/\i=(k:Int)/\z=((4+Yy (Ys (ss.take k)):Nat):Int)/\wr.ownsRow w 9 1 l k (QS (ss.take k))/\Below w w wr) (λ_ _ i _=>ss.length- (intOf i).toNat)
 .exact⟨0,Qw,rfl,rfl,ZA _ _ _ _,ah⟩
 obtain⟨k,C,rfl,rfl,J,M⟩:=hrel;have hz:=M.size;by_cases O:k<ss.length
 .have he:=HE.o k O;have ay:=HS.o k O;have F:=ct.o k O;have hc:=HC.o k O;have az:=Z7E ss k O;have⟨t,ht⟩:=ZK (ss.getD k ⟨#[]⟩);have⟨z,bg⟩:=ZK (4+Yy (Ys (ss.take k)));rw[ht] at he ay F hc az;rw[bg] at he ay F hc⊢;have e1:z+4+t.size<=s.size:=Qw;have e2:¬ ((s.size:Int)- (z:Int)<4):=Qw;have e3:¬ ((s.size:Int)- (z:Int)-4<(t.size:Int)):=Qw;have e4:(z:Int)<=(s.size:Int):=Qw;have e5:(z:Int)+4+(t.size:Int)<=(s.size:Int):=Qw;have bz:4<=(s.extract z s.size).size:=by rw[ZdU];omega
  have cz:t.size<=140737488355328:=Qw;have dj:=ZI he;have cu:=ZI ay;have bh:=ZI F;have cr:=ZI hc;have HT:=ZI az;have HX:=ZM ht bg;have S0:=ZM J M;have U:=ZI True.intro;clear he ay F hc az ht bg J M;go_wp2_with (first|(go_at_call 214;have m0:=U.o;clear U m0;refine(Ic _ bz _).mono ?_;rw[bh.o];rintro e w3 ⟨rfl,aq⟩;have Z:=ZM (B1 S0.1 aq) (S0.2.trans (aq.mono hz));have cj:=Zq hz aq.size;clear aq)|(go_at_call 214;have m1:=Z.o;clear Z;refine(Ic _ bz _).mono ?_;rw[bh.o];rintro e w4 ⟨rfl,au⟩;have M2:=ZM (B1 m1.1 au) (m1.2.trans (au.mono cj));have cn:=Zq cj au.size;clear au m1)|(go_at_call 216;rw[cr.o];go_fit (Kg _ _ cz);rintro e w5 ⟨rfl,aw⟩;have m2:=M2.o;clear M2;have M3:=ZM (B1 m2.1 aw) (m2.2.trans (aw.mono cn));have bf:=Zq cn aw.size;clear aw m2)|(at_builtin;have m3:=M3.o;clear M3;refine Zel _ rfl (.tmp 57) (.tmp 63) 96 rfl w.heap.size 9 j0 _ 1 16 underlying96 cw de df dh rfl Qw _ k (QS (ss.take k)) rfl (m3.1.alloc _) ⟨w5,0,none⟩ 1 1 [.string t] rfl rfl (Ze4 (cs:= #[.string t]) (t:=9) (fr:=(0,0)) (ZB w5 _)) (by simp[Value.oneCell']) (by unfold maxLen;omega) Qw (Zq bf Qx) ?_;intro v' w7 af aj ak;clear ak;have S4:=ZM af (FN (m3.1.alloc _) (m3.2.alloc bf _) (Zq bf Qx) aj);clear af aj));go_roundw
  .refine⟨k+1,Qw,QC,Bf ?_,?_,S4.2⟩
   .rw[cu.o];omega
   .rw[HT.o];exact S4.1
  simp[intOf];omega
 .obtain rfl:k=ss.length:=by omega
  rw[Zs] at J⊢;obtain⟨a,cap,rfl⟩:=Cd J;have ae:4+Yy (Ys ss)=s.size:=HL.o.symm;rw[ae];have S0:=ZM J M;clear J M ae;go_wp2;go_ret2;exact⟨a,cap,rfl,S0.1,S0.2⟩
