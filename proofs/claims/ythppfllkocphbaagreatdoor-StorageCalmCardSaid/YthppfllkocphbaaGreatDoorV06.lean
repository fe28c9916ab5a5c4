/- Part 7: lemmas. -/
import Derived.Test.YthppfllkocphbaaGreatDoorV05
namespace Go.Proofs.YthppfllkocphbaaGreatDoor
set_option linter.all false
set_option maxHeartbeats 25600000
set_option maxRecDepth 100000
open Tryz Go.RowKit
open Go renaming World->Qs,Value->Qt,TypeId->Qu,Ending->Qv
open Go.Maps Go.WideMaps
variable{a b ca db fb g ga gu n n1 n2 na oa q y:Nat}{Zan:List Ac}{d d':Dir}{f:QF}{rs:List (Nat×Nat)}{sm sz:Int}{ts:List Value}{used:List Bool}{v:Value}{w w' w4 wr:World}
def Jb(used:Qn)(a:Nat):Qj:=(List.range' a (used.length-a)).filter λi=> !used.getD i true
def OU(used:Qn):Jb used 0=XE used:=by unfold Jb XE;rw[Nat.sub_zero,Zga]
theorem Z20(h:a<used.length):Jb used a=if used.getD a true=true then Jb used (a+1) else a::Jb used (a+1):=by unfold Jb;rw[show used.length-a=(used.length- (a+1))+1 from Qw,ZgO,Zfl];grind
def Z1Y(h:used.length<=a):Jb used a=[]:=by unfold Jb;simp_all
theorem Z1Z{i:Nat}(h:i∈Jb used a):i<used.length:=by unfold Jb at h;grind
def Z5d{R:Qj}{x:Bs×Nat}{r:QF}{e:Ent}(h:WF R (x::r) d=some d')(he:d.get x.1=some e):Yu e.size<=R.length/\WF (R.drop (Yu e.size)) r (d.put x.1 {e with runs:=Wh (R.take (Yu e.size))})=some d':=by unfold WF at h;simp_all
def Z0u(l:Qj)(a:Nat):Wh (l++[a])=XZ (Wh l) a:=by unfold Wh;simp
theorem Z6b{l:Qj}(h:∀i∈l,i<n){r:Nat×Nat}(J:r∈Wh l):1<=r.2/\r.1+r.2<=n:=by
 have C:=O5 l r J;refine⟨C,?_⟩;have F:r.1+r.2-1∈Yc (Wh l):=by unfold Yc;grind
 rw[Kh] at F;grind
def Z3s(h:rs≠[]):∃init f m,rs=init++[(f,m)]:=⟨rs.dropLast,(rs.getLast h).1,(rs.getLast h).2,by rw[show((rs.getLast h).1,(rs.getLast h).2)=rs.getLast h from rfl,Zgg]⟩
def Ns(init:List (Nat×Nat))(f m a:Nat):XZ (init++[(f,m)]) a=if f+m=a then init++[(f,m+1)] else init++[(f,m)]++[(a,1)]:=by unfold XZ;simp
def Z0Q(h:Yh w b n d){k:Bs}{e:Ent}(F:d.get k=some e)(J:k.length<=maxLen)(hr:e.runs=[]):∀W,Below w w W->(Instr.lookup 155 (.map (some b)) (.string (str k)) false).run prog W=.ok (.agg #[(e.size:Int),.int .u32 (e.sum:Int),()]) W:=by have⟨a,l,c,U,C⟩:=Ks h F J;obtain⟨M,l',O,he,⟨Z,_⟩,h4⟩:=C;simp_all
structure Cx(w:Qs)(q db fb ga oa na ca gu g:Nat)(used:Qn)(ts:Qk)(Zan:List Ac)(d:Dir)(f:QF)(n1 n2:Nat)(wr:Qs):Prop where
 pl:PlA wr q db fb ga oa na ca (.slice gu used.length used.length) Zan d f n1 n2
 us:Row wr gu 4 (used.map .bool)
 txt:Row wr g 9 ts
 fr:Fr [db] w wr
def Cx.after(h:Cx w q db fb ga oa na ca gu g used ts Zan d f n1 n2 wr)(hb:Below wr wr w'):Cx w q db fb ga oa na ca gu g used ts Zan d f n1 n2 w':=⟨h.pl.after hb,h.us.after hb,h.txt.after hb,h.fr.trans (Z1 (L:=[]) hb) Qx⟩
def Cx.Zbg{F:Nat}(h:Cx w q db fb ga oa na ca gu g used ts Zan d f n1 n2 wr)(C:Fr [db] wr w')(J:Yh w' db F d'):Cx w q db fb ga oa na ca gu g used ts Zan d' f F n2 w':=by have⟨M,m1,_⟩:=h.pl.dir;exact⟨h.pl.Zbg C J,h.us.fr C (CL h.us m1),h.txt.fr C (CL h.txt m1),h.fr.trans C (λi hi _=>by simp at hi;simp[hi])⟩
structure Jw(w4:Qs)(y:Nat)(sz sm:Int)(v:Qt)(rs:List (Nat×Nat))(wr:Qs):Prop where
 bel:Below y w4 wr
 row:Row wr y 164 [sz,.int .u32 sm,v]
 own:wr.ownsRow (y+1) 197 2 v rs.length (Ww rs)
 ye:y=w4.heap.size
 nil:rs=[]->v=.slice none 0 0
def Jw.after(h:Jw w4 y sz sm v rs wr)(hb:Below wr wr w'):Jw w4 y sz sm v rs w':=⟨h.bel.trans (hb.mono (ZeK h.row.lt)),h.row.after hb,B1 h.own hb,h.ye,h.nil⟩
def Jw.Zdm{sz sm:Nat}(h:Jw w4 y sz sm v rs wr):∃a l c,v=.slice a l c/\Xj wr (.agg #[(sz:Int),.int .u32 (sm:Int),.slice a l c]) ⟨sz,sm,rs⟩:=by
 rcases h.own.2 with ⟨hv,C⟩|⟨g,cap,cur,hv,_⟩
 .have F:rs=[]:=ZdW.1 C;exact⟨none,0,0,hv,none,0,0,rfl,⟨C.symm,Zv F⟩,λ_=>⟨rfl,rfl⟩⟩
 .have⟨U,Z,O,M,_,_,_,J⟩:=DD h.own (by rw[hv];simp)
  exact⟨_,_,_,M,_,_,_,rfl,⟨rfl,Zy ⟨U,O,rfl,J⟩⟩,λC=>by
   have F:=h.nil C
   rw[hv] at F;cases F⟩
def Z5q(init:List (Nat×Nat))(f m k:Nat):(Ww (init++[(f,m)])).set (2*init.length+1) (.int .i64 (k:Int))=Ww (init++[(f,k)]):=by rw[I7,I7,Zfu _ _ (by rw[DG];omega),DG];rw[show 2*init.length+1-2*init.length=1 from Qw];rfl
def Jw.grow{v':Qt}{C:Qs}{o:Obj}(h:Jw w4 y sz sm v rs wr)(M:C.ownsRow (y+1) 197 2 v' (rs.length+1) (Ww rs++[.int .i64 (b:Int),.int .i64 1]))(J:(wr.alloc o).grownBy C v.ownBlock):Row C y 164 [sz,.int .u32 sm,v]/\Jw w4 y sz sm v' (rs++[(b,1)]) (C.setCell ⟨y,2,none⟩ v'):=by
 have F:=Ez (h.row.alloc o) J (DC h.row h.own Qx);have O:Below y w4 C:=by have U:Fr (QV v) wr C:=((Fr.refl (QV v) wr).alloc o).grown J (λk hk=>Zv (YV.2 hk));exact h.bel.trans (U.below (ZeK h.row.lt) (λi hi=>by have:=AF h.own (YV.1 hi);omega))
 refine⟨F,O.setCell (p:=⟨y,2,none⟩) (Zt _) _,F.set 2 v',?_,h.ye,λZ=>by simp at Z⟩;have h9:=ownsRow_setCell_below M (a:=⟨y,2,none⟩) (ZgJ y) v';rw[Zb,I7];exact h9
def Jw.more{cap:Nat}{init:List (Nat×Nat)}{f m:Nat}(h:Jw w4 y sz sm (.slice g (init.length+1) cap) (init++[(f,m)]) wr)(k:Nat):Jw w4 y sz sm (.slice g (init.length+1) cap) (init++[(f,k)]) (wr.setCell ⟨g,2*init.length+1,none⟩ (.int .i64 (k:Int))):=by have:y+1<=g:=AF h.own rfl;have C:=h.own;rw[show(init++[(f,m)]).length=init.length+1 from Qx] at C;have:=(C.stored (2*init.length+1) (.int .i64 (k:Int))).1;have F:=h.bel.setCell (p:=⟨g,2*init.length+1,none⟩) QA (.int .i64 (k:Int));have J:Fr [g] wr (wr.setCell ⟨g,2*init.length+1,none⟩ (.int .i64 (k:Int))):=(Fr.refl _ _).setCell (Zv Qx) _;refine⟨F,h.row.fr J QA,?_,h.ye,λM=>by simp at M⟩;rw[show(init++[(f,k)]).length=init.length+1 from Qx,<-Z5q init f m k];omega
def Jw.shape(h:Jw w4 y sz sm v rs wr):(rs=[]/\v=.slice none 0 0)∨∃ (g cap:Nat) (init:List (Nat×Nat)) (f m:Nat),rs=init++[(f,m)]/\v=.slice g (init.length+1) cap/\y+1<=g/\ wr.cell? ⟨g,2*init.length,none⟩=(f:Int)/\wr.cell? ⟨g,2*init.length+1,none⟩=(m:Int):=by
 by_cases C:rs=[]
 .exact Zv ⟨C,h.nil C⟩
 .obtain⟨init,f,m,rfl⟩:=Z3s C
  have⟨O,M,Z,J,U,_,_,F⟩:=DD h.own (λe=>by
   rcases h.own.2 with ⟨_,h9⟩|⟨g,cap,cur,hv,_⟩
   .simp_all
   .rw[e] at hv;cases hv)
  rw[Zb] at J;have:=FS (init++[(f,m)]) init.length Qx;exact Zy ⟨O,M,init,f,m,rfl,J,U,F.cell QA,F.cell QA⟩
def TQ(h:Strs w b v []):∃g cap,v=.slice g 0 cap:=by
 rcases h.2 with ⟨rfl,_⟩|⟨g,cap,cur,rfl,_⟩
 .simp
 .simp
def Z5a(q db fb ga oa na ca gu:Nat)(used:Qn)(Zan:List Ac)(d d':Dir)(f:QF)(n1 n2:Nat)(w:Qs)(h:PlA w q db fb ga oa na ca (.slice gu used.length used.length) Zan d f n1 n2)(hu:Row w gu 4 (used.map .bool))(hp:WF (XE used) f d=some d')(hn:(f.map (·.1)).Nodup)(ha:(f.map (·.2)).Pairwise (· < ·))(ee:f.length<=12)(hi:∀p∈f,p.2<=100000)(cy:∀p∈f,p.1.length<=220)(fo:∀x∈f,∃e,d.get x.1=some e/\e.runs=[]/\e.size<=12000/\e.sum<4294967296)(jr:used.length<=100000)(jm:n1<=100000000):Calls prog 87 #[q,.int .i64 ((XE used).length:Nat)] w λe w'=>e=.returned true/\(∃gj,gj<=n1+12/\PlA w' q db fb ga oa na ca (.slice gu used.length used.length) Zan d' f gj n2)/\Fr [db] w w':=by
 have⟨i0,fe,fw,fx,fy⟩:=ZE KL;have HP:=ZI h;have HU:=ZI hu;have HF:=ZX hn cy fo;have iu:(f.map (·.1)).length=f.length:=Zf ..;have jh:(XE used).length<=used.length:=by unfold XE;exact Zq (ZdM _ _) Qx
 clear h hu;go_enter func87,ntmps87;by_cases eu:f=[]
 .subst eu;have hd:d=d':=by unfold WF at hp;exact ZdZ hp
  subst hd;go_wp2_with (go_at_call 131;go_fit (Hn q db fb ga oa na ca _ Zan d [] n1 n2 _ HP.o hn ha ee hi cy);rintro e w1 ⟨v,rfl,hv,bq⟩;have S1:=ZI bq;obtain⟨g,cap,rfl⟩:=TQ hv;clear hv bq);go_loopw [14] (λiv wr=>iv=(0:Int)/\Below w w wr) (λ_ _=>0)
  .exact⟨rfl,S1.o⟩
  obtain⟨rfl,hb⟩:=hrel;go_wp2;go_ret;exact⟨rfl,⟨n1,Qw,HP.o.after hb⟩,Z1 hb⟩
 have ij:0<f.length:=Zew.2 eu;go_wp2_with (go_at_call 131;go_fit (Hn q db fb ga oa na ca _ Zan d f n1 n2 _ HP.o hn ha ee hi cy);rintro e w1 ⟨v,rfl,hv,bq⟩;obtain⟨g,cap,sp,rfl,ez,jf,jg,fm⟩:=Xf hv (by rw[iu];exact ij);have S1:=ZN fm bq ez;clear hv fm bq ez);have⟨ts,dw⟩:=ZK (QS ((f.map (·.1)).map str)++sp);have fp:∀k (hk:k<f.length),ts[k]? =some (.string (str (f[k]).1)):=λk hk=>by rw[<-dw,Za (by simp[QS];omega)];simp[QS,hk]
 have P1:Cx w q db fb ga oa na ca gu g used ts Zan d f n1 n2 w1:=⟨HP.o.after S1.2.1,HU.o.after S1.2.1,by rw[<-dw];exact S1.1,Z1 S1.2.1⟩;have ia:=ZI P1;have ib:=ZI fp;clear dw fp P1 hn ha hi cy fo;go_loopw [1,5,14] (λfv av iv wr=>∃ (i a:Nat) (di:Dir) (ni:Nat),i<=f.length/\a<=used.length/\fv=.int .i64 ((Jb used a).length:Nat)/\av=(a:Int)/\iv=(i:Int)/\WF (Jb used a) (f.drop i) di=some d'/\ni<=n1+i/\(∀x∈f.drop i,di.get x.1=d.get x.1)/\Cx w q db fb ga oa na ca gu g used ts Zan di f ni n2 wr) (λ_ _ iv _=>f.length- (intOf iv).toNat)
 .exact⟨0,0,d,n1,Qw,Qw,by rw[OU],rfl,rfl,by rw[OU];exact hp,Qw,λ_ _=>rfl,ia.o⟩
 obtain⟨i,a,di,ni,jk,ie,rfl,rfl,rfl,bg,jo,bz,hS⟩:=hrel;have HS:=ZI hS;by_cases dq:i<f.length
 .have au:=hS.txt.cell (ib.o i dq);have bf:f[i]∈f:=Zl dq;have ah:f.drop i=f[i]::f.drop (i+1):=Ze1 dq;rw[ah] at bg bz;have⟨e,eo,du,jq,iz⟩:=HF.3 _ bf;have he:di.get (f[i]).1=some e:=by rw[bz _ Zfs];exact eo
  have j7:=HF.2 _ bf;have dt:∀x∈f.drop (i+1),x.1≠(f[i]).1:=λx hx e9=>by have C:=HF.1;rw[<-ZdH i f,ah,Zo,Zn] at C;have h8:=(ZdP.1 C).2.1;exact(ZdR.1 h8).1 (by rw[<-e9];exact Zeq hx)
  have⟨x,hx⟩:=ZK f[i];rw[hx] at au bg bz he j7 dt;have⟨cn,ak⟩:=Z5d bg he;have fu:x.1.length<=maxLen:=by unfold maxLen;omega
  have dx:=hS.pl.row.c0;have im:=Z0Q hS.pl.dir he fu du _ (Zu _ _);have⟨y,hy⟩:=ZK wr.heap.size;have⟨R,hR⟩:=ZK (Jb used a);have⟨sc,cz⟩:=ZK (Yu e.size);rw[hR] at cn ak⊢;rw[cz] at cn ak;have iy:sc<=200:=by rw[<-cz];unfold Yu;omega
  have HB:Qi (Jw wr y e.size e.sum (.slice none 0 0) [] (wr.alloc (.cells #[(e.size:Int),.int .u32 (e.sum:Int),()] 164))):=ZI ⟨by rw[<-hy];exact(Zu _ wr).alloc (Zt _) _,by rw[<-hy];exact Z2 wr _ [_,_,_],ZA _ _ _ _,hy.symm,λ_=>rfl⟩;have e0:=(Z2 wr 164 [.int .i64 (e.size:Int),.int .u32 (e.sum:Int),.slice none 0 0]).c0;have jd:R.length<=used.length:=by rw[<-hR];unfold Jb;refine Zq (ZdM _ _) ?_;simp
  have sb:IntKind.i64.wrap ((R.length:Int)- (sc:Int))=((R.length-sc:Nat):Int):=by rw[Zr _ Qw];omega
  have sd:decide (((R.length-sc:Nat):Int)<0)=false:=ZC Qw;have HE:=ZZ ak bz dt iz hR;have HX:=ZY hx fu hy cz;have ja:=ZM he du;clear bg ak bz dt eo he du hx hS ah bf hR hp cz;go_wp2_with (go_at_call 90;refine(Ml e.size Qw _).mono ?_;rw[HX.4];rintro r w9 ⟨rfl,rfl⟩);clear e0 im dx sb sd au;go_loopw [5,9] (λav lv wi=>∃ (b j:Nat) (v:Qt),a<=b/\b<=used.length/\j<=sc/\av=(b:Int)/\lv=((sc-j:Nat):Int)/\Jb used b=R.drop j/\Jw wr y e.size e.sum v (Wh (R.take j)) wi) (λav _ _=>used.length- (intOf av).toNat)
  .exact⟨a,0,_,Qw,ie,Qw,rfl,rfl,by rw[HE.5];rfl,HB.o⟩
  obtain⟨b,j,v,je,ig,fh,rfl,rfl,aw,bj⟩:=hrel;have O:=ZI bj;have cu:=ZI (HS.o.after (by rw[HX.3];exact bj.bel));have j8:=bj.row.lt;by_cases hj:j<sc
  .have dj:R.drop j≠[]:=λe9=>by have:=List.drop_eq_nil_iff.1 e9;omega
   have dh:b<used.length:=by
    rcases ZeF b used.length with C|C
    .exact C
    .rw[Z1Y C] at aw;exact absurd aw.symm dj
   have aq:=Z20 dh
   have ct:=cu.o.us.cell (j:=b) (v:=.bool (used.getD b true)) (by
    rw[Ze8,Z8 dh,Z7,Z8 dh];rfl)
   have df:=cu.o.pl.row.c3;have g0:decide (0<((sc-j:Nat):Int))=true:=Zem Qw;cases hu:used.getD b true
   case true=>
    rw[hu] at ct aq;have bm:=ZM aw aq;clear aw aq bj dj hu;go_wp2;go_roundw
    .exact⟨b+1,j,v,Qw,Qw,fh,QC,rfl,by rw[<-bm.1,bm.2];rfl,O.o⟩
    simp[intOf];omega
   case false=>
    rw[hu] at ct aq;rw[Zw Qz] at aq;rw[aw] at aq;have fa:R[j]? =some b:=by
     have C:(R.drop j)[0]? =some b:=by rw[aq];rfl
     rw[Zf2] at C;exact C
    have cr:R.take (j+1)=R.take j++[b]:=by rw[Zfe,fa];rfl
    have cj:Jb used (b+1)=R.drop (j+1):=by
     have C:(R.drop j).drop 1=Jb used (b+1):=by rw[aq];rfl
     rw[Zf3] at C;exact C.symm
    have eh:Wh (R.take (j+1))=XZ (Wh (R.take j)) b:=(by rw[cr,Z0u]);have ef:∀z∈R.take j,z<used.length:=λz hz=>Z1Z (a:=a) (by rw[HE.5];exact ZdK hz);have HJ:=ZX cj eh ef;clear aw aq bj dj hu fa cr cj eh ef;have e2:=O.o.row.c2;have sj:IntKind.i64.wrap (((sc-j:Nat):Int)-1)=((sc- (j+1):Nat):Int):=by rw[Zr _ Qw];omega
    rcases O.o.shape with ⟨bh,rfl⟩|⟨gr,aj,init,fr,m,bh,rfl,ji,cf,cm⟩
    .have U:=ZI bh;clear bh;go_wp2;go_quiet (fail);have J:=YE (Zu wr wr) nq;have F:=O.o.after J;have S3:=cu.o.after J;generalize wr.drewN nq=w3 at*
     have dz:=F.row.c2;have ay:=ZI F;have jb:=ZI S3;clear J F S3 e2 ct df g0 sj;go_wp2_with (at_builtin;refine Zel _ rfl (.tmp 78) (.tmp 81) 162 rfl (y+1) 197 i0 _ 2 16 underlying162 fe fw fx fy rfl Qw (.slice none 0 0) 0 [] rfl (ZA _ _ _ _) ⟨w3,0,none⟩ 1 1 [.int .i64 (b:Int),.int .i64 1] rfl rfl (Ze4 (cs:= #[.int .i64 (b:Int),.int .i64 1]) (t:=197) (fr:=(0,0)) (ZB w3 _)) (by simp[Value.oneCell']) (by unfold maxLen;omega) Qw (by have:=ay.o.row.lt;simp;omega) ?_;intro v' w6 ae ai af;obtain⟨g6,ag,j9,rfl,_,_,_,_⟩:=DD ae (λe6=>by have:=af.1 e6;omega);clear af;have Z:=ay.o.grow (v':=.slice g6 (0+1) ag) (by rw[U.o];exact ae) ai;have f26:=Z.1.free (j:=2) Qx;have ic:=Z.1.c2;have de:=ZI Z;clear Z ae ai);go_roundw
     .refine⟨b+1,j+1,.slice g6 1 ag,Qw,Qw,Qw,QC,rfl,HJ.1,?_⟩;rw[HJ.2,show XZ (Wh (R.take j)) b=Wh (R.take j)++[(b,1)] from by rw[U.o];rfl];exact de.2
     simp[intOf];omega
    .have fg:(fr,m)∈Wh (R.take j):=by rw[bh];simp
     have⟨fi,fj⟩:=Z6b HJ.3 fg;have bu:(Wh (R.take j)).length<=200:=by have:=Z0v (R.take j);rw[Zg] at this;omega
     rw[bh,Zb,ZeC] at bu;have ir:fr+m<=used.length:=fj;have iq:1<=m:=fi;have U:=ZI bh;have fc:gr<wr:=(O.o.own.lt gr rfl).2;clear bh fg fi fj;have⟨il,cw⟩:=ZK init.length;have⟨M,dp⟩:=ZK (il+1);rw[cw,Ze0] at cf cm;rw[cw,dp] at e2 O bu;have ik:il<M:=Qw;have jl:IntKind.i64.wrap ((M:Int)-1)=(il:Int):=by rw[Zr _ Qw];omega
     have az:=ZM cw dp;clear cw dp;go_wp2;have g1:decide (0<=(il:Int))=true:=Zem Qw;by_cases ey:fr+m=b
     .have ix:decide ((fr:Int)+(m:Int)=(b:Int))=true:=Zem Qw;go_quiet (fail);have J:=YE (Zu wr wr) nq;have F:=O.o.after J;have dy:(wr.drewN nq).cell? ⟨gr,il*2+1,none⟩=(m:Int):=by rw[Zfz (J.block gr fc)];exact cm
      generalize wr.drewN nq=w3 at*
      have dz:=F.row.c2;have ho:w3.ownsRow (y+1) 197 2 (.slice gr M aj) M (Ww (Wh (R.take j))):=by have C:=F.own;rw[show(Wh (R.take j)).length=M from by rw[U.o,Zb,ZeC,az.1,az.2]] at C;exact C
      have jc:=ho.frozenAt (il*2+1);have HO:=ZI ho;have ay:=ZI F;clear J F e2 ct df g0 sj cm cf ho;go_wp2;go_roundw
      .refine⟨b+1,j+1,.slice gr M aj,Qw,Qw,Qw,QC,rfl,HJ.1,?_⟩;rw[HJ.2,U.o,Ns,Zx ey];have C:=ay.o;have⟨q1,q2⟩:=az.o;subst q2;subst q1;rw[U.o] at C;have h8:=C.more (m+1);rw[Ze0 2] at h8;exact h8
      simp[intOf];omega
     .have ix:decide ((fr:Int)+(m:Int)=(b:Int))=false:=ZC Qw;go_quiet (fail);have J:=YE (Zu wr wr) nq;have F:=O.o.after J;have dy:(wr.drewN nq).cell? ⟨gr,il*2+1,none⟩=(m:Int):=by rw[Zfz (J.block gr fc)];exact cm
      generalize wr.drewN nq=w3 at*
      have dz:=F.row.c2;have ho:w3.ownsRow (y+1) 197 2 (.slice gr M aj) M (Ww (Wh (R.take j))):=by have C:=F.own;rw[show(Wh (R.take j)).length=M from by rw[U.o,Zb,ZeC,az.1,az.2]] at C;exact C
      have HO:=ZI ho;have ay:=ZI F;clear J F e2 ct df g0 sj cm cf ho;clear dy;go_wp2_with (at_builtin;refine Zel _ rfl (.tmp 78) (.tmp 81) 162 rfl (y+1) 197 i0 _ 2 16 underlying162 fe fw fx fy rfl Qw (.slice gr M aj) M (Ww (Wh (R.take j))) rfl (HO.o.alloc _) ⟨w3,0,none⟩ 1 1 [.int .i64 (b:Int),.int .i64 1] rfl rfl (Ze4 (cs:= #[.int .i64 (b:Int),.int .i64 1]) (t:=197) (fr:=(0,0)) (ZB w3 _)) (by simp[Value.oneCell']) (by unfold maxLen;omega) Qw (by have:=ay.o.row.lt;simp;omega) ?_;intro v' w6 ae ai af;obtain⟨g6,ag,j9,rfl,_,_,_,_⟩:=DD ae (λe6=>by have:=af.1 e6;omega);clear af;have Z:=ay.o.grow (v':=.slice g6 (M+1) ag) (by rw[show(Wh (R.take j)).length=M from by rw[U.o,Zb,ZeC,az.1,az.2]];exact ae) ai;have f26:=Z.1.free (j:=2) Qx;have ic:=Z.1.c2;have de:=ZI Z;clear Z ae ai);go_roundw
      .refine⟨b+1,j+1,.slice g6 (M+1) ag,Qw,Qw,Qw,QC,rfl,HJ.1,?_⟩;have C:XZ (Wh (R.take j)) b=Wh (R.take j)++[(b,1)]:=(by rw[U.o,Ns,Zw ey]);rw[HJ.2,C];exact de.2
      simp[intOf];omega
  .have dm:j=sc:=(by omega);clear hj fh;subst dm;have g0:decide (0<((j-j:Nat):Int))=false:=ZC Qw;obtain⟨a',l',c',rfl,er⟩:=O.o.Zdm;have J:=(Zu wr wr).drew;have D:=cu.o.after J;have dx:=D.pl.row.c0;have F:=O.o.after J;have e0:=F.row.c0;have e1:=F.row.c1;have e2:=F.row.c2;have⟨w6,iw,ek,ew⟩:=Ku D.pl.dir (by unfold maxLen;omega) x.1 HX.2 _ ⟨e.size,e.sum,Wh (R.take j)⟩ (er.fr (Z1 (L:=[]) J) Qx);have D6:=D.Zbg ew ek;have gy:=ZI D6;have bm:=ZI aw;have ft:=HX.2;clear D F er J ek ew bj D6 aw;go_wp2;go_region;go_wp2;go_roundw
   .refine⟨i+1,b,_,ni+1,Qw,ig,?_,rfl,QC,?_,Qw,?_,gy.o⟩
    .rw[bm.o,Zek]
    .rw[bm.o];exact HE.1
    .intro x' fq;rw[Z9b,Zw (HE.3 x' fq)];exact HE.2 x' (Zh _ fq)
   simp[intOf];omega
 .obtain rfl:i=f.length:=by omega
  rw[Zg4] at bg;have hd:di=d':=by unfold WF at bg;exact ZdZ bg
  subst hd;clear hS;go_wp2;go_ret;exact⟨rfl,⟨ni,Qw,HS.o.pl⟩,HS.o.fr⟩
variable{N T V:Bs}{a:Ac}{k:Nat}
def Z8T(h:Ac.ZaA ⟨1,N,T,V⟩=false):T=[]/\1<=N.length/\N.length<=220/\V.length<=12000:=by unfold Ac.ZaA at h;simp_all
def Z8R(h:Ac.ZaA ⟨2,N,T,V⟩=false):T=[]/\V=[]/\1<=N.length/\N.length<=220:=by unfold Ac.ZaA at h;simp_all
def Z8S(h:Ac.ZaA ⟨3,N,T,V⟩=false):V=[]/\1<=T.length/\T.length<=220/\1<=N.length/\N.length<=220:=by unfold Ac.ZaA at h;simp_all
theorem Z4Y(q db fb ga oa na ca:Nat)(us:Qt)(Zan:List Ac)(d d':Dir)(f f':QF)(n1 n2 k:Nat)(a:Ac)(w:Qs)(h:PlA w q db fb ga oa na ca us Zan d f n1 n2)(hk:Zan[k]? =some a)(hm:Zan.length<=100000)(hw:a.ZaA=false)(C:Xv k a d f=some (d',f'))(ae:n1<=100000000)(af:n2<=100000000)(O:na<=ca):Calls prog 86 #[q,(k:Int)] w λe w'=>e=.returned .nilIface/\(∃ah ai,ah<=n1+1/\ai<=n2+1/\PlA w' q db fb ga oa na ca us Zan d' f' ah ai)/\Fr [db,fb] w w':=by
 have Z:k<Zan.length:=QA;have hg:Zan.getD k ⟨0,[],[],[]⟩=a:=QB;have⟨kd,N,T,V⟩:=a;unfold Xv at C;split at C
 .rename_i J;have F:kd=1:=J;subst F;obtain⟨rfl,h2,M,h4⟩:=Z8T hw;obtain⟨rfl,rfl⟩:=C;exact Z51 q db fb ga oa na ca us Zan d f n1 n2 k N V w h Z hm hg M h4 ae af O
 .rename_i J;have F:kd=2:=J;subst F;obtain⟨rfl,rfl,h2,M⟩:=Z8R hw;split at C
  .rename_i e0 U;obtain⟨rfl,rfl⟩:=C;exact Z4Z q db fb ga oa na ca us Zan d f n1 n2 k N e0 w h Z hm hg M U ae af O
  .grind
 .rename_i J;have F:kd=3:=J;subst F;obtain⟨rfl,h2,M,h4,h5⟩:=Z8S hw;split at C
  .rename_i e0 U;split at C
   .grind
   .rename_i ag;simp at ag;have⟨ak,aq⟩:=ag;obtain⟨rfl,rfl⟩:=C;have aj:f.by N=none:=by have:=Z9t f N;simp_all
    exact Z50 q db fb ga oa na ca us Zan d f n1 n2 k N T e0 w h Z hm hg h5 M ak U aj ae af O
  .grind
 .grind
theorem Z0Y(F:Zan[k]? =some a){d d1:Dir}{f f1:QF}(h:Wi (Zan.drop k) k d f=some (d1,f1)):∃d' f',Xv k a d f=some (d',f')/\Wi (Zan.drop (k+1)) (k+1) d' f'=some (d1,f1):=by have⟨C,he⟩:=ZeP.1 F;rw[Ze1 C,he,Wi] at h;grind
theorem Z0S{f':QF}(h:Xv k a d f=some (d',f'))(O:(f.map (·.2)).Pairwise (· < ·))(C:∀x∈f,x.2<k)(hl:∀x∈f,x.1.length<=220)(hw:a.ZaA=false):(f'.map (·.2)).Pairwise (· < ·)/\(∀x∈f',x.2<k+1)/\∀x∈f',x.1.length<=220:=by
 have F:∀n,((f.del n).map (·.2)).Pairwise (· < ·):=λn=>O.sublist ((Zer).map _);unfold Xv at h;split at h
 .rename_i M;simp[ZdC,ZfI] at h;obtain⟨rfl,rfl⟩:=h;refine⟨?_,λx hx=> ?_,λx hx=> ?_⟩
  .rw[Zo,List.pairwise_append];refine⟨F _,Qx,λx hx y J=> ?_⟩;obtain⟨z,U,rfl⟩:=Zz.1 hx;simp[Zn,Zf9,Z6] at J;subst J;exact C z (Z9a.1 U).1
  .rcases Zj.1 hx with hx|hx
   .have:=C x (Z9a.1 hx).1;omega
   .simp_all
  .rcases Zj.1 hx with hx|hx
   .exact hl x (Z9a.1 hx).1
   .rw[Z6] at hx;subst hx;exact(Z9W hw M).2.1
 .split at h
  .simp[ZdC,ZfI] at h;obtain⟨rfl,rfl⟩:=h;exact⟨F _,λx hx=>by have:=C x (Z9a.1 hx).1;omega,λx hx=>hl x (Z9a.1 hx).1⟩
  .grind
 .split at h
  .split at h
   .cases h
   .simp[ZdC,ZfI] at h;obtain⟨rfl,rfl⟩:=h;exact⟨(F a.name).sublist ((Zer).map _),λx hx=>by have:=C x (Z9a.1 (Z9a.1 hx).1).1;omega,λx hx=>hl x (Z9a.1 (Z9a.1 hx).1).1⟩
  .grind
 .grind
theorem Z0W(hw:∀a∈Zan,a.ZaA=false):∀{k:Nat} {d d':Dir} {f f':QF},Wi Zan k d f=some (d',f')->(f.map (·.2)).Pairwise (· < ·)->(∀x∈f,x.2<k)->(∀x∈f,x.1.length<=220)->(f'.map (·.2)).Pairwise (· < ·)/\(∀x∈f',x.2<k+Zan.length)/\∀x∈f',x.1.length<=220:=by
 induction Zan with
 |nil=>intro k d d' f f' h F C hl;simp[Wi] at h;obtain⟨rfl,rfl⟩:=h;exact⟨F,C,hl⟩
 |cons a r ih=>
  intro k d d' f f' h F C hl;rw[Wi] at h;split at h
  .rename_i d1 f1 J;have⟨M,o2,O⟩:=Z0S J F C hl (hw a Qx);grind
  .grind
def Uf(a b:Qj)(v:Bs):W7 (a++b) v=W7 a v++W7 b (v.drop (64*a.length)):=by
 induction a generalizing v with
 |nil=>simp[W7]
 |cons x a ih=>rw[Zef,W7,W7,ih,Zf3,Zef,Ze,show 64*(a.length+1)=64+64*a.length from Qw]
def Ug(l:Qj)(v:Bs):(W7 l v).length=l.length:=by
 induction l generalizing v with
 |nil=>rfl
 |cons x l ih=>rw[W7,Ze,Ze,ih]
def MS(d:Dir)(Zan:List Ac)(f g:QF):Wb d Zan (f++g)=Wb d Zan f++Wb d Zan g:=by unfold Wb;rw[ZdY]
def Ui(d:Dir)(Zan:List Ac)(x:Bs×Nat){e:Ent}(h:d.get x.1=some e):Wb d Zan [x]=W7 e.Zat (Zan.getD x.2 ⟨0,[],[],[]⟩).value:=by unfold Wb;simp[h]
theorem MT(h:∀x∈f,∃e,d.get x.1=some e/\Ent.Ok 800 100 e):(Wb d Zan f).length<=200*f.length:=by
 induction f with
 |nil=>simp[Z8o]
 |cons x r ih=>
  have⟨e,he,C⟩:=h x Qx;have:e.Zat.length<=200:=by rw[C.Zat];have:=C.size;unfold Yu;omega
  rw[show x::r=[x]++r from rfl,MS,Zb,Ui d Zan x he,Ug,Zb];grind
def Z0P{Y:List DOp}(h:∃r,Wb d Zan f=Y++r)(C:Y≠[]):∃r,Wq d Zan f=Y++r:=by have⟨r,h⟩:=h;refine⟨r++[.fl],?_⟩;unfold Wq;simp_all
variable{B d p s:Nat}{D:Dk}{L:List Nat}{P:Pw}{dir:Dir}{l0:List Value}{us:Value}
structure WrS(B p d:Nat)(P:Pw)(D:Dk)(L:Qj)(s q db fb ga oa na ca:Nat)(us:Qt)(Zan:List Ac)(dir:Dir)(f:QF)(n1 n2:Nat)(l0:Qk)(g:Nat)(ts:Qk)(w:Qs)(A:List DOp)(wr:Qs):Prop where
 pl:PlA wr q db fb ga oa na ca us Zan dir f n1 n2
 st:Row wr s 157 (.pointer d::l0)
 txt:Row wr g 9 ts
 stg:∃P1 D1 L1,Stg B p d 800 L [] A P D w P1 D1 L1 wr
section
variable{A:List DOp}
def WrS.after(h:WrS B p d P D L s q db fb ga oa na ca us Zan dir f n1 n2 l0 g ts w A wr){w':Qs}(hb:Below wr wr w'):WrS B p d P D L s q db fb ga oa na ca us Zan dir f n1 n2 l0 g ts w A w':=by have⟨P1,D1,L1,C⟩:=h.stg;exact⟨h.pl.after hb,h.st.after hb,h.txt.after hb,P1,D1,L1,C.after hb⟩
def PlA.did{L1:Qj}{P1:Pw}{D1:Dk}(h:PlA wr q db fb ga oa na ca us Zan dir f n1 n2)(C:PD B wr p d 800 P D L)(J:Did B p d 800 L [] P1 D1 wr w' L1)(M:ga∉p::L):PlA w' q db fb ga oa na ca us Zan dir f n1 n2:=by
 have F:Fr (p::L) wr w':=by simpa using J.fr
 refine⟨J.row C h.row Qx Qx Qx Qx Qx,h.dir.fr F ?_ C.Zcf,h.fsh.fr F ?_,h.ard.fr F M,h.many,h.ne,h.nag⟩
 .have⟨U,m1,_⟩:=h.dir;have⟨es,O,hb⟩:=m1.block;exact C.Zb9 hb
 .have⟨es,O,hb⟩:=h.fsh.block;exact C.Zb9 hb
end
def Z8q(d:Dir)(Zan:List Ac)(f:QF)(i:Nat)(hi:i<f.length){e:Ent}(h:d.get (f[i]).1=some e):Wb d Zan (f.take (i+1))=Wb d Zan (f.take i)++W7 e.Zat (Zan.getD (f[i]).2 ⟨0,[],[],[]⟩).value:=by rw[Zc hi,MS,Ui d Zan _ h]
def Z8f(l:Qj)(a:Nat)(v:Bs):W7 (l++[a]) v=W7 l v++[.wr a (JZ (v.drop (64*l.length)))]:=by rw[Uf];rfl
def Z8p(d:Dir)(Zan:List Ac)(f:QF)(i:Nat):∃r,Wb d Zan f=Wb d Zan (f.take i)++r:=⟨Wb d Zan (f.drop i),by rw[<-MS,ZdH]⟩
theorem Z4R(v:Qq)(h nn z:Nat)(C:v.size=h)(F:nn=min h 64)(J:z=64-nn):v.extract 0 nn++XN z=JZ v.data.toList:=by
 apply K2;have:v.data.toList.length=h:=QB;rw[data_append];have:(v.extract 0 nn).data.toList=v.data.toList.take 64:=by rw[Zet];grind
 congr 1;show List.replicate z 0=_;simp_all
def Z1O(sz sm:Int)(a:Qm)(l c:Nat)(W:Qs):(Instr.field 164 (.agg #[sz,.int .u32 sm,.slice a l c]) 2).run prog W=.ok (.slice a l c) W:=Qy
def Z8L(B p d:Nat)(P:Pw)(D:Dk)(L:Qj)(s q db fb ga oa na ca:Nat)(us:Qt)(Zan:List Ac)(dir:Dir)(f:QF)(n1 n2:Nat)(l0:Qk)(w:Qs)(h:PD B w p d 800 P D L)(hB:B<=w)(hs:Row w s 157 (.pointer d::l0))(hp:PlA w q db fb ga oa na ca us Zan dir f n1 n2)(ig:ga∉p::L)(hf:∀x∈f,∃e,dir.get x.1=some e/\Ent.Ok 800 100 e/\e.size=(acV Zan x.2).length/\x.2<Zan.length)(hn:(f.map (·.1)).Nodup)(ha:(f.map (·.2)).Pairwise (· < ·))(fy:f.length<=12)(jz:Zan.length<=100000)(iq:∀x∈f,x.1.length<=220)(kg:na<=ca)(ji:D.wait.length<=100000):Calls prog 134 #[s,q] w (Ans w (QH (Wq dir Zan f) P D).1 (Ran B p d 800 L [] (Wq dir Zan f) P D w)):=by
 have hi:∀x∈f,x.2<=100000:=λx hx=>by have⟨e,_,_,_,U⟩:=hf x hx;omega
 have jo:(f.map (·.1)).length=f.length:=Zf ..;have O:=ZZ h hB hs hp ig;have M:=ZZ hf hn ha hi iq;have HM:=ZI jo;clear h hB hs hp ig hf hn ha hi iq;go_enter func134,ntmps134;by_cases ic:f=[]
 .subst ic;have e0:Wq dir Zan []=[]:=rfl;rw[e0];go_wp2_with (go_at_call 131;go_fit (Hn q db fb ga oa na ca _ Zan dir [] n1 n2 _ O.4 M.2 M.3 fy M.4 M.5);rintro e w1 ⟨v,rfl,hv,cj⟩;have S1:=ZI cj;obtain⟨g,cap,rfl⟩:=TQ hv;clear hv cj);go_loopw [5,17] (λwv iv wr=>iv=(0:Int)/\wv=.bool false/\Below w w wr) (λ_ _ _=>0)
  .exact⟨rfl,rfl,S1.o⟩
  obtain⟨rfl,rfl,hb⟩:=hrel;go_wp2;go_ret;exact⟨_,rfl,QK.nil _ _,L,Did.same O.1 [] hb⟩
 have jk:0<f.length:=Zew.2 ic;go_wp2_with (go_at_call 131;go_fit (Hn q db fb ga oa na ca _ Zan dir f n1 n2 _ O.4 M.2 M.3 fy M.4 M.5);rintro e w1 ⟨v,rfl,hv,cj⟩;obtain⟨g,cap,sp,rfl,ij,ke,kf,ix⟩:=Xf hv (by rw[HM.o];exact jk);have S1:=ZN ix cj ij;clear hv ix cj ij);have⟨ts,fm⟩:=ZK (QS ((f.map (·.1)).map str)++sp);have bg:∀k (hk:k<f.length),ts[k]? =some (.string (str (f[k]).1)):=λk hk=>by rw[<-fm,Za (by simp[QS];omega)];simp[QS,hk]
 have W0:WrS B p d P D L s q db fb ga oa na ca us Zan dir f n1 n2 l0 g ts w [] w1:=⟨O.4.after S1.2.1,O.3.after S1.2.1,by rw[<-fm];exact S1.1,P,D,L,Stg.start O.1 [] S1.2.1⟩;have je:=ZI W0;have jd:=ZI bg;clear fm bg W0;go_loopw [5,17] (λwv iv wr=>∃i:Nat,i<=f.length/\wv=.bool (!(Wb dir Zan (f.take i)).isEmpty)/\iv=(i:Int)/\WrS B p d P D L s q db fb ga oa na ca us Zan dir f n1 n2 l0 g ts w (Wb dir Zan (f.take i)) wr) (λ_ iv _=>f.length- (intOf iv).toNat)
 .exact⟨0,Qw,rfl,rfl,je.o⟩
 obtain⟨i,kh,rfl,rfl,hS⟩:=hrel;have HS:=ZI hS;by_cases fc:i<f.length
 .have aw:=hS.txt.cell (jd.o i fc);have aq:f[i]∈f:=Zl fc;have⟨e,he,eu,cz,dq⟩:=M.1 _ aq;have bm:=Z8q dir Zan f i fc he;have af:=Z8p dir Zan f (i+1);have j9:=M.5 _ aq;have bj:f.by (f[i]).1=some (f[i]).2:=Z9s M.2 aq
  have⟨x,hx⟩:=ZK f[i];rw[hx] at aw he cz dq bm j9 bj;have fx:=MT (d:=dir) (Zan:=Zan) (f:=f.take i) (λx hx=>by have⟨e,he,k,_⟩:=M.1 x (ZdK hx);exact⟨e,he,k⟩);have jc:Qi ((Wb dir Zan (f.take i)).length<=2400):=ZI (by rw[Zg] at fx;omega);clear fx;have⟨A0,bq⟩:=ZK (Wb dir Zan (f.take i));rw[bm,bq] at af;rw[bq] at bm HS⊢;have ja:x.1.length<=maxLen:=by unfold maxLen;omega
  have ef:(Zan.getD x.2 ⟨0,[],[],[]⟩).value=acV Zan x.2:=rfl;have⟨V,hV⟩:=ZK (acV Zan x.2);rw[ef] at bm af;rw[hV] at bm cz af;have jy:V.length<=12000:=by rw[<-cz];exact eu.size
  have D1:=HS.o.after ((Zu wr wr).drew);have y2:=D1.pl.row.c2;have y1:=D1.pl.row.c1;have jl:(Instr.lookup 165 (.map (some fb)) (.string (str x.1)) false).run prog wr.drew=.ok (.int .i64 (x.2:Int)) wr.drew:=D1.pl.fsh.ZbO underlying165 (FB _) ja (by unfold Wy;rw[bj];rfl);have jg:wr.drew.cell? ⟨ga,oa+x.2*4+3,none⟩=V:=by rw[<-hV,<-ef];exact(D1.pl.ard.2 x.2 dq).2.2.2
  have jx:x.2<na:=by rw[D1.pl.many];exact dq
  have fp:(x.2:Int)<(na:Int):=Qw;have HE:=Q0 he eu cz bm af ja;have HX:=ZX hx bq hV;have du:=ZI D1;clear hx he eu cz bm bj af j9 ef hV bq hS aq D1 dq;go_wp2;go_region;generalize wr.drew=w3 at*
  clear y2 y1 jl jg jx fp aw;obtain⟨a2,l2,c2,ik,a',l',c',dp,⟨hlen,az⟩, -⟩:=Ks du.o.pl.dir HE.1 HE.6;injection dp with dp;simp at dp;obtain⟨rfl,rfl,rfl⟩:=dp;subst hlen;have fa:=ik _ (Zu _ _);have ew:=Z1O (e.size:Int) (e.sum:Int) a2 e.runs.length c2;have y0:=du.o.pl.row.c0;have HR:=ZI az;clear ik az;go_wp2;clear fa y0 ew;have ag:(Yc e.runs).length=Yu V.length:=by rw[<-HE.3];exact HE.2.Zat
  have aj:(Yc e.runs).length<=200:=by rw[ag];unfold Yu;omega
  have ia:V.length<=64*(Yc e.runs).length:=by rw[ag];unfold Yu;omega
  have ai:=HE.2.many;have fh:e.runs.length<=200:=Zq (G4 e.runs (λr hr=>(ai r hr).1)) aj;have dw:=ZY ai ag aj ia;clear ai ag aj ia;go_loopw [5,8,42] (λwv vv kv wj=>∃J:Nat,J<=e.runs.length/\wv=.bool (!(A0++W7 (Yc (e.runs.take J)) V).isEmpty)/\vv=.string (str (V.drop (64*(Yc (e.runs.take J)).length)))/\kv=(J:Int)/\WrS B p d P D L s q db fb ga oa na ca us Zan dir f n1 n2 l0 g ts w (A0++W7 (Yc (e.runs.take J)) V) wj/\(e.runs=[]∨∃gr sp,a2=some ⟨gr,0,none⟩/\Row wj gr 197 (Ww e.runs++sp))) (λ_ _ kv _=>e.runs.length- (intOf kv).toNat)
  .exact⟨0,Qw,by simp[Yc,W7],by simp[Yc],rfl,by simpa[Yc,W7] using du.o,HR.o⟩
  obtain⟨J,kq,rfl,rfl,rfl,eh,dj⟩:=hrel;have de:=ZM eh dj;by_cases bu:J<e.runs.length
  .obtain⟨gr,ft,rfl,au⟩:∃gr sp,a2=some ⟨gr,0,none⟩/\Row wr gr 197 (Ww e.runs++sp):=by
    rcases dj with h0|h0
    .rw[h0] at bu;cases bu
    .exact h0
   have⟨g1,g2⟩:=FS e.runs J bu;have hl:=DG e.runs;have d1:=au.cell (j:=J*2) (by rw[Za Qw,Ze0];exact g1);have d2:=au.cell (j:=J*2+1) (by rw[Za Qw,Ze0];exact g2);have im:=dw.1 (e.runs.getD J (0,0)) (by rw[Z7,Z8 bu];exact Zl bu);have bg:=GV e.runs J bu;have jt:=GU e.runs (J+1);have⟨fr,ey⟩:=ZK (e.runs.getD J (0,0)).1;have⟨m,hm⟩:=ZK (e.runs.getD J (0,0)).2;rw[ey,hm] at bg im;rw[ey] at d1;rw[hm] at d2;have⟨m1,m2,m3⟩:=im;have⟨F,hF⟩:=ZK (Yc (e.runs.take J));rw[hF] at bg de⊢;have⟨zz,dt⟩:=jt;rw[bg] at dt;have ct:F.length+m+zz.length=(Yc e.runs).length:=by have:=ZF List.length dt;simp[Zb,Zf5] at this;omega
   have HK:=ZY bg dt hF ct;have dx:=ZI au;clear eh dj au g1 g2 hl ey hm bg hF dt ct;go_wp2;have⟨y,hy⟩:=ZK wr.heap.size;have fi:=Z2 wr 197 [.int .i64 (fr:Int),.int .i64 (m:Int)];have bj:=(Zu wr wr).alloc (Zt _) (.cells #[(fr:Int),(m:Int)] 197);have T5:=de.1.after bj;have R5:=dx.o.after bj;rw[hy] at fi⊢;generalize wr.alloc (.cells #[(fr:Int),(m:Int)] 197)=w6 at*
   have fw:=ZN T5 fi R5;clear T5 fi R5 hy d1 d2 bj;go_loopw [5,8,11] (λwv vv av wk=>∃C:Nat,C<=m/\wv=.bool (!(A0++W7 (F++List.range' fr C) V).isEmpty)/\vv=.string (str (V.drop (64*(F.length+C))))/\av=((fr+C:Nat):Int)/\WrS B p d P D L s q db fb ga oa na ca us Zan dir f n1 n2 l0 g ts w (A0++W7 (F++List.range' fr C) V) wk/\Row wk y 197 [(fr:Int),(m:Int)]/\Row wk gr 197 (Ww e.runs++ft)) (λ_ _ av _=>fr+m- (intOf av).toNat)
   .exact⟨0,Qw,Qx,Qx,Qx,by simpa using fw.1,fw.2⟩
   obtain⟨C,kx,rfl,rfl,rfl,ee,cy,fg⟩:=hrel;have x0:=cy.c0;have x1:=cy.c1;have bh:=ZN ee cy fg;by_cases ku:C<m
   .have⟨Z,dh⟩:=ZK (fr+C);have k3:(Z:Int)<(fr:Int)+(m:Int):=Qw;have jh:=HK.4;have jf:64*(F.length+C)<=64*200:=by have:=dw.3;omega
    have⟨dn,er⟩:=ZK (64*(F.length+C));have⟨v,hv⟩:=ZK (str (V.drop dn));have fo:v.size=V.length-dn:=(by rw[<-hv,QW,Zek]);have⟨rl,j7⟩:=ZK (V.length-dn);rw[j7] at fo;have⟨nn,ir⟩:=ZK (min rl 64);have⟨z,hz⟩:=ZK (64-nn);have kj:min (rl:Int) 64=(nn:Int):=Qw;have jb:(64:Int)- (nn:Int)=(z:Int):=Qw;have ky:z<=64:=Qw;have j8:=Zr ((64:Int)- (nn:Int)) Qw;rw[jb] at j8;have jw:IntKind.i64.wrap ((64:Int)- (nn:Int))=(z:Int):=by rw[jb];exact j8
    have iu:nn<=v.size:=Qw;have jq:(nn:Int)<=(rl:Int):=Qw;have jr:nn<=rl:=Qw;have js:(nn:Int)<=(v.size:Int):=Qw;have kt:∀W,(Instr.slice 9 (.string v) none (some (.int .i64 (nn:Int))) none).run prog W=.ok (.string (v.extract 0 nn)) W:=λW=>Mg (P:=prog) 9 underlying9 v nn iu W;have ju:∀W,(Instr.slice 9 (.string v) (some (.int .i64 (nn:Int))) none none).run prog W=.ok (.string (v.extract nn v.size)) W:=λW=>Ch (P:=prog) 9 underlying9 v nn iu W;have iw:v.extract 0 nn++XN z=JZ (V.drop dn):=(by rw[Z4R v rl nn z fo ir.symm hz.symm,<-hv,Yp]);have ib:(v.extract 0 nn).size=nn:=by rw[ZdU];omega
    have ek:∀W,(Op.stringOp .add (v.extract 0 nn) (XN z)).run prog W=.ok (.string (JZ (V.drop dn))) W:=λW=>by rw[<-iw];exact ZdO W _ _ (by rw[ib,DV];omega)
    have⟨ak,dz⟩:=ZK (JZ (V.drop dn));rw[dz] at ek;have ay:v.extract nn v.size=str (V.drop (64*(F.length+(C+1)))):=by
     apply JJ;rw[Lib.extract_to_end,<-hv,Yp,Yp,Zf3];rcases ZeF rl 64 with U|U
     .rw[ZeH Qw,ZeH Qw]
     .congr 1;omega
    have⟨A,hA⟩:=ZK (A0++W7 (F++List.range' fr C) V);have gj:A0++W7 (F++List.range' fr (C+1)) V=A++[.wr Z ak]:=(by rw[Zfx,<-Zd,Z8f,<-Zd,hA,Zb,Zf5,dh,er,dz]);rw[hA] at bh;have⟨P1,D1,L1,ae⟩:=bh.1.stg;have ie:D1.wait.length<1099511627776:=by
     have U:=ae.few;have h8:A.length<=12000:=by rw[<-hA,Zb,Ug,Zb,Zf5];have h7:=jc.o;rw[HX.2] at h7;have h6:=dw.3;omega
     omega
    have gy:B<=wr:=Zq O.2 ae.size;have ah:ga∉p::L1:=λhm=>by
     rcases Zk.1 hm with rfl|hm
     .exact O.5 Qx
     .rcases ae.did.ZaT ga hm with U|U
      .exact O.5 (Zh _ U)
      .have:=O.4.ard.1;omega
    have HQ:=ZR dh gj ay hA ah gy ie;have S0:=ZY (bh.1.after ((Zu wr wr).drew)) (ae.after ((Zu wr wr).drew)) (bh.2.1.after ((Zu wr wr).drew)) (bh.2.2.after ((Zu wr wr).drew));have s0:wr.drew.cell? s=d:=S0.1.st.c0;rw[dh,er,hv];clear ee cy fg dh er hv j7 ir hz iw ib dz ay hA gj ae ie gy ah jh jf;go_wp2;go_region_held3 (λw'=>w'.cell? s=d) (first|assumption|exact S1.1.st.c0|exact S2.o.c0)
     (first|(go_at_call 120;refine(Tryz.strings_Repeat ⟨#[0]⟩ z _ Qw (by show 1*z<=_;omega)).mono ?_;rw[FW];rintro e w7 ⟨rfl,cn⟩;have S1:=ZO (S0.1.after cn) (S0.2.after cn) (S0.3.after cn) (S0.4.after cn);clear cn)|(go_at_call 190;go_fit (Z9P S1.2.1.did.pd (Zq O.2 S1.2.1.size) (Z:Int) ak HQ.2.2.2.2.2.2);rintro e w8 ⟨ev,rfl,cw,L2,eo⟩;have S2:=ZI (eo.row S1.2.1.did.pd S1.1.st Qx Qz Qz Qz Qz);have S3:=ZM cw eo;clear cw eo))
    have ah:=HQ.2.2.2.2.1;have fe:PlA w8 q db fb ga oa na ca us Zan dir f n1 n2:=S1.1.pl.did S1.2.1.did.pd S3.2 ah;have fj:Row w8 g 9 ts:=S3.2.row S1.2.1.did.pd S1.1.txt Qx Qz Qz Qz Qz;have fq:Row w8 y 197 [(fr:Int),(m:Int)]:=S3.2.row S1.2.1.did.pd S1.2.2.1 Qx Qz Qz Qz Qz;have ez:Row w8 gr 197 (Ww e.runs++ft):=S3.2.row S1.2.1.did.pd S1.2.2.2 Qx Qz Qz Qz Qz;have df:=S3.1;have cu:(QH [DOp.wr Z ak] P1 D1).1=X8 P1 D1 (Z:Int) ak:=by rw[G3];rfl
    have dm:Ran B p d 800 L1 [] [DOp.wr Z ak] P1 D1 w7 w8:=Ran.one ⟨L2,S3.2⟩;rcases df.split with ⟨hc,rfl⟩|⟨hc,b,rfl⟩
    .have⟨P2,D2,L3,bf⟩:=S1.2.1.next (by rw[cu];exact hc) dm
     have S4:=ZX (WrS.mk fe S2.o fj ⟨P2,D2,L3,bf⟩) fq ez;clear fe fj fq ez df cu dm bf hc ah;go_wp2;go_roundw
     .obtain⟨q1,q2,q3,q4, -⟩:=HQ.o;exact⟨C+1,Qw,by rw[q2];simp,by rw[<-q3,fo],by rw[<-q1];go_num,by rw[q2];exact S4.1,S4.2,S4.3⟩
     have:=HQ.1;simp[intOf];omega
    .have bz:=S1.2.1.fail (by rw[cu];exact df) dm;have cr:=S1.2.1.Zb7 (b:=[DOp.wr Z ak]) (by rw[cu];exact hc);have af:∃r,Wq dir Zan f=(A++[DOp.wr Z ak])++r:=by
      refine Z0P ?_ Qx;have⟨r,hr⟩:=HE.5;obtain⟨q1,q2,q3,q4, -⟩:=HQ.o;rw[hr,<-q2,show e.Zat=Yc e.runs from rfl,HK.2];have jm:List.range' fr m=List.range' fr (C+1)++List.range' (fr+(C+1)) (m- (C+1)):=by rw[List.range'_append_1];congr 1;omega
      rw[jm,<-Zd F,Zd (F++_),Uf];exact⟨W7 (List.range' (fr+(C+1)) (m- (C+1))++zz) (List.drop (64*(F++List.range' fr (C+1)).length) V)++r,by simp[Zd]⟩
     have⟨r9,iz⟩:=af;have HN:=ZM (WN (r:=r9) cr bz) iz;clear bz cr iz fe fj fq ez df cu dm hc ah;go_wp2;go_ret;have U:=HN.1;rw[<-HN.2] at U;exact U
   .obtain rfl:C=m:=(by omega);have k3:¬ ((fr+C:Nat):Int)<(fr:Int)+(C:Int):=Qw;clear ee cy fg;go_wp2;go_roundw
    .exact⟨J+1,Qw,by rw[HK.1],by rw[HK.1,Zb,Zf5],QC,by rw[HK.1];exact bh.1,Zy ⟨gr,ft,rfl,bh.2.2⟩⟩
    simp[intOf];omega
  .obtain rfl:J=e.runs.length:=(by omega);rw[Zs] at de;clear eh dj;go_wp2;go_roundw
   .have U:Wb dir Zan (f.take (i+1))=A0++W7 (Yc e.runs) V:=HE.4;exact⟨i+1,Qw,by rw[U,Zs],QC,by rw[U];exact de.1⟩
   simp[intOf];omega
 .obtain rfl:i=f.length:=by omega
  rw[Zs] at HS⊢;have⟨P1,D1,L1,ae⟩:=HS.o.stg;have HG:=ZI ae;have⟨A,hA⟩:=ZK (Wb dir Zan f);have e9:Wq dir Zan f=if A.isEmpty then[] else A++[.fl]:=by unfold Wq;rw[hA]
  rw[hA] at HG⊢;clear hS ae;have fu:=ZI e9;clear e9 hA;cases dy:A.isEmpty
  case true=>have bq:=List.isEmpty_iff.1 dy;subst bq;clear dy;go_wp2;go_ret;rw[show Wq dir Zan f=[] from fu.o];exact HG.o.ok w.heap.size
  case false=>have c0:=HS.o.st.c0;go_wp2_with (go_at_call 191;go_fit (Z9y HG.o.did.pd (Zq O.2 HG.o.size));rintro e w8 ⟨ev,rfl,cw,iy⟩;have S3:=ZM cw iy;clear cw iy);go_ret;rw[show Wq dir Zan f=A++[.fl] from by rw[fu.o,Zw (by rw[dy];decide)]];exact HG.o.fail S3.1 S3.2
variable{a b:Dir}
def Z5v(P:Pw)(D:Dk)(a:Int):rdy P D a≠12:=by unfold rdy;omega
theorem Z9Y(P:Pw)(D:Dk)(o:DOp):o.code P D≠12:=by
 have:=Z5v P D;cases o with
 |wr a s=>show X8 P D a s≠12;unfold X8;grind
 |fl=>show Ja P D≠12;unfold Ja;grind
def Z63(l:List DOp)(P:Pw)(D:Dk):(QH l P D).1≠12:=by
 induction l generalizing P D with
 |nil=>simp[QH]
 |cons o l ih=>
  rw[CQ];split
  .simp_all
  .exact Z9Y P D o
def Wf.fit{half:Nat}{R:Nat->ByteArray}{S:Sto}{Zau:List Rec}(h:Wf n half R S Zau)(C:half<=1000)(he:S.j.Zar<=3000000000):S.j.Fit/\S.j.next<=S.j.half:=by
 have:=h.img.on.fits;have:=Lk (Zau.map Rec.enc);have:=h.ZaP;have:=h.img.many;have:=h.img.next
 exact⟨⟨Qw,he,Qw,Qw⟩,Qw⟩
def A8(w:Qs)(ga oa:Nat)(Zan:List Ac):Prop:=BP w ga oa Zan/\∃l,Row w ga 151 l
structure Nh(B p d j:Nat)(L:Qj)(ops:List DOp)(J1:Jn)(P:Pw)(D:Dk)(w w':Qs):Prop where
 ran:Ran B p d 800 L [j] ops P D w w'
 ok:(QH ops P D).1=0->JAt w' j d J1
def VV(ha:a.Zax)(hb:b.Zax):(a.both b).length<=a.length+b.length:=by
 have C:=(Z9g (Z9n ha b)).length_le_of_subset (l₂:=a.names++b.names) (λn J=>by
  have h:=XI.1 J;rw[Z9d _ hb] at h;cases F:b.get n with
  |some e=>exact Zf8 _ (XI.2 QB)
  |none=>
   rw[F] at h
   exact Zen _ (XI.2 h))
 simpa[Dir.names] using C
def VW(hb:b.Zax)(h:b≠[]):a.both b≠[]:=by
 intro F;cases b with
 |nil=>exact h rfl
 |cons x r=>have J:=Z9k hb (n:=x.1) (e:=x.2) Qx;have C:=Z9d (a:=a) x.1 hb;rw[J,F] at C;cases C
def Z3r(B p d:Nat)(P:Pw)(D:Dk)(L:Qj)(s j q db fb ga oa na ca sb nb:Nat)(us bm:Qt)(S:Sto)(Zau:List Rec)(R:Nat->ByteArray)(Zan:List Ac)(dir:Dir)(f:QF)(n1 n2:Nat)(w:Qs)(h:PD B w p d 800 P D L)(hB:B<=w)(hs:Row w s 157 [d,j,(S.half:Int),.map (some sb),us,false])(hj:JAt w j d S.j)(eh:B<=j)(ey:Yh w sb nb S.dir)(fp:nb<=100000000)(hp:PlA w q db fb ga oa na ca bm Zan dir f n1 n2)(cj:ga∉p::L)(hi:Wf 800 100 R S Zau)(ai:Cw 800 100 R S.dir Zan dir f)(hr:Cy S dir f)(ha:(f.map (·.2)).Pairwise (· < ·))(fh:f.length<=12)(fi:Zan.length<=100000)(fq:∀x∈f,x.1.length<=220)(fj:na<=ca)(fo:D.wait.length<=1000)(ht:Ty w)(hg:0<B)(fy:S.j.Zar<=2000000000)(gy:S.dir.length<=10000):Calls prog 92 #[s,q,.string (str (Xi dir))] w (Ans w (QH (S.ops Zan dir f) P D).1 (Nh B p d j L (S.ops Zan dir f) (S.Zbp dir f) P D w)):=by
 have bz:∀x∈f,∃e,dir.get x.1=some e/\Ent.Ok 800 100 e/\e.size=(acV Zan x.2).length/\x.2<Zan.length:=λx hx=>by obtain⟨e,he,k1,k2,k3,k4⟩:=ai.fresh x hx;exact⟨e,he,ai.ok.get he,k1,k4⟩
 have cr:=hi.ok;obtain⟨ay,er⟩:=hi.fit Qw Qw;have du:=hi.open_;have ek:=hi.ZaP;have dp:=VW (a:=S.dir) ai.ok.sorted hr.ne2;have dq:=VV cr.sorted ai.ok.sorted;have ft:=MT (d:=dir) (Zan:=Zan) (f:=f) (λx hx=>by obtain⟨e,he,k,_⟩:=bz x hx;exact⟨e,he,k⟩);obtain⟨A,hA⟩:=ZK (Wq dir Zan f);have fx:A.length<=2401:=by
  rw[<-hA];unfold Wq;split
  .simp
  .rw[Zb,ZeC];omega
 obtain⟨Jo,af⟩:=ZK (S.Zbe dir f);have bf:S.ops Zan dir f=A++Jo:=by unfold Sto.ops;rw[hA,af]
 obtain⟨J1,Z⟩:=ZK (S.Zbp dir f);rw[bf,Z];have de:=Z8L B p d P D L s q db fb ga oa na ca bm Zan dir f n1 n2 _ w h hB hs hp cj bz ai.fr ha fh fi fq fj Qw;rw[hA] at de;obtain⟨m,hm⟩:=ZK (YD S.dir dir f).length;have eo:m≠0:=by rw[<-hm];exact λe=>hr.ne1 (ZdW.1 e)
 have gj:decide ((m:Int)=0)=false:=ZC Qw;obtain⟨so,cy⟩:=ZK (JI (YD S.dir dir f));have cz:=hr.some_;rw[cy] at cz;have fu:=hr.whole;have HW:=ZI de;have C:=Q1 h hB hs hj ey hp cj;have HI:=Q0 hi ai hr cr dp dq;have U:=ZZ hA af Z hm cy;have M:=ZZ du ay er eh ek;have HT:=ZM ht hg;have HM:=ZI eo;clear de h hB hs hj ey hp cj hi ai hr cr dp dq hA af Z hm cy du ay er eh ek ht hg eo bz bf ft;go_enter func92,ntmps92;go_wp2_with fail;refine HW.o.mono ?_;rintro e w1 ⟨ev,rfl,he,L1,O⟩;rcases he.split with ⟨hc,rfl⟩|⟨hc,b,rfl⟩
 case inr=>have HE:=ZX he hc O;clear he hc O;go_wp2_with fail;go_ret;exact⟨_,rfl,by rw[Fc HE.2];exact HE.1,Ran.stop HE.2 ⟨L1,HE.3.wider Qx⟩,λh0=>absurd h0 (Wp HE.2)⟩
 have aj:=Sg hc;obtain⟨P1,dm⟩:=ZK (QH A P D).2.1;obtain⟨D1,dj⟩:=ZK (QH A P D).2.2;rw[dm,dj] at aj O;have T1:Stg B p d 800 L [j] A P D w P1 D1 L1 w1:=⟨aj,O.wider Qx⟩;have az:D1.wait.length<=100000:=by have:=T1.few;omega
 have eu:PlA w1 q db fb ga oa na ca bm Zan dir f n1 n2:=C.6.did C.1 O C.7;have cu:=O.row C.1 C.3 Qx Qx Qx Qx Qx;have dy:JAt w1 j d S.j:=JAt.did O C.1 C.4 Qx
 have bg:Yh w1 sb nb S.dir:=C.5.fr O.fr (by
  obtain⟨fv,m1,_⟩:=C.5;obtain⟨es,cl,hb⟩:=m1.block
  simpa using C.1.Zb9 hb) (by simpa using C.1.Zcf)
 have ez:Ty w1:=Ty.did HT.1 O HT.2 C.1.bp C.1.bL Qx;have bu:=Z0h 800 100 q db fb ga oa na ca bm Zan dir S.dir f n1 n2 sb nb w1 eu bg HI.2.ok HI.4 Qw HI.5 fp HI.3.many (by have:=HI.6;have:=HI.3.many;omega) HI.3.some_;rw[U.5,U.4] at bu;have HC:=ZZ T1 cu dy ez bu;have c3:=cu.c3;clear he hc O aj dm dj T1 eu cu dy bg ez bu;go_wp2_with fail;refine HC.5.mono ?_;rintro e w2 ⟨rfl,au⟩;have T2:=HC.1.after au;have cw:=HC.2.after au;have dz:JAt w2 j d S.j:=JAt.after HC.3 au;have fa:Ty w2:=HC.4.below au;have c1:=cw.c1;have J:=ZY T2 cw dz fa;have dh:B<=w2:=Zq C.2 T2.size;have HB:=ZI dh;clear c3 au T2 cw dz fa dh;go_wp2_with fail;by_cases ae:QQ so.length / 64<=S.j.half-S.j.next
 .have af:S.j.ZaM so=Jo:=by have F:=U.2;unfold Sto.Zbe at F;rw[U.5,Zx ae] at F;exact F
  have Z:S.j.appended so=J1:=by have F:=U.3;unfold Sto.Zbp at F;rw[U.5,Zx ae] at F;exact F
  have ak:=Z38 B p d 800 j P1 D1 L1 S.j (str so) w2 J.1.did.pd HB.o J.3 M.4 J.4 HT.2 M.1 M.2 (by rw[QW];exact cz) M.3 (by rw[QW];exact ae) (by have h1:=M.3;have h2:=M.5;omega) az;rw[Yp,af,Z] at ak;have bq:=ZI ak;clear ak af Z ae;refine bq.o.mono ?_;rintro e w3 ⟨ev,rfl,ag,bj⟩;have ah:∀w',w3=w'->Ans w (QH (A++Jo) P D).1 (Nh B p d j L (A++Jo) J1 P D w) (.returned ev) w':=λw' e9=>by subst e9;exact⟨ev,rfl,by rw[CB J.1.run];exact ag.base J.1.size,Ran.go J.1.run J.1.did bj.ran,λh0=>bj.ok (by rw[CB J.1.run] at h0;exact h0)⟩
  have cn:=Z63 Jo P1 D1;have aq:=ZN ah ag cn;rcases ag.split with ⟨hc,rfl⟩|⟨hc,b,rfl⟩
  .clear ag bj ah cn hc;go_wp2_with fail;go_ret;exact aq.1 _ rfl
  .obtain⟨cd,dt⟩:=ZK (QH Jo P1 D1).1;rw[dt] at aq;have fm:(cd==12)=false:=by have:=aq.2.2;simpa using this
   clear ag bj ah cn hc dt;go_wp2_with (go_at_call 19;refine(JQ _ cd 12 _ _ aq.2.1 Qz).mono ?_;rw[fm];rintro e w4 ⟨rfl,rfl⟩);go_ret;exact aq.1 _ rfl
 .have af:S.j.ZaI (Xi dir)=Jo:=by have F:=U.2;unfold Sto.Zbe at F;rw[U.5,Zw ae] at F;exact F
  have Z:S.j.reset (Xi dir)=J1:=by have F:=U.3;unfold Sto.Zbp at F;rw[U.5,Zw ae] at F;exact F
  have ak:=Z39 d j S.j (str so) w2 J.3 M.1 M.2 M.3 (by rw[QW];exact cz) (by rw[QW];omega);have bq:=ZI ak;have df:=ZM af Z;clear ak af Z ae;refine bq.o.mono ?_;rintro e w3 ⟨b,rfl,ag,aw⟩;have T3:=J.1.after aw;have ew:=J.2.after aw;have ee:JAt w3 j d S.j:=JAt.after J.3 aw;have fc:Ty w3:=J.4.below aw;have bh:Below w3 w3 (w3.alloc (.cells #[.string (str (Xi dir))] 9)):=(Zu _ w3).alloc (Zt _) _;have fw:=ew.c1;have T4:=T3.after bh;have ef:JAt _ j d S.j:=JAt.after ee bh;have fe:Ty _:=fc.below bh;have ct:=Z3g B p d 800 j P1 D1 L1 S.j (str (Xi dir)) w3 1 _ T4.did.pd (Zq C.2 T4.size) ef M.4 fe HT.2 ((Z2 w3 9 [.string (str (Xi dir))]).c0) M.1 M.2 (by rw[QW];exact fu) (by rw[QW];exact HI.3.fits) az;rw[Yp,df.1,df.2] at ct;have HR:=ZX T4 ag ct;clear ag aw T3 ew ee fc bh T4 ef fe ct c1;go_wp2_with (first|(go_at_call 19;refine(JQ _ 12 12 _ _ HR.2 Qz).mono ?_;rw[show((12:Int)==12)=true from rfl];rintro e w4 ⟨rfl,rfl⟩)|(go_at_call 137;refine HR.3.mono ?_;rintro e w5 ⟨fg,rfl,dx,dw⟩;have H5:=ZM dx dw;clear dx dw));go_ret;exact⟨fg,rfl,by rw[CB HR.1.run];exact H5.1.base HR.1.size,Ran.go HR.1.run HR.1.did H5.2.ran,λh0=>H5.2.ok (by rw[CB HR.1.run] at h0;exact h0)⟩
variable{S:Sto}{dk:Dir}{fk:QF}{j sb:Nat}
def Z3N{l:Qj}(h:l.Pairwise (· < ·))(hb:∀x∈l,x<n):l.length<=n:=by have F:l.Nodup:=h.imp λC=>Nat.ne_of_lt C;have:=F.length_le_of_subset (l₂:=List.range n) (λx hx=>ZdS.2 (hb x hx));simp_all
structure EQ(B p d s j:Nat)(L:Qj)(ops:List DOp)(S1:Sto)(P:Pw)(D:Dk)(w w':Qs):Prop where
 ran:Ran B p d 800 L [s,j] ops P D w w'
 ok:(QH ops P D).1=0->WI w' s j d S1
structure CmS(B p d:Nat)(P:Pw)(D:Dk)(L:Qj)(s j:Nat)(S:Sto)(q db fb ga oa na ca gu sb:Nat)(Zan:List Ac)(dk:Dir)(fk:QF)(n1 n2:Nat)(w wr:Qs):Prop where
 pl:PlA wr q db fb ga oa na ca (.slice gu S.used.length S.used.length) Zan dk fk n1 n2
 st:Row wr s 157 [d,j,(S.half:Int),.map (some sb),.slice gu S.used.length S.used.length,false]
 jn:JAt wr j d S.j
 sd:Yh wr sb S.dir.length S.dir
 us:Row wr gu 4 (S.used.map .bool)
 bel:Below w w wr
 ndb:w<=db
 nfb:w<=fb
def CmS.after(h:CmS B p d P D L s j S q db fb ga oa na ca gu sb Zan dk fk n1 n2 w wr){w':Qs}(hb:Below wr wr w'):CmS B p d P D L s j S q db fb ga oa na ca gu sb Zan dk fk n1 n2 w w':=⟨h.pl.after hb,h.st.after hb,JAt.after h.jn hb,h.sd.after hb,h.us.after hb,h.bel.trans (hb.mono h.bel.size),h.ndb,h.nfb⟩
def CmS.ZaQ(h:CmS B p d P D L s j S q db fb ga oa na ca gu sb Zan dk fk n1 n2 w wr){w':Qs}{J:Dir}{M:QF}{O U:Nat}(hp:PlA w' q db fb ga oa na ca (.slice gu S.used.length S.used.length) Zan J M O U)(C:Fr [db,fb] wr w')(ae:sb<w):CmS B p d P D L s j S q db fb ga oa na ca gu sb Zan J M O U w w':=by
 have F:∀{g:Nat} {et:Qu} {l:Qk},Row wr g et l->g∉[db,fb]:=λhl hm=>by
  simp at hm;rcases hm with rfl|rfl
  .have⟨fv,m1,_⟩:=h.pl.dir;have⟨es,Z,hb⟩:=m1.block;exact Aj hl hb
  .have⟨es,Z,hb⟩:=h.pl.fsh.block;exact Aj hl hb
 refine⟨hp,h.st.fr C (F h.st),Row.fr h.jn C (F h.jn),h.sd.fr C ?_ (λk hk l hl=>F hl hk),h.us.fr C (F h.us),h.bel.trans (C.below h.bel.size (λi hi=> ?_)),h.ndb,h.nfb⟩
 .intro hm;simp at hm;have h1:=h.ndb;have h2:=h.nfb;omega
 .simp at hi;have h1:=h.ndb;have h2:=h.nfb;omega
def O8(hs:Row w s 157 [d,j,(S.half:Int),.map (some sb),.slice gu S.used.length S.used.length,false])(Z:JAt w j d S.j)(C:Yh w sb S.dir.length S.dir)(hu:Row w gu 4 (S.used.map .bool))(ha:BP w ga oa Zan)(h:na=Zan.length){W:Qs}{q db fb:Nat}(hb:Below w w W)(O:Yh W db S.dir.length S.dir)(U:Yb W fb 0 (λ_=>none))(hq:Row W q 167 [.map (some db),.map (some fb),.slice (some ⟨ga,oa,none⟩) na ca,.slice gu S.used.length S.used.length])(F:w<=db)(J:w<=fb)(M:db≠fb):CmS B p d P D L s j S q db fb ga oa na ca gu sb Zan S.dir [] S.dir.length 0 w W:=by have:=ha.1;exact⟨⟨hq,O,U.congr (λ_=>rfl),ha.after hb,h,M,Qw,Qw⟩,hs.after hb,JAt.after Z hb,C.after hb,hu.after hb,hb,F,J⟩
def PlA.frT(h:PlA wr q db fb ga oa na ca us Zan dir f n1 n2){Y:Qj}{ts:List Qu}(C:Fr Y wr w')(F:QL wr Y ts)(O:197∉ts)(U:167∉ts)(J:ga∉Y):PlA w' q db fb ga oa na ca us Zan dir f n1 n2:=by
 refine⟨h.row.fr C (F.Zap h.row U),h.dir.fr C ?_ (λk Z l hl=>F.Zap hl O Z),h.fsh.fr C ?_,h.ard.fr C J,h.many,h.ne,h.nag⟩
 .have⟨fv,m1,_⟩:=h.dir;have⟨es,M,hb⟩:=m1.block;exact F.Zb9 hb
 .have⟨es,M,hb⟩:=h.fsh.block;exact F.Zb9 hb
def Z3f{J:Jn}(h:PD B w p d 800 P D L)(C:JAt w j d J):QL w ([j]++p::L) (225::Az):=QL.cons C Qx (h.typed.mono (λ_ hi=>hi) (λe he=>Zh _ he))
def Kk(B p d:Nat)(P:Pw)(D:Dk)(L:Qj)(s j ga oa na ca:Nat)(S:Sto)(Zau:List Rec)(R:Nat->ByteArray)(Zan:List Ac)(dir:Dir)(f:QF)(w:Qs)(h:PD B w p d 800 P D L)(hB:B<=w)(ja:WI w s j d S)(gj:B<=s)(fg:B<=j)(iw:A8 w ga oa Zan)(iz:na=Zan.length)(eo:na<=ca)(hi:Wf 800 100 R S Zau)(ah:S.ZaQ Zan=some (dir,f))(hr:Cy S dir f)(hw:∀a∈Zan,a.ZaA=false)(fj:Zan≠[])(jh:Zan.length<=12)(dh:D.wait.length<=1000)(ht:Ty w)(hg:0<B)(ix:S.j.Zar<=2000000000)(j8:S.dir.length<=10000):Calls prog 38 #[s,.slice (some ⟨ga,oa,none⟩) na ca] w (Ans w (QH (S.ops Zan dir f) P D).1 (EQ B p d s j L (S.ops Zan dir f) (S.done dir f) P D w)):=by
 have aw:=hi.ok;have fu:=XR R aw hi.used hw ah;obtain⟨d0,ct,cj⟩:∃d0,Wi Zan 0 S.dir []=some (d0,f)/\WF (XE S.used) f d0=some dir:=by
  unfold Sto.ZaQ at ah;split at ah
  .rename_i d1 f1 h1;split at ah
   .rename_i d2 h2;simp only[ZdC,ZfI] at ah;obtain⟨rfl,rfl⟩:=ah;exact⟨d1,h1,h2⟩
   .cases ah
  .cases ah
 obtain⟨o1,o2,o3⟩:=Z0W hw ct Qx Qx Qx;simp only[Ze5] at o2;have fc:f.length<=12:=by have h9:=Z3N o1 (n:=Zan.length) (λx hx=>by obtain⟨y,hy,rfl⟩:=Zz.1 hx;exact o2 y hy);rw[Zf] at h9;omega
 have fm:Cv 800 100 S.dir Zan S.dir []:=⟨aw.sorted,aw.name,aw.apart,λi hi=>hi,Qx,Qx,λm e hm _=>aw.get hm⟩;obtain⟨p1, -⟩:=IT (R:=R) Zan 0 rfl fm hw ct;have ib:∀x∈f,∃e,d0.get x.1=some e/\e.runs=[]/\e.size<=12000/\e.sum<4294967296:=λx hx=>by obtain⟨e,k1,k2,k3,k4,k5,k6⟩:=p1.fresh x hx;exact⟨e,k1,k2,k5,by rw[k4];exact GL _⟩
 have ij:S.used.length=800:=by rw[hi.used];unfold YA;simp
 have jd:=ZI ij;have jb:S.used.length<=100000:=Qw;clear ij;have bq:∀x∈f,x.2<=100000:=λx hx=>by have:=o2 x hx;omega
 obtain⟨sb,uv,hs,hj,dq,gu,rfl,hu⟩:=ja;have au:sb<w:=by obtain⟨fv,m1,_⟩:=dq;exact m1.lt
 have jr:1<=Zan.length:=by
  cases Zan with
  |nil=>exact absurd rfl fj
  |cons a r=>simp
 obtain⟨bg,jw,ai⟩:=iw;have bm:ga∉p::L:=h.Zap ai Qz Qz Qz Qz;have c3:=hs.c3;have c4:=hs.c4;have c5:=hs.c5;have F:=Q1 h hB hs hj dq hu bm;have O:=Q1 o1 o3 ib bq fu hr p1;have HW:=ZX hw ct cj;have HA:=ZM bg ai;have U:=Q1 hi aw gj fg ht hg au;have ji:=ai.lt;subst iz;clear h hB hs hj dq hu bm o1 o2 o3 ib bq fu hr hw ct cj bg ai hi aw gj fg ht hg ah fj fm p1 au;have z0:((Zan.length:Int)==0)=false:=by rw[ZeL];omega
 have z1:decide ((100:Int)<(Zan.length:Int))=false:=ZC Qw;go_enter func38,ntmps38;go_wp2_with fail;go_loopw [29] (λiv wr=>∃i:Nat,i<=Zan.length/\iv=(i:Int)/\Below w w wr) (λiv _=>Zan.length- (intOf iv).toNat)
 .exact⟨0,Qw,rfl,Zu _ _⟩
 obtain⟨i,jk,rfl,ae⟩:=hrel;by_cases dm:i<Zan.length
 .obtain⟨a0,a1,a2,a3⟩:=(HA.1.after ae).2 i dm;have du:(Zan.getD i ⟨0,[],[],[]⟩).ZaA=false:=by rw[Z7,Z8 dm];exact HW.1 _ (Zl dm)
  obtain⟨a,ha⟩:=ZK (Zan.getD i ⟨0,[],[],[]⟩);rw[ha] at a0 a1 a2 a3 du;have bf:=ZM ae du;clear ae ha du;go_wp2_with (go_at_call 84;refine(Z7y a bf.2 _).mono ?_;rintro e w2 ⟨rfl,ef⟩;have S2:=ZI ((bf.1.alloc bf.1.size _).trans (ef.mono (by have:=bf.1.size;simp;omega)));clear ef);go_roundw
  .exact⟨i+1,Qw,QC,S2.o⟩
  simp[intOf];omega
 .obtain rfl:i=Zan.length:=by omega
  have bf:=ZI ae;have s3:wr.cell? ⟨s,3,none⟩=some (.map (some sb)):=(F.3.after ae).c3;have s4:wr.cell? ⟨s,4,none⟩=some (.slice gu S.used.length S.used.length):=(F.3.after ae).c4;clear ae c3 c4 c5;go_wp2_with fail;go_cut [7] from 38 to 51 (λv wx=>∃q db fb,v=.pointer (q:Nat)/\CmS B p d P D L s j S q db fb ga oa Zan.length ca gu sb Zan S.dir [] S.dir.length 0 w wx)
  case first=>
   have mk:=λW=>run_makeMap_plain (P:=prog) W 165;have cz:Below w w wr.drew:=bf.o.drew;have r0:=F.3.after cz;have M:=ZM r0 cz;have j9:s<wr.drew.heap.size:=r0.lt;have gy:s<wr:=r0.lt;have jy:wr.drew.cell? ⟨s,3,none⟩=some (.map (some sb)):=s3;have ke:wr.drew.cell? ⟨s,4,none⟩=some (.slice gu S.used.length S.used.length):=s4;clear r0 cz;go_region_with (go_at_call 85;refine(Rr sb S.dir.length S.dir _ (F.5.after (by first|exact M.2|exact M.2.alloc M.2.size _))).mono ?_;rintro e w8 ⟨rfl,er,aj⟩;have jx:=(M.1.after (by first|exact aj|exact((Zu _ _).alloc (Zt _) _).trans (aj.mono Qx))).c3;have jz:=(M.1.after (by first|exact aj|exact((Zu _ _).alloc (Zt _) _).trans (aj.mono Qx))).c4;have l8:s<w8:=(M.1.after (by first|exact aj|exact((Zu _ _).alloc (Zt _) _).trans (aj.mono Qx))).lt;have S8:=ZM er aj;clear er aj)
   all_goals go_wp2_with fail
   all_goals go_meet
   all_goals first
    |exact⟨_,wr.heap.size,w8.heap.size,rfl,O8 F.3 F.4 F.5 F.6 HA.1 rfl (W:=(w8.alloc (.map #[] 0)).alloc (.cells #[.map (some wr.heap.size),.map (some w8.heap.size),.slice (some ⟨ga,oa,none⟩) Zan.length ca,.slice gu S.used.length S.used.length] 167)) ((M.2.trans (S8.2.mono M.2.size)).trans ((((Zu w8 w8).alloc (Zt _) _).alloc Qx _).mono (Zq M.2.size S8.2.size))) (S8.1.after (((Zu w8 w8).alloc (Zt _) _).alloc Qx _)) ((Yb.made w8).after ((Zu _ _).alloc (Zt _) _)) (by have h9:=Z2 (w8.alloc (.map #[] 0)) 167 [.map (some wr.heap.size),.map (some w8.heap.size),.slice (some ⟨ga,oa,none⟩) Zan.length ca,.slice gu S.used.length S.used.length];simpa using h9) M.2.size (Zq M.2.size S8.2.size) (by have h9:=(S8.1).map;obtain⟨fv,m1,_⟩:=h9;have h8:=m1.lt;intro e9;rw[<-e9] at h8;exact ZgD _ h8)⟩
    |exact⟨_,wr.heap.size+1,wr.heap.size,rfl,O8 F.3 F.4 F.5 F.6 HA.1 rfl (W:=w8.alloc (.cells #[.map (some (wr.heap.size+1)),.map (some wr.heap.size),.slice (some ⟨ga,oa,none⟩) Zan.length ca,.slice gu S.used.length S.used.length] 167)) (((M.2.alloc M.2.size _).trans (S8.2.mono (by have:=M.2.size;simp;exact Nat.le_succ_of_le this))).trans (((Zu w8 w8).alloc (Zt _) _).mono (by have h9:=M.2.size;have h8:=S8.2.size;simp at h8;exact Zq h9 (Nat.le_of_succ_le h8)))) ((by simpa using S8.1:Yh w8 (wr.heap.size+1) S.dir.length S.dir).after ((Zu _ _).alloc (Zt _) _)) (((Yb.made wr.drew).after S8.2).after ((Zu _ _).alloc (Zt _) _)) (Z2 w8 167 [.map (some (wr.heap.size+1)),.map (some wr.heap.size),.slice (some ⟨ga,oa,none⟩) Zan.length ca,.slice gu S.used.length S.used.length]) (Nat.le_succ_of_le M.2.size) M.2.size Qw⟩
  case rest=>
   obtain⟨q,db,fb,rfl,hC⟩:=hcut;have HC:=ZI hC;clear hC s3 s4;go_wp2_with fail;go_loopw [54] (λkv wj=>∃ (k:Nat) (dk:Dir) (fk:QF) (m1 m2:Nat),k<=Zan.length/\kv=(k:Int)/\Wi (Zan.drop k) k dk fk=some (d0,f)/\m1<=S.dir.length+k/\m2<=k/\CmS B p d P D L s j S q db fb ga oa Zan.length ca gu sb Zan dk fk m1 m2 w wj) (λkv _=>Zan.length- (intOf kv).toNat)
   .exact⟨0,S.dir,[],_,0,Qw,rfl,HW.2,Qw,Qw,HC.o⟩
   obtain⟨k,dk,fk,m1,m2,jm,rfl,bh,jo,jq,hS⟩:=hrel;have HS:=ZI hS;by_cases fh:k<Zan.length
   .have dj:Zan[k]? =some Zan[k]:=Z8 fh;obtain⟨dz,ee,eu,ew⟩:=Z0Y dj bh;have ak:=Z4Y q db fb ga oa Zan.length ca _ Zan dk dz fk ee m1 m2 k Zan[k] wr hS.pl dj Qw (HW.1 _ (Zl fh)) eu Qw Qw eo;have dy:=ZM ak ew;clear ak eu ew dj bh hS;go_wp2_with (go_at_call 86;refine dy.1.mono ?_;rintro e w2 ⟨rfl,⟨az,jc,h1,h2,fo⟩,hf2⟩;have S2:=ZI (HS.o.ZaQ fo hf2 U.7);clear fo hf2);go_roundw
    .exact⟨k+1,dz,ee,az,jc,Qw,QC,dy.2,Qw,Qw,S2.o⟩
    simp[intOf];omega
   .obtain rfl:k=Zan.length:=(by omega);rw[Zg4] at bh;simp only[Wi,ZdC,ZfI] at bh;obtain⟨rfl,rfl⟩:=bh;have iq:=hS.st.c4;have ir:=hS.st.c5;clear hS;go_wp2_with (first|(go_at_call 88;refine(Z6Q s _ S.used _ iq ir ⟨gu,rfl,HS.o.us⟩ Qw).mono ?_;rintro e w2 ⟨rfl,rfl⟩)|(go_at_call 87;refine(Z5a q db fb ga oa Zan.length ca gu S.used Zan dk dir fk m1 m2 _ HS.o.pl HS.o.us HW.3 O.7.fr O.1 fc O.4 O.2 O.3 Qw Qw).mono ?_;rintro e w3 ⟨rfl,⟨az,h1,fp⟩,hf3⟩;have S3:=ZI (HS.o.ZaQ fp (hf3.mono (λi hi _=>by rw[Z6] at hi;simp[hi])) U.7);clear fp hf3 h1)|(go_at_call 89;refine(Z8y 800 100 q db fb ga oa Zan.length ca _ Zan dir fk az m2 _ S3.o.pl O.5.ok Qw O.6.ne2 O.6.whole).mono ?_;rintro e w4 ⟨rfl,eh⟩;have S4:=ZI (S3.o.after eh);clear eh));have aq:=O.6.fits;have dw:=O.6.whole;have jl:=U.1.ZaP;obtain⟨T,hT⟩:=ZK (str (Xi dir));have iu:T.size=(Xi dir).length:=(by rw[<-hT,QW]);obtain⟨tl,ie⟩:=ZK (Xi dir).length;rw[ie] at iu aq dw;obtain⟨sc,dp⟩:=ZK (Yu (24+tl));have j7:sc+1<=S.j.half:=by rw[<-dp];unfold Yu;unfold QQ at aq;omega
    have fw:∀k,Calls prog 90 #[((24+tl:Nat):Int)] (w4.drewN k) λe w'=>e=.returned (sc:Int)/\w'=w4.drewN k:=λk=>by rw[<-dp];exact(Ml (24+tl) Qw _).mono λe w' h=>⟨h.1,h.2.symm⟩
    have fx:∀k,Calls prog 91 #[j] (w4.drewN k) λe w'=>e=.returned ((S.j.half:Int)-1:Int)/\w'=w4.drewN k:=λk=>(PB j d S.j _ (JAt.after S4.o.jn (YE (Zu _ _) k)) Qw).mono λe w' h=>⟨h.1,h.2.symm⟩;have hlen:(24:Int)+(T.size:Int)=((24+tl:Nat):Int):=Qw;have ik:=Zr ((24:Int)+(T.size:Int)) Qw;rw[hlen] at ik;have df:decide ((S.j.half:Int)-1<(sc:Int))=false:=ZC Qw;have y1:=S4.o.st.c1;have HQ:=ZM fw fx;have HT:=ZI hT;rw[hT];clear fw fx hT dp ie;go_quiet (first|(go_at_call 90;exact Calls.quiet_of_same (HQ.1 _))|(go_at_call 91;exact Calls.quiet_of_same (HQ.2 _)));have C:=ZI (S4.o.after (YE (Zu w4 w4) nq));generalize w4.drewN nq=w5 at*
    have fi:=Z3r B p d P D L s j q db fb ga oa Zan.length ca sb S.dir.length (.slice gu S.used.length S.used.length) (.slice gu S.used.length S.used.length) S Zau R Zan dir fk az m2 w5 (F.1.after C.o.bel) (Zq F.2 C.o.bel.size) C.o.st C.o.jn U.4 C.o.sd Qw C.o.pl F.7 U.1 O.5 O.6 O.1 fc Qw O.2 eo dh (U.5.below C.o.bel) U.6 ix j8;have im:=ZI fi;clear fi y1 df ik hlen;rw[<-HT.o];go_wp2_with fail;refine im.o.mono ?_;rintro e w6 ⟨ev,rfl,cw,bu⟩;obtain⟨L6,ag⟩:=bu.ran;have fq:PD B w5 p d 800 P D L:=F.1.after C.o.bel;have iy:s≠j:=Row.ne C.o.st C.o.jn Qz;have Z:=ag.row fq C.o.st (by simpa using iy) Qz Qz Qz Qz;have bz:PlA w6 q db fb ga oa Zan.length ca (.slice gu S.used.length S.used.length) Zan dir fk az m2:=by have ig:=Z3f fq C.o.jn;refine C.o.pl.frT ag.fr ig Qz Qz ?_;exact ig.Zap (HA.2.after C.o.bel) Qz
    rcases cw.split with ⟨hc,rfl⟩|⟨hc,b,rfl⟩
    .have dt:S.half=100:=U.1.hh;have f3:=Z.free (j:=3) Qx;have jf:=Z.c3;have q0:=bz.row.c0;have ay:∀{g:Nat} {et:Qu} {l:Qk},et≠157->Row w6 g et l->g∉[s]:=λhet hl hm=>by rw[Z6] at hm;subst hm;exact het (Xr hl Z)
     obtain⟨w7,cr⟩:=ZL (w6.setCell ⟨s,3,none⟩ (.map (some db)));have bj:Fr [s] w6 w7:=by rw[cr];exact(Fr.refl _ _).setCell (Zv Qx) _
     have ft:PD B w7 p d 800 _ _ L6:=ag.pd.fr bj (λk J=>by rw[Z6] at J;subst J;exact ag.pd.Zap Z Qz Qz Qz Qz);have cn:Row w7 s 157 [d,j,(S.half:Int),.map (some db),.slice gu S.used.length S.used.length,false]:=by rw[cr];exact Z.set 3 _
     have af:Yh w7 db az dir:=bz.dir.fr bj (by
      obtain⟨fv,m1,_⟩:=bz.dir;obtain⟨es,cl,hb⟩:=m1.block;intro hm;rw[Z6] at hm;subst hm
      exact Aj Z hb) (λk J l hl=>ay Qz hl J)
     have fe:JAt w7 j d (S.Zbp dir fk):=Row.fr (bu.ok hc) bj (ay Qz (bu.ok hc));have ey:=((ag.from C.o.bel).wider (Y:=[s,j]) Qx).frame (Y:=[s]) bj (λk J=>by rw[Z6] at J;subst J;exact ag.pd.Zap Z Qz Qz Qz Qz) Qx;have d3:=cn.c3;have ic:=Gh B p d 800 _ _ L6 s 100 db az dir w7 ft cn.c0 (by have h9:=cn.c2;rw[dt] at h9;exact h9) af O.5.ok Qw;have H7:=ZQ cn af fe ey hc ic;have je:=ZI cr;clear cw bu ag hc Z bz bj ft cn af fe ey ic ay;go_wp2_with fail;rw[<-cr];clear cr;go_wp2_with (go_at_call 94;refine H7.2.2.2.2.2.mono ?_;rintro r w9 ⟨kf,rfl,⟨g9,rfl,fy⟩,de⟩;have R9:=H7.1.after de;have f49:=R9.free (j:=4) Qx;have d49:=R9.c4;have S9:=ZX R9 fy de;clear de R9 fy);go_ret;have cy:Fr [s] w9 (w9.setCell ⟨s,4,none⟩ (.slice g9 (YA 800 100 dir).length (YA 800 100 dir).length)):=(Fr.refl _ _).setCell (Zv Qx) _;have dx:∀{g:Nat} {et:Qu} {l:Qk},et≠157->Row w9 g et l->g∉[s]:=λhet hl hm=>by rw[Z6] at hm;subst hm;exact het (Xr hl S9.1)
     have cu:=H7.2.2.2.1.after S9.3;refine⟨_,rfl,by rw[H7.2.2.2.2.1];exact QK.nil _ _,⟨L6,cu.frame (Y:=[s]) cy (λk J=>by rw[Z6] at J;subst J;exact cu.pd.Zap S9.1 Qz Qz Qz Qz) Qx⟩,λ_=>⟨db,_,S9.1.set 4 _,?_,?_,g9,?_,?_⟩⟩
     .exact Row.fr (Row.after H7.2.2.1 S9.3) cy (dx Qz (Row.after H7.2.2.1 S9.3))
     .refine((H7.2.1.after S9.3).tight).fr cy (λhm=> ?_) (λk J l hl=>dx Qz hl J);rw[Z6] at hm;obtain⟨fv,m1,_⟩:=H7.2.1.after S9.3;obtain⟨es,cl,hb⟩:=m1.block;subst hm;exact Aj S9.1 hb
     .show _=Value.slice _ (YA S.n S.half dir).length (YA S.n S.half dir).length;rw[U.1.nn,dt]
     .show Row _ g9 _ ((YA S.n S.half dir).map .bool);rw[U.1.nn,dt];exact S9.2.fr cy (dx Qz S9.2)
    .have f5:=Z.free (j:=5) Qx;have jg:=Z.c5;have ia:Ty (w6.setCell ⟨s,5,none⟩ (.bool true)):=(Ty.did (U.5.below C.o.bel) ag U.6 F.1.bp F.1.bL (by simp;exact U.4)).set (by have:=U.6;have:=U.3;simp;omega) _;have ez:QK (w6.setCell ⟨s,5,none⟩ (.bool true)) w5 (QH (S.ops Zan dir fk) P D).1 (.iface 139 b):=cw.fr ((Fr.refl [s] w6).setCell (Zv Qx) _) (λk J=>by rw[Z6] at J;subst J;exact C.o.st.lt);have H6:=ZZ ez ag hc Z ia;clear cw bu ag hc Z ia ez bz;go_wp2_with (go_at_call 93;refine(IN _ _ _ _ H6.1 H6.5).mono ?_;rintro e w7 ⟨v7,rfl,fa,ek⟩;have H7:=ZM fa ek;clear fa ek);go_ret;have js:=C.o.bel.size;have jt:=H6.2.fr.size;have ju:(w6.setCell ⟨s,5,none⟩ (.bool true)).heap.size=w6.heap.size:=(by simp[World.setCell]);refine⟨_,rfl,H7.1.base Qw,⟨L6,?_⟩,λh0=>absurd h0 H6.3⟩;have cu:=(H6.2.from C.o.bel).wider (Y:=[s,j]) Qx;exact(cu.frame (Y:=[s]) ((Fr.refl _ _).setCell (Zv Qx) _) (λk J=>by rw[Z6] at J;subst J;exact H6.2.pd.Zap H6.4 Qz Qz Qz Qz) Qx).after H7.2
variable{Q:Exit->Act->World->Prop}{a:Act}{base:Nat}{e:TypeId}{o:Oper}{ops:Array Oper}{rest:List Oper}{xs:List Value}
def BE(h:w.ownsRow base e k v n xs)(U:0<n):∃g cap sp,v=.slice (g:Nat) n cap/\base<=g/\n<=cap/\cap<=maxLen/\Row w g e (xs++sp):=by
 rcases h.2 with ⟨_,O⟩|⟨g,cap,cur,hv,hb,hh,C,F,M,J⟩
 .omega
 .refine⟨g,cap,cur.toList.drop (n*k),hv,hb,C,F,Row.mk ?_⟩;rw[<-J,ZdH];omega
def Ai(h:w.ownsRow base e k v n xs):∀q∈QV v,base<=q:=λq C=>AF h (YV.1 C)
def JY(h:w.ownsRow base e k v n xs){L:Qj}(F:Fr L w w')(C:∀q∈QV v,q∉L):w'.ownsRow base e k v n xs:=Xy h F (λg J=>C g (YV.2 J))
def Jr(h:w.ownsRow base e k v n xs)(hb:Below w w w'):w'.ownsRow base e k v n xs:=Xy h (Z1 (L:=[]) hb) Qx
def YS(h:w.ownsRow base e k v n xs):∀q∈QV v,∃l,Row w q e l:=λq C=>by
 rw[YV] at C;rcases h.2 with ⟨F,_⟩|⟨g,cap,cur,hv,hb,hh,_⟩
 .rw[F] at C;cases C
 .rw[hv] at C;simp[Value.ownBlock] at C;subst C;exact⟨cur.toList,Row.mk Qw⟩
def Bg(w:Qs)(hg:o.guard=none)(s x:Operand)(t e:Qu){z:Qt}{k bytes:Nat}(ho:o.op=.call {callee:=.builtin .append,args:= #[s,x],argTypes:= #[t,t]})(ht:prog.underlying t=some (.slice e))(hi:(prog.info? e).map (λi=>(i.zero,i.size,i.bytes))=some (some z,k,bytes))(Z:z.cells.size=k)(C:0<k)(M:bytes<=1000)(base:Nat)(v:Qt)(n:Nat)(xs:Qk)(hs:a.eval s=v)(J:w.ownsRow base e k v n xs)(p m:Nat)(news:Qk)(hx:a.eval x=.slice p m m)(hm:0<m)(ah:m<=100)(U:news.length=m*k)(hc:Row w p e news)(h1:∀u∈news,u.oneCell'=true)(hb:base<=w)(hl:n<=1000000)(hK:∀g cap w',w'.ownsRow base e k (.slice (g:Nat) (n+m) cap) (n+m) (xs++news)->Fr (QV v) w w'->(v.ownBlock=some g∨g=w.heap.size)->g<w'.heap.size->base<=g->wpList prog ops Q rest (a.put o.dst (.slice (g:Nat) (n+m) cap)) w'):wpList prog ops Q (o::rest) a w:=by
 have⟨j0,O,ae,af,ag⟩:=ZE hi;refine Zgq w hg s x t ho base e j0 _ k bytes ht O ae af ag Z C v n xs hs J ⟨p,0,none⟩ m m news hx U (λj u hj=> ?_) h1 hm (by unfold maxLen;omega) ?_ hb w.heap.size rfl ?_
 .have:=hc.cell hj;have:(⟨p,0,none⟩:Addr).add j=⟨p,j,none⟩:=by unfold Addr.add;by_cases h:j=0<;>simp[h]
  simp_all
 .have:(n+m)*bytes<=1000100*1000:=Ze2 Qw M;omega
 intro g cap w' F h3 h4 h5;refine hK g cap w' F ((Fr.refl (QV v) w).grown h3 (λk C=>Zv (YV.2 C))) h4 h5 ?_;exact AF F (by rfl)
def Nq:(prog.info? 151).map (λi=>(i.zero,i.size,i.bytes))=some (some (.agg #[(0:Int),.string ⟨#[]⟩,.string ⟨#[]⟩,.string ⟨#[]⟩]),4,56):=Qy
def Pv:(prog.info? 3).map (λi=>(i.zero,i.size,i.bytes))=some (some (.int .i64 0),1,8):=Qy
def NZ:(prog.info? 98).map (λi=>(i.zero,i.size,i.bytes))=some (some (.agg #[.string ⟨#[]⟩,(0:Int),()]),3,48):=Qy
def Np:(prog.info? 68).map (λi=>(i.zero,i.size,i.bytes))=some (some (.agg #[.string ⟨#[]⟩,.string ⟨#[]⟩,false]),3,40):=Qy
def Z3Z:(prog.info? 92).map (λi=>(i.zero,i.size,i.bytes))=some (some (.pointer none),1,8):=Qy
def Z11:(prog.info? 47).map (λi=>(i.zero,i.size,i.bytes))=some (some (.pointer none),1,8):=Qy
def Pj:(prog.info? 105).map (λi=>(i.zero,i.size,i.bytes))=some (some (.agg #[.string ⟨#[]⟩,.string ⟨#[]⟩]),2,32):=Qy
def AcC(a:Ac):Qk:=[.int .i64 (a.kind:Int),.string (str a.name),.string (str a.to),.string (str a.value)]
def Jz(l:List Ac):Qk:=l.flatMap AcC
def Nn(a b:List Ac):Jz (a++b)=Jz a++Jz b:=by simp[Jz]
def Uz(a:Ac):Jz [a]=AcC a:=by rfl
theorem Uy(l:List Ac):∀ (k:Nat) (h:k<l.length) (r:Nat),r<4->(Jz l)[k*4+r]? =(AcC l[k])[r]?:=by
 induction l with
 |nil=>intro k h;simp at h
 |cons a l ih=>
  intro k h r C;have e:Jz (a::l)=AcC a++Jz l:=by rfl
  rw[e]
  match k,h with
  |0,_=>rw[Za (by simp[AcC];omega)];simp
  |k+1,h=>
   rw[ZdD (by simp[AcC];omega)];have:(k+1)*4+r- (AcC a).length=k*4+r:=by simp[AcC];omega
   grind
def JK(w:Qs)(base:Nat)(v:Qt)(l:List Ac):Prop:=w.ownsRow base 151 4 v l.length (Jz l)
def JK.row{l:List Ac}(h:JK w base v l)(J:l≠[]):∃g cap,v=.slice (g:Nat) l.length cap/\base<=g/\l.length<=cap/\A8 w g 0 l:=by
 have⟨g,cap,sp,hv,Z,M,h3,C⟩:=BE h (Zew.2 J);refine⟨g,cap,hv,Z,M,⟨C.lt,λk O=> ?_⟩,_,C⟩;have F:l.getD k ⟨0,[],[],[]⟩=l[k]:=QB;rw[F];have:(Jz l).length=l.length*4:=by
  clear h C M hv F O J
  induction l with
  |nil=>rfl
  |cons a l ih=>rw[show Jz (a::l)=AcC a++Jz l from by simp[Jz],Zb,ih];simp[AcC];omega
 have key:∀r u,r<4->(AcC l[k])[r]? =some u->w.cell? ⟨g,0+k*4+r,none⟩=some u:=λr u U hu=>by rw[Ze5];refine C.cell ?_;rw[Za Qw,Uy l k O r U];omega
 exact⟨key 0 _ Qw rfl,key 1 _ Qw rfl,key 2 _ Qw rfl,key 3 _ Qw rfl⟩
def Gm(w:Qs)(O:o.guard=none)(s x:Operand)(U:o.op=.call {callee:=.builtin .append,args:= #[s,x],argTypes:= #[86,86]})(base:Nat)(v:Qt)(l:List Ac)(hs:a.eval s=v)(h:JK w base v l)(p:Nat)(b:Ac)(hx:a.eval x=.slice p 1 1)(hc:Row w p 151 (AcC b))(hb:base<=w)(hl:l.length<=1000000)(hK:∀g cap w',JK w' base (.slice (g:Nat) (l.length+1) cap) (l++[b])->Fr (QV v) w w'->(v.ownBlock=some g∨g=w.heap.size)->g<w'.heap.size->base<=g->wpList prog ops Q rest (a.put o.dst (.slice (g:Nat) (l.length+1) cap)) w'):wpList prog ops Q (o::rest) a w:=by refine Bg w O s x 86 151 U underlying86 Nq rfl Qw Qw base v l.length _ hs h p 1 (AcC b) hx Qw Qw rfl hc (by simp[AcC,Value.oneCell']) hb hl ?_;intro g cap w' Z C F J M;refine hK g cap w' ?_ C F J M;unfold JK;rw[Zb,Nn,Uz];omega
def Z8C(w:Qs)(O:o.guard=none)(s x:Operand)(U:o.op=.call {callee:=.builtin .append,args:= #[s,x],argTypes:= #[86,86]})(base:Nat)(v:Qt)(l:List Ac)(hs:a.eval s=v)(h:JK w base v l)(p:Nat)(b c:Ac)(hx:a.eval x=.slice p 2 2)(hc:Row w p 151 (AcC b++AcC c))(hb:base<=w)(hl:l.length<=1000000)(hK:∀g cap w',JK w' base (.slice (g:Nat) (l.length+2) cap) (l++[b,c])->Fr (QV v) w w'->(v.ownBlock=some g∨g=w.heap.size)->g<w'.heap.size->base<=g->wpList prog ops Q rest (a.put o.dst (.slice (g:Nat) (l.length+2) cap)) w'):wpList prog ops Q (o::rest) a w:=by refine Bg w O s x 86 151 U underlying86 Nq rfl Qw Qw base v l.length _ hs h p 2 (AcC b++AcC c) hx Qw Qw rfl hc (by simp[AcC,Value.oneCell']) hb hl ?_;intro g cap w' Z C F J M;refine hK g cap w' ?_ C F J M;unfold JK;rw[Zb,Nn,show Jz [b,c]=AcC b++AcC c from by simp[Jz]];omega
def Ej(l:Qj):Qk:=l.map λ(n:Nat)=>.int .i64 (n:Int)
def Cq(w:Qs)(base:Nat)(v:Qt)(l:Qj):Prop:=w.ownsRow base 3 1 v l.length (Ej l)
def Z8G(w:Qs)(U:o.guard=none)(s x:Operand)(Z:o.op=.call {callee:=.builtin .append,args:= #[s,x],argTypes:= #[46,46]})(base:Nat)(v:Qt)(l:Qj)(hs:a.eval s=v)(h:Cq w base v l)(p:Nat)(b:Nat)(hx:a.eval x=.slice p 1 1)(hc:Row w p 3 [(b:Int)])(hb:base<=w)(hl:l.length<=1000000)(hK:∀g cap w',Cq w' base (.slice (g:Nat) (l.length+1) cap) (l++[b])->Fr (QV v) w w'->(v.ownBlock=some g∨g=w.heap.size)->g<w'.heap.size->base<=g->wpList prog ops Q rest (a.put o.dst (.slice (g:Nat) (l.length+1) cap)) w'):wpList prog ops Q (o::rest) a w:=by refine Bg w U s x 46 3 Z underlying46 Pv rfl Qw Qw base v l.length _ hs h p 1 [.int .i64 (b:Int)] hx Qw Qw rfl hc (by simp[Value.oneCell']) hb hl ?_;intro g cap w' C F J M O;refine hK g cap w' ?_ F J M O;unfold Cq Ej;rw[Zb,Zo];exact C
variable{L:List (Bool×ByteArray)}
def WO:List (Bool×Qq)->List Qt
 |[]=>[]
 |p::l=>.bool p.1:: .string p.2::WO l
def I6:∀L:List (Bool×Qq),(WO L).length=L.length*2
 |[]=>rfl
 |p::l=>by simp[WO,I6 l];omega
def I5:∀ (L:List (Bool×Qq)) (j:Nat) (h:j<L.length),(WO L)[j*2]? =some (.bool L[j].1)/\(WO L)[j*2+1]? =some (.string L[j].2)
 |p::l,0,_=>⟨rfl,rfl⟩
 |p::l,j+1,h=>by have:=I5 l j QB;have e:(j+1)*2=j*2+1+1:=Qw;rw[e];exact this
theorem Se{o:Nat}(h:∀j u,(WO L)[j]? =some u->w.cell? ⟨g,o+j,none⟩=some u):BU w (some ⟨g,o,none⟩) L:=λj C=>by have:=I5 L j C;grind
def Z55:(prog.info? 204).map (λi=>(i.zero,i.size,i.bytes))=some (some (.agg #[false,.string ⟨#[]⟩]),2,24):=Qy
def Z6n(i0:TypeInfo)(hi:prog.info? 204=some i0)(F:i0.zero=some (.agg #[false,.string ⟨#[]⟩]))(hs:i0.size=2)(hb:i0.bytes=24)(n:Nat)(M:n<=1000)(W:Qs):(Instr.makeSlice 202 (.int .i64 (n:Int)) (.int .i64 (n:Int))).run prog W=.ok (.slice (some ⟨W,0,none⟩) n n) (W.alloc (.cells (WO (List.replicate n (false,⟨#[]⟩))).toArray 204)):=by
 have h:=run_make (P:=prog) W 202 204 i0 (.agg #[false,.string ⟨#[]⟩]) underlying202 hi F .i64 .i64 (n:Int) (n:Int) Qw Qw QA Qw;have e:madeCells (Value.agg #[false,.string ⟨#[]⟩]).cells (((n:Nat):Int).toNat*i0.size)=(WO (List.replicate n (false,⟨#[]⟩))).toArray:=by
  rw[hs,ZeA];apply Zh9
  .simp[madeCells,I6]
  .intro i J C;have:i<n*2:=(by simpa[I6] using C);have:=I5 (List.replicate n (false,(⟨#[]⟩:Qq))) (i / 2) QA;have e1:(WO (List.replicate n (false,(⟨#[]⟩:Qq)))).toArray[i]=if i%2=0 then Value.bool false else .string ⟨#[]⟩:=QA;rw[e1];rcases Nat.mod_two_eq_zero_or_one i with hm|hm<;>simp[madeCells,Value.cells,hm]
 rw[e] at h;simpa using h
def Sf:∀ (L:List (Bool×Qq)) (j:Nat) (q:Bool×Qq),((WO L).set (j*2) (.bool q.1)).set (j*2+1) (.string q.2)=WO (L.set j q)
 |[],j,q=>by simp[WO]
 |p::l,0,q=>by simp[WO]
 |p::l,j+1,q=>by have e:(j+1)*2=j*2+1+1:=Qw;rw[e];simp[WO];rw[Sf l j q]
def Row.pcs(h:Row w g 204 (WO L)):BU w (some ⟨g,0,none⟩) L:=Se λj u C=>by rw[Ze5];exact h.cell C
def Row.Zd7(h:Row w g 204 (WO L))(j:Nat)(b:Bool)(s:Qq):Row ((w.setCell ⟨g,j*2,none⟩ (.bool b)).setCell ⟨g,j*2+1,none⟩ (.string s)) g 204 (WO (L.set j (b,s))):=by have:=(h.set (j*2) (.bool b)).set (j*2+1) (.string s);rw[Sf L j (b,s)] at this;omega
def UW(r c ga oa n cap M len:Nat)(O:Qm)(A:Nat->Nat->BitVec 8)(Zao:List Qq)(w:Qs)(r1:1<=r)(r2:r<=255)(c1:1<=c)(c2:c<=255)(hn:n=r*c)(ae:n<=cap)(U:cap<=9223372036854775807)(hlen:Zao.length=c)(F:∀i,i<Zao.length->(Zao.getD i ⟨#[]⟩).size=len)(hl:len<=100000)(ha:YL w ga oa r c A)(hL:Y9 w O Zao):Calls prog 162 #[.agg #[(r:Int),(c:Int),.slice (some ⟨ga,oa,none⟩) n cap],.slice O c M] w λe w'=>∃g J,e=.returned (.tuple #[.slice (g:Nat) r J,.nilIface])/\(Y9 w' (some ⟨g,0,none⟩) (WP A Zao len c r)/\r<=J/\J<=9223372036854775807)/\w.heap.size<=g/\Below w w w':=by
 obtain⟨lg,lo,rfl,_,Z⟩:=hL.open Qw;refine(Gz r c ga oa n cap lg lo M A Zao w r1 r2 c1 c2 hn ae U hlen (λi hi=>by rw[F i hi];exact hl) ha Z).mono ?_;rintro e w' ⟨h|h,hb⟩
 .obtain⟨⟨i,hi,ai⟩,_⟩:=h;exact absurd (by rw[F i hi,F 0 Qw]) ai
 .obtain⟨ag,v,rfl,C⟩:=h;rw[F 0 Qw,IW] at C;rcases C.2 with ⟨_,h0⟩|⟨g2,af,cur,rfl,ah,_⟩
  .omega
  .have hc:=RY C;exact⟨_,_,rfl,⟨Y9.own C,hc.1,Zq hc.2.1 Qz⟩,ah,hb⟩
def UL(k m af len:Nat)(la:Qm)(Zao:List Qq)(w:Qs)(h1:1<=k)(h2:k+m<=255)(hlen:Zao.length=k)(aj:∀i,i<Zao.length->(Zao.getD i ⟨#[]⟩).size=len)(hl:len<=100000)(hL:Y9 w la Zao):Calls prog 121 #[(k:Int),(m:Int),.slice la k af] w λe w'=>∃g J,e=.returned (.tuple #[.slice (g:Nat) (k+m) J,.nilIface])/\(Y9 w' (some ⟨g,0,none⟩) (WP (gen k) Zao len k (k+m))/\k+m<=J/\J<=9223372036854775807)/\w.heap.size<=g/\Below w w w':=by
 have⟨K,hK⟩:=ZL (k+m);have⟨F,U⟩:=ZL (K*k);have:F<=255*255:=by rw[U];exact Ze2 Qw Qw
 have S0:=ZI (Bun.start w);have HK:=ZI hK;have ai:=ZI U;have ag:=ZI hlen;have ak:=ZI aj;have HL:=ZI hL;have:k<=K:=Qw;have:K<=255:=Qw;rw[<-hK];clear hK U hlen aj hL;go_enter func121,ntmps121;go_wp2_with (first|(go_at_call 159;have C:=S0.o;clear S0;go_fit (Md k m _ h1 h2);rintro e w1 ⟨ga,he,hg,M,hb⟩;have aq:e=.returned (.tuple #[.agg #[(K:Int),(k:Int),.slice ga F F],.nilIface]):=(by rw[he,ai.o,HK.o];rfl);subst aq;clear he;rw[<-HK.o] at M;have O:=((C.after hb).add (λ_ h=>(Z9h M).after h)).box 250 [.int .i64 K,.int .i64 k,.slice ga F F];have⟨x0,x1,x2⟩:=QN O.here.2;have S1:=ZI O;clear C hb M hg O)|(go_at_call 162;have C:=S1.o;clear S1;go_fit (UW K k ga 0 F F af len la (gen k) Zao _ Qw Qw Qw Qw ai.o (Zt _) Qw ag.o ak.o hl C.here.1.2 (HL.o.after C.bel));rintro e w2 ⟨g5,ah,rfl,ht,ae,hb⟩;have Z:=ZX ht (Zq C.bel.size ae) (C.after hb).bel;clear C hb ht ae));go_ret2;exact⟨g5,ah,rfl,Z.1,Z.2,Z.3⟩
def Z1l(k m:Nat)(t:Qq)(w:Qs)(F:1<=k)(h2:k+m<=255)(ht:t.size<=50000):Calls prog 75 #[(k:Int),(m:Int),.string t] w λe w'=>∃g ag,e=.returned (.tuple #[.slice (g:Nat) (k+m) ag,.nilIface])/\(Y9 w' (some ⟨g,0,none⟩) (Y5 k m t)/\k+m<=ag/\ag<=9223372036854775807)/\w.heap.size<=g/\Below w w w':=by
 have⟨n,M⟩:=ZL (Yg k t.size);have⟨N,J⟩:=ZL (k*n);have:t.size<=N:=by rw[J,M];exact CW k t.size F
 have:N<=t.size+k:=by rw[J,M];exact TR k t.size F
 have:n<=t.size+1:=by rw[M];exact Gg k t.size F
 have⟨z,O⟩:=ZL (N-t.size);have:(k:Int)*(n:Int)=(N:Int):=by rw[J];simp
 have:(N:Int)- (t.size:Int)=(z:Int):=Qw;have:z<=255:=Qw;have⟨Z,hZ⟩:=ZL (XN z);have z2:Z.size=z:=by rw[hZ,DV]
 have:t.size+Z.size<=9223372036854775807:=Qw;have⟨T,hT⟩:=ZL (t++Z);have t1:T.size=N:=by rw[hT,Zep,z2];omega
 have t2:T=Je t N:=by unfold Je;rw[hT,hZ,O]
 have⟨K,hK⟩:=ZL (k+m);have⟨j0,bf,bg,bh,bj⟩:=ZE Cj;unfold Y5;rw[<-M,<-J,<-t2,<-hK];have H:=ZI (Dv (c:=0) F h2);have HN:=ZI J;have aw:=ZI M;have HZ:=ZI hZ;have HT:=ZI hT;have az:=ZI t1;have HK:=ZI hK;have:N<=T.size:=Qw;have:T.size<=N:=Qw;clear M J O hZ z2 hT t1 t2 hK;go_enter func75,ntmps75;go_wp2_with (first|(go_at_call 119;go_fit (C9 k m 0 _);rintro e w1 ⟨rfl,rfl⟩;rw[show WR (k:Int) (m:Int) 0=true from H.o])|(go_at_call 113;go_fit (DO k t.size _ F Qw Qw);rintro e w1 ⟨rfl,rfl⟩;rw[<-aw.o])|(go_at_call 120;refine(Tryz.strings_Repeat ⟨#[0]⟩ z _ Qw (by show 1*z<=_;omega)).mono ?_;rw[FW,<-HZ.o];rintro e w2 ⟨rfl,hb⟩;have S2:=ZI hb;clear hb));rw[<-HT.o];go_loopw [10,34] (λfst ii wr=>∃i:Nat,i<=k/\ii=(i:Int)/\wr.ownsRow w2 9 1 fst i (QS (WQ T n i))/\Below w2 w2 wr) (λ_ ii _=>k- (intOf ii).toNat)
 .exact⟨0,Qw,rfl,ZA _ _ _ _,Zu _ _⟩
 obtain⟨i,hi,rfl,ae,U⟩:=hrel;by_cases au:i<k
 .have⟨q,hq⟩:=ZL (i*n);have:q+n<=N:=by have h3:(i+1)*n<=k*n:=Zed n au;rw[Zfp,ZfM] at h3;rw[hq,HN.o];exact h3
  have q2:(i:Int)*(n:Int)=(q:Int):=by rw[hq];simp
  have:((i:Int)+1)*(n:Int)=((q+n:Nat):Int):=by rw[Int.add_mul,q2];simp
  have q4:(i+1)*n=q+n:=by rw[Zfp,ZfM,hq]
  have O:=U.size;have h:=ZM ae U;have HQ:=ZI hq;have ay:=ZI q4;clear ae U hq q4;go_wp2_with (at_builtin;refine Zel _ rfl (.tmp 37) (.tmp 47) 96 rfl w2.heap.size 9 j0 _ 1 16 underlying96 bf bg bh bj rfl Qw _ i (QS (WQ T n i)) rfl (h.1.alloc _) ⟨wr,0,none⟩ 1 1 [.string (T.extract q (q+n))] rfl rfl (Ze4 (cs:= #[.string (T.extract q (q+n))]) (t:=9) (fr:=(0,0)) (ZB wr _)) (by simp[Value.oneCell']) (by unfold maxLen;omega) Qw (Zq O Qx) ?_;intro v' w7 af ai aj;clear aj;have C:=ZM af (FN (h.1.alloc _) (h.2.alloc O _) (Zq O Qx) ai);clear af ai);go_roundw
  .refine⟨i+1,Qw,QC,?_,C.2⟩;rw[Oi,<-HQ.o,ay.o];exact C.1
  simp[intOf];omega
 .obtain rfl:k=i:=by omega
  rcases ae.2 with ⟨_,h0⟩|⟨g3,ak,cur,rfl,_⟩
  .omega
  .have hs:=Y9.own ae;have h:=ZM hs (S2.o.trans (U.mono S2.o.size));clear ae U hs au hi;go_wp2_with (go_at_call 121;have h9:=h.o;clear h;refine(UL k m ak n _ (WQ T n k) _ F h2 (BX _ _ _) (Ko T n k (by rw[az.o,HN.o])) Qw h9.1).mono ?_;rw[<-HK.o];rintro e w8 ⟨g8,aq,rfl,hs,ah,hb⟩;have C:=ZN hs (Zq h9.2.size ah) (h9.2.trans (hb.mono h9.2.size));clear h9 hs hb ah);go_ret2;exact⟨g8,aq,rfl,C.1,C.2.1,C.2.2⟩
open Go.Shelf
variable{z:Value}
def ZSp(w:Qs)(v:Qt)(n:Nat)(z:Qt):Prop:=∀g c cur e f,v=.slice (g:Nat) n c->w.heap[g]? =some (.cells cur e f)->∀j u,n<=j->cur[j]? =some u->u=z
def Z94(z:Qt)(F:z.cells= #[z])(N:Nat):∀ (j:Nat) (u:Qt),(Builtin.zeroCells z.cells N)[j]? =some u->u=z:=by intro j u h;rw[F] at h;unfold Builtin.zeroCells at h;rw[Array.getElem?_map,ZeI] at h;obtain⟨q, -,h⟩:=h;have C:q%(#[z]:Array Qt).size=0:=Zh1 q;rw[C] at h;exact h.symm
def Z69{P:Program}(w:Qs)(base:Nat)(t ty e:Qu)(i:TypeInfo)(z:Qt)(bytes:Nat)(ht:P.underlying t=some (.slice e))(hi:P.info? e=some i)(hz:i.zero=some z)(F:i.size=1)(az:i.bytes=bytes)(au:z.cells= #[z])(v:Qt)(n:Nat)(xs:Qk)(O:w.ownsRow base e 1 v n xs)(hZ:ZSp w v n z)(a:Addr)(c:Nat)(news:Qk)(hl:news.length=1)(Z:∀j u,news[j]? =some u->w.cell? (a.add j)=some u)(h1:∀u∈news,u.oneCell'=true)(aq:n+1<=maxLen)(ae:(n+1)*bytes<=140737488355328)(ah:base<=w):∃g cap w',(Builtin.append_ #[t,t] ty #[v,.slice (some a) 1 c]).run P w=.ok (.slice (g:Nat) (n+1) cap) w'/\w'.ownsRow base e 1 (.slice (g:Nat) (n+1) cap) (n+1) (xs++news)/\w.grownBy w' v.ownBlock/\(v.ownBlock=some g∨g=w.heap.size)/\ZSp w' (.slice (g:Nat) (n+1) cap) (n+1) z:=by
 subst az;have ak:n+1<=9223372036854775807:=by simp only[maxLen] at aq;omega
 have J:xs.length=n:=by have:=O.1;omega
 have hlen:(xs++news).length=(n+1)*1:=by rw[Zb,J,hl];omega
 have bj:z.cells.size=1:=by rw[au];rfl
 have grown:∀ (old:Nat),old<n+1->∀ (row:Option Nat),
   (w.drew.alloc (.cells (xs.toArray++news.toArray++Builtin.zeroCells z.cells (grownCap w (n+1) old e- (n+1))) e)).ownsRow base e 1
    (.slice (some ⟨w,0,none⟩) (n+1) (grownCap w (n+1) old e)) (n+1) (xs++news)/\
   w.grownBy (w.drew.alloc (.cells (xs.toArray++news.toArray++Builtin.zeroCells z.cells (grownCap w (n+1) old e- (n+1))) e)) row/\
   ZSp (w.drew.alloc (.cells (xs.toArray++news.toArray++Builtin.zeroCells z.cells (grownCap w (n+1) old e- (n+1))) e)) (.slice (some ⟨w,0,none⟩) (n+1) (grownCap w (n+1) old e)) (n+1) z:=by
  intro old ho row;have bg:=grownCap_ge w (n+1) old e;have aj:grownCap w (n+1) old e<=maxLen:=grownCap_le_maxLen w (n+1) old e aq;refine⟨⟨hlen,.inr ⟨w.heap.size,_,_,rfl,ah,ZB w.drew _,bg,aj,?_,?_⟩⟩,⟨rfl,rfl,rfl,Qx,λk hk _=>heap_alloc_old w.drew _ hk⟩,?_⟩
  .simp only[Array.size_append,Zex,size_zeroCells,bj,J,hl];omega
  .simp only[Array.toList_append,Zd];rw[<-Zd,<-hlen];exact Zgr
  .intro g c cur e' f' hv h j u hj hu;simp at hv;have bh:=ZB w.drew (.cells (xs.toArray++news.toArray++Builtin.zeroCells z.cells (grownCap w (n+1) old e- (n+1))) e);rw[<-hv.1] at h;rw[show w.heap.size=w.drew.heap.size from rfl,bh] at h;simp at h;rw[<-h.1,Array.getElem?_append_right (by simp[J,hl];omega)] at hu;exact Z94 z au _ _ _ hu
 rcases O.2 with ⟨rfl,rfl⟩|⟨g,cap,cur,rfl,ay,h,bm,aj,bf,af⟩
 .have hx:xs=[]:=Zfq J;subst hx;have M:=run_append_nil (P:=P) w t ty e i z ht hi hz a 1 c news (by rw[F];exact hl) Z Qw Qw (by have hb:=ae;simp only[Ze5] at hb;omega);have C:=grown 0 Qw (Value.ownBlock (.slice none 0 0));simp only[Ze5,Ze3,Array.empty_append] at C⊢;exact⟨_,_,_,M,C.1,C.2.1,Zy rfl,C.2.2⟩
 .by_cases ag:n+1<=cap
  .have ai:n*i.size+news.length<=cur.size:=by rw[hl,bf,F];omega
   have M:=run_append_room (P:=P) w t ty e i ht hi g n cap cur h a 1 c news (by rw[F];exact hl) Z h1 ag ai;rw[F] at M;refine⟨_,_,_,M,⟨hlen,.inr ⟨g,cap,_,rfl,ay,Zg6 w g cur _ e _ h,ag,aj,?_,?_⟩⟩,⟨rfl,rfl,rfl,Qx,λk _ hk=>setRow_other w g k _ (λe=>hk (by simp[Value.ownBlock,e]))⟩,Zv rfl,?_⟩
   .simp only[Zex,Zb,Zg,Zek,Array.length_toList];rw[F] at ai;omega
   .rw[af,<-hlen];exact Zgr
   .intro g' c' aw e' f' hv U j u hj hu;simp at hv;rw[<-hv.1,Zg6 w g cur _ e _ h] at U;injection U with U;injection U with q1 q2 q3;rw[<-q1,ZfV,ZdD (by rw[Zb,af,J,hl];exact hj),Zf2] at hu;refine hZ g cap cur e _ rfl h _ u ?_ (by rw[<-ZfW];exact hu);rw[Zb,af,J,hl];omega
  .have holds:∀j u,xs[j]? =some u->w.cell? ((⟨g,0,none⟩:Addr).add j)=some u:=O.cells (g:=g) rfl;have M:=run_append_grow (P:=P) w t ty e i z ht hi hz ⟨g,0,none⟩ n cap xs (by rw[F];exact O.1) holds a 1 c news (by rw[F];exact hl) Z Qw Qw (growslice_fits Qw ae);have C:=grown cap Qw (Value.ownBlock (.slice (g:Nat) n cap));exact⟨_,_,_,M,C.1,C.2.1,Zy rfl,C.2.2⟩
def Z8D(w:Qs)(hg:o.guard=none)(s x:Operand)(t e:Qu){z:Qt}{bytes:Nat}(ho:o.op=.call {callee:=.builtin .append,args:= #[s,x],argTypes:= #[t,t]})(ht:prog.underlying t=some (.slice e))(hi:(prog.info? e).map (λi=>(i.zero,i.size,i.bytes))=some (some z,1,bytes))(U:z.cells= #[z])(J:bytes<=1000)(base:Nat)(v:Qt)(n:Nat)(xs:Qk)(hs:a.eval s=v)(C:w.ownsRow base e 1 v n xs)(hZ:ZSp w v n z)(p:Nat)(news:Qk)(hx:a.eval x=.slice p 1 1)(O:news.length=1)(hc:Row w p e news)(h1:∀u∈news,u.oneCell'=true)(hb:base<=w)(hl:n<=1000000)(hK:∀g cap w',w'.ownsRow base e 1 (.slice (g:Nat) (n+1) cap) (n+1) (xs++news)->Fr (QV v) w w'->(v.ownBlock=some g∨g=w.heap.size)->ZSp w' (.slice (g:Nat) (n+1) cap) (n+1) z->wpList prog ops Q rest (a.put o.dst (.slice (g:Nat) (n+1) cap)) w'):wpList prog ops Q (o::rest) a w:=by
 have⟨j0,M,Z,ae,af⟩:=ZE hi
 have⟨g,cap,w',hr,h2,h3,h4,h5⟩:=Z69 (P:=prog) w base t o.type e j0 z bytes ht M Z ae af U v n xs C hZ ⟨p,0,none⟩ 1 news O (λj u hj=>by
  have:=hc.cell hj;have:(⟨p,0,none⟩:Addr).add j=⟨p,j,none⟩:=by unfold Addr.add;by_cases h:j=0<;>simp[h]
  simp_all) h1 (by unfold maxLen;omega) (by
  have:(n+1)*bytes<=1000100*1000:=Ze2 Qw J
  omega) hb
 refine Zgl hg λ_ F=> ?_;unfold Oper.wp execOp;simp[ho,resolve,invoke,builtin,ZfB,ZfO,ZeU,ZfZ,Zn,Zf9,hs,hx,hr];exact F _ _ (hK g cap w' h2 ((Fr.refl (QV v) w).grown h3 (λk hk=>Zv (YV.2 hk))) h4 h5)
def ZSp.nil(w:Qs)(n:Nat)(z:Qt):ZSp w (.slice none 0 0) n z:=λg c cur e f h=>by cases h
def ZSp.fr(h:ZSp w v n z){L:Qj}(J:Fr L w w')(F:∀q∈QV v,q∉L)(C:∀q∈QV v,q<w.heap.size):ZSp w' v n z:=λg c cur e f hv M=>by
 subst hv;have hm:g∈QV (.slice g n c):=by simp[QV,Value.ownBlock]
 refine h g c cur e f rfl ?_;rw[<-J.block g (C g hm) (F g hm)];exact M
def ZSp.row{c:Nat}{sp:Qk}(h:ZSp w (.slice g n c) n z)(J:Row w g e (xs++sp))(F:xs.length=n):∀v,sp[0]? =some v->v=z:=λv hv=>by obtain⟨f,C, -⟩:=J;refine h g c _ e f rfl C n v (Zt _) ?_;rw[ZfV,ZdD Qw,F,Zgm];exact hv
