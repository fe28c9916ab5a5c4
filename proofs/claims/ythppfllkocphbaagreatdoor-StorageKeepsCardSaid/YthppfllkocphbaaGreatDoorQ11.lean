/-
  Part 12 of the proof: lemmas about what the program computes.
-/
import Derived.Test.YthppfllkocphbaaGreatDoorQ10
namespace Go.Proofs.YthppfllkocphbaaGreatDoor
set_option linter.unusedVariables false
set_option linter.unusedSimpArgs false
set_option maxHeartbeats 25600000
set_option maxRecDepth 100000
open Tryz
section
open Go.RowKit
variable{base g n size:Nat}{e:TypeId}{l xs:List Value}{rest t:Bs}{rs:List Bs}{v:Value}{w:World}
theorem Y4{P:Program}(T:TypeId)(h:P.underlying T=some .string)(s:ByteArray)(n:Nat)(hn:n<=s.size)(W:World):(Instr.slice T (.string s) (some (.int .i64 (n:Int))) none none).run P W=.ok (.string (s.extract n s.size)) W:=by
 rw[run_slice_string_from_if W T s .i64 n h,if_pos ⟨by omega,by omega⟩];simp
theorem Z9F(e m:Nat)(a b:List Bs):Yz e m (a++b)=Yz e m a++Yz e (m+a.length) b:=by
 induction a generalizing m with
 |nil=>rfl
 |cons x a ih=>rw[List.cons_append,Yz,Yz,ih,ZjL,ZjM,show m+1+a.length=m+(a.length+1) from by omega]
theorem Z4J(e m:Nat)(a:List Bs):(Yz e m a).length=64*Zg a:=by
 induction a generalizing m with
 |nil=>rfl
 |cons x a ih=>
  rw[Yz,ZjI,Yx,ih,show Zg (x::a)=Z8 x.length / 64+Zg a from rfl]
  have:=XB x.length;omega
theorem Zbs{e:Nat}(h:t=Zb e 0 ZI++(Yz e 0 rs++rest))(k:Nat)(hk:k<rs.length):
  t.drop (64*(1+Zg (rs.take k)))=Zb e (k+1) (rs.getD k [])++(Yz e (k+1) (rs.drop (k+1))++rest):=by
 have e1:rs=rs.take k++(rs.getD k []::rs.drop (k+1)):=by
  have h1:=(Zk4 k rs).symm
  rw[List.drop_eq_getElem_cons hk] at h1
  rw[ZjE,ZjF hk];exact h1
 have e2:Yz e 0 rs=Yz e 0 (rs.take k)++(Zb e (k+1) (rs.getD k [])++Yz e (k+1) (rs.drop (k+1))):=by
  conv=>lhs;rw[e1]
  rw[Z9F,ZjO,Nat.min_eq_left (by omega),Nat.zero_add];rfl
 rw[h,e2]
 have hl:(Zb e 0 ZI++Yz e 0 (rs.take k)).length=64*(1+Zg (rs.take k)):=by rw[ZjI,Qx,Z4J];omega
 rw[<-hl,ZjL,ZjL,<-ZjL (Zb e 0 ZI),List.drop_left]
theorem Z92{e:Nat}(h:t=Zb e 0 ZI++(Yz e 0 rs++rest)):t.drop (64*(1+Zg rs))=rest:=by
 have hl:(Zb e 0 ZI++Yz e 0 rs).length=64*(1+Zg rs):=by rw[ZjI,Qx,Z4J];omega
 rw[h,<-hl,<-ZjL,List.drop_left]
def Z8y(t:Bs)(e:Nat):Prop:=t.getD 0 0≠1∨∃e' rest,e'<e/\t=Zb e' 0 ZI++rest
theorem Z3P(s:ByteArray)(e:Nat)(w:World)(hs:64<=s.size)(hm:s.size<=10000000)(h:Z8y s.data.toList e)(he:e<=3000000000)(h1:1<=e):
  Calls prog 152 #[.string s] w fun r w'=>∃x:Nat,r=.returned (.int .i64 x)/\x<e/\Below w.heap.size w w':=by
 rcases h with h|⟨e',rest,ae,h⟩
 ·exact(Z2q s w hs hm h).mono fun r w' ⟨hr,hb⟩=>⟨0,hr,by omega,hb⟩
 ·exact(Z3b s e' rest w hm h (by omega)).mono fun r w' ⟨hr,hb⟩=>⟨e',hr,ae,hb⟩
structure JRd(D:Dk)(J:Jn)(rs:List Bs):Prop where
 on:Zdq (D.text (J.at_ J.second 0) J.half) J.epoch rs
 off:Z8y (D.text (J.at_ (!J.second) 0) J.half) J.epoch
 many:J.many=rs.length
 next:J.next=1+Zg rs
 e1:1<=J.epoch
 e2:J.epoch<=3000000000
 fits:1+Zg rs<=J.half
 small:∀r∈rs,r.length<=60000
 closed:J.closed=false
theorem Z4K(rs:List Bs)(k:Nat)(hk:k<rs.length):Zg (rs.take (k+1))=Zg (rs.take k)+Z8 (rs.getD k []).length / 64:=by
 rw[ZjK hk,Z0L,ZjE,ZjF hk];rfl
theorem J9(rs:List Bs)(k:Nat):Zg (rs.take k)<=Zg rs:=by
 conv=>rhs;rw[<-Zk4 k rs]
 rw[Z0L];omega
theorem Jt(rs:List Bs):rs.length<=Zg rs:=by
 induction rs with
 |nil=>exact Nat.zero_le _
 |cons x rs ih=>
  have:=WZ x.length
  have e:Zg (x::rs)=Z8 x.length / 64+Zg rs:=rfl
  rw[ZjM,e];omega
theorem Zbn(half:Nat):Jn.at_ ⟨half,false,0,0,1,false⟩ true 0=half:=by simp[Jn.at_]
def Z9i:Value->Nat
 |.slice _ n _=>n
 |_=>0
theorem Z2J(h:w.ownsRow base e size v n xs):Z9i v=n:=by
 rcases h.2 with ⟨rfl,h0⟩|⟨g,cap,cur,rfl,_⟩
 ·have:=h.1;simp only[Z9i];omega
 ·rfl
theorem Jk{w':World}{row:Option Nat}(h:Row w g e l)(hg:w.grownBy w' row)(hr:row≠some g):Row w' g e l:=by
 have hl:=h.lt
 obtain⟨f,hh,hb⟩:=h
 exact⟨f,(hg.block g hl (fun e=>hr e.symm)).trans hh,hb⟩
theorem Ws{e':TypeId}(h:Row w g e l)(h':w.ownsRow base e' size v n xs)(he:e≠e'):v.ownBlock≠some g:=Row.ne_own h h' he
structure Z6Z(w:World)(d:Nat)(J:Jn)(rs:List Bs)(jv lv:Value)(w':World):Prop where
 jn:∃j,jv=.pointer (some ⟨j,0,none⟩)/\w.heap.size<=j/\JAt w' j d J
 recs:w'.ownsRow w.heap.size 9 1 lv rs.length (Z6 (rs.map str))
 below:Below w.heap.size w w'
theorem Z4o(rs:List Bs)(k:Nat)(h:k<rs.length):Z6 ((rs.take (k+1)).map str)=Z6 ((rs.take k).map str)++[.string (str (rs.getD k []))]:=by
 rw[ZjK h,ZjZ,ZjE,ZjF h]
 simp[Z6]
theorem ZfM(B p d n:Nat)(P:Pw)(D:Dk)(L:List Nat)(J:Jn)(rs:List Bs)(w:World)(h:PD B w p d n P D L)(h1:2<=J.half)(h2:2*J.half<=n)(hr:Xr P D=0)(hj:JRd D J rs):
  Calls prog 108 #[.pointer (some ⟨d,0,none⟩),.int .i64 0,.int .i64 ((2*J.half:Nat):Int)] w fun e w'=>∃jv lv,e=.returned (.tuple #[jv,lv,.nilIface])/\Z6Z w d J rs jv lv w':=by
 obtain⟨j0,fx,ib,ic,ie⟩:=info_parts XK
 obtain⟨half,second,epoch,many,next,closed⟩:=J
 obtain⟨aj,ag,cw,cy,fh,dz,ee,cr,fw⟩:=hj
 simp only at h1 h2 cw cy fh dz ee fw aj ag
 subst cw cy fw
 have hn:=h.ok.n2
 have gx:(D.text 0 half).length=64*half:=JI h.ok 0 half (by omega)
 have gy:(D.text half half).length=64*half:=JI h.ok half half (by omega)
 obtain⟨Ta,fc⟩:∃Ta,str (D.text 0 half)=Ta:=⟨_,rfl⟩
 obtain⟨Tb,fe⟩:∃Tb,str (D.text half half)=Tb:=⟨_,rfl⟩
 have za:Ta.size=64*half:=by rw[<-fc,Z5,gx]
 have zb:Tb.size=64*half:=by rw[<-fe,Z5,gy]
 have a0:∀s,Jn.at_ ⟨half,second,epoch,rs.length,1+Zg rs,false⟩ s 0=if s then half else 0:=fun s=>by cases s<;>simp[Jn.at_]
 rw[a0] at aj ag
 have H:=Zka (Zkb h hr)
 have HT:=Zka (Zkb fc (Zkb fe (Zkb za zb)))
 have ia:64<=Ta.size/\Ta.size<=10000000/\64<=Tb.size/\Tb.size<=10000000:=by omega
 have HZ:=Zka ia
 have HC:=Zka (Zkb aj ag)
 have HS:=Zka cr
 clear h hr fc fe za zb gx gy ia aj ag a0 cr
 go_enter func108,ntmps108
 go_wp2_with fail
 refine(Z1q B p d n P D L half w H.out.1 h1 h2).mono ?_
 rintro e w1 ⟨j,rfl,fy,gj,fg⟩
 have S1:=Zka (Zkb gj (Zkb fg fy))
 have ix:=fg.size
 clear fy gj fg
 go_wp2_with fail
 refine(Z5b B p d n j P D L ⟨half,false,0,0,1,false⟩ false w1 (H.out.1.after S1.out.2.1) S1.out.1 (show 1<=half by omega) h2 H.out.2).mono ?_
 rw[show str (D.text (Jn.at_ ⟨half,false,0,0,1,false⟩ false 0) half)=Ta from HT.out.1]
 rintro e w2 ⟨rfl,ey⟩
 have S2:=Zka (Zkb (JAt.after S1.out.1 ey) (S1.out.2.1.trans (ey.mono ix)))
 have j8:=ey.size
 clear ey
 go_wp2_with fail
 refine(Z5b B p d n j P D L ⟨half,false,0,0,1,false⟩ true w2 (H.out.1.after S2.out.2) S2.out.1 (show 1<=half by omega) h2 H.out.2).mono ?_
 rw[Zbn half,HT.out.2.1]
 rintro e w3 ⟨rfl,ez⟩
 have S3:=Zka (Zkb (JAt.after S2.out.1 ez) (S2.out.2.trans (ez.mono (by omega))))
 have j9:=ez.size
 clear ez
 cases second
 case false=>
  obtain⟨aj,ag⟩:=HC.out
  simp only[Bool.false_eq_true,if_false,Bool.not_false,if_true] at aj ag
  obtain⟨rest,aj,ek⟩:=aj
  have hT:Ta.data.toList=Zb epoch 0 ZI++(Yz epoch 0 rs++rest):=by rw[<-HT.out.1];exact aj
  have eo:Z8y Tb.data.toList epoch:=by rw[<-HT.out.2.1];exact ag
  have dt:=Zka (Zkb ek (Zkb hT eo))
  have zT:=HT.out.2.2.1
  clear aj ag ek eo
  go_wp2_with fail
  refine(Z3b Ta epoch _ w3 HZ.out.2.1 hT dz).mono ?_
  rintro e w4 ⟨rfl,de⟩
  have ct:=JAt.after S3.out.1 de
  have r4:=ct.free (j:=4) (by simp)
  have c4:=ct.cell (j:=4) rfl
  have cu:Below w.heap.size w4 (w4.setCell ⟨j,4,none⟩ (.int .i64 epoch)):=Zk9.setCell S1.out.2.2 _
  have aw:JAt (w4.setCell ⟨j,4,none⟩ (.int .i64 epoch)) j d ⟨half,false,epoch,0,1,false⟩:=Row.set ct 4 (.int .i64 epoch)
  have S4:=Zka (Zkb aw ((S3.out.2.trans (de.mono (by omega))).trans cu))
  clear ct cu aw de
  have ew:=Zka hT
  clear hT
  go_wp2_with fail
  refine(Z3P Tb epoch _ HZ.out.2.2.1 HZ.out.2.2.2 dt.out.2.2 dz fh).mono ?_
  rintro e w5 ⟨x,rfl,hx,df⟩
  have aw:=JAt.after S4.out.1 df
  have ig:=aw.cell (j:=4) rfl
  have fq:=S4.out.2.size
  have S6:=Zka (Zkb aw (S4.out.2.trans (df.mono fq)))
  have iu:¬ (epoch:Int)<(x:Int):=by omega
  have iw:((epoch:Int)==0)=false:=by simp;omega
  clear aw df c4 r4
  have hT:=ew.out
  go_wp2
  go_loopw [14] (fun lv wr=>∃k:Nat,k<=rs.length/\wr.ownsRow w.heap.size 9 1 lv k (Z6 ((rs.take k).map str))/\JAt wr j d ⟨half,false,epoch,k,1+Zg (rs.take k),false⟩/\Below w.heap.size w wr) (fun lv _=>rs.length-Z9i lv)
  case atStart=>exact⟨0,by omega,World.ownsRow_nil _ _ _ _,S6.out.1,S6.out.2⟩
  case round=>
   have ir:=Jt rs
   obtain⟨k,hk,az,bm,hb⟩:=hrel
   obtain⟨nk,al⟩:∃nk,1+Zg (rs.take k)=nk:=⟨_,rfl⟩
   rw[al] at bm
   have c2:=bm.cell (j:=2) rfl
   have c6:=bm.cell (j:=6) rfl
   have hle:=J9 rs k
   have eh:=Z2J az
   have eu:=hb.size
   have HO:=Zka (Zkb az (Zkb bm hb))
   have HK:=Zka (Zkb al eh)
   have fo:nk<=half:=by omega
   clear az bm hb eh
   by_cases bu:k<rs.length
   ·obtain⟨R,hR⟩:∃R,rs.getD k []=R:=⟨_,rfl⟩
    have b9:=Z4K rs k bu
    have dj:=J9 rs (k+1)
    rw[hR] at b9
    have fp:=WZ R.length
    have fa:R.length<=60000:=by
     rw[<-hR,ZjE,ZjF bu];exact HS.out _ (ZjW bu)
    obtain⟨E,hE⟩:∃E,Z8 R.length=64*E:=⟨Z8 R.length / 64,by have:=XB R.length;omega⟩
    have du:Z8 R.length / 64=E:=by omega
    rw[du] at b9 fp
    have ij:E<=1000:=by have:Z8 R.length<=60100:=(by unfold Z8;omega);omega
    obtain⟨n1,im⟩:∃n1,nk+E=n1:=⟨_,rfl⟩
    have bz:1+Zg (rs.take (k+1))=n1:=by omega
    have cn:(nk:Int)<(half:Int):=by omega
    have ak:decide ((nk:Int)<(half:Int))=true:=by simpa using cn
    have dc:=Zbs hT k bu
    rw[al,hR] at dc
    have dp:=Z4o rs k bu
    rw[hR] at dp
    have HN:=Zka (Zkb bz (Zkb dc (Zkb dp hE)))
    have aj:=HO.out.1
    clear hle dj b9 bz dc dp hE du hR al
    go_wp2_with fail
    go_quiet (fail)
    obtain⟨wq,ai⟩:∃wq,wq=wr.drewN nq:=⟨_,rfl⟩
    rw[<-ai]
    have af:Below wr.heap.size wr wq:=by rw[ai];exact Zp Zk9 nq
    have SQ:=Zka (Zkb (Y3 HO.out.1 af) (Zkb (JAt.after HO.out.2.1 af) (HO.out.2.2.trans (af.mono eu))))
    have iy:=af.size
    clear ai af c2 c6
    go_wp2_with fail
    have d4:=SQ.out.2.1.cell (j:=4) rfl
    have d5:=SQ.out.2.1.cell (j:=5) rfl
    have d6:=SQ.out.2.1.cell (j:=6) rfl
    obtain⟨o,ho⟩:∃o,64*nk=o:=⟨_,rfl⟩
    have dq:IntKind.i64.wrap ((nk:Int)*64)=(o:Int):=by rw[Zk2 _ (by omega)];omega
    obtain⟨k1,bq⟩:∃k1,k+1=k1:=⟨_,rfl⟩
    have dr:IntKind.i64.wrap (k1:Int)=(k1:Int):=Zk2 _ (by omega)
    have q3:(0:Int)<=(o:Int):=by omega
    have q4:(o:Int)<=(Ta.size:Int):=by omega
    have q5:o<=Ta.size:=by omega
    have q6:¬Ta.size=o:=by omega
    have q7:(o:Int).toNat=o:=by omega
    have ef:(k:Int)+1=(k1:Int):=by omega
    have dh:k1<=4000000000:=by omega
    have fi:epoch<=4000000000:=by omega
    obtain⟨X,hX⟩:∃X,Ta.extract o Ta.size=X:=⟨_,rfl⟩
    have bf:X.data.toList=Zb epoch k1 R++(Yz epoch k1 (rs.drop k1)++rest):=by
     rw[<-hX,Lib.extract_to_end,<-ho,HN.out.2.1,bq]
    have ff:X.size<=140737488355328:=by rw[<-hX,ByteArray.size_extract];omega
    have HX:=Zka (Zkb bf (Zkb bq ho))
    have dm:∀W,(Instr.slice 9 (.string Ta) (some (.int .i64 (o:Int))) none none).run prog W=.ok (.string X) W:=fun W=>by rw[<-hX];exact Y4 9 underlying9 Ta o (by omega) W
    clear bf bq ho hX
    go_region_held3 (fun w'=>w'.cell? ⟨j,4,none⟩=some (.int .i64 epoch)/\w'.cell? ⟨j,5,none⟩=some (.int .i64 k)/\w'.cell? ⟨j,6,none⟩=some (.int .i64 nk)) (first|assumption|exact⟨d4,d5,d6⟩|exact⟨S7.out.1.cell (j:=4) rfl,S7.out.1.cell (j:=5) rfl,S7.out.1.cell (j:=6) rfl⟩)
     (((go_at_call 154;refine(Z50 X epoch k1 R _ _ HX.out.1 fi dh fa ff).mono ?_;rintro e w7 ⟨rfl,ae⟩;have bj:JAt w7 j d ⟨half,false,epoch,k,nk,false⟩:=JAt.after (w:=wq.drew) SQ.out.2.1 ae;have S7:=Zka (Zkb bj ae);clear bj ae)))
    rw[HN.out.2.2.2]
    have ae:Below w.heap.size w w7:=SQ.out.2.2.trans ((Below.drew Zk9).trans (S7.out.2.mono (show w.heap.size<=wq.heap.size by omega)))
    have au:w7.ownsRow w.heap.size 9 1 _ k (Z6 ((rs.take k).map str)):=Y3 (Y3 SQ.out.1 (Zk9.drew)) S7.out.2
    have ft:=ae.size
    have ik:((64*E:Nat):Int) / 64=(E:Int):=by omega
    have iq:(nk:Int)+(E:Int)=(n1:Int):=by omega
    have S8:=Zka (Zkb ae au)
    have dw:(⟨R.toArray⟩:ByteArray)=str R:=rfl
    rw[dw]
    clear ae au d4 d5 d6 dq dr q3 q4 q5 q6 q7 dm dw
    go_wp2_with (at_builtin;refine wpList_append_own _ rfl (.tmp 105) (.tmp 107) 96 rfl w.heap.size 9 j0 _ 1 16 underlying96 fx ib ic ie rfl (by omega) _ k (Z6 ((rs.take k).map str)) rfl (S8.out.2.alloc _) ⟨w7.heap.size,0,none⟩ 1 1 [.string (str R)] rfl rfl (World.news_of_block (cs:= #[.string (str R)]) (t:=9) (fr:=(0,0)) (heap_alloc_new w7 _)) (by simp[Value.oneCell']) (by unfold maxLen;omega) (by omega) (Zk1 ft (by simp)) ?_;intro v' w8 aq ay cj;clear cj;have bg:JAt w8 j d ⟨half,false,epoch,k,nk,false⟩:=Jk (S7.out.1.alloc _) ay (Ws S7.out.1 S8.out.2 (by decide));have dy:Below w.heap.size w w8:=Fr.nil_below (((Fr.of_below (L:=[]) S8.out.1).alloc _).grown ay (fun g hg=>Or.inr (Xa S8.out.2 hg)));have S9:=Zka (Zkb aq (Zkb bg dy));have e5:=bg.cell (j:=5) rfl;have e6:=bg.cell (j:=6) rfl;have f5:=bg.free (j:=5) (by simp);have f6:=bg.free (j:=6) (by simp);clear aq ay bg dy)
    go_roundw
    case measure=>
     have:=Z2J S9.out.1
     have h3:=HK.out.2
     rw[this];omega
    case rel=>
     have cu:Fr [j] w8 ((w8.setCell ⟨j,5,none⟩ (.int .i64 k1)).setCell ⟨j,6,none⟩ (.int .i64 n1)):=((Fr.refl _ _).setCell (Or.inl (by simp)) _).setCell (Or.inl (by simp)) _
     have fm:=Ws S9.out.2.1 S9.out.1 (by decide)
     refine⟨k+1,by omega,?_,?_,?_⟩
     ·have h9:=ZZ S9.out.1 cu (fun g hg hm=>by rw[ZjD] at hm;subst hm;exact fm hg)
      rw[<-HN.out.2.2.1] at h9
      first|exact h9|(rw[List.map_take] at h9;exact h9)
     ·have h9:=(Row.set S9.out.2.1 5 (.int .i64 k1)).set 6 (.int .i64 n1)
      unfold JAt
      rw[HN.out.1,HX.out.2.1]
      exact h9
     ·exact(S9.out.2.2.setCell S1.out.2.2 _).setCell S1.out.2.2 _
   ·obtain rfl:k=rs.length:=by omega
    have b9:rs.take rs.length=rs:=Zk5
    rw[b9] at al
    have bh:∀W,Below wr.heap.size wr W->Z6Z w d ⟨half,false,epoch,rs.length,1+Zg rs,false⟩ rs (.pointer (some ⟨j,0,none⟩)) _ W:=fun W hW=>
     ⟨⟨j,rfl,S1.out.2.2,by have:=JAt.after HO.out.2.1 hW;rw[<-al] at this;exact this⟩,by have:=Y3 HO.out.1 hW;rw[b9] at this;exact this,HO.out.2.2.trans (hW.mono eu)⟩
    have ax:=Z92 hT
    rw[al] at ax
    have HF:=Zka bh
    have HE:=Zka ax
    clear bh ax b9 al hle
    by_cases cn:nk<half
    ·have ah:(nk:Int)<(half:Int):=by omega
     have ak:decide ((nk:Int)<(half:Int))=true:=by simpa using ah
     go_wp2_with fail
     go_quiet (fail)
     obtain⟨wq,ai⟩:∃wq,wq=wr.drewN nq:=⟨_,rfl⟩
     rw[<-ai]
     have af:Below wr.heap.size wr wq:=by rw[ai];exact Zp Zk9 nq
     have SQ:=Zka (Zkb (JAt.after HO.out.2.1 af) af)
     clear ai af c2 c6
     go_wp2_with fail
     have d4:=SQ.out.1.cell (j:=4) rfl
     have d5:=SQ.out.1.cell (j:=5) rfl
     have d6:=SQ.out.1.cell (j:=6) rfl
     obtain⟨o,ho⟩:∃o,64*nk=o:=⟨_,rfl⟩
     have dq:IntKind.i64.wrap ((nk:Int)*64)=(o:Int):=by rw[Zk2 _ (by omega)];omega
     obtain⟨k1,bq⟩:∃k1,rs.length+1=k1:=⟨_,rfl⟩
     have dr:IntKind.i64.wrap (k1:Int)=(k1:Int):=Zk2 _ (by omega)
     have q3:(0:Int)<=(o:Int):=by omega
     have ef:(rs.length:Int)+1=(k1:Int):=by omega
     obtain⟨X,hX⟩:∃X,Ta.extract o Ta.size=X:=⟨_,rfl⟩
     have bf:X.data.toList=rest:=by rw[<-hX,Lib.extract_to_end,<-ho,HE.out]
     have dx:X.size=0∨X.data.toList.getD 0 0≠1:=by
      rw[bf]
      rcases dt.out.1 with h0|h0
      ·left;rw[<-Qo,bf,h0];rfl
      ·exact Or.inr h0
     have dm:∀W,(Instr.slice 9 (.string Ta) (some (.int .i64 (o:Int))) none none).run prog W=.ok (.string X) W:=fun W=>by rw[<-hX];exact Y4 9 underlying9 Ta o (by omega) W
     have HX:=Zka dx
     clear bf bq ho hX dx
     go_region_held3 (fun w'=>w'.cell? ⟨j,4,none⟩=some (.int .i64 epoch)/\w'.cell? ⟨j,5,none⟩=some (.int .i64 rs.length)/\w'.cell? ⟨j,6,none⟩=some (.int .i64 nk)) (first|assumption|exact⟨d4,d5,d6⟩|exact⟨S7.out.1.cell (j:=4) rfl,S7.out.1.cell (j:=5) rfl,S7.out.1.cell (j:=6) rfl⟩)
      (((go_at_call 154;refine(Z3I X epoch k1 _ HX.out).mono ?_;rintro e w7 ⟨v,rfl,hv,er,ae⟩;obtain⟨b,rfl⟩:=(hv.split.resolve_left (fun h=>er h.2)).2;have bj:JAt w7 j d ⟨half,false,epoch,rs.length,nk,false⟩:=JAt.after (w:=wq.drew) SQ.out.1 ae;have S7:=Zka (Zkb bj ae);clear bj ae hv er)))
     have ae:Below wr.heap.size wr w7:=SQ.out.2.trans ((Below.drew Zk9).trans (S7.out.2.mono (show wr.heap.size<=wq.heap.size from SQ.out.2.size)))
     have cz:=Zka ae
     clear ae d4 d5 d6 dq dr q3 dm ef
     go_wp2
     go_ret3
     exact⟨_,_,rfl,HF.out _ cz.out⟩
    ·have ah:¬ (nk:Int)<(half:Int):=by omega
     have ak:decide ((nk:Int)<(half:Int))=false:=by simpa using ah
     go_wp2_with fail
     go_quiet (fail)
     obtain⟨wq,ai⟩:∃wq,wq=wr.drewN nq:=⟨_,rfl⟩
     rw[<-ai]
     have af:Below wr.heap.size wr wq:=by rw[ai];exact Zp Zk9 nq
     have cz:=Zka af
     clear ai af c2 c6
     go_wp2
     go_ret3
     exact⟨_,_,rfl,HF.out _ cz.out⟩
 case true=>
  obtain⟨aj,ag⟩:=HC.out
  simp only[Bool.not_true,Bool.false_eq_true,if_false,if_true] at aj ag
  obtain⟨rest,aj,ek⟩:=aj
  have hT:Tb.data.toList=Zb epoch 0 ZI++(Yz epoch 0 rs++rest):=by rw[<-HT.out.2.1];exact aj
  have eo:Z8y Ta.data.toList epoch:=by rw[<-HT.out.1];exact ag
  have dt:=Zka (Zkb ek (Zkb hT eo))
  have zT:=HT.out.2.2.2
  clear aj ag ek eo
  have ew:=Zka hT
  clear hT
  go_wp2_with fail
  refine(Z3P Ta epoch w3 HZ.out.1 HZ.out.2.1 dt.out.2.2 dz fh).mono ?_
  rintro e w4 ⟨x,rfl,hx,de⟩
  have ct:=JAt.after S3.out.1 de
  have r4:=ct.free (j:=4) (by simp)
  have c4:=ct.cell (j:=4) rfl
  have cu:Below w.heap.size w4 (w4.setCell ⟨j,4,none⟩ (.int .i64 x)):=Zk9.setCell S1.out.2.2 _
  have aw:JAt (w4.setCell ⟨j,4,none⟩ (.int .i64 x)) j d ⟨half,false,x,0,1,false⟩:=Row.set ct 4 (.int .i64 x)
  have S4:=Zka (Zkb aw ((S3.out.2.trans (de.mono (by omega))).trans cu))
  clear ct cu aw de
  go_wp2_with fail
  refine(Z3b Tb epoch _ _ HZ.out.2.2.2 ew.out dz).mono ?_
  rintro e w5 ⟨rfl,df⟩
  have aw:=JAt.after S4.out.1 df
  have ig:=aw.cell (j:=4) rfl
  have jb:=aw.free (j:=4) (by simp)
  have ja:=aw.free (j:=3) (by simp)
  have iz:=aw.cell (j:=3) rfl
  have fq:=S4.out.2.size
  have fj:JAt ((w5.setCell ⟨j,4,none⟩ (.int .i64 epoch)).setCell ⟨j,3,none⟩ (.bool true)) j d ⟨half,true,epoch,0,1,false⟩:=(Row.set aw 4 (.int .i64 epoch)).set 3 (.bool true)
  have fu:Below w.heap.size w ((w5.setCell ⟨j,4,none⟩ (.int .i64 epoch)).setCell ⟨j,3,none⟩ (.bool true)):=((S4.out.2.trans (df.mono fq)).setCell S1.out.2.2 _).setCell S1.out.2.2 _
  have S6:=Zka (Zkb fj fu)
  have j7:=fj.cell (j:=4) rfl
  have iu:(x:Int)<(epoch:Int):=by omega
  have iw:((epoch:Int)==0)=false:=by simp;omega
  clear aw df fj fu c4 r4
  have hT:=ew.out
  go_wp2
  go_loopw [14] (fun lv wr=>∃k:Nat,k<=rs.length/\wr.ownsRow w.heap.size 9 1 lv k (Z6 ((rs.take k).map str))/\JAt wr j d ⟨half,true,epoch,k,1+Zg (rs.take k),false⟩/\Below w.heap.size w wr) (fun lv _=>rs.length-Z9i lv)
  case atStart=>exact⟨0,by omega,World.ownsRow_nil _ _ _ _,S6.out.1,S6.out.2⟩
  case round=>
   have ir:=Jt rs
   obtain⟨k,hk,az,bm,hb⟩:=hrel
   obtain⟨nk,al⟩:∃nk,1+Zg (rs.take k)=nk:=⟨_,rfl⟩
   rw[al] at bm
   have c2:=bm.cell (j:=2) rfl
   have c6:=bm.cell (j:=6) rfl
   have hle:=J9 rs k
   have eh:=Z2J az
   have eu:=hb.size
   have HO:=Zka (Zkb az (Zkb bm hb))
   have HK:=Zka (Zkb al eh)
   have fo:nk<=half:=by omega
   clear az bm hb eh
   by_cases bu:k<rs.length
   ·obtain⟨R,hR⟩:∃R,rs.getD k []=R:=⟨_,rfl⟩
    have b9:=Z4K rs k bu
    have dj:=J9 rs (k+1)
    rw[hR] at b9
    have fp:=WZ R.length
    have fa:R.length<=60000:=by
     rw[<-hR,ZjE,ZjF bu];exact HS.out _ (ZjW bu)
    obtain⟨E,hE⟩:∃E,Z8 R.length=64*E:=⟨Z8 R.length / 64,by have:=XB R.length;omega⟩
    have du:Z8 R.length / 64=E:=by omega
    rw[du] at b9 fp
    have ij:E<=1000:=by have:Z8 R.length<=60100:=(by unfold Z8;omega);omega
    obtain⟨n1,im⟩:∃n1,nk+E=n1:=⟨_,rfl⟩
    have bz:1+Zg (rs.take (k+1))=n1:=by omega
    have cn:(nk:Int)<(half:Int):=by omega
    have ak:decide ((nk:Int)<(half:Int))=true:=by simpa using cn
    have dc:=Zbs hT k bu
    rw[al,hR] at dc
    have dp:=Z4o rs k bu
    rw[hR] at dp
    have HN:=Zka (Zkb bz (Zkb dc (Zkb dp hE)))
    have aj:=HO.out.1
    clear hle dj b9 bz dc dp hE du hR al
    go_wp2_with fail
    go_quiet (fail)
    obtain⟨wq,ai⟩:∃wq,wq=wr.drewN nq:=⟨_,rfl⟩
    rw[<-ai]
    have af:Below wr.heap.size wr wq:=by rw[ai];exact Zp Zk9 nq
    have SQ:=Zka (Zkb (Y3 HO.out.1 af) (Zkb (JAt.after HO.out.2.1 af) (HO.out.2.2.trans (af.mono eu))))
    have iy:=af.size
    clear ai af c2 c6
    go_wp2_with fail
    have d4:=SQ.out.2.1.cell (j:=4) rfl
    have d5:=SQ.out.2.1.cell (j:=5) rfl
    have d6:=SQ.out.2.1.cell (j:=6) rfl
    obtain⟨o,ho⟩:∃o,64*nk=o:=⟨_,rfl⟩
    have dq:IntKind.i64.wrap ((nk:Int)*64)=(o:Int):=by rw[Zk2 _ (by omega)];omega
    obtain⟨k1,bq⟩:∃k1,k+1=k1:=⟨_,rfl⟩
    have dr:IntKind.i64.wrap (k1:Int)=(k1:Int):=Zk2 _ (by omega)
    have q3:(0:Int)<=(o:Int):=by omega
    have q4:(o:Int)<=(Tb.size:Int):=by omega
    have q5:o<=Tb.size:=by omega
    have q6:¬Tb.size=o:=by omega
    have q7:(o:Int).toNat=o:=by omega
    have ef:(k:Int)+1=(k1:Int):=by omega
    have dh:k1<=4000000000:=by omega
    have fi:epoch<=4000000000:=by omega
    obtain⟨X,hX⟩:∃X,Tb.extract o Tb.size=X:=⟨_,rfl⟩
    have bf:X.data.toList=Zb epoch k1 R++(Yz epoch k1 (rs.drop k1)++rest):=by
     rw[<-hX,Lib.extract_to_end,<-ho,HN.out.2.1,bq]
    have ff:X.size<=140737488355328:=by rw[<-hX,ByteArray.size_extract];omega
    have HX:=Zka (Zkb bf (Zkb bq ho))
    have dm:∀W,(Instr.slice 9 (.string Tb) (some (.int .i64 (o:Int))) none none).run prog W=.ok (.string X) W:=fun W=>by rw[<-hX];exact Y4 9 underlying9 Tb o (by omega) W
    clear bf bq ho hX
    go_region_held3 (fun w'=>w'.cell? ⟨j,4,none⟩=some (.int .i64 epoch)/\w'.cell? ⟨j,5,none⟩=some (.int .i64 k)/\w'.cell? ⟨j,6,none⟩=some (.int .i64 nk)) (first|assumption|exact⟨d4,d5,d6⟩|exact⟨S7.out.1.cell (j:=4) rfl,S7.out.1.cell (j:=5) rfl,S7.out.1.cell (j:=6) rfl⟩)
     (((go_at_call 154;refine(Z50 X epoch k1 R _ _ HX.out.1 fi dh fa ff).mono ?_;rintro e w7 ⟨rfl,ae⟩;have bj:JAt w7 j d ⟨half,true,epoch,k,nk,false⟩:=JAt.after (w:=wq.drew) SQ.out.2.1 ae;have S7:=Zka (Zkb bj ae);clear bj ae)))
    rw[HN.out.2.2.2]
    have ae:Below w.heap.size w w7:=SQ.out.2.2.trans ((Below.drew Zk9).trans (S7.out.2.mono (show w.heap.size<=wq.heap.size by omega)))
    have au:w7.ownsRow w.heap.size 9 1 _ k (Z6 ((rs.take k).map str)):=Y3 (Y3 SQ.out.1 (Zk9.drew)) S7.out.2
    have ft:=ae.size
    have ik:((64*E:Nat):Int) / 64=(E:Int):=by omega
    have iq:(nk:Int)+(E:Int)=(n1:Int):=by omega
    have S8:=Zka (Zkb ae au)
    have dw:(⟨R.toArray⟩:ByteArray)=str R:=rfl
    rw[dw]
    clear ae au d4 d5 d6 dq dr q3 q4 q5 q6 q7 dm dw
    go_wp2_with (at_builtin;refine wpList_append_own _ rfl (.tmp 105) (.tmp 107) 96 rfl w.heap.size 9 j0 _ 1 16 underlying96 fx ib ic ie rfl (by omega) _ k (Z6 ((rs.take k).map str)) rfl (S8.out.2.alloc _) ⟨w7.heap.size,0,none⟩ 1 1 [.string (str R)] rfl rfl (World.news_of_block (cs:= #[.string (str R)]) (t:=9) (fr:=(0,0)) (heap_alloc_new w7 _)) (by simp[Value.oneCell']) (by unfold maxLen;omega) (by omega) (Zk1 ft (by simp)) ?_;intro v' w8 aq ay cj;clear cj;have bg:JAt w8 j d ⟨half,true,epoch,k,nk,false⟩:=Jk (S7.out.1.alloc _) ay (Ws S7.out.1 S8.out.2 (by decide));have dy:Below w.heap.size w w8:=Fr.nil_below (((Fr.of_below (L:=[]) S8.out.1).alloc _).grown ay (fun g hg=>Or.inr (Xa S8.out.2 hg)));have S9:=Zka (Zkb aq (Zkb bg dy));have e5:=bg.cell (j:=5) rfl;have e6:=bg.cell (j:=6) rfl;have f5:=bg.free (j:=5) (by simp);have f6:=bg.free (j:=6) (by simp);clear aq ay bg dy)
    go_roundw
    case measure=>
     have:=Z2J S9.out.1
     have h3:=HK.out.2
     rw[this];omega
    case rel=>
     have cu:Fr [j] w8 ((w8.setCell ⟨j,5,none⟩ (.int .i64 k1)).setCell ⟨j,6,none⟩ (.int .i64 n1)):=((Fr.refl _ _).setCell (Or.inl (by simp)) _).setCell (Or.inl (by simp)) _
     have fm:=Ws S9.out.2.1 S9.out.1 (by decide)
     refine⟨k+1,by omega,?_,?_,?_⟩
     ·have h9:=ZZ S9.out.1 cu (fun g hg hm=>by rw[ZjD] at hm;subst hm;exact fm hg)
      rw[<-HN.out.2.2.1] at h9
      first|exact h9|(rw[List.map_take] at h9;exact h9)
     ·have h9:=(Row.set S9.out.2.1 5 (.int .i64 k1)).set 6 (.int .i64 n1)
      unfold JAt
      rw[HN.out.1,HX.out.2.1]
      exact h9
     ·exact(S9.out.2.2.setCell S1.out.2.2 _).setCell S1.out.2.2 _
   ·obtain rfl:k=rs.length:=by omega
    have b9:rs.take rs.length=rs:=Zk5
    rw[b9] at al
    have bh:∀W,Below wr.heap.size wr W->Z6Z w d ⟨half,true,epoch,rs.length,1+Zg rs,false⟩ rs (.pointer (some ⟨j,0,none⟩)) _ W:=fun W hW=>
     ⟨⟨j,rfl,S1.out.2.2,by have:=JAt.after HO.out.2.1 hW;rw[<-al] at this;exact this⟩,by have:=Y3 HO.out.1 hW;rw[b9] at this;exact this,HO.out.2.2.trans (hW.mono eu)⟩
    have ax:=Z92 hT
    rw[al] at ax
    have HF:=Zka bh
    have HE:=Zka ax
    clear bh ax b9 al hle
    by_cases cn:nk<half
    ·have ah:(nk:Int)<(half:Int):=by omega
     have ak:decide ((nk:Int)<(half:Int))=true:=by simpa using ah
     go_wp2_with fail
     go_quiet (fail)
     obtain⟨wq,ai⟩:∃wq,wq=wr.drewN nq:=⟨_,rfl⟩
     rw[<-ai]
     have af:Below wr.heap.size wr wq:=by rw[ai];exact Zp Zk9 nq
     have SQ:=Zka (Zkb (JAt.after HO.out.2.1 af) af)
     clear ai af c2 c6
     go_wp2_with fail
     have d4:=SQ.out.1.cell (j:=4) rfl
     have d5:=SQ.out.1.cell (j:=5) rfl
     have d6:=SQ.out.1.cell (j:=6) rfl
     obtain⟨o,ho⟩:∃o,64*nk=o:=⟨_,rfl⟩
     have dq:IntKind.i64.wrap ((nk:Int)*64)=(o:Int):=by rw[Zk2 _ (by omega)];omega
     obtain⟨k1,bq⟩:∃k1,rs.length+1=k1:=⟨_,rfl⟩
     have dr:IntKind.i64.wrap (k1:Int)=(k1:Int):=Zk2 _ (by omega)
     have q3:(0:Int)<=(o:Int):=by omega
     have ef:(rs.length:Int)+1=(k1:Int):=by omega
     obtain⟨X,hX⟩:∃X,Tb.extract o Tb.size=X:=⟨_,rfl⟩
     have bf:X.data.toList=rest:=by rw[<-hX,Lib.extract_to_end,<-ho,HE.out]
     have dx:X.size=0∨X.data.toList.getD 0 0≠1:=by
      rw[bf]
      rcases dt.out.1 with h0|h0
      ·left;rw[<-Qo,bf,h0];rfl
      ·exact Or.inr h0
     have dm:∀W,(Instr.slice 9 (.string Tb) (some (.int .i64 (o:Int))) none none).run prog W=.ok (.string X) W:=fun W=>by rw[<-hX];exact Y4 9 underlying9 Tb o (by omega) W
     have HX:=Zka dx
     clear bf bq ho hX dx
     go_region_held3 (fun w'=>w'.cell? ⟨j,4,none⟩=some (.int .i64 epoch)/\w'.cell? ⟨j,5,none⟩=some (.int .i64 rs.length)/\w'.cell? ⟨j,6,none⟩=some (.int .i64 nk)) (first|assumption|exact⟨d4,d5,d6⟩|exact⟨S7.out.1.cell (j:=4) rfl,S7.out.1.cell (j:=5) rfl,S7.out.1.cell (j:=6) rfl⟩)
      (((go_at_call 154;refine(Z3I X epoch k1 _ HX.out).mono ?_;rintro e w7 ⟨v,rfl,hv,er,ae⟩;obtain⟨b,rfl⟩:=(hv.split.resolve_left (fun h=>er h.2)).2;have bj:JAt w7 j d ⟨half,true,epoch,rs.length,nk,false⟩:=JAt.after (w:=wq.drew) SQ.out.1 ae;have S7:=Zka (Zkb bj ae);clear bj ae hv er)))
     have ae:Below wr.heap.size wr w7:=SQ.out.2.trans ((Below.drew Zk9).trans (S7.out.2.mono (show wr.heap.size<=wq.heap.size from SQ.out.2.size)))
     have cz:=Zka ae
     clear ae d4 d5 d6 dq dr q3 dm ef
     go_wp2
     go_ret3
     exact⟨_,_,rfl,HF.out _ cz.out⟩
    ·have ah:¬ (nk:Int)<(half:Int):=by omega
     have ak:decide ((nk:Int)<(half:Int))=false:=by simpa using ah
     go_wp2_with fail
     go_quiet (fail)
     obtain⟨wq,ai⟩:∃wq,wq=wr.drewN nq:=⟨_,rfl⟩
     rw[<-ai]
     have af:Below wr.heap.size wr wq:=by rw[ai];exact Zp Zk9 nq
     have cz:=Zka af
     clear ai af c2 c6
     go_wp2
     go_ret3
     exact⟨_,_,rfl,HF.out _ cz.out⟩
end
section
variable{f:Z1}{half n:Nat}{rs:List (Nat×Nat)}
inductive Rec where
 |all (d:Dir)
 |some (l:List (Bs×Option Ent))
def Rec.enc:Rec->Bs
 |.all d=>Y5 d
 |.some l=>Ja l
def Z24(d:Dir)(x:Bs×Option Ent):Dir:=match x.2 with
 |some e=>(d.del x.1).put x.1 e
 |none=>d.del x.1
def Rec.app(d:Dir):Rec->Dir
 |.all d'=>d'.foldl (fun d x=>(d.del x.1).put x.1 x.2) []
 |.some l=>l.foldl Z24 d
theorem Za7(d:Dir)(x:Bs×Option Ent)(n:Bs):(Z24 d x).get n=if n=x.1 then x.2 else d.get n:=by
 unfold Z24
 match x with
 |(m,none)=>simp only;rw[Dir.get_del]
 |(m,some e)=>simp only;rw[Dir.get_put,Dir.get_del];split<;>rfl
theorem Zbe{d:Dir}(h:d.Sorted)(x:Bs×Option Ent):(Z24 d x).Sorted:=by
 unfold Z24
 match x with
 |(m,none)=>exact Dir.sorted_del h m
 |(m,some e)=>exact Dir.sorted_put (Dir.sorted_del h m) m e
theorem Zbf{d:Dir}(h:d.Sorted)(l:List (Bs×Option Ent)):(l.foldl Z24 d).Sorted:=by
 induction l generalizing d with
 |nil=>exact h
 |cons x l ih=>exact ih (Zbe h x)
theorem Z6S{d:Dir}{l:List (Bs×Option Ent)}{n:Bs}(h:∀x∈l,x.1≠n):(l.foldl Z24 d).get n=d.get n:=by
 induction l generalizing d with
 |nil=>rfl
 |cons x l ih=>
  rw[Zk6,ih (fun y hy=>h y (by simp[hy])),Za7,if_neg (fun e=>h x (by simp) e.symm)]
theorem ZgQ{d:Dir}{l:List (Bs×Option Ent)}(hn:(l.map (·.1)).Nodup){x:Bs×Option Ent}(hx:x∈l):(l.foldl Z24 d).get x.1=x.2:=by
 induction l generalizing d with
 |nil=>cases hx
 |cons y l ih=>
  simp only[ZjY,List.nodup_cons,List.mem_map,not_exists,not_and] at hn
  rw[Zk6]
  rcases ZjV.1 hx with rfl|hm
  ·rw[Z6S (fun z hz e=>hn.1 z hz e),Za7,if_pos rfl]
  ·exact ih hn.2 hm
theorem Dir.names_nodup{d:Dir}(h:d.Sorted):d.names.Nodup:=by
 unfold Dir.names
 refine List.pairwise_map.2 (h.imp ?_)
 intro a b ae e
 rw[e] at ae
 exact QI _ ae
theorem Dir.both_sorted{a:Dir}(h:a.Sorted)(b:Dir):(a.both b).Sorted:=by
 unfold Dir.both
 induction b generalizing a with
 |nil=>exact h
 |cons x b ih=>exact ih (Dir.sorted_put h _ _)
theorem Dir.both_get{a b:Dir}(n:Bs)(hb:b.Sorted):(a.both b).get n=match b.get n with|some e=>some e|none=>a.get n:=by
 unfold Dir.both
 induction b generalizing a with
 |nil=>rfl
 |cons x b ih=>
  obtain⟨h1,h2⟩:=List.pairwise_cons.1 hb
  rw[Zk6,ih h2,Dir.get,Dir.get_put]
  by_cases e:x.1=n
  ·rw[if_pos e,if_pos e.symm,Dir.get_none.2]
   intro y hy e2
   have:=h1 y hy
   rw[e,<-e2] at this;exact QI _ this
  ·rw[if_neg e,if_neg (fun k=>e k.symm)]
theorem QC{d:Dir}{n:Bs}:n∈d.names↔d.get n≠none:=by
 constructor
 ·intro h hn
  obtain⟨x,hx,rfl⟩:=List.mem_map.1 h
  exact Dir.get_none.1 hn x hx rfl
 ·intro h
  cases hg:d.get n with
  |none=>exact absurd hg h
  |some e=>exact List.mem_map.2 ⟨(n,e),Dir.get_some_mem hg,rfl⟩
theorem Z0F{was now:Dir}{n:Bs}{x:Bs×Option Ent}(h:chg was now f n=some x):x.1=n/\x.2=now.get n:=by
 unfold chg at h
 cases hn:now.get n with
 |none=>rw[hn] at h;simp only[ZjJ] at h;subst h;exact⟨rfl,rfl⟩
 |some e=>
  rw[hn] at h
  simp only at h
  cases hw:was.get n with
  |none=>rw[hw] at h;simp only[ZjJ] at h;subst h;exact⟨rfl,rfl⟩
  |some o=>
   rw[hw] at h
   simp only at h
   split at h
   ·cases h
   ·simp only[ZjJ] at h;subst h;exact⟨rfl,rfl⟩
theorem Z2b(l:List Bs)(g:Bs->Option (Bs×Option Ent))(hg:∀n x,g n=some x->x.1=n):((l.filterMap g).map (·.1)).Sublist l:=by
 induction l with
 |nil=>exact List.Sublist.slnil
 |cons n l ih=>
  rw[List.filterMap_cons]
  cases h:g n with
  |none=>exact ih.cons n
  |some x=>simp only[ZjY];rw[hg n x h];exact ih.cons_cons n
theorem Zcb{was now:Dir}(hw:was.Sorted):((QF was now f).map (·.1)).Nodup:=
 (Z2b _ _ (fun n x h=>(Z0F h).1)).nodup (Dir.names_nodup (Dir.both_sorted hw now))
theorem Z2l{a b:Nat}{r s:Bs}(ha:a<4294967296)(hb:b<4294967296)(h:Z4 a++r=Z4 b++s):a=b/\r=s:=by
 have h1:Z4 a=Z4 b/\r=s:=List.append_inj h (by rfl)
 exact⟨Za6 ha hb h1.1,h1.2⟩
theorem ZeD{a b:List (Nat×Nat)}(ha:∀r∈a,r.1<4294967296/\r.2<4294967296)(hb:∀r∈b,r.1<4294967296/\r.2<4294967296)(h:Qi a=Qi b):a=b:=by
 induction a generalizing b with
 |nil=>
  cases b with
  |nil=>rfl
  |cons y b=>have:=congrArg List.length h;simp[Qi,Zq] at this;omega
 |cons x a ih=>
  cases b with
  |nil=>have:=congrArg List.length h;simp[Qi,Zq] at this
  |cons y b=>
   have e:∀ (z:Nat×Nat) (l:List (Nat×Nat)),Qi (z::l)=Z4 z.1++(Z4 z.2++Qi l):=fun z l=>by simp[Qi]
   rw[e,e] at h
   obtain⟨e1,h⟩:=Z2l (ha x (by simp)).1 (hb y (by simp)).1 h
   obtain⟨e2,h⟩:=Z2l (ha x (by simp)).2 (hb y (by simp)).2 h
   rw[Prod.ext e1 e2,ih (fun r hr=>ha r (by simp[hr])) (fun r hr=>hb r (by simp[hr])) h]
theorem Ent.Ok.small{e:Ent}(h:Ent.Ok n half e)(hn:n<=8192):∀r∈e.runs,r.1<4294967296/\r.2<4294967296:=fun r hr=>by
 have:=h.many r hr;omega
theorem ZgK{a b:Ent}(hn:n<=8192)(ha:Ent.Ok n half a)(hb:Ent.Ok n half b)(h:a.tail=b.tail):a=b:=by
 unfold Ent.tail at h
 rw[ZjL,ZjL] at h
 have a1:=ha.size
 have b1:=hb.size
 obtain⟨e1,h⟩:=Z2l (by omega) (by omega) h
 obtain⟨e2,h⟩:=Z2l ha.sum hb.sum h
 have e3:=ZeD (ha.small hn) (hb.small hn) h
 cases a;cases b;simp_all
theorem Dir.Ok.get{d:Dir}(h:d.Ok n half){m:Bs}{e:Ent}(hm:d.get m=some e):Ent.Ok n half e:=h.ent _ (Dir.get_some_mem hm)
theorem Z5Q{was now:Dir}(hn:n<=8192)(hw:was.Ok n half)(hk:now.Ok n half):Rec.app was (.some (QF was now f))=now:=by
 refine Dir.ext (Zbf hw.sorted _) hk.sorted fun m=> ?_
 show((QF was now f).foldl Z24 was).get m=now.get m
 cases hc:(QF was now f).find? (fun x=>x.1==m) with
 |some x=>
  have hx:=List.mem_of_find?_eq_some hc
  have hm:x.1=m:=by simpa using List.find?_some hc
  obtain⟨k,_,ai⟩:=List.mem_filterMap.1 hx
  have:=Z0F ai
  rw[<-hm,ZgQ (Zcb hw.sorted) hx,this.2,this.1]
 |none=>
  have ag:∀x∈QF was now f,x.1≠m:=fun x hx=>by simpa using List.find?_eq_none.1 hc x hx
  rw[Z6S ag]
  have key:chg was now f m=none∨m∉(was.both now).names:=by
   by_cases hm:m∈(was.both now).names
   ·left
    cases h:chg was now f m with
    |none=>rfl
    |some x=>exact absurd (Z0F h).1 (ag x (List.mem_filterMap.2 ⟨m,hm,h⟩))
   ·exact Or.inr hm
  rcases key with h|h
  ·unfold chg at h
   cases ae:now.get m with
   |none=>rw[ae] at h;cases h
   |some e=>
    rw[ae] at h
    simp only at h
    cases af:was.get m with
    |none=>rw[af] at h;cases h
    |some o=>
     rw[af] at h
     simp only at h
     split at h
     ·rename_i ah
      rw[ZgK hn (hk.get ae) (hw.get af) ah.2]
     ·cases h
  ·have:(was.both now).get m=none:=by
    cases hg:(was.both now).get m with
    |none=>rfl
    |some e=>exact absurd (QC.2 (by rw[hg];simp)) h
   rw[Dir.both_get m hk.sorted] at this
   cases ae:now.get m with
   |none=>rw[ae] at this;exact this
   |some e=>rw[ae] at this;cases this
theorem Z72{d was:Dir}(h:d.Sorted):Rec.app was (.all d)=d:=by
 have key:∀ (l:Dir) (a:Dir),a.Sorted->l.Sorted->(l.foldl (fun d x=>(d.del x.1).put x.1 x.2) a).Sorted/\∀m,(l.foldl (fun d x=>(d.del x.1).put x.1 x.2) a).get m=match l.get m with|some e=>some e|none=>a.get m:=by
  intro l
  induction l with
  |nil=>intro a ha _;exact⟨ha,fun m=>rfl⟩
  |cons x l ih=>
   intro a ha hl
   obtain⟨h1,h2⟩:=List.pairwise_cons.1 hl
   obtain⟨s,g⟩:=ih _ (Dir.sorted_put (Dir.sorted_del ha x.1) x.1 x.2) h2
   refine⟨s,fun m=> ?_⟩
   rw[Zk6,g,Dir.get,Dir.get_put,Dir.get_del]
   by_cases e:x.1=m
   ·rw[if_pos e,if_pos e.symm,Dir.get_none.2]
    intro y hy e2
    have:=h1 y hy
    rw[e,<-e2] at this;exact QI _ this
   ·rw[if_neg e,if_neg (fun k=>e k.symm),if_neg (fun k=>e k.symm)]
 obtain⟨s,g⟩:=key d [] List.Pairwise.nil h
 exact Dir.ext s h fun m=>by
  refine(g m).trans ?_
  cases d.get m<;>rfl
def Z9(rs:List (Nat×Nat)):List Nat:=rs.flatMap fun r=>List.range' r.1 r.2
theorem Zaf(rs:List (Nat×Nat))(a:Nat):Z9 (YZ rs a)=Z9 rs++[a]:=by
 unfold YZ
 cases h:rs.getLast? with
 |none=>
  have:rs=[]:=List.getLast?_eq_none_iff.1 h
  subst this;simp[Z9]
 |some r=>
  obtain⟨f,m⟩:=r
  obtain⟨ae,hr⟩:=List.getLast?_eq_some_iff.1 h
  simp only
  split
  ·rename_i e
   subst hr
   rw[List.dropLast_concat]
   simp only[Z9,List.flatMap_append,ZjX,List.flatMap_nil,Zk7,ZjL]
   rw[List.range'_1_concat,e]
  ·simp[Z9,List.flatMap_append]
theorem Z1K(l:List Nat):Z9 (ZY l)=l:=by
 have:∀ (l:List Nat) rs,Z9 (l.foldl YZ rs)=Z9 rs++l:=by
  intro l
  induction l with
  |nil=>intro rs;simp
  |cons a l ih=>intro rs;rw[Zk6,ih,Zaf];simp
 simpa[ZY,Z9] using this l []
theorem ZbQ(h:∀r∈rs,1<=r.2)(a:Nat):∀r∈YZ rs a,1<=r.2:=by
 intro r hr
 unfold YZ at hr
 split at hr
 ·split at hr
  ·rcases ZjU.1 hr with hr|hr
   ·exact h r (List.dropLast_subset _ hr)
   ·simp only[ZjD] at hr;subst hr;simp
  ·rcases ZjU.1 hr with hr|hr
   ·exact h r hr
   ·simp only[ZjD] at hr;subst hr;simp
 ·simp only[ZjD] at hr;subst hr;simp
theorem Z5t(l:List Nat):∀r∈ZY l,1<=r.2:=by
 have:∀ (l:List Nat) rs,(∀r∈rs,1<=r.2)->∀r∈l.foldl YZ rs,1<=r.2:=by
  intro l
  induction l with
  |nil=>intro rs h;exact h
  |cons a l ih=>intro rs h;exact ih _ (ZbQ h a)
 exact this l [] (by simp)
theorem ZbP(rs:List (Nat×Nat))(a:Nat):(YZ rs a).length<=rs.length+1:=by
 unfold YZ
 split
 ·split
  ·simp
  ·simp
 ·simp
theorem Zav(l:List Nat):(ZY l).length<=l.length:=by
 have:∀ (l:List Nat) rs,(l.foldl YZ rs).length<=rs.length+l.length:=by
  intro l
  induction l with
  |nil=>intro rs;simp
  |cons a l ih=>intro rs;rw[Zk6,ZjM];have:=ih (YZ rs a);have:=ZbP rs a;omega
 simpa[ZY] using this l []
theorem Z4A{r:Nat×Nat}(h:r∈rs)(i:Nat)(hi:i<r.2):r.1+i∈Z9 rs:=
 List.mem_flatMap.2 ⟨r,h,by rw[List.mem_range'_1];omega⟩
end
section
variable{R:Nat->ByteArray}{d d' d0:Dir}{e:Ent}{half i k n:Nat}
theorem Zgz(n:Bs)(e:Ent)(d:Dir):(Dir.ins n e d).secs.Perm (e.secs++d.secs):=by
 induction d with
 |nil=>simp[Dir.ins,Dir.secs]
 |cons x r ih=>
  unfold Dir.ins
  split
  ·exact List.Perm.refl _
  ·show(x.2.secs++(Dir.ins n e r).secs).Perm (e.secs++(x.2.secs++Dir.secs r))
   refine(List.Perm.append_left _ ih).trans ?_
   rw[<-ZjL,<-ZjL]
   exact List.perm_append_comm.append_right _
theorem Z6g(d:Dir)(n:Bs)(e:Ent):(d.put n e).secs.Perm (e.secs++(d.del n).secs):=Zgz n e _
theorem Zd7(hs:d.Sorted){n:Bs}{e:Ent}(h:d.get n=some e):d.secs.Perm (e.secs++(d.del n).secs):=by
 induction d with
 |nil=>cases h
 |cons x r ih=>
  obtain⟨h1,h2⟩:=List.pairwise_cons.1 hs
  rw[Dir.get] at h
  split at h
  ·rename_i hx
   cases h
   have:Dir.del (x::r) n=r:=by
    unfold Dir.del
    rw[List.filter_cons,if_neg (by simp[hx])]
    refine List.filter_eq_self.2 (fun y hy=> ?_)
    have:=h1 y hy
    simp only[bne_iff_ne,ne_eq]
    rintro e
    rw[e,hx] at this
    exact QI _ this
   rw[this];exact List.Perm.refl _
  ·rename_i hx
   have:Dir.del (x::r) n=x::Dir.del r n:=by unfold Dir.del;rw[List.filter_cons,if_pos (by simp[hx])]
   rw[this]
   show(x.2.secs++Dir.secs r).Perm (e.secs++(x.2.secs++(Dir.del r n).secs))
   refine(List.Perm.append_left _ (ih h2 h)).trans ?_
   rw[<-ZjL,<-ZjL]
   exact List.perm_append_comm.append_right _
theorem Yw{n:Bs}(h:i∈(d.del n).secs):i∈d.secs:=by
 unfold Dir.secs at h⊢
 obtain⟨x,hx,hi⟩:=List.mem_flatMap.1 h
 exact List.mem_flatMap.2 ⟨x,(Dir.mem_del.1 hx).1,hi⟩
theorem Xt(h:d.secs.Nodup)(n:Bs):(d.del n).secs.Nodup:=by
 have:(d.del n).secs.Sublist d.secs:=by
  unfold Dir.secs Dir.del
  induction d with
  |nil=>exact List.Sublist.refl _
  |cons x r ih=>
   have h2:Dir.secs r|>.Nodup:=by
    unfold Dir.secs at h⊢
    rw[ZjX,List.nodup_append] at h;exact h.2.1
   rw[List.filter_cons]
   split
   ·rw[ZjX,ZjX];exact(List.Sublist.refl _).append (ih h2)
   ·rw[ZjX];exact(ih h2).trans (List.sublist_append_right _ _)
 exact h.sublist this
theorem Zfx(h:∀x∈d,1<=x.1.length/\x.1.length<=220){m:Bs}{e:Ent}(hm:d.get m=some e):1<=m.length/\m.length<=220:=h _ (Dir.get_some_mem hm)
def Z1.by:Z1->Bs->Option Nat
 |[],_=>none
 |x::r,m=>if x.1=m then some x.2 else Z1.by r m
theorem Z1.by_del(f:Z1)(n m:Bs):(f.del n).by m=if m=n then none else f.by m:=by
 induction f with
 |nil=>simp[Z1.del,Z1.by]
 |cons x r ih=>
  unfold Z1.del at ih⊢
  rw[List.filter_cons]
  by_cases hx:x.1=n
  ·rw[if_neg (by simp[hx]),ih,Z1.by]
   by_cases hm:m=n
   ·simp[hm]
   ·rw[if_neg hm,if_neg hm,if_neg (by rw[hx];exact fun e=>hm e.symm)]
  ·rw[if_pos (by simp[hx]),Z1.by,ih,Z1.by]
   by_cases hm:x.1=m
   ·rw[if_pos hm,if_pos hm,if_neg (by rw[<-hm];exact hx)]
   ·rw[if_neg hm,if_neg hm]
theorem Z1.by_append(f g:Z1)(m:Bs):Z1.by (f++g) m=match f.by m with|some k=>some k|none=>g.by m:=by
 induction f with
 |nil=>rfl
 |cons x r ih=>
  rw[List.cons_append,Z1.by,Z1.by,ih]
  split<;>rfl
theorem Z1.has_by(f:Z1)(m:Bs):f.has m=(f.by m).isSome:=by
 unfold Z1.has
 induction f with
 |nil=>rfl
 |cons x r ih=>
  rw[List.any_cons,Z1.by,ih]
  by_cases h:x.1=m
  ·rw[if_pos h];simp[h]
  ·rw[if_neg h];simp[h]
theorem Z1.by_mem{f:Z1}(hn:(f.map (·.1)).Nodup){x:Bs×Nat}(hx:x∈f):f.by x.1=some x.2:=by
 induction f with
 |nil=>cases hx
 |cons y r ih=>
  rw[ZjY,List.nodup_cons] at hn
  rw[Z1.by]
  rcases ZjV.1 hx with rfl|hx
  ·rw[if_pos rfl]
  ·rw[if_neg (fun e=>hn.1 (by rw[e];exact List.mem_map_of_mem hx))]
   exact ih hn.2 hx
theorem Z1.mem_by{f:Z1}{m:Bs}(h:f.by m=some k):(m,k)∈f:=by
 induction f with
 |nil=>cases h
 |cons y r ih=>
  rw[Z1.by] at h
  split at h
  ·rename_i e;cases h;subst e;simp
  ·exact ZjS _ (ih h)
theorem Z1.mem_del{f:Z1}{n:Bs}{x:Bs×Nat}:x∈f.del n↔x∈f/\x.1≠n:=by simp[Z1.del]
theorem Z1.del_nodup{f:Z1}(h:(f.map (·.1)).Nodup)(n:Bs):((f.del n).map (·.1)).Nodup:=h.sublist ((List.filter_sublist).map _)
def Z0A(R:Nat->ByteArray)(e:Ent):Bs:=(e.secs.flatMap fun a=>(R a).data.toList).take e.size
theorem Z3J{R':Nat->ByteArray}(h:∀b∈e.secs,R' b=R b):Z0A R' e=Z0A R e:=by
 unfold Z0A
 have:(e.secs.flatMap fun a=>(R' a).data.toList)=e.secs.flatMap fun a=>(R a).data.toList:=by
  revert h
  induction e.secs with
  |nil=>intro _;rfl
  |cons a l ih=>intro h;rw[ZjX,ZjX,ih (fun b hb=>h b (by simp[hb])),h a (by simp)]
 rw[this]
abbrev Tab:=Bs->Option (Option Bs)
def Z4g(R:Nat->ByteArray)(e:Ent):Option Bs:=if Wq (Z0A R e)=e.sum then some (Z0A R e) else none
def stR(R:Nat->ByteArray)(d:Dir):Tab:=fun m=>(d.get m).map (Z4g R)
def Ac.on(T:Tab)(a:Ac):Tab:=match a.kind with
 |1=>fun m=>if m=a.name then some (some a.value) else T m
 |2=>fun m=>if m=a.name then none else T m
 |3=>fun m=>if m=a.to then T a.name else if m=a.name then none else T m
 |_=>T
def acV(acts:List Ac)(k:Nat):Bs:=(acts.getD k ⟨0,[],[],[]⟩).value
def Z3F(R:Nat->ByteArray)(acts:List Ac)(d:Dir)(f:Z1):Tab:=fun m=>match f.by m with
 |some k=>some (some (acV acts k))
 |none=>(d.get m).map (Z4g R)
structure Z45(n half:Nat)(d0:Dir)(acts:List Ac)(d:Dir)(f:Z1):Prop where
 sorted:d.Sorted
 name:∀x∈d,1<=x.1.length/\x.1.length<=220
 apart:d.secs.Nodup
 sub:∀i∈d.secs,i∈d0.secs
 fr:(f.map (·.1)).Nodup
 fresh:∀x∈f,∃e,d.get x.1=some e/\e.runs=[]/\e.size=(acV acts x.2).length/\e.sum=Wq (acV acts x.2)/\e.size<=12000/\x.2<acts.length
 old:∀m e,d.get m=some e->f.by m=none->Ent.Ok n half e
theorem Z56(v:Bs):Wq v<4294967296:=by
 unfold Wq;exact BitVec.isLt _
theorem Ac.put_ok{a:Ac}(h:a.wrong=false)(hk:a.kind=1):1<=a.name.length/\a.name.length<=220/\a.value.length<=12000:=by
 unfold Ac.wrong at h
 rw[if_neg (by omega),if_neg (by omega),if_pos hk] at h
 simp at h
 omega
theorem Ac.move_ok{a:Ac}(h:a.wrong=false)(hk:a.kind=3):1<=a.to.length/\a.to.length<=220:=by
 unfold Ac.wrong at h
 rw[if_pos hk] at h
 simp at h
 omega
theorem Z45.act{acts:List Ac}{f f':Z1}{a:Ac}(h:Z45 n half d0 acts d f)(hk:k<acts.length)(hv:acV acts k=a.value)(ha:a.wrong=false)(hd:YU k a d f=some (d',f')):Z45 n half d0 acts d' f':=by
 unfold YU at hd
 split at hd
 ·rename_i h1
  simp only[ZjJ,Prod.mk.injEq] at hd
  obtain⟨rfl,rfl⟩:=hd
  obtain⟨a1,a2,a3⟩:=Ac.put_ok ha h1
  have ae:∀m,((d.del a.name).put a.name ⟨a.value.length,Wq a.value,[]⟩).get m=if m=a.name then some ⟨a.value.length,Wq a.value,[]⟩ else d.get m:=fun m=>by
   rw[Dir.get_put,Dir.get_del];split<;>rfl
  have hp:=Z6g (d.del a.name) a.name ⟨a.value.length,Wq a.value,[]⟩
  have aw:((d.del a.name).put a.name ⟨a.value.length,Wq a.value,[]⟩).secs.Perm ((d.del a.name).del a.name).secs:=hp
  refine⟨Dir.sorted_put (Dir.sorted_del h.sorted _) _ _,?_,aw.nodup_iff.2 (Xt (Xt h.apart _) _),?_,?_,?_,?_⟩
  ·intro x hx
   rcases Dir.mem_put.1 hx with rfl|⟨hx,_⟩
   ·exact⟨a1,a2⟩
   ·exact h.name x (Dir.mem_del.1 hx).1
  ·intro i hi
   exact h.sub i (Yw (Yw (aw.mem_iff.1 hi)))
  ·rw[ZjZ,List.nodup_append]
   refine⟨Z1.del_nodup h.fr _,by simp,?_⟩
   intro x hx y hy
   simp only[ZjY,List.map_nil,ZjD] at hy
   subst hy
   obtain⟨z,hz,rfl⟩:=List.mem_map.1 hx
   exact(Z1.mem_del.1 hz).2
  ·intro x hx
   rcases ZjU.1 hx with hx|hx
   ·obtain⟨ag,ah⟩:=Z1.mem_del.1 hx
    obtain⟨e,he,r⟩:=h.fresh x ag
    exact⟨e,by rw[ae,if_neg ah];exact he,r⟩
   ·simp only[ZjD] at hx
    subst hx
    exact⟨_,by rw[ae,if_pos rfl],rfl,by simp only[hv],by simp only[hv],a3,hk⟩
  ·intro m e hm hb
   rw[Z1.by_append,Z1.by_del] at hb
   rw[ae] at hm
   by_cases af:m=a.name
   ·rw[if_pos af] at hb;simp[Z1.by,af] at hb
   ·rw[if_neg af] at hm hb
    refine h.old m e hm ?_
    cases ax:f.by m with
    |none=>rfl
    |some q=>rw[ax] at hb;simp at hb
 ·rename_i h2
  split at hd
  ·rename_i e0 ak
   simp only[ZjJ,Prod.mk.injEq] at hd
   obtain⟨rfl,rfl⟩:=hd
   refine⟨Dir.sorted_del h.sorted _,fun x hx=>h.name x (Dir.mem_del.1 hx).1,Xt h.apart _,fun i hi=>h.sub i (Yw hi),Z1.del_nodup h.fr _,?_,?_⟩
   ·intro x hx
    obtain⟨ag,ah⟩:=Z1.mem_del.1 hx
    obtain⟨e,he,r⟩:=h.fresh x ag
    exact⟨e,by rw[Dir.get_del,if_neg ah];exact he,r⟩
   ·intro m e hm hb
    rw[Z1.by_del] at hb
    rw[Dir.get_del] at hm
    by_cases af:m=a.name
    ·rw[if_pos af] at hm;cases hm
    ·rw[if_neg af] at hm hb;exact h.old m e hm hb
  ·cases hd
 ·rename_i h3
  split at hd
  ·rename_i e0 ak
   split at hd
   ·cases hd
   ·rename_i au
    simp only[not_or] at au
    obtain⟨bf,ay⟩:=au
    simp only[ZjJ,Prod.mk.injEq] at hd
    obtain⟨rfl,rfl⟩:=hd
    have ae:∀m,((d.del a.name).put a.to e0).get m=if m=a.to then some e0 else if m=a.name then none else d.get m:=fun m=>by
     rw[Dir.get_put,Dir.get_del]
    have aj:f.by a.name=none:=by
     have:=Z1.has_by f a.name
     cases hb:f.by a.name with
     |none=>rfl
     |some q=>rw[hb] at this;exact absurd this ay
    have hp:=Z6g (d.del a.name) a.to e0
    have hs:=Zd7 h.sorted ak
    have ai:=hs.nodup_iff.1 h.apart
    rw[List.nodup_append] at ai
    refine⟨Dir.sorted_put (Dir.sorted_del h.sorted _) _ _,?_,?_,?_,Z1.del_nodup (Z1.del_nodup h.fr _) _,?_,?_⟩
    ·intro x hx
     rcases Dir.mem_put.1 hx with rfl|⟨hx,_⟩
     ·exact Ac.move_ok ha h3
     ·exact h.name x (Dir.mem_del.1 hx).1
    ·refine hp.nodup_iff.2 (List.nodup_append.2 ⟨ai.1,Xt ai.2.1 _,fun x hx y hy=>ai.2.2 x hx y (Yw hy)⟩)
    ·intro i hi
     rcases ZjU.1 (hp.mem_iff.1 hi) with hi|hi
     ·exact h.sub i (hs.mem_iff.2 (List.mem_append_left _ hi))
     ·exact h.sub i (Yw (Yw hi))
    ·intro x hx
     obtain⟨ag,ah⟩:=Z1.mem_del.1 hx
     obtain⟨az,b9⟩:=Z1.mem_del.1 ag
     obtain⟨e,he,r⟩:=h.fresh x az
     exact⟨e,by rw[ae,if_neg ah,if_neg b9];exact he,r⟩
    ·intro m e hm hb
     rw[ae] at hm
     by_cases al:m=a.to
     ·rw[if_pos al] at hm
      cases hm
      exact h.old a.name e0 ak aj
     ·rw[if_neg al] at hm
      by_cases aq:m=a.name
      ·rw[if_pos aq] at hm;cases hm
      ·rw[if_neg aq] at hm
       rw[Z1.by_del,if_neg al,Z1.by_del,if_neg aq] at hb
       exact h.old m e hm hb
  ·cases hd
 ·cases hd
theorem Zih{acts:List Ac}{f f':Z1}{a:Ac}(hv:acV acts k=a.value)(hd:YU k a d f=some (d',f')):Z3F R acts d' f'=Ac.on (Z3F R acts d f) a:=by
 unfold YU at hd
 funext m
 split at hd
 ·rename_i h1
  simp only[ZjJ,Prod.mk.injEq] at hd
  obtain⟨rfl,rfl⟩:=hd
  unfold Ac.on Z3F
  rw[h1]
  simp only
  rw[Z1.by_append,Z1.by_del,Dir.get_put,Dir.get_del]
  by_cases hm:m=a.name
  ·simp[hm,Z1.by,hv]
  ·simp only[hm,if_false]
   cases hb:f.by m with
   |some q=>rfl
   |none=>simp only[Z1.by];rw[if_neg (fun e=>hm e.symm)]
 ·rename_i h2
  split at hd
  ·rename_i e0 af
   simp only[ZjJ,Prod.mk.injEq] at hd
   obtain⟨rfl,rfl⟩:=hd
   unfold Ac.on Z3F
   rw[h2]
   simp only
   rw[Z1.by_del,Dir.get_del]
   by_cases hm:m=a.name
   ·simp[hm]
   ·simp only[hm,if_false]
  ·cases hd
 ·rename_i h3
  split at hd
  ·rename_i e0 af
   split at hd
   ·cases hd
   ·rename_i ai
    simp only[not_or] at ai
    obtain⟨ak,aj⟩:=ai
    simp only[ZjJ,Prod.mk.injEq] at hd
    obtain⟨rfl,rfl⟩:=hd
    have ae:f.by a.name=none:=by
     have:=Z1.has_by f a.name
     cases hb:f.by a.name with
     |none=>rfl
     |some q=>rw[hb] at this;exact absurd this aj
    unfold Ac.on Z3F
    rw[h3]
    simp only
    rw[Z1.by_del,Z1.by_del,Dir.get_put,Dir.get_del,ae,af]
    by_cases ag:m=a.to
    ·simp[ag]
    ·by_cases ah:m=a.name
     ·subst ah
      simp[show¬a.name=a.to from fun e=>ak e.symm]
     ·simp only[ag,ah,if_false]
  ·cases hd
 ·cases hd
theorem Z71{acts:List Ac}(l:List Ac)(k:Nat)(hl:l=acts.drop k){d d':Dir}{f f':Z1}(h:Z45 n half d0 acts d f)(ha:∀a∈acts,a.wrong=false)(hd:Ql l k d f=some (d',f')):
  Z45 n half d0 acts d' f'/\Z3F R acts d' f'=l.foldl Ac.on (Z3F R acts d f):=by
 induction l generalizing k d f with
 |nil=>simp only[Ql,ZjJ,Prod.mk.injEq] at hd;obtain⟨rfl,rfl⟩:=hd;exact⟨h,rfl⟩
 |cons a r ih=>
  rw[Ql] at hd
  split at hd
  ·rename_i d1 f1 af
   have hk:k<acts.length:=by
    by_cases hk:k<acts.length
    ·exact hk
    ·rw[List.drop_of_length_le (by omega)] at hl;cases hl
   have ae:acts[k]? =some a:=by
    have:=congrArg (fun l=>l[0]?) hl
    simp only[List.getElem?_cons_zero,List.getElem?_drop,Nat.add_zero] at this
    exact this.symm
   have hv:acV acts k=a.value:=by unfold acV;rw[ZjE,ae];rfl
   have hr:r=acts.drop (k+1):=by
    have:=congrArg (List.drop 1) hl
    rw[List.drop_drop] at this
    simpa using this
   obtain⟨i1,i2⟩:=ih (k+1) hr (h.act hk hv (ha a (List.mem_of_getElem? ae)) af) hd
   refine⟨i1,?_⟩
   rw[i2,Zih hv af];rfl
  ·cases hd
theorem Z4c(e:Ent)(l:List Nat):Ent.secs {e with runs:=ZY l}=l:=Z1K l
theorem Z7e{r:Nat×Nat}{rs:List (Nat×Nat)}(h:r∈rs)(h1:1<=r.2):r.1∈Z9 rs/\r.1+(r.2-1)∈Z9 rs:=
 ⟨by have:=Z4A h 0 (by omega);simpa using this,Z4A h (r.2-1) (by omega)⟩
theorem Zcc{l:List Nat}(h1:∀i∈l,2*half<=i/\i<n)(hl:l.length=ZH e.size)(hs:e.size<=12000)(hc:e.sum<4294967296):Ent.Ok n half {e with runs:=ZY l}:=by
 refine⟨fun r hr=> ?_,by rw[Z4c];exact hl,hs,hc⟩
 have h2:=Z5t l r hr
 obtain⟨a,b⟩:=Z7e hr h2
 rw[Z1K] at a b
 have:=h1 _ a
 have:=h1 _ b
 omega
theorem Z6d(todo:Z1):∀ (free:List Nat) (d d':Dir),Yp free todo d=some d'->d.Sorted->(∀x∈d,1<=x.1.length/\x.1.length<=220)->d.secs.Nodup->free.Nodup->(∀i∈free,i∉d.secs)->(∀i∈free,2*half<=i/\i<n)->(todo.map (·.1)).Nodup->
  (∀x∈todo,∃e,d.get x.1=some e/\e.runs=[]/\e.size<=12000/\e.sum<4294967296)->
  d'.Sorted/\(∀x∈d',1<=x.1.length/\x.1.length<=220)/\d'.secs.Nodup/\(∀i∈d'.secs,i∈d.secs∨i∈free)/\(∀m,(∀x∈todo,x.1≠m)->d'.get m=d.get m)/\
  (∀x∈todo,∃e e',d.get x.1=some e/\d'.get x.1=some e'/\e'.size=e.size/\e'.sum=e.sum/\(∀i∈e'.secs,i∈free)/\Ent.Ok n half e'):=by
 induction todo with
 |nil=>
  intro free d d' h hs hn ha _ _ _ _ _
  simp only[Yp,ZjJ] at h
  subst h
  exact⟨hs,hn,ha,fun i hi=>Or.inl hi,fun _ _=>rfl,by simp⟩
 |cons x r ih=>
  intro free d d' h hs hn ha ay au aw aj ax
  obtain⟨e,he,bf,b9,az⟩:=ax x (by simp)
  rw[Yp,he] at h
  simp only at h
  split at h
  ·rename_i hle
   rw[ZjY,List.nodup_cons] at aj
   obtain⟨e1,ag⟩:∃e1:Ent,{e with runs:=ZY (free.take (ZH e.size))}=e1:=⟨_,rfl⟩
   have ai:e1.secs=free.take (ZH e.size):=by rw[<-ag];exact Z4c e _
   have aq:e1.size=e.size:=by rw[<-ag]
   have al:e1.sum=e.sum:=by rw[<-ag]
   have ak:Ent.Ok n half e1:=by
    rw[<-ag];exact Zcc (fun i hi=>aw i (List.mem_of_mem_take hi)) (by rw[ZjO];omega) b9 az
   rw[ag] at h
   have hp:=Z6g d x.1 e1
   rw[ai] at hp
   have af:free=free.take (ZH e.size)++free.drop (ZH e.size):=(Zk4 _ _).symm
   have ah:=ay
   rw[af,List.nodup_append] at ah
   obtain⟨n1,n2,n3⟩:=ah
   have ae:∀m,(d.put x.1 e1).get m=if m=x.1 then some e1 else d.get m:=fun m=>Dir.get_put d x.1 e1 m
   obtain⟨i1,i2,i3,i4,i5,i6⟩:=ih (free.drop (ZH e.size)) (d.put x.1 e1) d' h (Dir.sorted_put hs _ _)
    (fun y hy=>by
     rcases Dir.mem_put.1 hy with rfl|⟨hy,_⟩
     ·exact Zfx hn he
     ·exact hn y hy)
    (hp.nodup_iff.2 (List.nodup_append.2 ⟨n1,Xt ha _,fun a hx b hy e2=>au a (List.mem_of_mem_take hx) (by rw[e2];exact Yw hy)⟩))
    n2
    (fun i hi hm=>by
     rcases ZjU.1 (hp.mem_iff.1 hm) with hm|hm
     ·exact n3 i hm i hi rfl
     ·exact au i (List.mem_of_mem_drop hi) (Yw hm))
    (fun i hi=>aw i (List.mem_of_mem_drop hi)) aj.2
    (fun y hy=>by
     obtain⟨e2,k1,k2⟩:=ax y (by simp[hy])
     have:y.1≠x.1:=fun e3=>aj.1 (by rw[<-e3];exact List.mem_map_of_mem hy)
     exact⟨e2,by rw[ae,if_neg this];exact k1,k2⟩)
   refine⟨i1,i2,i3,?_,?_,?_⟩
   ·intro i hi
    rcases i4 i hi with h1|h1
    ·rcases ZjU.1 (hp.mem_iff.1 h1) with h1|h1
     ·exact Or.inr (List.mem_of_mem_take h1)
     ·exact Or.inl (Yw h1)
    ·exact Or.inr (List.mem_of_mem_drop h1)
   ·intro m hm
    rw[i5 m (fun y hy=>hm y (by simp[hy])),ae,if_neg (fun e2=>hm x (by simp) e2.symm)]
   ·intro y hy
    rcases ZjV.1 hy with rfl|hy
    ·refine⟨e,e1,he,?_,aq,al,fun i hi=>by rw[ai] at hi;exact List.mem_of_mem_take hi,ak⟩
     rw[i5 y.1 (fun z hz e3=>aj.1 (by rw[<-e3];exact List.mem_map_of_mem hz)),ae,if_pos rfl]
    ·obtain⟨a,b,k1,k2,k3,k4,k5,k6⟩:=i6 y hy
     have:y.1≠x.1:=fun e3=>aj.1 (by rw[<-e3];exact List.mem_map_of_mem hy)
     rw[ae,if_neg this] at k1
     exact⟨a,b,k1,k2,k3,k4,fun i hi=>List.mem_of_mem_drop (k5 i hi),k6⟩
  ·cases h
theorem X5:i∈Wr (ZV n half d)↔i<n/\2*half<=i/\i∉d.secs:=by
 unfold Wr
 have hl:(ZV n half d).length=n:=by simp[ZV]
 rw[List.mem_filter,List.mem_range,hl]
 constructor
 ·rintro⟨h1,h2⟩
  rw[ZjE,ZV,List.getElem?_map,List.getElem?_range h1] at h2
  simp only[Option.map_some,Option.getD_some,Bool.not_eq_true',Bool.or_eq_false_iff,decide_eq_false_iff_not] at h2
  refine⟨h1,by omega,?_⟩
  have:=h2.2
  rw[List.contains_eq_mem] at this
  simpa using this
 ·rintro⟨h1,h2,h3⟩
  refine⟨h1,?_⟩
  rw[ZjE,ZV,List.getElem?_map,List.getElem?_range h1]
  simp only[Option.map_some,Option.getD_some,Bool.not_eq_true',Bool.or_eq_false_iff,decide_eq_false_iff_not]
  exact⟨by omega,by rw[List.contains_eq_mem];simpa using h3⟩
theorem Z0W(u:List Bool):(Wr u).Nodup:=List.nodup_range.sublist List.filter_sublist
theorem Z5j(h:d.Ok n half){i:Nat}(hi:i∈d.secs):2*half<=i/\i<n:=by
 unfold Dir.secs at hi
 obtain⟨x,hx,hi⟩:=List.mem_flatMap.1 hi
 obtain⟨r,hr,hi⟩:=List.mem_flatMap.1 hi
 have:=(h.ent x hx).many r hr
 rw[List.mem_range'_1] at hi
 omega
theorem Zcs(h:d.Ok n half)(h2:2*half<=n):(Wr (ZV n half d)).length+d.secs.length+2*half=n:=by
 have hp:(Wr (ZV n half d)++(d.secs++List.range (2*half))).Perm (List.range n):=by
  rw[List.perm_ext_iff_of_nodup]
  ·intro i
   rw[ZjU,ZjU,X5,List.mem_range,List.mem_range]
   constructor
   ·rintro(h1|h1|h1)
    ·exact h1.1
    ·exact(Z5j h h1).2
    ·omega
   ·intro h1
    by_cases h3:i<2*half
    ·exact Or.inr (Or.inr h3)
    ·by_cases h4:i∈d.secs
     ·exact Or.inr (Or.inl h4)
     ·exact Or.inl ⟨h1,by omega,h4⟩
  ·rw[List.nodup_append,List.nodup_append]
   refine⟨Z0W _,⟨h.apart,List.nodup_range,fun a ha b hb e=> ?_⟩,fun a ha b hb e=> ?_⟩
   ·have:=Z5j h ha;rw[List.mem_range] at hb;omega
   ·obtain⟨k1,k2,k3⟩:=X5.1 ha
    subst e
    rcases ZjU.1 hb with hb|hb
    ·exact k3 hb
    ·rw[List.mem_range] at hb;omega
  ·exact List.nodup_range
 have:=hp.length_eq
 simp only[ZjI,List.length_range] at this
 omega
structure Z05(n half:Nat)(R:Nat->ByteArray)(d0:Dir)(acts:List Ac)(d:Dir)(f:Z1):Prop where
 ok:d.Ok n half
 fr:(f.map (·.1)).Nodup
 fresh:∀x∈f,∃e,d.get x.1=some e/\e.size=(acV acts x.2).length/\e.sum=Wq (acV acts x.2)/\(∀i∈e.secs,2*half<=i/\i<n/\i∉d0.secs)/\x.2<acts.length
 old:∀m e,d.get m=some e->f.by m=none->∀i∈e.secs,i∈d0.secs
 tab:∀m,(match f.by m with|some k=>some (some (acV acts k))|none=>(d.get m).map (Z4g R))=acts.foldl Ac.on (stR R d0) m
theorem YO{S:Sto}{acts:List Ac}{f:Z1}(R:Nat->ByteArray)(hd:S.dir.Ok n half)(hu:S.used=ZV n half S.dir)(ha:∀a∈acts,a.wrong=false)(hp:S.plan acts=some (d,f)):Z05 n half R S.dir acts d f:=by
 unfold Sto.plan at hp
 split at hp
 ·rename_i d1 f1 ah
  split at hp
  ·rename_i d2 ag
   simp only[ZjJ,Prod.mk.injEq] at hp
   obtain⟨rfl,rfl⟩:=hp
   have h0:Z45 n half S.dir acts S.dir []:=⟨hd.sorted,hd.name,hd.apart,fun i hi=>hi,by simp,by simp,fun m e hm _=>hd.get hm⟩
   obtain⟨p1,p2⟩:=Z71 (R:=R) acts 0 rfl h0 ha ah
   rw[hu] at ag
   have af:∀i∈Wr (ZV n half S.dir),i∉d1.secs:=fun i hi hm=>(X5.1 hi).2.2 (p1.sub i hm)
   obtain⟨q1,q2,q3,q4,q5,q6⟩:=Z6d (n:=n) (half:=half) f1 _ d1 d2 ag p1.sorted p1.name p1.apart (Z0W _) af
    (fun i hi=>by have:=X5.1 hi;exact⟨this.2.1,this.1⟩) p1.fr (fun x hx=>by
     obtain⟨e,k1,k2,k3,k4,k5,k6⟩:=p1.fresh x hx
     exact⟨e,k1,k2,k5,by rw[k4];exact Z56 _⟩)
   have ae:∀m,f1.by m=none->∀x∈f1,x.1≠m:=fun m hm x hx e=>by
    rw[<-e,Z1.by_mem p1.fr hx] at hm;cases hm
   refine⟨⟨q1,?_,q2,q3⟩,p1.fr,?_,?_,?_⟩
   ·intro x hx
    have hg:=Dir.mem_get q1 (n:=x.1) (e:=x.2) hx
    cases hb:f1.by x.1 with
    |none=>rw[q5 x.1 (ae _ hb)] at hg;exact p1.old x.1 x.2 hg hb
    |some k=>
     obtain⟨a,b,_,k2,_,_,_,k6⟩:=q6 _ (Z1.mem_by hb)
     rw[hg] at k2
     cases k2
     exact k6
   ·intro x hx
    obtain⟨e,k1,k2,k3,k4,k5,k6⟩:=p1.fresh x hx
    obtain⟨a,b,j1,j2,j3,j4,j5,j6⟩:=q6 x hx
    rw[k1] at j1
    cases j1
    exact⟨b,j2,by rw[j3,k3],by rw[j4,k4],fun i hi=>by have:=X5.1 (j5 i hi);exact⟨this.2.1,this.1,this.2.2⟩,k6⟩
   ·intro m e hm hb i hi
    rw[q5 m (ae _ hb)] at hm
    exact p1.sub i (List.mem_flatMap.2 ⟨(m,e),Dir.get_some_mem hm,hi⟩)
   ·intro m
    have:=congrFun p2 m
    have e0:Z3F R acts S.dir []=stR R S.dir:=rfl
    rw[e0] at this
    rw[<-this]
    unfold Z3F
    cases hb:f1.by m with
    |none=>simp only;rw[q5 m (ae _ hb)]
    |some k=>rfl
  ·cases hp
 ·cases hp
theorem Z6M(h:d.secs.Nodup)(hs:d.Sorted){x y:Bs×Ent}(hx:x∈d)(hy:y∈d)(ae:x.1≠y.1){i:Nat}(h1:i∈x.2.secs)(h2:i∈y.2.secs):False:=by
 unfold Dir.secs at h
 induction d with
 |nil=>cases hx
 |cons z r ih=>
  rw[ZjX,List.nodup_append] at h
  obtain⟨_,n2,n3⟩:=h
  rcases ZjV.1 hx with rfl|hx'
  ·rcases ZjV.1 hy with rfl|hy'
   ·exact ae rfl
   ·exact n3 i h1 i (List.mem_flatMap.2 ⟨y,hy',h2⟩) rfl
  ·rcases ZjV.1 hy with rfl|hy'
   ·exact n3 i h2 i (List.mem_flatMap.2 ⟨x,hx',h1⟩) rfl
   ·exact ih n2 (List.pairwise_cons.1 hs).2 hx' hy'
theorem Z7D(h:d.secs.Nodup){x:Bs×Ent}(hx:x∈d):x.2.secs.Nodup:=by
 unfold Dir.secs at h
 induction d with
 |nil=>cases hx
 |cons z r ih=>
  rw[ZjX,List.nodup_append] at h
  rcases ZjV.1 hx with rfl|hx'
  ·exact h.1
  ·exact ih h.2.1 hx'
end
end Go.Proofs.YthppfllkocphbaaGreatDoor
