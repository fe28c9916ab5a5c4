/-
  Part 40 of the proof: lemmas about what the program computes.
-/
import Derived.Deep.Fields
import Derived.Deep.Slices
import Derived.Test.YthppfllkocphbaaGreatDoorQ26
namespace Go.Proofs.YthppfllkocphbaaGreatDoor
set_option linter.unusedVariables false
set_option linter.unusedSimpArgs false
set_option maxHeartbeats 25600000
set_option maxRecDepth 100000
open Tryz
section
open Go.RowKit Go.Maps Go.WideMaps
theorem Zel{l:List Nat}{n:Nat}(h:l.Pairwise (·<·))(hb:∀x∈l,x<n):l.length<=n:=by
 have h1:l.Nodup:=h.imp fun ae=>Nat.ne_of_lt ae
 have h2:=h1.length_le_of_subset (l₂:=List.range n) (fun x hx=>List.mem_range.2 (hb x hx))
 simpa using h2
structure Z8q(B p d s j:Nat)(L:List Nat)(ops:List DOp)(S1:Sto)(P:Pw)(D:Dk)(w w':World):Prop where
 ran:Ran B p d 800 L [s,j] ops P D w w'
 ok:(Z2 ops P D).1=0->Wi w' s j d S1
structure CmS(B p d:Nat)(P:Pw)(D:Dk)(L:List Nat)(s j:Nat)(S:Sto)(q db fb ga oa na ca gu sb:Nat)(acts:List Ac)(dk:Dir)(fk:Z1)(n1 n2:Nat)(w wr:World):Prop where
 pl:PlA wr q db fb ga oa na ca (.slice (some ⟨gu,0,none⟩) S.used.length S.used.length) acts dk fk n1 n2
 st:Row wr s 157 [.pointer (some ⟨d,0,none⟩),.pointer (some ⟨j,0,none⟩),.int .i64 S.half,.map (some sb),.slice (some ⟨gu,0,none⟩) S.used.length S.used.length,.bool false]
 jn:JAt wr j d S.j
 sd:Zy wr sb S.dir.length S.dir
 us:Row wr gu 4 (S.used.map .bool)
 bel:Below w.heap.size w wr
 ndb:w.heap.size<=db
 nfb:w.heap.size<=fb
section
variable{B p d:Nat}{P:Pw}{D:Dk}{L:List Nat}{s j:Nat}{S:Sto}{q db fb ga oa na ca gu sb:Nat}{acts:List Ac}{dk:Dir}{fk:Z1}{n1 n2:Nat}{w wr:World}
theorem CmS.after(h:CmS B p d P D L s j S q db fb ga oa na ca gu sb acts dk fk n1 n2 w wr){w':World}(hb:Below wr.heap.size wr w'):CmS B p d P D L s j S q db fb ga oa na ca gu sb acts dk fk n1 n2 w w':=
 ⟨h.pl.after hb,h.st.after hb,JAt.after h.jn hb,h.sd.after hb,h.us.after hb,h.bel.trans (hb.mono h.bel.size),h.ndb,h.nfb⟩
theorem CmS.plan(h:CmS B p d P D L s j S q db fb ga oa na ca gu sb acts dk fk n1 n2 w wr){w':World}{af:Dir}{ag:Z1}{ah ai:Nat}(hp:PlA w' q db fb ga oa na ca (.slice (some ⟨gu,0,none⟩) S.used.length S.used.length) acts af ag ah ai)(hf:Fr [db,fb] wr w')(aj:sb<w.heap.size):CmS B p d P D L s j S q db fb ga oa na ca gu sb acts af ag ah ai w w':=by
 have ae:∀{g:Nat} {et:TypeId} {l:List Value},Row wr g et l->g∉[db,fb]:=fun hl hm=>by
  simp only[ZjV,Zk3,or_false] at hm
  rcases hm with rfl|rfl
  ·obtain⟨fv,m1,_⟩:=h.pl.dir
   obtain⟨es,cl,hb⟩:=m1.block
   exact Y9 hl hb
  ·obtain⟨es,cl,hb⟩:=h.pl.fsh.block
   exact Y9 hl hb
 refine⟨hp,h.st.fr hf (ae h.st),Row.fr h.jn hf (ae h.jn),h.sd.fr hf ?_ (fun k hk l hl=>ae hl hk),h.us.fr hf (ae h.us),h.bel.trans (hf.below h.bel.size (fun i hi=> ?_)),h.ndb,h.nfb⟩
 ·intro hm
  simp only[ZjV,Zk3,or_false] at hm
  have h1:=h.ndb
  have h2:=h.nfb
  omega
 ·simp only[ZjV,Zk3,or_false] at hi
  have h1:=h.ndb
  have h2:=h.nfb
  omega
end
theorem Z7z{B p d:Nat}{P:Pw}{D:Dk}{L:List Nat}{s j:Nat}{S:Sto}{ga oa na ca gu sb:Nat}{acts:List Ac}{w:World}(hs:Row w s 157 [.pointer (some ⟨d,0,none⟩),.pointer (some ⟨j,0,none⟩),.int .i64 S.half,.map (some sb),.slice (some ⟨gu,0,none⟩) S.used.length S.used.length,.bool false])(hj:JAt w j d S.j)(af:Zy w sb S.dir.length S.dir)(hu:Row w gu 4 (S.used.map .bool))(ha:Z0f w ga oa acts)(ae:na=acts.length)
  {W:World} {q db fb:Nat} (hb:Below w.heap.size w W) (hd:Zy W db S.dir.length S.dir) (hf:Zz W fb 0 (fun _=>none)) (hq:Row W q 167 [.map (some db),.map (some fb),.slice (some ⟨ga,oa,none⟩) na ca,.slice (some ⟨gu,0,none⟩) S.used.length S.used.length]) (h1:w.heap.size<=db) (h2:w.heap.size<=fb) (h3:db≠fb):CmS B p d P D L s j S q db fb ga oa na ca gu sb acts S.dir [] S.dir.length 0 w W:=by
 have hg:=ha.1
 exact⟨⟨hq,hd,hf.congr (fun _=>rfl),ha.after hb,ae,h3,by omega,by omega⟩,hs.after hb,JAt.after hj hb,af.after hb,hu.after hb,hb,h1,h2⟩
theorem PlA.frT{q db fb ga oa na ca:Nat}{us:Value}{acts:List Ac}{dir:Dir}{f:Z1}{n1 n2:Nat}{wr w':World}(h:PlA wr q db fb ga oa na ca us acts dir f n1 n2){Y:List Nat}{ts:List TypeId}(hf:Fr Y wr w')(ht:Zs wr Y ts)(h1:197∉ts)(h2:167∉ts)(ae:ga∉Y):PlA w' q db fb ga oa na ca us acts dir f n1 n2:=by
 refine⟨h.row.fr hf (ht.row_ne h.row h2),h.dir.fr hf ?_ (fun k hk l hl=>ht.row_ne hl h1 hk),h.fsh.fr hf ?_,h.ard.fr hf ae,h.many,h.ne,h.nag⟩
 ·obtain⟨fv,m1,_⟩:=h.dir
  obtain⟨es,cl,hb⟩:=m1.block
  exact ht.map_ne hb
 ·obtain⟨es,cl,hb⟩:=h.fsh.block
  exact ht.map_ne hb
theorem ZfN{B p d:Nat}{P:Pw}{D:Dk}{L:List Nat}{j:Nat}{J:Jn}{w:World}(h:PD B w p d 800 P D L)(hj:JAt w j d J):Zs w ([j]++p::L) (225::Z4f):=
 Zs.cons hj (by simp) (h.typed.mono (fun _ hi=>hi) (fun e he=>ZjS _ he))
theorem Z6s(B p d:Nat)(P:Pw)(D:Dk)(L:List Nat)(s j ga oa na ca:Nat)(S:Sto)(recs:List Rec)(R:Nat->ByteArray)(acts:List Ac)(dir:Dir)(f:Z1)(w:World)(h:PD B w p d 800 P D L)(hB:B<=w.heap.size)(iy:Wi w s j d S)(fu:B<=s)(fa:B<=j)(ik:WW w ga oa acts)(ir:na=acts.length)(ef:na<=ca)
  (hi:YL 800 100 R S recs) (aj:S.plan acts=some (dir,f)) (hr:Z47 S dir f) (hw:∀a∈acts,a.wrong=false) (ff:acts≠[]) (jc:acts.length<=12) (de:D.wait.length<=1000) (ht:Ty w) (hg:0<B) (im:S.j.epoch<=2000000000) (iw:S.dir.length<=10000):
  Calls prog 38 #[.pointer (some ⟨s,0,none⟩),.slice (some ⟨ga,oa,none⟩) na ca] w (Ans w.heap.size (Z2 (S.ops acts dir f) P D).1 (Z8q B p d s j L (S.ops acts dir f) (S.done dir f) P D w)):=by
 have ax:=hi.ok
 have fo:=YO R ax hi.used hw aj
 obtain⟨d0,cr,bz⟩:∃d0,Ql acts 0 S.dir []=some (d0,f)/\Yp (Wr S.used) f d0=some dir:=by
  unfold Sto.plan at aj
  split at aj
  ·rename_i d1 f1 h1
   split at aj
   ·rename_i d2 h2
    simp only[ZjJ,Prod.mk.injEq] at aj
    obtain⟨rfl,rfl⟩:=aj
    exact⟨d1,h1,h2⟩
   ·cases aj
  ·cases aj
 obtain⟨o1,o2,o3⟩:=Z8U hw cr (by simp) (by simp) (by simp)
 simp only[Nat.zero_add] at o2
 have ey:f.length<=12:=by
  have h9:=Zel o1 (n:=acts.length) (fun x hx=>by obtain⟨y,hy,rfl⟩:=List.mem_map.1 hx;exact o2 y hy)
  rw[ZjN] at h9;omega
 have fg:Z45 800 100 S.dir acts S.dir []:=⟨ax.sorted,ax.name,ax.apart,fun i hi=>hi,by simp,by simp,fun m e hm _=>ax.get hm⟩
 obtain⟨p1, -⟩:=Z71 (R:=R) acts 0 rfl fg hw cr
 have fy:∀x∈f,∃e,d0.get x.1=some e/\e.runs=[]/\e.size<=12000/\e.sum<4294967296:=fun x hx=>by
  obtain⟨e,k1,k2,k3,k4,k5,k6⟩:=p1.fresh x hx
  exact⟨e,k1,k2,k5,by rw[k4];exact Z56 _⟩
 have ia:S.used.length=800:=by rw[hi.used];unfold ZV;simp
 have j8:=Zka ia
 have iz:S.used.length<=100000:=by omega
 clear ia
 have bm:∀x∈f,x.2<=100000:=fun x hx=>by have:=o2 x hx;omega
 obtain⟨sb,uv,hs,hj,dm,gu,rfl,hu⟩:=iy
 have aw:sb<w.heap.size:=by
  obtain⟨fv,m1,_⟩:=dm
  exact m1.lt
 have jl:1<=acts.length:=by
  cases acts with
  |nil=>exact absurd rfl ff
  |cons a r=>simp
 obtain⟨bf,jr,ak⟩:=ik
 have bj:ga∉p::L:=h.row_ne ak (by decide) (by decide) (by decide) (by decide)
 have c3:=hs.cell (j:=3) rfl
 have c4:=hs.cell (j:=4) rfl
 have c5:=hs.cell (j:=5) rfl
 have HP:=Zka (Zkb h (Zkb hB (Zkb hs (Zkb hj (Zkb dm (Zkb hu bj))))))
 have HF:=Zka (Zkb o1 (Zkb o3 (Zkb fy (Zkb bm (Zkb fo (Zkb hr p1))))))
 have HW:=Zka (Zkb hw (Zkb cr bz))
 have HA:=Zka (Zkb bf ak)
 have HI:=Zka (Zkb hi (Zkb ax (Zkb fu (Zkb fa (Zkb ht (Zkb hg aw))))))
 have jd:=ak.lt
 subst ir
 clear h hB hs hj dm hu bj o1 o2 o3 fy bm fo hr hw cr bz bf ak hi ax fu fa ht hg aj ff fg p1 aw
 have z0:((acts.length:Int)==0)=false:=by rw[beq_eq_false_iff_ne];omega
 have z1:decide ((100:Int)<(acts.length:Int))=false:=decide_eq_false (by omega)
 go_enter func38,ntmps38
 go_wp2_with fail
 go_loopw [29] (fun iv wr=>∃i:Nat,i<=acts.length/\iv=.int .i64 i/\Below w.heap.size w wr) (fun iv _=>acts.length- (intOf iv).toNat)
 case atStart=>exact⟨0,by omega,rfl,Zk9⟩
 case round=>
  obtain⟨i,je,rfl,af⟩:=hrel
  by_cases dh:i<acts.length
  ·obtain⟨a0,a1,a2,a3⟩:=(HA.out.1.after af).2 i dh
   have dq:(acts.getD i ⟨0,[],[],[]⟩).wrong=false:=by
    rw[ZjE,ZjF dh];exact HW.out.1 _ (ZjW dh)
   obtain⟨a,ha⟩:∃a,acts.getD i ⟨0,[],[],[]⟩=a:=⟨_,rfl⟩
   rw[ha] at a0 a1 a2 a3 dq
   have b9:=Zka (Zkb af dq)
   clear af ha dq
   go_wp2_with (go_at_call 84;refine(Zde a b9.out.2 _).mono ?_;rintro e w2 ⟨rfl,dy⟩;have S2:=Zka ((b9.out.1.alloc b9.out.1.size _).trans (dy.mono (by have:=b9.out.1.size;simp;omega)));clear dy)
   go_roundw
   case measure=>simp[intOf];omega
   case rel=>exact⟨i+1,by omega,by go_num,S2.out⟩
  ·obtain rfl:i=acts.length:=by omega
   have b9:=Zka af
   have s3:wr.cell? ⟨s,3,none⟩=some (.map (some sb)):=(HP.out.2.2.1.after af).cell (j:=3) rfl
   have s4:wr.cell? ⟨s,4,none⟩=some (.slice (some ⟨gu,0,none⟩) S.used.length S.used.length):=(HP.out.2.2.1.after af).cell (j:=4) rfl
   clear af c3 c4 c5
   go_wp2_with fail
   go_cut [7] from 38 to 51 (fun v wx=>∃q db fb,v=.pointer (some ⟨q,0,none⟩)/\CmS B p d P D L s j S q db fb ga oa acts.length ca gu sb acts S.dir [] S.dir.length 0 w wx)
   case first=>
    have mk:=fun W=>run_makeMap_plain (P:=prog) W 165
    have cy:Below w.heap.size w wr.drew:=b9.out.drew
    have r0:=HP.out.2.2.1.after cy
    have ae:=Zka (Zkb r0 cy)
    have ix:s<wr.drew.heap.size:=r0.lt
    have fw:s<wr.heap.size:=r0.lt
    have jt:wr.drew.cell? ⟨s,3,none⟩=some (.map (some sb)):=s3
    have jw:wr.drew.cell? ⟨s,4,none⟩=some (.slice (some ⟨gu,0,none⟩) S.used.length S.used.length):=s4
    clear r0 cy
    go_region_with (go_at_call 85;refine(Z6C sb S.dir.length S.dir _ (HP.out.2.2.2.2.1.after (by first|exact ae.out.2|exact ae.out.2.alloc ae.out.2.size _))).mono ?_;rintro e w8 ⟨rfl,eh,al⟩;have js:=(ae.out.1.after (by first|exact al|exact(Zk9.alloc Zk8 _).trans (al.mono (by simp)))).cell (j:=3) rfl;have ju:=(ae.out.1.after (by first|exact al|exact(Zk9.alloc Zk8 _).trans (al.mono (by simp)))).cell (j:=4) rfl;have l8:s<w8.heap.size:=(ae.out.1.after (by first|exact al|exact(Zk9.alloc Zk8 _).trans (al.mono (by simp)))).lt;have S8:=Zka (Zkb eh al);clear eh al)
    all_goals go_wp2_with fail
    all_goals go_meet
    all_goals first
     |exact⟨_,wr.heap.size,w8.heap.size,rfl,Z7z HP.out.2.2.1 HP.out.2.2.2.1 HP.out.2.2.2.2.1 HP.out.2.2.2.2.2.1 HA.out.1 rfl (W:=(w8.alloc (.map #[] 0)).alloc (.cells #[.map (some wr.heap.size),.map (some w8.heap.size),.slice (some ⟨ga,oa,none⟩) acts.length ca,.slice (some ⟨gu,0,none⟩) S.used.length S.used.length] 167)) ((ae.out.2.trans (S8.out.2.mono ae.out.2.size)).trans ((((Below.refl w8.heap.size w8).alloc Zk8 _).alloc (by simp) _).mono (Zk1 ae.out.2.size S8.out.2.size))) (S8.out.1.after (((Below.refl w8.heap.size w8).alloc Zk8 _).alloc (by simp) _)) ((Zz.made w8).after (Zk9.alloc Zk8 _)) (by have h9:=Row.new (w8.alloc (.map #[] 0)) 167 [.map (some wr.heap.size),.map (some w8.heap.size),.slice (some ⟨ga,oa,none⟩) acts.length ca,.slice (some ⟨gu,0,none⟩) S.used.length S.used.length];simpa using h9) ae.out.2.size (Zk1 ae.out.2.size S8.out.2.size) (by have h9:=(S8.out.1).map;obtain⟨fv,m1,_⟩:=h9;have h8:=m1.lt;intro e9;rw[<-e9] at h8;exact Nat.lt_irrefl _ h8)⟩
     |exact⟨_,wr.heap.size+1,wr.heap.size,rfl,Z7z HP.out.2.2.1 HP.out.2.2.2.1 HP.out.2.2.2.2.1 HP.out.2.2.2.2.2.1 HA.out.1 rfl (W:=w8.alloc (.cells #[.map (some (wr.heap.size+1)),.map (some wr.heap.size),.slice (some ⟨ga,oa,none⟩) acts.length ca,.slice (some ⟨gu,0,none⟩) S.used.length S.used.length] 167)) (((ae.out.2.alloc ae.out.2.size _).trans (S8.out.2.mono (by have:=ae.out.2.size;simp;exact Nat.le_succ_of_le this))).trans (((Below.refl w8.heap.size w8).alloc Zk8 _).mono (by have h9:=ae.out.2.size;have h8:=S8.out.2.size;simp at h8;exact Zk1 h9 (Nat.le_of_succ_le h8)))) ((by simpa using S8.out.1:Zy w8 (wr.heap.size+1) S.dir.length S.dir).after (Zk9.alloc Zk8 _)) (((Zz.made wr.drew).after S8.out.2).after (Zk9.alloc Zk8 _)) (Row.new w8 167 [.map (some (wr.heap.size+1)),.map (some wr.heap.size),.slice (some ⟨ga,oa,none⟩) acts.length ca,.slice (some ⟨gu,0,none⟩) S.used.length S.used.length]) (Nat.le_succ_of_le ae.out.2.size) ae.out.2.size (by omega)⟩
   case rest=>
    obtain⟨q,db,fb,rfl,hC⟩:=hcut
    have HC:=Zka hC
    clear hC s3 s4
    go_wp2_with fail
    go_loopw [54] (fun kv wj=>∃ (k:Nat) (dk:Dir) (fk:Z1) (m1 m2:Nat),k<=acts.length/\kv=.int .i64 k/\Ql (acts.drop k) k dk fk=some (d0,f)/\m1<=S.dir.length+k/\m2<=k/\CmS B p d P D L s j S q db fb ga oa acts.length ca gu sb acts dk fk m1 m2 w wj) (fun kv _=>acts.length- (intOf kv).toNat)
    case atStart=>exact⟨0,S.dir,[],_,0,by omega,rfl,HW.out.2.1,by omega,by omega,HC.out⟩
    case round=>
     obtain⟨k,dk,fk,m1,m2,jh,rfl,bg,ji,jk,hS⟩:=hrel
     have HS:=Zka hS
     by_cases fc:k<acts.length
     ·have df:acts[k]? =some acts[k]:=ZjF fc
      obtain⟨dw,dx,ek,eo⟩:=Zaz df bg
      have aq:=ZhQ q db fb ga oa acts.length ca _ acts dk dw fk dx m1 m2 k acts[k] wr hS.pl df (by omega) (HW.out.1 _ (ZjW fc)) ek (by omega) (by omega) ef
      have du:=Zka (Zkb aq eo)
      clear aq ek eo df bg hS
      go_wp2_with (go_at_call 86;refine du.out.1.mono ?_;rintro e w2 ⟨rfl,⟨az,j7,h1,h2,fh⟩,hf2⟩;have S2:=Zka (HS.out.plan fh hf2 HI.out.2.2.2.2.2.2);clear fh hf2)
      go_roundw
      case measure=>simp[intOf];omega
      case rel=>exact⟨k+1,dw,dx,az,j7,by omega,by go_num,du.out.2,by omega,by omega,S2.out⟩
     ·obtain rfl:k=acts.length:=by omega
      rw[List.drop_length] at bg
      simp only[Ql,ZjJ,Prod.mk.injEq] at bg
      obtain⟨rfl,rfl⟩:=bg
      have ie:=hS.st.cell (j:=4) rfl
      have ig:=hS.st.cell (j:=5) rfl
      clear hS
      go_wp2_with (first
       |(go_at_call 88;refine(ZeH s _ S.used _ ie ig ⟨gu,rfl,HS.out.us⟩ (by omega)).mono ?_;rintro e w2 ⟨rfl,rfl⟩)
       |(go_at_call 87;refine(Zex q db fb ga oa acts.length ca gu S.used acts dk dir fk m1 m2 _ HS.out.pl HS.out.us HW.out.2.2 HF.out.2.2.2.2.2.2.fr HF.out.1 ey HF.out.2.2.2.1 HF.out.2.1 HF.out.2.2.1 (by omega) (by omega)).mono ?_;rintro e w3 ⟨rfl,⟨az,h1,fi⟩,hf3⟩;have S3:=Zka (HS.out.plan fi (hf3.mono (fun i hi _=>by rw[ZjD] at hi;simp[hi])) HI.out.2.2.2.2.2.2);clear fi hf3 h1)
       |(go_at_call 89;refine(ZeZ 800 100 q db fb ga oa acts.length ca _ acts dir fk az m2 _ S3.out.pl HF.out.2.2.2.2.1.ok (by omega) HF.out.2.2.2.2.2.1.ne2 HF.out.2.2.2.2.2.1.whole).mono ?_;rintro e w4 ⟨rfl,dz⟩;have S4:=Zka (S3.out.after dz);clear dz))
      have au:=HF.out.2.2.2.2.2.1.fits
      have dr:=HF.out.2.2.2.2.2.1.whole
      have jg:=HI.out.1.jhalf
      obtain⟨T,hT⟩:∃T,str (Y5 dir)=T:=⟨_,rfl⟩
      have ij:T.size=(Y5 dir).length:=by rw[<-hT,Z5]
      obtain⟨tl,gx⟩:∃tl,(Y5 dir).length=tl:=⟨_,rfl⟩
      rw[gx] at ij au dr
      obtain⟨sc,dj⟩:∃sc,ZH (24+tl)=sc:=⟨_,rfl⟩
      have iu:sc+1<=S.j.half:=by rw[<-dj];unfold ZH;unfold Z8 at au;omega
      have fp:∀k,Calls prog 90 #[.int .i64 ((24+tl:Nat):Int)] (w4.drewN k) fun e w'=>e=.returned (.int .i64 (sc:Int))/\w'=w4.drewN k:=fun k=>by rw[<-dj];exact(Z3A (24+tl) (by omega) _).mono fun e w' h=>⟨h.1,h.2.symm⟩
      have fq:∀k,Calls prog 91 #[.pointer (some ⟨j,0,none⟩)] (w4.drewN k) fun e w'=>e=.returned (.int .i64 ((S.j.half:Int)-1))/\w'=w4.drewN k:=fun k=>(Z7Q j d S.j _ (JAt.after S4.out.jn (Zp Zk9 k)) (by omega)).mono fun e w' h=>⟨h.1,h.2.symm⟩
      have hlen:(24:Int)+(T.size:Int)=((24+tl:Nat):Int):=by omega
      have ib:=Zk2 ((24:Int)+(T.size:Int)) (by omega)
      rw[hlen] at ib
      have dc:decide ((S.j.half:Int)-1<(sc:Int))=false:=decide_eq_false (by omega)
      have y1:=S4.out.st.cell (j:=1) rfl
      have HQ:=Zka (Zkb fp fq)
      have HT:=Zka hT
      rw[hT]
      clear fp fq hT dj gx
      go_quiet (first
       |(go_at_call 90;exact Calls.quiet_of_same (HQ.out.1 _))
       |(go_at_call 91;exact Calls.quiet_of_same (HQ.out.2 _)))
      have S5:=Zka (S4.out.after (Zp (Below.refl w4.heap.size w4) nq))
      generalize w4.drewN nq=w5 at*
      have fe:=ZfT B p d P D L s j q db fb ga oa acts.length ca sb S.dir.length (.slice (some ⟨gu,0,none⟩) S.used.length S.used.length) (.slice (some ⟨gu,0,none⟩) S.used.length S.used.length) S recs R acts dir fk az m2 w5 (HP.out.1.after S5.out.bel) (Zk1 HP.out.2.1 S5.out.bel.size) S5.out.st S5.out.jn HI.out.2.2.2.1 S5.out.sd (by omega) S5.out.pl HP.out.2.2.2.2.2.2 HI.out.1 HF.out.2.2.2.2.1 HF.out.2.2.2.2.2.1 HF.out.1 ey (by omega) HF.out.2.1 ef de (HI.out.2.2.2.2.1.below S5.out.bel) HI.out.2.2.2.2.2.1 im iw
      have ic:=Zka fe
      clear fe y1 dc ib hlen
      rw[<-HT.out]
      go_wp2_with fail
      refine ic.out.mono ?_
      rintro e w6 ⟨ev,rfl,cu,bq⟩
      obtain⟨L6,ai⟩:=bq.ran
      have fj:PD B w5 p d 800 P D L:=HP.out.1.after S5.out.bel
      have iq:s≠j:=Row.ne S5.out.st S5.out.jn (by decide)
      have ag:=ai.row fj S5.out.st (by simpa using iq) (by decide) (by decide) (by decide) (by decide)
      have bu:PlA w6 q db fb ga oa acts.length ca (.slice (some ⟨gu,0,none⟩) S.used.length S.used.length) acts dir fk az m2:=by
       have gy:=ZfN fj S5.out.jn
       refine S5.out.pl.frT ai.fr gy (by decide) (by decide) ?_
       exact gy.row_ne (HA.out.2.after S5.out.bel) (by decide)
      rcases cu.split with ⟨hc,rfl⟩|⟨hc,b,rfl⟩
      ·have dp:S.half=100:=HI.out.1.hh
       have f3:=ag.free (j:=3) (by simp)
       have ja:=ag.cell (j:=3) rfl
       have q0:=bu.row.cell (j:=0) rfl
       have ay:∀{g:Nat} {et:TypeId} {l:List Value},et≠157->Row w6 g et l->g∉[s]:=fun het hl hm=>by
        rw[ZjD] at hm
        subst hm
        exact het (Yf hl ag)
       obtain⟨w7,cn⟩:∃w7,w7=w6.setCell ⟨s,3,none⟩ (.map (some db)):=⟨_,rfl⟩
       have bh:Fr [s] w6 w7:=by rw[cn];exact(Fr.refl _ _).setCell (Or.inl (by simp)) _
       have fm:PD B w7 p d 800 _ _ L6:=ai.pd.fr bh (fun k hk=>by rw[ZjD] at hk;subst hk;exact ai.pd.row_ne ag (by decide) (by decide) (by decide) (by decide))
       have cj:Row w7 s 157 [.pointer (some ⟨d,0,none⟩),.pointer (some ⟨j,0,none⟩),.int .i64 S.half,.map (some db),.slice (some ⟨gu,0,none⟩) S.used.length S.used.length,.bool false]:=by rw[cn];exact ag.set 3 _
       have ah:Zy w7 db az dir:=bu.dir.fr bh (by
        obtain⟨fv,m1,_⟩:=bu.dir
        obtain⟨es,cl,hb⟩:=m1.block
        intro hm
        rw[ZjD] at hm
        subst hm
        exact Y9 ag hb) (fun k hk l hl=>ay (by decide) hl hk)
       have ez:JAt w7 j d (S.jNew dir fk):=Row.fr (bq.ok hc) bh (ay (by decide) (bq.ok hc))
       have er:=((ai.from S5.out.bel).wider (Y:=[s,j]) (by simp)).frame (Y:=[s]) bh (fun k hk=>by rw[ZjD] at hk;subst hk;exact ai.pd.row_ne ag (by decide) (by decide) (by decide) (by decide)) (by simp)
       have d3:=cj.cell (j:=3) rfl
       have gj:=Z1b B p d 800 _ _ L6 s 100 db az dir w7 fm (cj.cell (j:=0) rfl) (by have h9:=cj.cell (j:=2) rfl;rw[dp] at h9;exact h9) ah HF.out.2.2.2.2.1.ok (by omega)
       have H7:=Zka (Zkb cj (Zkb ah (Zkb ez (Zkb er (Zkb hc gj)))))
       have j9:=Zka cn
       clear cu bq ai hc ag bu bh fm cj ah ez er gj ay
       go_wp2_with fail
       rw[<-cn]
       clear cn
       go_wp2_with (go_at_call 94;refine H7.out.2.2.2.2.2.mono ?_;rintro r w9 ⟨jx,rfl,⟨g9,rfl,ft⟩,cz⟩;have R9:=H7.out.1.after cz;have f49:=R9.free (j:=4) (by simp);have d49:=R9.cell (j:=4) rfl;have S9:=Zka (Zkb R9 (Zkb ft cz));clear cz R9 ft)
       go_ret
       have cw:Fr [s] w9 (w9.setCell ⟨s,4,none⟩ (.slice (some ⟨g9,0,none⟩) (ZV 800 100 dir).length (ZV 800 100 dir).length)):=(Fr.refl _ _).setCell (Or.inl (by simp)) _
       have dt:∀{g:Nat} {et:TypeId} {l:List Value},et≠157->Row w9 g et l->g∉[s]:=fun het hl hm=>by
        rw[ZjD] at hm
        subst hm
        exact het (Yf hl S9.out.1)
       have ct:=H7.out.2.2.2.1.after S9.out.2.2
       refine⟨_,rfl,by rw[H7.out.2.2.2.2.1];exact Zu.nil _ _,⟨L6,ct.frame (Y:=[s]) cw (fun k hk=>by rw[ZjD] at hk;subst hk;exact ct.pd.row_ne S9.out.1 (by decide) (by decide) (by decide) (by decide)) (by simp)⟩,fun _=>⟨db,_,S9.out.1.set 4 _,?_,?_,g9,?_,?_⟩⟩
       ·exact Row.fr (Row.after H7.out.2.2.1 S9.out.2.2) cw (dt (by decide) (Row.after H7.out.2.2.1 S9.out.2.2))
       ·refine((H7.out.2.1.after S9.out.2.2).tight).fr cw (fun hm=> ?_) (fun k hk l hl=>dt (by decide) hl hk)
        rw[ZjD] at hm
        obtain⟨fv,m1,_⟩:=H7.out.2.1.after S9.out.2.2
        obtain⟨es,cl,hb⟩:=m1.block
        subst hm
        exact Y9 S9.out.1 hb
       ·show _=Value.slice _ (ZV S.n S.half dir).length (ZV S.n S.half dir).length
        rw[HI.out.1.nn,dp]
       ·show Row _ g9 _ ((ZV S.n S.half dir).map .bool)
        rw[HI.out.1.nn,dp]
        exact S9.out.2.1.fr cw (dt (by decide) S9.out.2.1)
      ·have f5:=ag.free (j:=5) (by simp)
       have jb:=ag.cell (j:=5) rfl
       have fx:Ty (w6.setCell ⟨s,5,none⟩ (.bool true)):=(Ty.did (HI.out.2.2.2.2.1.below S5.out.bel) ai HI.out.2.2.2.2.2.1 HP.out.1.bp HP.out.1.bL (by simp;exact HI.out.2.2.2.1)).set (by have:=HI.out.2.2.2.2.2.1;have:=HI.out.2.2.1;simp;omega) _
       have eu:Zu (w6.setCell ⟨s,5,none⟩ (.bool true)) w5.heap.size (Z2 (S.ops acts dir fk) P D).1 (.iface 139 (.pointer (some ⟨b,0,none⟩))):=cu.fr ((Fr.refl [s] w6).setCell (Or.inl (by simp)) _) (fun k hk=>by rw[ZjD] at hk;subst hk;exact S5.out.st.lt)
       have H6:=Zka (Zkb eu (Zkb ai (Zkb hc (Zkb ag fx))))
       clear cu bq ai hc ag fx eu bu
       go_wp2_with (go_at_call 93;refine(Z1z _ _ _ _ H6.out.1 H6.out.2.2.2.2).mono ?_;rintro e w7 ⟨v7,rfl,ew,ee⟩;have H7:=Zka (Zkb ew ee);clear ew ee)
       go_ret
       have jm:=S5.out.bel.size
       have jo:=H6.out.2.1.fr.size
       have jq:(w6.setCell ⟨s,5,none⟩ (.bool true)).heap.size=w6.heap.size:=by simp[World.setCell]
       refine⟨_,rfl,H7.out.1.base (by omega),⟨L6,?_⟩,fun h0=>absurd h0 H6.out.2.2.1⟩
       have ct:=(H6.out.2.1.from S5.out.bel).wider (Y:=[s,j]) (by simp)
       exact(ct.frame (Y:=[s]) ((Fr.refl _ _).setCell (Or.inl (by simp)) _) (fun k hk=>by rw[ZjD] at hk;subst hk;exact H6.out.2.1.pd.row_ne H6.out.2.2.2.1 (by decide) (by decide) (by decide) (by decide)) (by simp)).after H7.out.2
end
section
open Go.RowKit
variable{Q:Exit->Act->World->Prop}{a:Act}{base k n:Nat}{e:TypeId}{o:Oper}{ops:Array Oper}{rest:List Oper}{v:Value}{w w':World}{xs:List Value}
theorem Xi(h:w.ownsRow base e k v n xs)(hn:0<n):∃g cap sp,v=.slice (some ⟨g,0,none⟩) n cap/\base<=g/\n<=cap/\cap<=maxLen/\Row w g e (xs++sp):=by
 rcases h.2 with ⟨_,h0⟩|⟨g,cap,cur,hv,hb,hh,ae,af,ah,ag⟩
 ·omega
 ·refine⟨g,cap,cur.toList.drop (n*k),hv,hb,ae,af,Row.mk ?_⟩
  rw[<-ag,Zk4]
  simpa using hh
theorem WC(h:w.ownsRow base e k v n xs):∀q∈ZE v,base<=q:=fun q hq=>Xa h (ZG.1 hq)
theorem Wf(h:w.ownsRow base e k v n xs){L:List Nat}(hf:Fr L w w')(hL:∀q∈ZE v,q∉L):w'.ownsRow base e k v n xs:=ZZ h hf (fun g hg=>hL g (ZG.2 hg))
theorem QK(h:w.ownsRow base e k v n xs)(hb:Below w.heap.size w w'):w'.ownsRow base e k v n xs:=ZZ h (Fr.of_below (L:=[]) hb) (by simp)
theorem Qw(h:w.ownsRow base e k v n xs):∀q∈ZE v,∃l,Row w q e l:=fun q hq=>by
 rw[ZG] at hq
 rcases h.2 with ⟨h0,_⟩|⟨g,cap,cur,hv,hb,hh,_⟩
 ·rw[h0] at hq;cases hq
 ·rw[hv] at hq
  simp only[Value.ownBlock,ZjJ] at hq
  subst hq
  exact⟨cur.toList,Row.mk (by simpa using hh)⟩
theorem Y6(w:World)(hg:o.guard=none)(s x:Operand)(t e:TypeId){z:Value}{k bytes:Nat}(ho:o.op=.call {callee:=.builtin .append,args:= #[s,x],argTypes:= #[t,t]})
  (ht:prog.underlying t=some (.slice e)) (hi:(prog.info? e).map (fun i=>(i.zero,i.size,i.bytes))=some (some z,k,bytes)) (ai:z.cells.size=k) (hk:0<k) (af:bytes<=1000)
  (base:Nat) (v:Value) (n:Nat) (xs:List Value) (hs:a.eval s=v) (ae:w.ownsRow base e k v n xs) (p m:Nat) (news:List Value) (hx:a.eval x=.slice (some ⟨p,0,none⟩) m m) (hm:0<m) (aq:m<=100) (ah:news.length=m*k) (hc:Row w p e news) (h1:∀u∈news,u.oneCell'=true)
  (hb:base<=w.heap.size) (hl:n<=1000000)
  (hK:∀g cap w',w'.ownsRow base e k (.slice (some ⟨g,0,none⟩) (n+m) cap) (n+m) (xs++news)->Fr (ZE v) w w'->(v.ownBlock=some g∨g=w.heap.size)->g<w'.heap.size->base<=g->wpList prog ops Q rest (a.put o.dst (.slice (some ⟨g,0,none⟩) (n+m) cap)) w'):wpList prog ops Q (o::rest) a w:=by
 obtain⟨j0,ag,aj,ak,al⟩:=info_parts hi
 refine wpList_append_lies w hg s x t ho base e j0 _ k bytes ht ag aj ak al ai hk v n xs hs ae ⟨p,0,none⟩ m m news hx ah (fun j u hj=> ?_) h1 hm (by unfold maxLen;omega) ?_ hb w.heap.size rfl ?_
 ·have h9:=hc.cell hj
  have e9:(⟨p,0,none⟩:Addr).add j=⟨p,j,none⟩:=by unfold Addr.add;by_cases h:j=0<;>simp[h]
  rw[e9];exact h9
 ·have:(n+m)*bytes<=1000100*1000:=Nat.mul_le_mul (by omega) af
  omega
 intro g cap w' h2 h3 h4 h5
 refine hK g cap w' h2 ((Fr.refl (ZE v) w).grown h3 (fun k hk=>Or.inl (ZG.2 hk))) h4 h5 ?_
 exact Xa h2 (by simp[Value.ownBlock])
theorem Z8B:(prog.info? 151).map (fun i=>(i.zero,i.size,i.bytes))=some (some (.agg #[.int .i64 0,.string ⟨#[]⟩,.string ⟨#[]⟩,.string ⟨#[]⟩]),4,56):=by kernel_rfl
theorem Z7P:(prog.info? 3).map (fun i=>(i.zero,i.size,i.bytes))=some (some (.int .i64 0),1,8):=by kernel_rfl
theorem Z8P:(prog.info? 98).map (fun i=>(i.zero,i.size,i.bytes))=some (some (.agg #[.string ⟨#[]⟩,.int .i64 0,.slice none 0 0]),3,48):=by kernel_rfl
theorem Z8A:(prog.info? 68).map (fun i=>(i.zero,i.size,i.bytes))=some (some (.agg #[.string ⟨#[]⟩,.string ⟨#[]⟩,.bool false]),3,40):=by kernel_rfl
theorem ZfZ:(prog.info? 92).map (fun i=>(i.zero,i.size,i.bytes))=some (some (.pointer none),1,8):=by kernel_rfl
theorem Zfi:(prog.info? 47).map (fun i=>(i.zero,i.size,i.bytes))=some (some (.pointer none),1,8):=by kernel_rfl
theorem Z98:(prog.info? 105).map (fun i=>(i.zero,i.size,i.bytes))=some (some (.agg #[.string ⟨#[]⟩,.string ⟨#[]⟩]),2,32):=by kernel_rfl
def AcC(a:Ac):List Value:=[.int .i64 (a.kind:Int),.string (str a.name),.string (str a.to),.string (str a.value)]
def YY(l:List Ac):List Value:=l.flatMap AcC
theorem Z3L(a b:List Ac):YY (a++b)=YY a++YY b:=by simp[YY]
theorem ZbO(a:Ac):YY [a]=AcC a:=by simp[YY]
theorem ZbN(l:List Ac):∀ (k:Nat) (hk:k<l.length) (r:Nat),r<4->(YY l)[k*4+r]? =(AcC l[k])[r]?:=by
 induction l with
 |nil=>intro k hk;simp at hk
 |cons a l ih=>
  intro k hk r hr
  have e:YY (a::l)=AcC a++YY l:=by simp[YY]
  rw[e]
  match k,hk with
  |0,_=>rw[ZjH (by simp[AcC];omega)];simp
  |k+1,hk=>
   rw[ZjP (by simp[AcC];omega)]
   have:(k+1)*4+r- (AcC a).length=k*4+r:=by simp[AcC];omega
   rw[this,ih k (by simpa using hk) r hr]
   simp
def Z0e(w:World)(base:Nat)(v:Value)(l:List Ac):Prop:=w.ownsRow base 151 4 v l.length (YY l)
theorem Z0e.row{l:List Ac}(h:Z0e w base v l)(af:l≠[]):∃g cap,v=.slice (some ⟨g,0,none⟩) l.length cap/\base<=g/\l.length<=cap/\WW w g 0 l:=by
 obtain⟨g,cap,sp,hv,h1,h2,h3,hr⟩:=Xi h (List.length_pos_iff.2 af)
 refine⟨g,cap,hv,h1,h2,⟨hr.lt,fun k hk=> ?_⟩,_,hr⟩
 have ae:l.getD k ⟨0,[],[],[]⟩=l[k]:=by rw[ZjE,ZjF hk];rfl
 rw[ae]
 have hlen:(YY l).length=l.length*4:=by
  clear h hr h2 hv ae hk af
  induction l with
  |nil=>rfl
  |cons a l ih=>rw[show YY (a::l)=AcC a++YY l from by simp[YY],ZjI,ih];simp[AcC];omega
 have key:∀r u,r<4->(AcC l[k])[r]? =some u->w.cell? ⟨g,0+k*4+r,none⟩=some u:=fun r u ag hu=>by
  rw[Nat.zero_add]
  refine hr.cell ?_
  rw[ZjH (by rw[hlen];omega),ZbN l k hk r ag]
  exact hu
 exact⟨key 0 _ (by omega) rfl,key 1 _ (by omega) rfl,key 2 _ (by omega) rfl,key 3 _ (by omega) rfl⟩
theorem Z0B(w:World)(hg:o.guard=none)(s x:Operand)(ho:o.op=.call {callee:=.builtin .append,args:= #[s,x],argTypes:= #[86,86]})
  (base:Nat) (v:Value) (l:List Ac) (hs:a.eval s=v) (ae:Z0e w base v l) (p:Nat) (b:Ac) (hx:a.eval x=.slice (some ⟨p,0,none⟩) 1 1) (hc:Row w p 151 (AcC b)) (hb:base<=w.heap.size) (hl:l.length<=1000000)
  (hK:∀g cap w',Z0e w' base (.slice (some ⟨g,0,none⟩) (l.length+1) cap) (l++[b])->Fr (ZE v) w w'->(v.ownBlock=some g∨g=w.heap.size)->g<w'.heap.size->base<=g->wpList prog ops Q rest (a.put o.dst (.slice (some ⟨g,0,none⟩) (l.length+1) cap)) w'):wpList prog ops Q (o::rest) a w:=by
 refine Y6 w hg s x 86 151 ho underlying86 Z8B rfl (by omega) (by omega) base v l.length _ hs ae p 1 (AcC b) hx (by omega) (by omega) rfl hc (by simp[AcC,Value.oneCell']) hb hl ?_
 intro g cap w' h1 h2 h3 h4 h5
 refine hK g cap w' ?_ h2 h3 h4 h5
 unfold Z0e
 rw[ZjI,Z3L,ZbO]
 exact h1
theorem Zab(w:World)(hg:o.guard=none)(s x:Operand)(ho:o.op=.call {callee:=.builtin .append,args:= #[s,x],argTypes:= #[86,86]})
  (base:Nat) (v:Value) (l:List Ac) (hs:a.eval s=v) (ae:Z0e w base v l) (p:Nat) (b c:Ac) (hx:a.eval x=.slice (some ⟨p,0,none⟩) 2 2) (hc:Row w p 151 (AcC b++AcC c)) (hb:base<=w.heap.size) (hl:l.length<=1000000)
  (hK:∀g cap w',Z0e w' base (.slice (some ⟨g,0,none⟩) (l.length+2) cap) (l++[b,c])->Fr (ZE v) w w'->(v.ownBlock=some g∨g=w.heap.size)->g<w'.heap.size->base<=g->wpList prog ops Q rest (a.put o.dst (.slice (some ⟨g,0,none⟩) (l.length+2) cap)) w'):wpList prog ops Q (o::rest) a w:=by
 refine Y6 w hg s x 86 151 ho underlying86 Z8B rfl (by omega) (by omega) base v l.length _ hs ae p 2 (AcC b++AcC c) hx (by omega) (by omega) rfl hc (by simp[AcC,Value.oneCell']) hb hl ?_
 intro g cap w' h1 h2 h3 h4 h5
 refine hK g cap w' ?_ h2 h3 h4 h5
 unfold Z0e
 rw[ZjI,Z3L,show YY [b,c]=AcC b++AcC c from by simp[YY]]
 exact h1
def Z59(l:List Nat):List Value:=l.map fun(n:Nat)=>.int .i64 (n:Int)
def Z2W(w:World)(base:Nat)(v:Value)(l:List Nat):Prop:=w.ownsRow base 3 1 v l.length (Z59 l)
theorem Z6W(w:World)(hg:o.guard=none)(s x:Operand)(ho:o.op=.call {callee:=.builtin .append,args:= #[s,x],argTypes:= #[46,46]})
  (base:Nat) (v:Value) (l:List Nat) (hs:a.eval s=v) (ae:Z2W w base v l) (p:Nat) (b:Nat) (hx:a.eval x=.slice (some ⟨p,0,none⟩) 1 1) (hc:Row w p 3 [.int .i64 (b:Int)]) (hb:base<=w.heap.size) (hl:l.length<=1000000)
  (hK:∀g cap w',Z2W w' base (.slice (some ⟨g,0,none⟩) (l.length+1) cap) (l++[b])->Fr (ZE v) w w'->(v.ownBlock=some g∨g=w.heap.size)->g<w'.heap.size->base<=g->wpList prog ops Q rest (a.put o.dst (.slice (some ⟨g,0,none⟩) (l.length+1) cap)) w'):wpList prog ops Q (o::rest) a w:=by
 refine Y6 w hg s x 46 3 ho underlying46 Z7P rfl (by omega) (by omega) base v l.length _ hs ae p 1 [.int .i64 (b:Int)] hx (by omega) (by omega) rfl hc (by simp[Value.oneCell']) hb hl ?_
 intro g cap w' h1 h2 h3 h4 h5
 refine hK g cap w' ?_ h2 h3 h4 h5
 unfold Z2W Z59
 rw[ZjI,ZjZ]
 exact h1
end
section
open Go.RowKit
variable{L:List (Bool×ByteArray)}{g:Nat}{w:World}
def QH:List (Bool×ByteArray)->List Value
 |[]=>[]
 |p::l=>.bool p.1:: .string p.2::QH l
theorem JP:∀L:List (Bool×ByteArray),(QH L).length=L.length*2
 |[]=>rfl
 |p::l=>by simp[QH,JP l];omega
theorem Z1s:∀ (L:List (Bool×ByteArray)) (j:Nat) (h:j<L.length),(QH L)[j*2]? =some (.bool L[j].1)/\(QH L)[j*2+1]? =some (.string L[j].2)
 |p::l,0,_=>⟨rfl,rfl⟩
 |p::l,j+1,h=>by
  have:=Z1s l j (by simpa using h)
  have e:(j+1)*2=j*2+1+1:=by omega
  rw[e]
  exact this
theorem Zh2{o:Nat}(h:∀j u,(QH L)[j]? =some u->w.cell? ⟨g,o+j,none⟩=some u):Z2Z w (some ⟨g,o,none⟩) L:=fun j hj=>by
 have:=Z1s L j hj
 exact⟨g,o,rfl,h _ _ this.1,h _ _ this.2⟩
theorem ZcP:(prog.info? 204).map (fun i=>(i.zero,i.size,i.bytes))=some (some (.agg #[.bool false,.string ⟨#[]⟩]),2,24):=by kernel_rfl
theorem Z9S(i0:TypeInfo)(hi:prog.info? 204=some i0)(hz:i0.zero=some (.agg #[.bool false,.string ⟨#[]⟩]))(hs:i0.size=2)(hb:i0.bytes=24)(n:Nat)(hn:n<=1000)(W:World):
  (Instr.makeSlice 202 (.int .i64 (n:Int)) (.int .i64 (n:Int))).run prog W=.ok (.slice (some ⟨W.heap.size,0,none⟩) n n) (W.alloc (.cells (QH (List.replicate n (false,⟨#[]⟩))).toArray 204)):=by
 have h:=run_make (P:=prog) W 202 204 i0 (.agg #[.bool false,.string ⟨#[]⟩]) underlying202 hi hz .i64 .i64 (n:Int) (n:Int) (by omega) (by omega) (by rw[hb];omega) (by omega)
 have e:madeCells (Value.agg #[.bool false,.string ⟨#[]⟩]).cells (((n:Nat):Int).toNat*i0.size)=(QH (List.replicate n (false,⟨#[]⟩))).toArray:=by
  rw[hs,Int.toNat_natCast]
  apply Array.ext
  ·simp[madeCells,JP]
  ·intro i h1 h2
   have hl:i<n*2:=by simpa[JP] using h2
   have hx:=Z1s (List.replicate n (false,(⟨#[]⟩:ByteArray))) (i / 2) (by simp;omega)
   have e1:(QH (List.replicate n (false,(⟨#[]⟩:ByteArray)))).toArray[i]=if i%2=0 then Value.bool false else .string ⟨#[]⟩:=by
    have e2:(QH (List.replicate n (false,(⟨#[]⟩:ByteArray))))[i]? =some (if i%2=0 then Value.bool false else .string ⟨#[]⟩):=by
     by_cases hm:i%2=0
     ·rw[if_pos hm,show i=i / 2*2 from by omega,hx.1];simp
     ·rw[if_neg hm,show i=i / 2*2+1 from by omega,hx.2];simp
    rw[ZjF (by simpa using h2)] at e2
    simpa using e2
   rw[e1]
   rcases Nat.mod_two_eq_zero_or_one i with hm|hm<;>simp[madeCells,Value.cells,hm]
 rw[e] at h
 simpa using h
theorem Z6G:∀ (L:List (Bool×ByteArray)) (j:Nat) (q:Bool×ByteArray),((QH L).set (j*2) (.bool q.1)).set (j*2+1) (.string q.2)=QH (L.set j q)
 |[],j,q=>by simp[QH]
 |p::l,0,q=>by simp[QH]
 |p::l,j+1,q=>by
  have e:(j+1)*2=j*2+1+1:=by omega
  rw[e]
  simp only[QH,List.set_cons_succ]
  rw[Z6G l j q]
theorem Row.pcs(h:Row w g 204 (QH L)):Z2Z w (some ⟨g,0,none⟩) L:=Zh2 fun j u hj=>by
 rw[Nat.zero_add];exact h.cell hj
theorem Row.setPc(h:Row w g 204 (QH L))(j:Nat)(b:Bool)(s:ByteArray):Row ((w.setCell ⟨g,j*2,none⟩ (.bool b)).setCell ⟨g,j*2+1,none⟩ (.string s)) g 204 (QH (L.set j (b,s))):=by
 have:=(h.set (j*2) (.bool b)).set (j*2+1) (.string s)
 rw[Z6G L j (b,s)] at this
 exact this
end
section
open Go.RowKit
theorem Zah(r c ga oa n cap ai len:Nat)(la:Option Addr)(A:Nat->Nat->BitVec 8)(cols:List ByteArray)(w:World)(r1:1<=r)(r2:r<=255)(c1:1<=c)(c2:c<=255)(hn:n=r*c)(ak:n<=cap)(ag:cap<=9223372036854775807)(hlen:cols.length=c)(aj:∀i,i<cols.length->(cols.getD i ⟨#[]⟩).size=len)(hl:len<=100000)
  (ha:Qu w ga oa r c A) (hL:Zw w la cols):
  Calls prog 162 #[.agg #[.int .i64 r,.int .i64 c,.slice (some ⟨ga,oa,none⟩) n cap],.slice la c ai] w fun e w'=>∃g af,e=.returned (.tuple #[.slice (some ⟨g,0,none⟩) r af,.nilIface])/\(Zw w' (some ⟨g,0,none⟩) (Qn A cols len c r)/\r<=af/\af<=9223372036854775807)/\w.heap.size<=g/\Below w.heap.size w w':=by
 obtain⟨lg,lo,rfl,_,ah⟩:=hL.open (by omega)
 refine(Z32 r c ga oa n cap lg lo ai A cols w r1 r2 c1 c2 hn ak ag hlen (fun i hi=>by rw[aj i hi];exact hl) ha ah).mono ?_
 rintro e w' ⟨h|h,hb⟩
 ·obtain⟨⟨i,hi,aw⟩,_⟩:=h
  exact absurd (by rw[aj i hi,aj 0 (by omega)]) aw
 ·obtain⟨aq,v,rfl,ae⟩:=h
  rw[aj 0 (by omega),JT] at ae
  rcases ae.2 with ⟨_,h0⟩|⟨g2,al,cur,rfl,au,_⟩
  ·omega
  ·have hc:=Z9x ae
   exact⟨_,_,rfl,⟨Zw.own ae,hc.1,Zk1 hc.2.1 (by decide)⟩,au,hb⟩
theorem Zh9(k m ah len:Nat)(la:Option Addr)(cols:List ByteArray)(w:World)(h1:1<=k)(h2:k+m<=255)(hlen:cols.length=k)(au:∀i,i<cols.length->(cols.getD i ⟨#[]⟩).size=len)(hl:len<=100000)(hL:Zw w la cols):
  Calls prog 121 #[.int .i64 k,.int .i64 m,.slice la k ah] w fun e w'=>∃g ae,e=.returned (.tuple #[.slice (some ⟨g,0,none⟩) (k+m) ae,.nilIface])/\(Zw w' (some ⟨g,0,none⟩) (Qn (gen k) cols len k (k+m))/\k+m<=ae/\ae<=9223372036854775807)/\w.heap.size<=g/\Below w.heap.size w w':=by
 obtain⟨K,hK⟩:∃q,q=k+m:=⟨_,rfl⟩
 obtain⟨qa,al⟩:∃q,q=K*k:=⟨_,rfl⟩
 have ay:qa<=255*255:=by rw[al];exact Nat.mul_le_mul (by omega) (by omega)
 have S0:=Zka (Bun.start w)
 have HK:=Zka hK
 have aq:=Zka al
 have ai:=Zka hlen
 have aw:=Zka au
 have HL:=Zka hL
 have az:k<=K:=by omega
 have b9:K<=255:=by omega
 rw[<-hK]
 clear hK al hlen au hL
 go_enter func121,ntmps121
 go_wp2_with (first
  |(go_at_call 159;have h9:=S0.out;clear S0;refine(Z7j k m _ h1 h2).mono ?_;rintro e w1 ⟨ga,he,hg,af,hb⟩;have ax:e=.returned (.tuple #[.agg #[.int .i64 K,.int .i64 k,.slice (some ⟨ga,0,none⟩) qa qa],.nilIface]):=(by rw[he,aq.out,HK.out];rfl);subst ax;clear he;rw[<-HK.out] at af;have ak:=((h9.after hb).add (fun _ h=>(Qu.of_row0 af).after h)).box 250 [.int .i64 K,.int .i64 k,.slice (some ⟨ga,0,none⟩) qa qa];obtain⟨x0,x1,x2⟩:=Zd ak.here.2;have S1:=Zka ak;clear h9 hb af hg ak)
  |(go_at_call 162;have h9:=S1.out;clear S1;refine(Zah K k ga 0 qa qa ah len la (gen k) cols _ (by omega) (by omega) (by omega) (by omega) aq.out Zk8 (by omega) ai.out aw.out hl h9.here.1.2 (HL.out.after h9.bel)).mono ?_;rintro e w2 ⟨g5,aj,rfl,ht,ag,hb⟩;have S2:=Zka (Zkb ht (Zkb (Zk1 h9.bel.size ag) (h9.after hb).bel));clear h9 hb ht ag))
 go_ret2
 exact⟨g5,aj,rfl,S2.out.1,S2.out.2.1,S2.out.2.2⟩
theorem Zci(k m:Nat)(t:ByteArray)(w:World)(h1:1<=k)(h2:k+m<=255)(ht:t.size<=50000):
  Calls prog 75 #[.int .i64 k,.int .i64 m,.string t] w fun e w'=>∃g ah,e=.returned (.tuple #[.slice (some ⟨g,0,none⟩) (k+m) ah,.nilIface])/\(Zw w' (some ⟨g,0,none⟩) (Zl k m t)/\k+m<=ah/\ah<=9223372036854775807)/\w.heap.size<=g/\Below w.heap.size w w':=by
 obtain⟨n,hn⟩:∃n,n=ZR k t.size:=⟨_,rfl⟩
 obtain⟨N,hN⟩:∃N,N=k*n:=⟨_,rfl⟩
 have n1:t.size<=N:=by rw[hN,hn];exact Z0c k t.size h1
 have n2:N<=t.size+k:=by rw[hN,hn];exact ZbG k t.size h1
 have n3:n<=t.size+1:=by rw[hn];exact Z2T k t.size h1
 obtain⟨z,hz⟩:∃z,z=N-t.size:=⟨_,rfl⟩
 have e1:(k:Int)*(n:Int)=(N:Int):=by rw[hN];simp
 have e2:(N:Int)- (t.size:Int)=(z:Int):=by omega
 have z1:z<=255:=by omega
 obtain⟨Z,hZ⟩:∃Z,Z=Wv z:=⟨_,rfl⟩
 have z2:Z.size=z:=by rw[hZ,XM]
 have z3:t.size+Z.size<=9223372036854775807:=by omega
 obtain⟨T,hT⟩:∃T,T=t++Z:=⟨_,rfl⟩
 have t1:T.size=N:=by rw[hT,ByteArray.size_append,z2];omega
 have t2:T=XZ t N:=by unfold XZ;rw[hT,hZ,hz]
 obtain⟨K,hK⟩:∃K,K=k+m:=⟨_,rfl⟩
 obtain⟨j0,az,b9,bf,bg⟩:=info_parts XK
 unfold Zl
 rw[<-hn,<-hN,<-t2,<-hK]
 have H:=Zka (Z0I (c:=0) h1 h2)
 have HN:=Zka hN
 have aw:=Zka hn
 have HZ:=Zka hZ
 have HT:=Zka hT
 have ay:=Zka t1
 have HK:=Zka hK
 have T1:N<=T.size:=by omega
 have T2:T.size<=N:=by omega
 clear hn hN hz hZ z2 hT t1 t2 hK
 go_enter func75,ntmps75
 go_wp2_with (first
  |(go_at_call 119;refine(Ju k m 0 _).mono ?_;rintro e w1 ⟨rfl,rfl⟩;rw[show Wl (k:Int) (m:Int) 0=true from H.out])
  |(go_at_call 113;refine(Z0M k t.size _ h1 (by omega) (by omega)).mono ?_;rintro e w1 ⟨rfl,rfl⟩;rw[<-aw.out])
  |(go_at_call 120;refine(Tryz.strings_Repeat ⟨#[0]⟩ z _ (by omega) (by show 1*z<=_;omega)).mono ?_;rw[Ji,<-HZ.out];rintro e w2 ⟨rfl,hb⟩;have S2:=Zka hb;clear hb))
 rw[<-HT.out]
 go_loopw [10,34] (fun fst ii wr=>∃i:Nat,i<=k/\ii=.int .i64 i/\wr.ownsRow w2.heap.size 9 1 fst i (Z6 (Wj T n i))/\Below w2.heap.size w2 wr) (fun _ ii _=>k- (intOf ii).toNat)
 case atStart=>exact⟨0,by omega,rfl,World.ownsRow_nil _ _ _ _,Zk9⟩
 case round=>
  obtain⟨i,hi,rfl,af,ae⟩:=hrel
  by_cases au:i<k
  ·obtain⟨q,hq⟩:∃q,q=i*n:=⟨_,rfl⟩
   have q1:q+n<=N:=by
    have h3:(i+1)*n<=k*n:=Nat.mul_le_mul_right n au
    rw[Nat.add_mul,Nat.one_mul] at h3
    rw[hq,HN.out];exact h3
   have q2:(i:Int)*(n:Int)=(q:Int):=by rw[hq];simp
   have q3:((i:Int)+1)*(n:Int)=((q+n:Nat):Int):=by rw[Int.add_mul,q2];simp
   have q4:(i+1)*n=q+n:=by rw[Nat.add_mul,Nat.one_mul,hq]
   have hz:=ae.size
   have S3:=Zka (Zkb af ae)
   have HQ:=Zka hq
   have ax:=Zka q4
   clear af ae hq q4
   go_wp2_with (at_builtin;refine wpList_append_own _ rfl (.tmp 37) (.tmp 47) 96 rfl w2.heap.size 9 j0 _ 1 16 underlying96 az b9 bf bg rfl (by omega) _ i (Z6 (Wj T n i)) rfl (S3.out.1.alloc _) ⟨wr.heap.size,0,none⟩ 1 1 [.string (T.extract q (q+n))] rfl rfl (World.news_of_block (cs:= #[.string (T.extract q (q+n))]) (t:=9) (fr:=(0,0)) (heap_alloc_new wr _)) (by simp[Value.oneCell']) (by unfold maxLen;omega) (by omega) (Zk1 hz (by simp)) ?_;intro v' w7 ag aj ak;clear ak;have S4:=Zka (Zkb ag (Xb (S3.out.1.alloc _) (S3.out.2.alloc hz _) (Zk1 hz (by simp)) aj));clear ag aj)
   go_roundw
   case measure=>simp[intOf];omega
   case rel=>
    refine⟨i+1,by omega,by go_num,?_,S4.out.2⟩
    rw[Z7A,<-HQ.out,ax.out]
    exact S4.out.1
  ·obtain rfl:k=i:=by omega
   rcases af.2 with ⟨_,h0⟩|⟨g3,al,cur,rfl,_⟩
   ·omega
   ·have hs:=Zw.own af
    have S3:=Zka (Zkb hs (S2.out.trans (ae.mono S2.out.size)))
    clear af ae hs au hi
    go_wp2_with (go_at_call 121;have h9:=S3.out;clear S3;refine(Zh9 k m al n _ (Wj T n k) _ h1 h2 (YT _ _ _) (Z4e T n k (by rw[ay.out,HN.out])) (by omega) h9.1).mono ?_;rw[<-HK.out];rintro e w8 ⟨g8,aq,rfl,hs,ai,hb⟩;have S4:=Zka (Zkb hs (Zkb (Zk1 h9.2.size ai) (h9.2.trans (hb.mono h9.2.size))));clear h9 hs hb ai)
    go_ret2
    exact⟨g8,aq,rfl,S4.out.1,S4.out.2.1,S4.out.2.2⟩
end
section
open Go.RowKit Go.ChangeShapes Go.WideShapes Go.Deep
variable{a:Option Addr}{cap fuel len n:Nat}
structure En where
 key:Int
 val:ByteArray
 gone:Bool
structure En.ok(x:En):Prop where
 k0: -9223372036854775808<=x.key
 k1:x.key<=9223372036854775807
 v:x.val.size<=maxLen
def En.cells(x:En):List Value:=[.int .i64 x.key,.string x.val,.bool x.gone]
def Z0S(w:World)(a:Option Addr)(l:List En):Prop:=∀i (h:i<l.length),l[i].ok/\∃b o,a=some ⟨b,o,none⟩/\b<w.heap.size/\∀j v,l[i].cells[j]? =some v->w.cell? ⟨b,o+i*3+j,none⟩=some v
theorem Z0S.after{w w':World}{l:List En}(h:Z0S w a l)(hb:Below w.heap.size w w'):Z0S w' a l:=fun i hi=>by
 obtain⟨h1,b,o,h2,h3,h4⟩:=h i hi
 exact⟨h1,b,o,h2,Zk0 h3 hb.size,fun j v hj=>(hb.cell (p:=⟨b,o+i*3+j,none⟩) h3).trans (h4 j v hj)⟩
def Z43(w:World)(a:Option Addr)(ll:List (List En)):Prop:=∀r (h:r<ll.length),∃b o A C,a=some ⟨b,o,none⟩/\b<w.heap.size/\w.cell? ⟨b,o+r,none⟩=some (.slice A ll[r].length C)/\ll[r].length<=C/\C<=maxLen/\Z0S w A ll[r]
theorem Z8O{w:World}{b o:Nat}{v:Value}(h:w.cell? ⟨b,o,none⟩=some v):b<w.heap.size:=ZjG w ⟨b,o,none⟩ h
section
variable{H:Type}{enc:TypeId×Value->H}{W:World}
theorem Zfp{t:TypeId}{fs:Array Field}{cs:List Value}{x:DataW H×List MemPlace}(ht:prog.underlying t=some (.struct fs))(ae:oneCellFields prog fs=true)(hC:prog.cellsOf t=fs.size)
  (h:DataW.trod enc prog W 0 (fun _=>true) true fuel t cs=some x):cs.length=fs.size/\∀ (j:Nat) (T:TypeId),(fs.map (·.type))[j]? =some T->∃ (v:Value) (y:DataW H×List MemPlace) (n:Nat),cs[j]? =some v/\DataW.trod enc prog W 0 (fun _=>true) true n T [v]=some y:=by
 obtain⟨xs,n,_,_,hl,hx,hf⟩:=DataW.trod_struct ht h
 refine⟨hl.trans hC,fun j T hj=> ?_⟩
 rw[Array.getElem?_map,Option.map_eq_some_iff] at hj
 obtain⟨f,hj,rfl⟩:=hj
 obtain⟨ho,hk⟩:=hone_of ae j f hj
 have ag:j<fs.size:=(ZjQ.1 hj).1
 have h1:=hf j f hj
 have af:j<cs.length:=by rw[hl,hC];exact ag
 rw[ho,hk,List.drop_eq_getElem_cons af,ZjF (by omega)] at h1
 exact⟨cs[j],_,n,ZjF af,h1⟩
theorem ZiR{v:Value}{y:DataW H×List MemPlace}(h:DataW.trod enc prog W 0 (fun _=>true) true n 3 [v]=some y):∃m:Int,v=.int .i64 m/\ -9223372036854775808<=m/\m<=9223372036854775807:=by
 obtain⟨m,ae,_,hw⟩:=DataW.trod_int underlying3 h
 simp[Lit.wf,IntKind.min,IntKind.max,IntKind.signed,IntKind.bits] at hw
 exact⟨m,List.singleton_inj.1 ae,by omega,by omega⟩
theorem ZeP{v:Value}{y:DataW H×List MemPlace}(h:DataW.trod enc prog W 0 (fun _=>true) true n 9 [v]=some y):∃s:ByteArray,v=.string s/\s.size<=maxLen:=by
 obtain⟨s,ae,_,hw⟩:=DataW.trod_string underlying9 h
 exact⟨s,List.singleton_inj.1 ae,hw⟩
theorem Zhe{v:Value}{y:DataW H×List MemPlace}(h:DataW.trod enc prog W 0 (fun _=>true) true n 4 [v]=some y):∃b:Bool,v=.bool b:=by
 obtain⟨b,ae,_⟩:=DataW.trod_bool underlying4 h
 exact⟨b,List.singleton_inj.1 ae⟩
theorem Zfl{cs:List Value}{x:DataW H×List MemPlace}(h:DataW.trod enc prog W 0 (fun _=>true) true fuel 74 cs=some x):∃e:En,cs=e.cells/\e.ok:=by
 obtain⟨fs,af,ae,hC,hT⟩:∃fs,prog.underlying 74=some (.struct fs)/\oneCellFields prog fs=true/\prog.cellsOf 74=fs.size/\fs.map (·.type)= #[3,9,4]:=⟨_,underlying74,by kernel_rfl,by kernel_rfl,by kernel_rfl⟩
 obtain⟨hl,hf⟩:=Zfp af ae hC h
 have hs:fs.size=3:=by have:=congrArg Array.size hT;simpa using this
 rw[hT] at hf
 rw[hs] at hl
 match cs,hl with
 |[c0,c1,c2],_=>
  obtain⟨_,_,_,e0,h0⟩:=hf 0 _ rfl
  obtain⟨_,_,_,e1,h1⟩:=hf 1 _ rfl
  obtain⟨_,_,_,e2,h2⟩:=hf 2 _ rfl
  obtain rfl:c0=_:=Option.some.inj e0
  obtain rfl:c1=_:=Option.some.inj e1
  obtain rfl:c2=_:=Option.some.inj e2
  obtain⟨m0,rfl,a0,b0⟩:=ZiR h0
  obtain⟨s,rfl,hs⟩:=ZeP h1
  obtain⟨b,rfl⟩:=Zhe h2
  exact⟨⟨m0,s,b⟩,rfl,⟨a0,b0,hs⟩⟩
theorem Zcj{y:DataW H×List MemPlace}(hf:DataW.trod enc prog W 0 (fun _=>true) true fuel 29 [.slice a len cap]=some y):∃l:List En,len=l.length/\len<=cap/\cap<=maxLen/\Z0S W a l:=by
 rcases open_slice underlying29 hf with ⟨af,_⟩|⟨x,l,c,m,n,D,Pl,af,_,hl,hm,al,_,hi⟩
 ·simp at af
  obtain⟨rfl,rfl,rfl⟩:=af
  exact⟨[],rfl,Zk8,Nat.zero_le _,fun i hi=>by simp at hi⟩
 ·simp at af
  obtain⟨rfl,rfl,rfl⟩:=af
  simp only[if_true] at al
  subst al
  have h3:prog.cellsOf 74=3:=by kernel_rfl
  rw[h3] at hi
  have hex:∀i,i<len->∃e:En,e.ok/\∀j v,e.cells[j]? =some v->W.cell? ((x.add (i*3)).add j)=some v:=by
   intro i ak
   obtain⟨az,hc,ht⟩:=hi i (by omega)
   obtain⟨e,rfl,ai⟩:=Zfl ht
   obtain⟨_,aw,aq⟩:=World.cells?_some hc
   refine⟨e,ai,fun j v hj=> ?_⟩
   obtain⟨ay,_⟩:=List.getElem?_eq_some_iff.1 hj
   rw[<-hj]
   exact aq j (by rw[<-aw];exact ay)
  have:Inhabited En:=⟨⟨0,⟨#[]⟩,false⟩⟩
  obtain⟨f,aj⟩:=choose_lt (α:=En) hex
  refine⟨(List.range len).map f,by simp,hl,hm,fun i ak=> ?_⟩
  have ah:i<len:=by simpa using ak
  have e0:((List.range len).map f)[i]=f i:=by simp
  rw[e0]
  obtain⟨ai,ae⟩:=aj i ah
  have au:=ae 0 _ rfl
  have ax:=(aj 0 (by omega)).2 0 _ rfl
  obtain⟨b,o,spot⟩:=x
  have ag:spot=none:=by simpa[Addr.add] using World.cell?_spot ax
  subst ag
  have ea:∀j,((⟨b,o,none⟩:Addr).add (i*3)).add j=⟨b,o+i*3+j,none⟩:=by
   intro j
   rw[add_add]
   unfold Addr.add
   by_cases h:i*3+j=0
   ·rw[if_pos h,show o+i*3+j=o from by omega]
   ·rw[if_neg h,<-Nat.add_assoc]
  refine⟨ai,b,o,rfl,?_,fun j v hj=> ?_⟩
  ·have:=au
   rw[ea] at this
   exact Z8O this
  ·rw[<-ea];exact ae j v hj
theorem entss_open{d:DataW H}{p:List MemPlace}(h:DataW.Trod enc prog W 0 (fun _=>true) true 22 (.slice a len cap) d p):∃ll:List (List En),len=ll.length/\len<=cap/\cap<=maxLen/\Z43 W a ll:=by
 obtain⟨fuel,hf⟩:=h
 rcases open_slice1 underlying22 (by kernel_rfl) hf with ⟨ae,_⟩|⟨x,l,c,m,n,Vv,D,Pl,ae,_,hl,hm,aj,_,hi⟩
 ·simp[Value.cells] at ae
  obtain⟨rfl,rfl,rfl⟩:=ae
  exact⟨[],rfl,Zk8,Nat.zero_le _,fun i hi=>by simp at hi⟩
 ·simp[Value.cells] at ae
  obtain⟨rfl,rfl,rfl⟩:=ae
  simp only[if_true] at aj
  subst aj
  have hex:∀i,i<len->∃y:Option Addr×Nat×List En,Vv i=.slice y.1 y.2.2.length y.2.1/\y.2.2.length<=y.2.1/\y.2.1<=maxLen/\Z0S W y.1 y.2.2:=by
   intro i ai
   obtain⟨_,ht⟩:=hi i (by omega)
   obtain⟨A,L,C,hv⟩:∃A L C,Vv i=.slice A L C:=by
    rcases open_slice underlying29 ht with ⟨ae,_⟩|⟨x,l,c,m,n,D,Pl,ae,_⟩
    ·exact⟨_,_,_,List.singleton_inj.1 ae⟩
    ·exact⟨_,_,_,List.singleton_inj.1 ae⟩
   rw[hv] at ht
   obtain⟨l,rfl,h1,h2,h3⟩:=Zcj ht
   exact⟨(A,C,l),hv,h1,h2,h3⟩
  have:Inhabited (Option Addr×Nat×List En):=⟨(none,0,[])⟩
  obtain⟨f,al⟩:=choose_lt (α:=Option Addr×Nat×List En) hex
  refine⟨(List.range len).map fun i=>(f i).2.2,by simp,hl,hm,fun i ai=> ?_⟩
  have ah:i<len:=by simpa using ai
  have e0:((List.range len).map fun i=>(f i).2.2)[i]=(f i).2.2:=by simp
  rw[e0]
  obtain⟨h1,h2,h3,h4⟩:=al i ah
  have ag:=(hi i (by omega)).1
  have ak:=(hi 0 (by omega)).1
  obtain⟨b,o,spot⟩:=x
  have af:spot=none:=by simpa[Addr.add] using World.cell?_spot ak
  subst af
  have ea:(⟨b,o,none⟩:Addr).add i=⟨b,o+i,none⟩:=by unfold Addr.add;by_cases h:i=0<;>simp[h]
  rw[ea,h1] at ag
  exact⟨b,o,(f i).1,(f i).2.1,rfl,Z8O ag,ag,h2,h3,h4⟩
end
end
end Go.Proofs.YthppfllkocphbaaGreatDoor
