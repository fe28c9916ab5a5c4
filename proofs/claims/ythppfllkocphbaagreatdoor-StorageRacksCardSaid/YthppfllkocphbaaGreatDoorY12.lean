/- Part 13: lemmas about what the program computes. -/
import Derived.Deep.Fields
import Derived.Deep.Slices
import Derived.Test.YthppfllkocphbaaGreatDoorY11
namespace Go.Proofs.YthppfllkocphbaaGreatDoor
set_option linter.unusedVariables false
set_option linter.unusedSimpArgs false
set_option maxHeartbeats 25600000
set_option maxRecDepth 100000
open Tryz Go.RowKit
section
open Go.Maps Go.WideMaps
theorem VG{l:List Nat}{n:Nat}(h:l.Pairwise (· < ·))(J:∀x∈l,x<n):l.length<=n:=by have F:l.Nodup:=h.imp λC=>Nat.ne_of_lt C;have M:=F.length_le_of_subset (l₂:=List.range n) (λx hx=>List.mem_range.2 (J x hx));simp_all
structure Iy(B p d s j:Nat)(L:List Nat)(ops:List DOp)(S1:Sto)(P:Pw)(D:Dk)(w w':World):Prop where
 ran:Ran B p d 800 L [s,j] ops P D w w'
 ok:(Z2 ops P D).1=0->WG w' s j d S1
structure CmS(B p d:Nat)(P:Pw)(D:Dk)(L:List Nat)(s j:Nat)(S:Sto)(q db fb ga oa na ca gu sb:Nat)(acts:List Ac)(dk:Dir)(fk:Z1)(n1 n2:Nat)(w wr:World):Prop where
 pl:PlA wr q db fb ga oa na ca (.slice (some ⟨gu,0,none⟩) S.used.length S.used.length) acts dk fk n1 n2
 st:Row wr s 157 [.pointer (some ⟨d,0,none⟩),.pointer (some ⟨j,0,none⟩),.int .i64 S.half,.map (some sb),.slice (some ⟨gu,0,none⟩) S.used.length S.used.length,.bool false]
 jn:JAt wr j d S.j
 sd:ZE wr sb S.dir.length S.dir
 us:Row wr gu 4 (S.used.map .bool)
 bel:Below w.heap.size w wr
 ndb:w.heap.size<=db
 nfb:w.heap.size<=fb
section
variable{B p d:Nat}{P:Pw}{D:Dk}{L:List Nat}{s j:Nat}{S:Sto}{q db fb ga oa na ca gu sb:Nat}{acts:List Ac}{dk:Dir}{fk:Z1}{n1 n2:Nat}{w wr:World}
theorem CmS.after(h:CmS B p d P D L s j S q db fb ga oa na ca gu sb acts dk fk n1 n2 w wr){w':World}(C:Below wr.heap.size wr w'):CmS B p d P D L s j S q db fb ga oa na ca gu sb acts dk fk n1 n2 w w':=⟨h.pl.after C,h.st.after C,JAt.after h.jn C,h.sd.after C,h.us.after C,h.bel.trans (C.mono h.bel.size),h.ndb,h.nfb⟩
theorem CmS.plan(h:CmS B p d P D L s j S q db fb ga oa na ca gu sb acts dk fk n1 n2 w wr){w':World}{M:Dir}{O:Z1}{U Z:Nat}(hp:PlA w' q db fb ga oa na ca (.slice (some ⟨gu,0,none⟩) S.used.length S.used.length) acts M O U Z)(C:Fr [db,fb] wr w')(ae:sb<w.heap.size):CmS B p d P D L s j S q db fb ga oa na ca gu sb acts M O U Z w w':=by
 have F:∀{g:Nat} {et:TypeId} {l:List Value},Row wr g et l->g∉[db,fb]:=λhl hm=>by
  simp at hm;rcases hm with rfl|rfl
  .obtain⟨fv,m1,_⟩:=h.pl.dir;obtain⟨es,cl,J⟩:=m1.block;exact Yh hl J
  .obtain⟨es,cl,J⟩:=h.pl.fsh.block;exact Yh hl J
 refine⟨hp,h.st.fr C (F h.st),Row.fr h.jn C (F h.jn),h.sd.fr C ?_ (λk hk l hl=>F hl hk),h.us.fr C (F h.us),h.bel.trans (C.below h.bel.size (λi hi=> ?_)),h.ndb,h.nfb⟩
 .intro hm;simp at hm;have h1:=h.ndb;have h2:=h.nfb;omega
 .simp at hi;have h1:=h.ndb;have h2:=h.nfb;omega
end
theorem Lu{B p d:Nat}{P:Pw}{D:Dk}{L:List Nat}{s j:Nat}{S:Sto}{ga oa na ca gu sb:Nat}{acts:List Ac}{w:World}(hs:Row w s 157 [.pointer (some ⟨d,0,none⟩),.pointer (some ⟨j,0,none⟩),.int .i64 S.half,.map (some sb),.slice (some ⟨gu,0,none⟩) S.used.length S.used.length,.bool false])(hj:JAt w j d S.j)(F:ZE w sb S.dir.length S.dir)(hu:Row w gu 4 (S.used.map .bool))(ha:Aj w ga oa acts)(C:na=acts.length){W:World}{q db fb:Nat}(h:Below w.heap.size w W)(U:ZE W db S.dir.length S.dir)(Z:ZA W fb 0 (λ_=>none))(hq:Row W q 167 [.map (some db),.map (some fb),.slice (some ⟨ga,oa,none⟩) na ca,.slice (some ⟨gu,0,none⟩) S.used.length S.used.length])(J:w.heap.size<=db)(M:w.heap.size<=fb)(O:db≠fb):CmS B p d P D L s j S q db fb ga oa na ca gu sb acts S.dir [] S.dir.length 0 w W:=by have hg:=ha.1;exact⟨⟨hq,U,Z.congr (λ_=>rfl),ha.after h,C,O,by omega,by omega⟩,hs.after h,JAt.after hj h,F.after h,hu.after h,h,J,M⟩
theorem PlA.frT{q db fb ga oa na ca:Nat}{us:Value}{acts:List Ac}{dir:Dir}{f:Z1}{n1 n2:Nat}{wr w':World}(h:PlA wr q db fb ga oa na ca us acts dir f n1 n2){Y:List Nat}{ts:List TypeId}(C:Fr Y wr w')(F:Z8 wr Y ts)(U:197∉ts)(Z:167∉ts)(M:ga∉Y):PlA w' q db fb ga oa na ca us acts dir f n1 n2:=by
 refine⟨h.row.fr C (F.row_ne h.row Z),h.dir.fr C ?_ (λk hk l hl=>F.row_ne hl U hk),h.fsh.fr C ?_,h.ard.fr C M,h.many,h.ne,h.nag⟩
 .obtain⟨fv,m1,_⟩:=h.dir;obtain⟨es,O,J⟩:=m1.block;exact F.map_ne J
 .obtain⟨es,O,J⟩:=h.fsh.block;exact F.map_ne J
theorem Z1l{B p d:Nat}{P:Pw}{D:Dk}{L:List Nat}{j:Nat}{J:Jn}{w:World}(h:PD B w p d 800 P D L)(C:JAt w j d J):Z8 w ([j]++p::L) (225::Di):=Z8.cons C (by simp) (h.typed.mono (λ_ hi=>hi) (λe he=>Z5n _ he))
theorem DZ(B p d:Nat)(P:Pw)(D:Dk)(L:List Nat)(s j ga oa na ca:Nat)(S:Sto)(recs:List Rec)(R:Nat->ByteArray)(acts:List Ac)(dir:Dir)(f:Z1)(w:World)(h:PD B w p d 800 P D L)(hB:B<=w.heap.size)(j9:WG w s j d S)(fu:B<=s)(fa:B<=j)(iu:WD w ga oa acts)(iy:na=acts.length)(ef:na<=ca)(hi:YN 800 100 R S recs)(ah:S.plan acts=some (dir,f))(hr:Fi S dir f)(hw:∀a∈acts,a.wrong=false)(ff:acts≠[])(jg:acts.length<=12)(dc:D.wait.length<=1000)(ht:Ty w)(hg:0<B)(iw:S.j.epoch<=2000000000)(j7:S.dir.length<=10000):Calls prog 38 #[.pointer (some ⟨s,0,none⟩),.slice (some ⟨ga,oa,none⟩) na ca] w (Ans w.heap.size (Z2 (S.ops acts dir f) P D).1 (Iy B p d s j L (S.ops acts dir f) (S.done dir f) P D w)):=by
 have au:=hi.ok;have fo:=YD R au hi.used hw ah;obtain⟨d0,cj,bq⟩:∃d0,Qi acts 0 S.dir []=some (d0,f)/\Yn (Wu S.used) f d0=some dir:=by
  unfold Sto.plan at ah;split at ah
  .rename_i d1 f1 h1;split at ah
   .rename_i d2 h2;simp only[Z5e,Prod.mk.injEq] at ah;obtain⟨rfl,rfl⟩:=ah;exact⟨d1,h1,h2⟩
   .cases ah
  .cases ah
 obtain⟨o1,o2,o3⟩:=N9 hw cj (by simp) (by simp) (by simp);simp only[Nat.zero_add] at o2;have ey:f.length<=12:=by have h9:=VG o1 (n:=acts.length) (λx hx=>by obtain⟨y,hy,rfl⟩:=List.mem_map.1 hx;exact o2 y hy);rw[Z5i] at h9;omega
 have fg:Fg 800 100 S.dir acts S.dir []:=⟨au.sorted,au.name,au.apart,λi hi=>hi,by simp,by simp,λm e hm _=>au.get hm⟩;obtain⟨p1, -⟩:=KG (R:=R) acts 0 rfl fg hw cj;have ia:∀x∈f,∃e,d0.get x.1=some e/\e.runs=[]/\e.size<=12000/\e.sum<4294967296:=λx hx=>by obtain⟨e,k1,k2,k3,k4,k5,k6⟩:=p1.fresh x hx;exact⟨e,k1,k2,k5,by rw[k4];exact Gn _⟩
 have ig:S.used.length=800:=by rw[hi.used];unfold Q6;simp
 have jc:=Z5F ig;have ja:S.used.length<=100000:=by omega
 clear ig;have bh:∀x∈f,x.2<=100000:=λx hx=>by have:=o2 x hx;omega
 obtain⟨sb,uv,hs,hj,dj,gu,rfl,hu⟩:=j9;have aq:sb<w.heap.size:=by obtain⟨fv,m1,_⟩:=dj;exact m1.lt
 have jq:1<=acts.length:=by
  cases acts with
  |nil=>exact absurd rfl ff
  |cons a r=>simp
 obtain⟨b8,ju,ai⟩:=iu;have bg:ga∉p::L:=h.row_ne ai (by decide) (by decide) (by decide) (by decide);have c3:=hs.cell (j:=3) rfl;have c4:=hs.cell (j:=4) rfl;have c5:=hs.cell (j:=5) rfl;have F:=Z5O h hB hs hj dj hu bg;have O:=Z5O o1 o3 ia bh fo hr p1;have HW:=Z5K hw cj bq;have HA:=Z5J b8 ai;have U:=Z5O hi au fu fa ht hg aq;have jh:=ai.lt;subst iy;clear h hB hs hj dj hu bg o1 o2 o3 ia bh fo hr hw cj bq b8 ai hi au fu fa ht hg ah ff fg p1 aq;have z0:((acts.length:Int)==0)=false:=by rw[beq_eq_false_iff_ne];omega
 have z1:decide ((100:Int)<(acts.length:Int))=false:=decide_eq_false (by omega);go_enter func38,ntmps38;go_wp2_with fail;go_loopw [29] (λiv wr=>∃i:Nat,i<=acts.length/\iv=.int .i64 i/\Below w.heap.size w wr) (λiv _=>acts.length- (intOf iv).toNat)
 case atStart=>exact⟨0,by omega,rfl,Z5E⟩
 case round=>
  obtain⟨i,ji,rfl,ae⟩:=hrel;by_cases df:i<acts.length
  .obtain⟨a0,a1,a2,a3⟩:=(HA.out.1.after ae).2 i df;have dp:(acts.getD i ⟨0,[],[],[]⟩).wrong=false:=by rw[Z59,Z5a df];exact HW.out.1 _ (Z5r df)
   obtain⟨a,ha⟩:=Z5H (acts.getD i ⟨0,[],[],[]⟩);rw[ha] at a0 a1 a2 a3 dp;have b7:=Z5J ae dp;clear ae ha dp;go_wp2_with (go_at_call 84;refine(Ui a b7.out.2 _).mono ?_;rintro e w2 ⟨rfl,dy⟩;have S2:=Z5F ((b7.out.1.alloc b7.out.1.size _).trans (dy.mono (by have:=b7.out.1.size;simp;omega)));clear dy);go_roundw
   case measure=>simp[intOf];omega
   case rel=>exact⟨i+1,by omega,by go_num,S2.out⟩
  .obtain rfl:i=acts.length:=(by omega);have b7:=Z5F ae;have s3:wr.cell? ⟨s,3,none⟩=some (.map (some sb)):=(F.out.2.2.1.after ae).cell (j:=3) rfl;have s4:wr.cell? ⟨s,4,none⟩=some (.slice (some ⟨gu,0,none⟩) S.used.length S.used.length):=(F.out.2.2.1.after ae).cell (j:=4) rfl;clear ae c3 c4 c5;go_wp2_with fail;go_cut [7] from 38 to 51 (λv wx=>∃q db fb,v=.pointer (some ⟨q,0,none⟩)/\CmS B p d P D L s j S q db fb ga oa acts.length ca gu sb acts S.dir [] S.dir.length 0 w wx)
   case first=>
    have mk:=λW=>run_makeMap_plain (P:=prog) W 165;have cu:Below w.heap.size w wr.drew:=b7.out.drew;have r0:=F.out.2.2.1.after cu;have M:=Z5J r0 cu;have j8:s<wr.drew.heap.size:=r0.lt;have fw:s<wr.heap.size:=r0.lt;have jx:wr.drew.cell? ⟨s,3,none⟩=some (.map (some sb)):=s3;have jz:wr.drew.cell? ⟨s,4,none⟩=some (.slice (some ⟨gu,0,none⟩) S.used.length S.used.length):=s4;clear r0 cu;go_region_with (go_at_call 85;refine(Ka sb S.dir.length S.dir _ (F.out.2.2.2.2.1.after (by first|exact M.out.2|exact M.out.2.alloc M.out.2.size _))).mono ?_;rintro e w8 ⟨rfl,eh,aj⟩;have jw:=(M.out.1.after (by first|exact aj|exact(Z5E.alloc Z5D _).trans (aj.mono (by simp)))).cell (j:=3) rfl;have jy:=(M.out.1.after (by first|exact aj|exact(Z5E.alloc Z5D _).trans (aj.mono (by simp)))).cell (j:=4) rfl;have l8:s<w8.heap.size:=(M.out.1.after (by first|exact aj|exact(Z5E.alloc Z5D _).trans (aj.mono (by simp)))).lt;have S8:=Z5J eh aj;clear eh aj)
    all_goals go_wp2_with fail
    all_goals go_meet
    all_goals first
     |exact⟨_,wr.heap.size,w8.heap.size,rfl,Lu F.out.2.2.1 F.out.2.2.2.1 F.out.2.2.2.2.1 F.out.2.2.2.2.2.1 HA.out.1 rfl (W:=(w8.alloc (.map #[] 0)).alloc (.cells #[.map (some wr.heap.size),.map (some w8.heap.size),.slice (some ⟨ga,oa,none⟩) acts.length ca,.slice (some ⟨gu,0,none⟩) S.used.length S.used.length] 167)) ((M.out.2.trans (S8.out.2.mono M.out.2.size)).trans ((((Below.refl w8.heap.size w8).alloc Z5D _).alloc (by simp) _).mono (Z5w M.out.2.size S8.out.2.size))) (S8.out.1.after (((Below.refl w8.heap.size w8).alloc Z5D _).alloc (by simp) _)) ((ZA.made w8).after (Z5E.alloc Z5D _)) (by have h9:=Row.new (w8.alloc (.map #[] 0)) 167 [.map (some wr.heap.size),.map (some w8.heap.size),.slice (some ⟨ga,oa,none⟩) acts.length ca,.slice (some ⟨gu,0,none⟩) S.used.length S.used.length];simpa using h9) M.out.2.size (Z5w M.out.2.size S8.out.2.size) (by have h9:=(S8.out.1).map;obtain⟨fv,m1,_⟩:=h9;have h8:=m1.lt;intro e9;rw[<-e9] at h8;exact Nat.lt_irrefl _ h8)⟩
     |exact⟨_,wr.heap.size+1,wr.heap.size,rfl,Lu F.out.2.2.1 F.out.2.2.2.1 F.out.2.2.2.2.1 F.out.2.2.2.2.2.1 HA.out.1 rfl (W:=w8.alloc (.cells #[.map (some (wr.heap.size+1)),.map (some wr.heap.size),.slice (some ⟨ga,oa,none⟩) acts.length ca,.slice (some ⟨gu,0,none⟩) S.used.length S.used.length] 167)) (((M.out.2.alloc M.out.2.size _).trans (S8.out.2.mono (by have:=M.out.2.size;simp;exact Nat.le_succ_of_le this))).trans (((Below.refl w8.heap.size w8).alloc Z5D _).mono (by have h9:=M.out.2.size;have h8:=S8.out.2.size;simp at h8;exact Z5w h9 (Nat.le_of_succ_le h8)))) ((by simpa using S8.out.1:ZE w8 (wr.heap.size+1) S.dir.length S.dir).after (Z5E.alloc Z5D _)) (((ZA.made wr.drew).after S8.out.2).after (Z5E.alloc Z5D _)) (Row.new w8 167 [.map (some (wr.heap.size+1)),.map (some wr.heap.size),.slice (some ⟨ga,oa,none⟩) acts.length ca,.slice (some ⟨gu,0,none⟩) S.used.length S.used.length]) (Nat.le_succ_of_le M.out.2.size) M.out.2.size (by omega)⟩
   case rest=>
    obtain⟨q,db,fb,rfl,hC⟩:=hcut;have HC:=Z5F hC;clear hC s3 s4;go_wp2_with fail;go_loopw [54] (λkv wj=>∃ (k:Nat) (dk:Dir) (fk:Z1) (m1 m2:Nat),k<=acts.length/\kv=.int .i64 k/\Qi (acts.drop k) k dk fk=some (d0,f)/\m1<=S.dir.length+k/\m2<=k/\CmS B p d P D L s j S q db fb ga oa acts.length ca gu sb acts dk fk m1 m2 w wj) (λkv _=>acts.length- (intOf kv).toNat)
    case atStart=>exact⟨0,S.dir,[],_,0,by omega,rfl,HW.out.2.1,by omega,by omega,HC.out⟩
    case round=>
     obtain⟨k,dk,fk,m1,m2,jl,rfl,b9,jm,jo,hS⟩:=hrel;have HS:=Z5F hS;by_cases fc:k<acts.length
     .have de:acts[k]? =some acts[k]:=Z5a fc;obtain⟨dw,dx,ek,eo⟩:=Pk de b9;have ak:=Z3z q db fb ga oa acts.length ca _ acts dk dw fk dx m1 m2 k acts[k] wr hS.pl de (by omega) (HW.out.1 _ (Z5r fc)) ek (by omega) (by omega) ef;have du:=Z5J ak eo;clear ak ek eo de b9 hS;go_wp2_with (go_at_call 86;refine du.out.1.mono ?_;rintro e w2 ⟨rfl,⟨az,jb,h1,h2,fh⟩,hf2⟩;have S2:=Z5F (HS.out.plan fh hf2 U.out.2.2.2.2.2.2);clear fh hf2);go_roundw
      case measure=>simp[intOf];omega
      case rel=>exact⟨k+1,dw,dx,az,jb,by omega,by go_num,du.out.2,by omega,by omega,S2.out⟩
     .obtain rfl:k=acts.length:=(by omega);rw[List.drop_length] at b9;simp only[Qi,Z5e,Prod.mk.injEq] at b9;obtain⟨rfl,rfl⟩:=b9;have im:=hS.st.cell (j:=4) rfl;have iq:=hS.st.cell (j:=5) rfl;clear hS;go_wp2_with (first|(go_at_call 88;refine(Z04 s _ S.used _ im iq ⟨gu,rfl,HS.out.us⟩ (by omega)).mono ?_;rintro e w2 ⟨rfl,rfl⟩)|(go_at_call 87;refine(VU q db fb ga oa acts.length ca gu S.used acts dk dir fk m1 m2 _ HS.out.pl HS.out.us HW.out.2.2 O.out.2.2.2.2.2.2.fr O.out.1 ey O.out.2.2.2.1 O.out.2.1 O.out.2.2.1 (by omega) (by omega)).mono ?_;rintro e w3 ⟨rfl,⟨az,h1,fi⟩,hf3⟩;have S3:=Z5F (HS.out.plan fi (hf3.mono (λi hi _=>by rw[Z58] at hi;simp[hi])) U.out.2.2.2.2.2.2);clear fi hf3 h1)|(go_at_call 89;refine(Z0s 800 100 q db fb ga oa acts.length ca _ acts dir fk az m2 _ S3.out.pl O.out.2.2.2.2.1.ok (by omega) O.out.2.2.2.2.2.1.ne2 O.out.2.2.2.2.2.1.whole).mono ?_;rintro e w4 ⟨rfl,dz⟩;have S4:=Z5F (S3.out.after dz);clear dz));have al:=O.out.2.2.2.2.2.1.fits;have dq:=O.out.2.2.2.2.2.1.whole;have jk:=U.out.1.jhalf;obtain⟨T,hT⟩:=Z5H (str (Ya dir));have ir:T.size=(Ya dir).length:=(by rw[<-hT,Z5]);obtain⟨tl,ic⟩:=Z5H (Ya dir).length;rw[ic] at ir al dq;obtain⟨sc,dh⟩:=Z5H (ZJ (24+tl));have iz:sc+1<=S.j.half:=by rw[<-dh];unfold ZJ;unfold Zf at al;omega
      have fp:∀k,Calls prog 90 #[.int .i64 ((24+tl:Nat):Int)] (w4.drewN k) λe w'=>e=.returned (.int .i64 (sc:Int))/\w'=w4.drewN k:=λk=>by rw[<-dh];exact(EE (24+tl) (by omega) _).mono λe w' h=>⟨h.1,h.2.symm⟩
      have fq:∀k,Calls prog 91 #[.pointer (some ⟨j,0,none⟩)] (w4.drewN k) λe w'=>e=.returned (.int .i64 ((S.j.half:Int)-1))/\w'=w4.drewN k:=λk=>(LN j d S.j _ (JAt.after S4.out.jn (Zv Z5E k)) (by omega)).mono λe w' h=>⟨h.1,h.2.symm⟩;have hlen:(24:Int)+(T.size:Int)=((24+tl:Nat):Int):=(by omega);have ij:=Z5x ((24:Int)+(T.size:Int)) (by omega);rw[hlen] at ij;have cz:decide ((S.j.half:Int)-1<(sc:Int))=false:=decide_eq_false (by omega);have y1:=S4.out.st.cell (j:=1) rfl;have HQ:=Z5J fp fq;have HT:=Z5F hT;rw[hT];clear fp fq hT dh ic;go_quiet (first|(go_at_call 90;exact Calls.quiet_of_same (HQ.out.1 _))|(go_at_call 91;exact Calls.quiet_of_same (HQ.out.2 _)));have C:=Z5F (S4.out.after (Zv (Below.refl w4.heap.size w4) nq));generalize w4.drewN nq=w5 at*
      have fe:=Z1q B p d P D L s j q db fb ga oa acts.length ca sb S.dir.length (.slice (some ⟨gu,0,none⟩) S.used.length S.used.length) (.slice (some ⟨gu,0,none⟩) S.used.length S.used.length) S recs R acts dir fk az m2 w5 (F.out.1.after C.out.bel) (Z5w F.out.2.1 C.out.bel.size) C.out.st C.out.jn U.out.2.2.2.1 C.out.sd (by omega) C.out.pl F.out.2.2.2.2.2.2 U.out.1 O.out.2.2.2.2.1 O.out.2.2.2.2.2.1 O.out.1 ey (by omega) O.out.2.1 ef dc (U.out.2.2.2.2.1.below C.out.bel) U.out.2.2.2.2.2.1 iw j7;have ik:=Z5F fe;clear fe y1 cz ij hlen;rw[<-HT.out];go_wp2_with fail;refine ik.out.mono ?_;rintro e w6 ⟨ev,rfl,cr,bj⟩;obtain⟨L6,ag⟩:=bj.ran;have fj:PD B w5 p d 800 P D L:=F.out.1.after C.out.bel;have ix:s≠j:=Row.ne C.out.st C.out.jn (by decide);have Z:=ag.row fj C.out.st (by simpa using ix) (by decide) (by decide) (by decide) (by decide);have bm:PlA w6 q db fb ga oa acts.length ca (.slice (some ⟨gu,0,none⟩) S.used.length S.used.length) acts dir fk az m2:=by have ie:=Z1l fj C.out.jn;refine C.out.pl.frT ag.fr ie (by decide) (by decide) ?_;exact ie.row_ne (HA.out.2.after C.out.bel) (by decide)
      rcases cr.split with ⟨hc,rfl⟩|⟨hc,b,rfl⟩
      .have dm:S.half=100:=U.out.1.hh;have f3:=Z.free (j:=3) (by simp);have je:=Z.cell (j:=3) rfl;have q0:=bm.row.cell (j:=0) rfl;have aw:∀{g:Nat} {et:TypeId} {l:List Value},et≠157->Row w6 g et l->g∉[s]:=λhet hl hm=>by rw[Z58] at hm;subst hm;exact het (Yz hl Z)
       obtain⟨w7,bz⟩:=Z5I (w6.setCell ⟨s,3,none⟩ (.map (some db)));have bf:Fr [s] w6 w7:=by rw[bz];exact(Fr.refl _ _).setCell (Or.inl (by simp)) _
       have fm:PD B w7 p d 800 _ _ L6:=ag.pd.fr bf (λk J=>by rw[Z58] at J;subst J;exact ag.pd.row_ne Z (by decide) (by decide) (by decide) (by decide));have bu:Row w7 s 157 [.pointer (some ⟨d,0,none⟩),.pointer (some ⟨j,0,none⟩),.int .i64 S.half,.map (some db),.slice (some ⟨gu,0,none⟩) S.used.length S.used.length,.bool false]:=by rw[bz];exact Z.set 3 _
       have af:ZE w7 db az dir:=bm.dir.fr bf (by
        obtain⟨fv,m1,_⟩:=bm.dir;obtain⟨es,cl,hb⟩:=m1.block;intro hm;rw[Z58] at hm;subst hm
        exact Yh Z hb) (λk J l hl=>aw (by decide) hl J)
       have ez:JAt w7 j d (S.jNew dir fk):=Row.fr (bj.ok hc) bf (aw (by decide) (bj.ok hc));have er:=((ag.from C.out.bel).wider (Y:=[s,j]) (by simp)).frame (Y:=[s]) bf (λk J=>by rw[Z58] at J;subst J;exact ag.pd.row_ne Z (by decide) (by decide) (by decide) (by decide)) (by simp);have d3:=bu.cell (j:=3) rfl;have ib:=CW B p d 800 _ _ L6 s 100 db az dir w7 fm (bu.cell (j:=0) rfl) (by have h9:=bu.cell (j:=2) rfl;rw[dm] at h9;exact h9) af O.out.2.2.2.2.1.ok (by omega);have H7:=Z5N bu af ez er hc ib;have jd:=Z5F bz;clear cr bj ag hc Z bm bf fm bu af ez er ib aw;go_wp2_with fail;rw[<-bz];clear bz;go_wp2_with (go_at_call 94;refine H7.out.2.2.2.2.2.mono ?_;rintro r w9 ⟨ke,rfl,⟨g9,rfl,ft⟩,cw⟩;have R9:=H7.out.1.after cw;have f49:=R9.free (j:=4) (by simp);have d49:=R9.cell (j:=4) rfl;have S9:=Z5K R9 ft cw;clear cw R9 ft);go_ret;have ct:Fr [s] w9 (w9.setCell ⟨s,4,none⟩ (.slice (some ⟨g9,0,none⟩) (Q6 800 100 dir).length (Q6 800 100 dir).length)):=(Fr.refl _ _).setCell (Or.inl (by simp)) _;have dt:∀{g:Nat} {et:TypeId} {l:List Value},et≠157->Row w9 g et l->g∉[s]:=λhet hl hm=>by rw[Z58] at hm;subst hm;exact het (Yz hl S9.out.1)
       have cn:=H7.out.2.2.2.1.after S9.out.2.2;refine⟨_,rfl,by rw[H7.out.2.2.2.2.1];exact Zk.nil _ _,⟨L6,cn.frame (Y:=[s]) ct (λk J=>by rw[Z58] at J;subst J;exact cn.pd.row_ne S9.out.1 (by decide) (by decide) (by decide) (by decide)) (by simp)⟩,λ_=>⟨db,_,S9.out.1.set 4 _,?_,?_,g9,?_,?_⟩⟩
       .exact Row.fr (Row.after H7.out.2.2.1 S9.out.2.2) ct (dt (by decide) (Row.after H7.out.2.2.1 S9.out.2.2))
       .refine((H7.out.2.1.after S9.out.2.2).tight).fr ct (λhm=> ?_) (λk J l hl=>dt (by decide) hl J);rw[Z58] at hm;obtain⟨fv,m1,_⟩:=H7.out.2.1.after S9.out.2.2;obtain⟨es,cl,hb⟩:=m1.block;subst hm;exact Yh S9.out.1 hb
       .show _=Value.slice _ (Q6 S.n S.half dir).length (Q6 S.n S.half dir).length;rw[U.out.1.nn,dm]
       .show Row _ g9 _ ((Q6 S.n S.half dir).map .bool);rw[U.out.1.nn,dm];exact S9.out.2.1.fr ct (dt (by decide) S9.out.2.1)
      .have f5:=Z.free (j:=5) (by simp);have jf:=Z.cell (j:=5) rfl;have gj:Ty (w6.setCell ⟨s,5,none⟩ (.bool true)):=(Ty.did (U.out.2.2.2.2.1.below C.out.bel) ag U.out.2.2.2.2.2.1 F.out.1.bp F.out.1.bL (by simp;exact U.out.2.2.2.1)).set (by have:=U.out.2.2.2.2.2.1;have:=U.out.2.2.1;simp;omega) _;have eu:Zk (w6.setCell ⟨s,5,none⟩ (.bool true)) w5.heap.size (Z2 (S.ops acts dir fk) P D).1 (.iface 139 (.pointer (some ⟨b,0,none⟩))):=cr.fr ((Fr.refl [s] w6).setCell (Or.inl (by simp)) _) (λk J=>by rw[Z58] at J;subst J;exact C.out.st.lt);have H6:=Z5M eu ag hc Z gj;clear cr bj ag hc Z gj eu bm;go_wp2_with (go_at_call 93;refine(C3 _ _ _ _ H6.out.1 H6.out.2.2.2.2).mono ?_;rintro e w7 ⟨v7,rfl,ew,ee⟩;have H7:=Z5J ew ee;clear ew ee);go_ret;have jr:=C.out.bel.size;have js:=H6.out.2.1.fr.size;have jt:(w6.setCell ⟨s,5,none⟩ (.bool true)).heap.size=w6.heap.size:=(by simp[World.setCell]);refine⟨_,rfl,H7.out.1.base (by omega),⟨L6,?_⟩,λh0=>absurd h0 H6.out.2.2.1⟩;have cn:=(H6.out.2.1.from C.out.bel).wider (Y:=[s,j]) (by simp);exact(cn.frame (Y:=[s]) ((Fr.refl _ _).setCell (Or.inl (by simp)) _) (λk J=>by rw[Z58] at J;subst J;exact H6.out.2.1.pd.row_ne H6.out.2.2.2.1 (by decide) (by decide) (by decide) (by decide)) (by simp)).after H7.out.2
end
section
variable{Q:Exit->Act->World->Prop}{a:Act}{base k n:Nat}{e:TypeId}{o:Oper}{ops:Array Oper}{rest:List Oper}{v:Value}{w w':World}{xs:List Value}
theorem YR(h:w.ownsRow base e k v n xs)(Z:0<n):∃g cap sp,v=.slice (some ⟨g,0,none⟩) n cap/\base<=g/\n<=cap/\cap<=maxLen/\Row w g e (xs++sp):=by
 rcases h.2 with ⟨_,U⟩|⟨g,cap,cur,hv,M,hh,C,F,O,J⟩
 .omega
 .refine⟨g,cap,cur.toList.drop (n*k),hv,M,C,F,Row.mk ?_⟩;rw[<-J,Z5z];omega
theorem WE(h:w.ownsRow base e k v n xs):∀q∈ZG v,base<=q:=λq C=>Jj h (ZK.1 C)
theorem Wl(h:w.ownsRow base e k v n xs){L:List Nat}(F:Fr L w w')(C:∀q∈ZG v,q∉L):w'.ownsRow base e k v n xs:=Qa h F (λg J=>C g (ZK.2 J))
theorem Qz(h:w.ownsRow base e k v n xs)(C:Below w.heap.size w w'):w'.ownsRow base e k v n xs:=Qa h (Fr.of_below (L:=[]) C) (by simp)
theorem QA(h:w.ownsRow base e k v n xs):∀q∈ZG v,∃l,Row w q e l:=λq C=>by
 rw[ZK] at C;rcases h.2 with ⟨F,_⟩|⟨g,cap,cur,hv,J,hh,_⟩
 .rw[F] at C;cases C
 .rw[hv] at C;simp[Value.ownBlock] at C;subst C;exact⟨cur.toList,Row.mk (by omega)⟩
theorem QS(w:World)(hg:o.guard=none)(s x:Operand)(t e:TypeId){z:Value}{k bytes:Nat}(ho:o.op=.call {callee:=.builtin .append,args:= #[s,x],argTypes:= #[t,t]})(ht:prog.underlying t=some (.slice e))(hi:(prog.info? e).map (λi=>(i.zero,i.size,i.bytes))=some (some z,k,bytes))(Z:z.cells.size=k)(C:0<k)(M:bytes<=1000)(base:Nat)(v:Value)(n:Nat)(xs:List Value)(hs:a.eval s=v)(J:w.ownsRow base e k v n xs)(p m:Nat)(news:List Value)(hx:a.eval x=.slice (some ⟨p,0,none⟩) m m)(hm:0<m)(ah:m<=100)(U:news.length=m*k)(hc:Row w p e news)(h1:∀u∈news,u.oneCell'=true)(hb:base<=w.heap.size)(hl:n<=1000000)(hK:∀g cap w',w'.ownsRow base e k (.slice (some ⟨g,0,none⟩) (n+m) cap) (n+m) (xs++news)->Fr (ZG v) w w'->(v.ownBlock=some g∨g=w.heap.size)->g<w'.heap.size->base<=g->wpList prog ops Q rest (a.put o.dst (.slice (some ⟨g,0,none⟩) (n+m) cap)) w'):wpList prog ops Q (o::rest) a w:=by
 obtain⟨j0,O,ae,af,ag⟩:=info_parts hi;refine wpList_append_lies w hg s x t ho base e j0 _ k bytes ht O ae af ag Z C v n xs hs J ⟨p,0,none⟩ m m news hx U (λj u hj=> ?_) h1 hm (by unfold maxLen;omega) ?_ hb w.heap.size rfl ?_
 .have h9:=hc.cell hj;have e9:(⟨p,0,none⟩:Addr).add j=⟨p,j,none⟩:=by unfold Addr.add;by_cases h:j=0<;>simp[h]
  simp_all
 .have:(n+m)*bytes<=1000100*1000:=Nat.mul_le_mul (by omega) M;omega
 intro g cap w' F h3 h4 h5;refine hK g cap w' F ((Fr.refl (ZG v) w).grown h3 (λk C=>Or.inl (ZK.2 C))) h4 h5 ?_;exact Jj F (by rfl)
theorem MM:(prog.info? 151).map (λi=>(i.zero,i.size,i.bytes))=some (some (.agg #[.int .i64 0,.string ⟨#[]⟩,.string ⟨#[]⟩,.string ⟨#[]⟩]),4,56):=by kernel_rfl
theorem LM:(prog.info? 3).map (λi=>(i.zero,i.size,i.bytes))=some (some (.int .i64 0),1,8):=by kernel_rfl
theorem N0:(prog.info? 98).map (λi=>(i.zero,i.size,i.bytes))=some (some (.agg #[.string ⟨#[]⟩,.int .i64 0,.slice none 0 0]),3,48):=by kernel_rfl
theorem ML:(prog.info? 68).map (λi=>(i.zero,i.size,i.bytes))=some (some (.agg #[.string ⟨#[]⟩,.string ⟨#[]⟩,.bool false]),3,40):=by kernel_rfl
theorem Z1y:(prog.info? 92).map (λi=>(i.zero,i.size,i.bytes))=some (some (.pointer none),1,8):=by kernel_rfl
theorem Na:(prog.info? 47).map (λi=>(i.zero,i.size,i.bytes))=some (some (.pointer none),1,8):=by kernel_rfl
theorem Nu:(prog.info? 105).map (λi=>(i.zero,i.size,i.bytes))=some (some (.agg #[.string ⟨#[]⟩,.string ⟨#[]⟩]),2,32):=by kernel_rfl
def AcC(a:Ac):List Value:=[.int .i64 (a.kind:Int),.string (str a.name),.string (str a.to),.string (str a.value)]
def WH(l:List Ac):List Value:=l.flatMap AcC
theorem EU(a b:List Ac):WH (a++b)=WH a++WH b:=by simp[WH]
theorem Sj(a:Ac):WH [a]=AcC a:=by rfl
theorem Sh(l:List Ac):∀ (k:Nat) (h:k<l.length) (r:Nat),r<4->(WH l)[k*4+r]? =(AcC l[k])[r]?:=by
 induction l with
 |nil=>intro k h;simp at h
 |cons a l ih=>
  intro k h r C;have e:WH (a::l)=AcC a++WH l:=by rfl
  rw[e]
  match k,h with
  |0,_=>rw[Z5c (by simp[AcC];omega)];simp
  |k+1,h=>
   rw[Z5k (by simp[AcC];omega)];have:(k+1)*4+r- (AcC a).length=k*4+r:=by simp[AcC];omega
   grind
def Ai(w:World)(base:Nat)(v:Value)(l:List Ac):Prop:=w.ownsRow base 151 4 v l.length (WH l)
theorem Ai.row{l:List Ac}(h:Ai w base v l)(J:l≠[]):∃g cap,v=.slice (some ⟨g,0,none⟩) l.length cap/\base<=g/\l.length<=cap/\WD w g 0 l:=by
 obtain⟨g,cap,sp,hv,Z,M,h3,C⟩:=YR h (List.length_pos_iff.2 J);refine⟨g,cap,hv,Z,M,⟨C.lt,λk O=> ?_⟩,_,C⟩;have F:l.getD k ⟨0,[],[],[]⟩=l[k]:=by simp_all
 rw[F];have hlen:(WH l).length=l.length*4:=by
  clear h C M hv F O J
  induction l with
  |nil=>rfl
  |cons a l ih=>rw[show WH (a::l)=AcC a++WH l from by simp[WH],Z5d,ih];simp[AcC];omega
 have key:∀r u,r<4->(AcC l[k])[r]? =some u->w.cell? ⟨g,0+k*4+r,none⟩=some u:=λr u U hu=>by rw[Nat.zero_add];refine C.cell ?_;rw[Z5c (by omega),Sh l k O r U];omega
 exact⟨key 0 _ (by omega) rfl,key 1 _ (by omega) rfl,key 2 _ (by omega) rfl,key 3 _ (by omega) rfl⟩
theorem AN(w:World)(U:o.guard=none)(s x:Operand)(Z:o.op=.call {callee:=.builtin .append,args:= #[s,x],argTypes:= #[86,86]})(base:Nat)(v:Value)(l:List Ac)(hs:a.eval s=v)(h:Ai w base v l)(p:Nat)(b:Ac)(hx:a.eval x=.slice (some ⟨p,0,none⟩) 1 1)(hc:Row w p 151 (AcC b))(O:base<=w.heap.size)(hl:l.length<=1000000)(hK:∀g cap w',Ai w' base (.slice (some ⟨g,0,none⟩) (l.length+1) cap) (l++[b])->Fr (ZG v) w w'->(v.ownBlock=some g∨g=w.heap.size)->g<w'.heap.size->base<=g->wpList prog ops Q rest (a.put o.dst (.slice (some ⟨g,0,none⟩) (l.length+1) cap)) w'):wpList prog ops Q (o::rest) a w:=by refine QS w U s x 86 151 Z underlying86 MM rfl (by omega) (by omega) base v l.length _ hs h p 1 (AcC b) hx (by omega) (by omega) rfl hc (by simp[AcC,Value.oneCell']) O hl ?_;intro g cap w' h1 C F J M;refine hK g cap w' ?_ C F J M;unfold Ai;rw[Z5d,EU,Sj];omega
theorem OR(w:World)(U:o.guard=none)(s x:Operand)(Z:o.op=.call {callee:=.builtin .append,args:= #[s,x],argTypes:= #[86,86]})(base:Nat)(v:Value)(l:List Ac)(hs:a.eval s=v)(h:Ai w base v l)(p:Nat)(b c:Ac)(hx:a.eval x=.slice (some ⟨p,0,none⟩) 2 2)(hc:Row w p 151 (AcC b++AcC c))(O:base<=w.heap.size)(hl:l.length<=1000000)(hK:∀g cap w',Ai w' base (.slice (some ⟨g,0,none⟩) (l.length+2) cap) (l++[b,c])->Fr (ZG v) w w'->(v.ownBlock=some g∨g=w.heap.size)->g<w'.heap.size->base<=g->wpList prog ops Q rest (a.put o.dst (.slice (some ⟨g,0,none⟩) (l.length+2) cap)) w'):wpList prog ops Q (o::rest) a w:=by refine QS w U s x 86 151 Z underlying86 MM rfl (by omega) (by omega) base v l.length _ hs h p 2 (AcC b++AcC c) hx (by omega) (by omega) rfl hc (by simp[AcC,Value.oneCell']) O hl ?_;intro g cap w' h1 C F J M;refine hK g cap w' ?_ C F J M;unfold Ai;rw[Z5d,EU,show WH [b,c]=AcC b++AcC c from by simp[WH]];omega
def Gr(l:List Nat):List Value:=l.map λ(n:Nat)=>.int .i64 (n:Int)
def Fe(w:World)(base:Nat)(v:Value)(l:List Nat):Prop:=w.ownsRow base 3 1 v l.length (Gr l)
theorem KB(w:World)(Z:o.guard=none)(s x:Operand)(ho:o.op=.call {callee:=.builtin .append,args:= #[s,x],argTypes:= #[46,46]})(base:Nat)(v:Value)(l:List Nat)(hs:a.eval s=v)(h:Fe w base v l)(p:Nat)(b:Nat)(hx:a.eval x=.slice (some ⟨p,0,none⟩) 1 1)(hc:Row w p 3 [.int .i64 (b:Int)])(U:base<=w.heap.size)(hl:l.length<=1000000)(hK:∀g cap w',Fe w' base (.slice (some ⟨g,0,none⟩) (l.length+1) cap) (l++[b])->Fr (ZG v) w w'->(v.ownBlock=some g∨g=w.heap.size)->g<w'.heap.size->base<=g->wpList prog ops Q rest (a.put o.dst (.slice (some ⟨g,0,none⟩) (l.length+1) cap)) w'):wpList prog ops Q (o::rest) a w:=by refine QS w Z s x 46 3 ho underlying46 LM rfl (by omega) (by omega) base v l.length _ hs h p 1 [.int .i64 (b:Int)] hx (by omega) (by omega) rfl hc (by simp[Value.oneCell']) U hl ?_;intro g cap w' C F J M O;refine hK g cap w' ?_ F J M O;unfold Fe Gr;rw[Z5d,Z5u];exact C
end
section
variable{L:List (Bool×ByteArray)}{g:Nat}{w:World}
def QN:List (Bool×ByteArray)->List Value
 |[]=>[]
 |p::l=>.bool p.1:: .string p.2::QN l
theorem JP:∀L:List (Bool×ByteArray),(QN L).length=L.length*2
 |[]=>rfl
 |p::l=>by simp[QN,JP l];omega
theorem BU:∀ (L:List (Bool×ByteArray)) (j:Nat) (h:j<L.length),(QN L)[j*2]? =some (.bool L[j].1)/\(QN L)[j*2+1]? =some (.string L[j].2)
 |p::l,0,_=>⟨rfl,rfl⟩
 |p::l,j+1,h=>by
  have:=BU l j (by simp_all);have e:(j+1)*2=j*2+1+1:=by omega
  rw[e];exact this
theorem Z2H{o:Nat}(h:∀j u,(QN L)[j]? =some u->w.cell? ⟨g,o+j,none⟩=some u):DR w (some ⟨g,o,none⟩) L:=λj C=>by have:=BU L j C;grind
theorem TL:(prog.info? 204).map (λi=>(i.zero,i.size,i.bytes))=some (some (.agg #[.bool false,.string ⟨#[]⟩]),2,24):=by kernel_rfl
theorem Ow(i0:TypeInfo)(hi:prog.info? 204=some i0)(F:i0.zero=some (.agg #[.bool false,.string ⟨#[]⟩]))(hs:i0.size=2)(M:i0.bytes=24)(n:Nat)(O:n<=1000)(W:World):(Instr.makeSlice 202 (.int .i64 (n:Int)) (.int .i64 (n:Int))).run prog W=.ok (.slice (some ⟨W.heap.size,0,none⟩) n n) (W.alloc (.cells (QN (List.replicate n (false,⟨#[]⟩))).toArray 204)):=by
 have h:=run_make (P:=prog) W 202 204 i0 (.agg #[.bool false,.string ⟨#[]⟩]) underlying202 hi F .i64 .i64 (n:Int) (n:Int) (by omega) (by omega) (by grind) (by omega);have e:madeCells (Value.agg #[.bool false,.string ⟨#[]⟩]).cells (((n:Nat):Int).toNat*i0.size)=(QN (List.replicate n (false,⟨#[]⟩))).toArray:=by
  rw[hs,Int.toNat_natCast];apply Array.ext
  .simp[madeCells,JP]
  .intro i J C;have hl:i<n*2:=(by simpa[JP] using C);have hx:=BU (List.replicate n (false,(⟨#[]⟩:ByteArray))) (i / 2) (by grind);have e1:(QN (List.replicate n (false,(⟨#[]⟩:ByteArray)))).toArray[i]=if i%2=0 then Value.bool false else .string ⟨#[]⟩:=(by grind);rw[e1];rcases Nat.mod_two_eq_zero_or_one i with hm|hm<;>simp[madeCells,Value.cells,hm]
 rw[e] at h;simpa using h
theorem Ke:∀ (L:List (Bool×ByteArray)) (j:Nat) (q:Bool×ByteArray),((QN L).set (j*2) (.bool q.1)).set (j*2+1) (.string q.2)=QN (L.set j q)
 |[],j,q=>by simp[QN]
 |p::l,0,q=>by simp[QN]
 |p::l,j+1,q=>by
  have e:(j+1)*2=j*2+1+1:=by omega
  rw[e];simp[QN];rw[Ke l j q]
theorem Row.pcs(h:Row w g 204 (QN L)):DR w (some ⟨g,0,none⟩) L:=Z2H λj u C=>by rw[Nat.zero_add];exact h.cell C
theorem Row.setPc(h:Row w g 204 (QN L))(j:Nat)(b:Bool)(s:ByteArray):Row ((w.setCell ⟨g,j*2,none⟩ (.bool b)).setCell ⟨g,j*2+1,none⟩ (.string s)) g 204 (QN (L.set j (b,s))):=by have:=(h.set (j*2) (.bool b)).set (j*2+1) (.string s);rw[Ke L j (b,s)] at this;omega
end
theorem OY(r c ga oa n cap M len:Nat)(O:Option Addr)(A:Nat->Nat->BitVec 8)(cols:List ByteArray)(w:World)(r1:1<=r)(r2:r<=255)(c1:1<=c)(c2:c<=255)(hn:n=r*c)(ae:n<=cap)(U:cap<=9223372036854775807)(hlen:cols.length=c)(F:∀i,i<cols.length->(cols.getD i ⟨#[]⟩).size=len)(hl:len<=100000)(ha:Qm w ga oa r c A)(hL:Zx w O cols):Calls prog 162 #[.agg #[.int .i64 r,.int .i64 c,.slice (some ⟨ga,oa,none⟩) n cap],.slice O c M] w λe w'=>∃g J,e=.returned (.tuple #[.slice (some ⟨g,0,none⟩) r J,.nilIface])/\(Zx w' (some ⟨g,0,none⟩) (Qn A cols len c r)/\r<=J/\J<=9223372036854775807)/\w.heap.size<=g/\Below w.heap.size w w':=by
 obtain⟨lg,lo,rfl,_,Z⟩:=hL.open (by omega);refine(DT r c ga oa n cap lg lo M A cols w r1 r2 c1 c2 hn ae U hlen (λi hi=>by rw[F i hi];exact hl) ha Z).mono ?_;rintro e w' ⟨h|h,hb⟩
 .obtain⟨⟨i,hi,ai⟩,_⟩:=h;exact absurd (by rw[F i hi,F 0 (by omega)]) ai
 .obtain⟨ag,v,rfl,C⟩:=h;rw[F 0 (by omega),JT] at C;rcases C.2 with ⟨_,h0⟩|⟨g2,af,cur,rfl,ah,_⟩
  .omega
  .have hc:=O3 C;exact⟨_,_,rfl,⟨Zx.own C,hc.1,Z5w hc.2.1 (by decide)⟩,ah,hb⟩
theorem Z2O(k m af len:Nat)(la:Option Addr)(cols:List ByteArray)(w:World)(h1:1<=k)(h2:k+m<=255)(hlen:cols.length=k)(aj:∀i,i<cols.length->(cols.getD i ⟨#[]⟩).size=len)(hl:len<=100000)(hL:Zx w la cols):Calls prog 121 #[.int .i64 k,.int .i64 m,.slice la k af] w λe w'=>∃g M,e=.returned (.tuple #[.slice (some ⟨g,0,none⟩) (k+m) M,.nilIface])/\(Zx w' (some ⟨g,0,none⟩) (Qn (gen k) cols len k (k+m))/\k+m<=M/\M<=9223372036854775807)/\w.heap.size<=g/\Below w.heap.size w w':=by
 obtain⟨K,hK⟩:=Z5I (k+m);obtain⟨F,Z⟩:=Z5I (K*k);have aq:F<=255*255:=by rw[Z];exact Nat.mul_le_mul (by omega) (by omega)
 have S0:=Z5F (Bun.start w);have HK:=Z5F hK;have ai:=Z5F Z;have ag:=Z5F hlen;have ak:=Z5F aj;have HL:=Z5F hL;have au:k<=K:=by omega
 have aw:K<=255:=by omega
 rw[<-hK];clear hK Z hlen aj hL;go_enter func121,ntmps121;go_wp2_with (first|(go_at_call 159;have C:=S0.out;clear S0;refine(Lb k m _ h1 h2).mono ?_;rintro e w1 ⟨ga,he,hg,O,J⟩;have al:e=.returned (.tuple #[.agg #[.int .i64 K,.int .i64 k,.slice (some ⟨ga,0,none⟩) F F],.nilIface]):=(by rw[he,ai.out,HK.out];rfl);subst al;clear he;rw[<-HK.out] at O;have U:=((C.after J).add (λ_ h=>(Qm.of_row0 O).after h)).box 250 [.int .i64 K,.int .i64 k,.slice (some ⟨ga,0,none⟩) F F];obtain⟨x0,x1,x2⟩:=Zl U.here.2;have S1:=Z5F U;clear C J O hg U)|(go_at_call 162;have C:=S1.out;clear S1;refine(OY K k ga 0 F F af len la (gen k) cols _ (by omega) (by omega) (by omega) (by omega) ai.out Z5D (by omega) ag.out ak.out hl C.here.1.2 (HL.out.after C.bel)).mono ?_;rintro e w2 ⟨g5,ah,rfl,ht,ae,J⟩;have S2:=Z5K ht (Z5w C.bel.size ae) (C.after J).bel;clear C J ht ae));go_ret2;exact⟨g5,ah,rfl,S2.out.1,S2.out.2.1,S2.out.2.2⟩
theorem Tc(k m:Nat)(t:ByteArray)(w:World)(F:1<=k)(h2:k+m<=255)(ht:t.size<=50000):Calls prog 75 #[.int .i64 k,.int .i64 m,.string t] w λe w'=>∃g ag,e=.returned (.tuple #[.slice (some ⟨g,0,none⟩) (k+m) ag,.nilIface])/\(Zx w' (some ⟨g,0,none⟩) (Zs k m t)/\k+m<=ag/\ag<=9223372036854775807)/\w.heap.size<=g/\Below w.heap.size w w':=by
 obtain⟨n,M⟩:=Z5I (ZT k t.size);obtain⟨N,J⟩:=Z5I (k*n);have n1:t.size<=N:=by rw[J,M];exact Af k t.size F
 have n2:N<=t.size+k:=by rw[J,M];exact Sa k t.size F
 have n3:n<=t.size+1:=by rw[M];exact DN k t.size F
 obtain⟨z,O⟩:=Z5I (N-t.size);have e1:(k:Int)*(n:Int)=(N:Int):=by rw[J];simp
 have e2:(N:Int)- (t.size:Int)=(z:Int):=by omega
 have z1:z<=255:=by omega
 obtain⟨Z,hZ⟩:=Z5I (WU z);have z2:Z.size=z:=by rw[hZ,XL]
 have z3:t.size+Z.size<=9223372036854775807:=by omega
 obtain⟨T,hT⟩:=Z5I (t++Z);have t1:T.size=N:=by rw[hT,ByteArray.size_append,z2];omega
 have t2:T=Jl t N:=by unfold Jl;rw[hT,hZ,O]
 obtain⟨K,hK⟩:=Z5I (k+m);obtain⟨j0,b7,b8,b9,bf⟩:=info_parts XK;unfold Zs;rw[<-M,<-J,<-t2,<-hK];have H:=Z5F (AW (c:=0) F h2);have HN:=Z5F J;have au:=Z5F M;have HZ:=Z5F hZ;have HT:=Z5F hT;have az:=Z5F t1;have HK:=Z5F hK;have T1:N<=T.size:=by omega
 have T2:T.size<=N:=by omega
 clear M J O hZ z2 hT t1 t2 hK;go_enter func75,ntmps75;go_wp2_with (first|(go_at_call 119;refine(Jx k m 0 _).mono ?_;rintro e w1 ⟨rfl,rfl⟩;rw[show Wp (k:Int) (m:Int) 0=true from H.out])|(go_at_call 113;refine(B4 k t.size _ F (by omega) (by omega)).mono ?_;rintro e w1 ⟨rfl,rfl⟩;rw[<-au.out])|(go_at_call 120;refine(Tryz.strings_Repeat ⟨#[0]⟩ z _ (by omega) (by show 1*z<=_;omega)).mono ?_;rw[Jp,<-HZ.out];rintro e w2 ⟨rfl,hb⟩;have S2:=Z5F hb;clear hb));rw[<-HT.out];go_loopw [10,34] (λfst ii wr=>∃i:Nat,i<=k/\ii=.int .i64 i/\wr.ownsRow w2.heap.size 9 1 fst i (Z7 (Wo T n i))/\Below w2.heap.size w2 wr) (λ_ ii _=>k- (intOf ii).toNat)
 case atStart=>exact⟨0,by omega,rfl,World.ownsRow_nil _ _ _ _,Z5E⟩
 case round=>
  obtain⟨i,hi,rfl,ae,U⟩:=hrel;by_cases aq:i<k
  .obtain⟨q,hq⟩:=Z5I (i*n);have q1:q+n<=N:=by have h3:(i+1)*n<=k*n:=Nat.mul_le_mul_right n aq;rw[Nat.add_mul,Nat.one_mul] at h3;rw[hq,HN.out];exact h3
   have q2:(i:Int)*(n:Int)=(q:Int):=by rw[hq];simp
   have q3:((i:Int)+1)*(n:Int)=((q+n:Nat):Int):=by rw[Int.add_mul,q2];simp
   have q4:(i+1)*n=q+n:=(by rw[Nat.add_mul,Nat.one_mul,hq]);have O:=U.size;have h:=Z5J ae U;have HQ:=Z5F hq;have aw:=Z5F q4;clear ae U hq q4;go_wp2_with (at_builtin;refine wpList_append_own _ rfl (.tmp 37) (.tmp 47) 96 rfl w2.heap.size 9 j0 _ 1 16 underlying96 b7 b8 b9 bf rfl (by omega) _ i (Z7 (Wo T n i)) rfl (h.out.1.alloc _) ⟨wr.heap.size,0,none⟩ 1 1 [.string (T.extract q (q+n))] rfl rfl (World.news_of_block (cs:= #[.string (T.extract q (q+n))]) (t:=9) (fr:=(0,0)) (heap_alloc_new wr _)) (by simp[Value.oneCell']) (by unfold maxLen;omega) (by omega) (Z5w O (by simp)) ?_;intro v' w7 af ai aj;clear aj;have C:=Z5J af (Xc (h.out.1.alloc _) (h.out.2.alloc O _) (Z5w O (by simp)) ai);clear af ai);go_roundw
   case measure=>simp[intOf];omega
   case rel=>refine⟨i+1,by omega,by go_num,?_,C.out.2⟩;rw[Lw,<-HQ.out,aw.out];exact C.out.1
  .obtain rfl:k=i:=(by omega);rcases ae.2 with ⟨_,h0⟩|⟨g3,ak,cur,rfl,_⟩
   .omega
   .have hs:=Zx.own ae;have h:=Z5J hs (S2.out.trans (U.mono S2.out.size));clear ae U hs aq hi;go_wp2_with (go_at_call 121;have h9:=h.out;clear h;refine(Z2O k m ak n _ (Wo T n k) _ F h2 (YW _ _ _) (Ft T n k (by rw[az.out,HN.out])) (by omega) h9.1).mono ?_;rw[<-HK.out];rintro e w8 ⟨g8,al,rfl,hs,ah,hb⟩;have C:=Z5K hs (Z5w h9.2.size ah) (h9.2.trans (hb.mono h9.2.size));clear h9 hs hb ah);go_ret2;exact⟨g8,al,rfl,C.out.1,C.out.2.1,C.out.2.2⟩
section
open Go.ChangeShapes Go.WideShapes Go.Deep
variable{a:Option Addr}{fuel n:Nat}
structure En where
 key:Int
 val:ByteArray
 gone:Bool
structure En.ok(x:En):Prop where
 k0: -9223372036854775808<=x.key
 k1:x.key<=9223372036854775807
 v:x.val.size<=maxLen
def En.cells(x:En):List Value:=[.int .i64 x.key,.string x.val,.bool x.gone]
def Jr(w:World)(a:Option Addr)(l:List En):Prop:=∀i (h:i<l.length),l[i].ok/\∃b o,a=some ⟨b,o,none⟩/\b<w.heap.size/\∀j v,l[i].cells[j]? =some v->w.cell? ⟨b,o+i*3+j,none⟩=some v
theorem Jr.after{w w':World}{l:List En}(h:Jr w a l)(F:Below w.heap.size w w'):Jr w' a l:=λi hi=>by obtain⟨J,b,o,M,C,O⟩:=h i hi;exact⟨J,b,o,M,Z5v C F.size,λj v U=>(F.cell (p:=⟨b,o+i*3+j,none⟩) C).trans (O j v U)⟩
theorem Hz{w:World}{b o:Nat}{v:Value}(h:w.cell? ⟨b,o,none⟩=some v):b<w.heap.size:=Z5b w ⟨b,o,none⟩ h
section
variable{H:Type}{enc:TypeId×Value->H}{W:World}
theorem Z0V{t:TypeId}{C:Array Field}{cs:List Value}{x:DataW H×List MemPlace}(ht:prog.underlying t=some (.struct C))(J:oneCellFields prog C=true)(U:prog.cellsOf t=C.size)(h:DataW.trod enc prog W 0 (λ_=>true) true fuel t cs=some x):cs.length=C.size/\∀ (j:Nat) (T:TypeId),(C.map (·.type))[j]? =some T->∃ (v:Value) (y:DataW H×List MemPlace) (n:Nat),cs[j]? =some v/\DataW.trod enc prog W 0 (λ_=>true) true n T [v]=some y:=by
 obtain⟨xs,n,_,_,hl,hx,Z⟩:=DataW.trod_struct ht h;refine⟨hl.trans U,λj T F=> ?_⟩;rw[Array.getElem?_map,Option.map_eq_some_iff] at F;obtain⟨f,F,rfl⟩:=F;obtain⟨ho,hk⟩:=hone_of J j f F;have ae:j<C.size:=by grind
 have O:=Z j f F;have M:j<cs.length:=by omega
 rw[ho,hk,List.drop_eq_getElem_cons M,Z5a (by omega)] at O;grind
theorem Z4t{v:Value}{y:DataW H×List MemPlace}(h:DataW.trod enc prog W 0 (λ_=>true) true n 3 [v]=some y):∃m:Int,v=.int .i64 m/\ -9223372036854775808<=m/\m<=9223372036854775807:=by obtain⟨m,C,_,hw⟩:=DataW.trod_int underlying3 h;simp[Lit.wf,IntKind.min,IntKind.signed,IntKind.bits] at hw;simp_all
theorem Z0e{v:Value}{y:DataW H×List MemPlace}(h:DataW.trod enc prog W 0 (λ_=>true) true n 9 [v]=some y):∃s:ByteArray,v=.string s/\s.size<=maxLen:=by obtain⟨s,C,_,hw⟩:=DataW.trod_string underlying9 h;simp_all
theorem Z2T{v:Value}{y:DataW H×List MemPlace}(h:DataW.trod enc prog W 0 (λ_=>true) true n 4 [v]=some y):∃b:Bool,v=.bool b:=by obtain⟨b,C,_⟩:=DataW.trod_bool underlying4 h;simp_all
theorem Z0R{cs:List Value}{x:DataW H×List MemPlace}(h:DataW.trod enc prog W 0 (λ_=>true) true fuel 74 cs=some x):∃e:En,cs=e.cells/\e.ok:=by
 obtain⟨C,O,M,hC,J⟩:∃C,prog.underlying 74=some (.struct C)/\oneCellFields prog C=true/\prog.cellsOf 74=C.size/\C.map (·.type)= #[3,9,4]:=⟨_,underlying74,by kernel_rfl,by kernel_rfl,by kernel_rfl⟩;obtain⟨hl,F⟩:=Z0V O M hC h;have hs:C.size=3:=by have:=congrArg Array.size J;simpa using this
 rw[J] at F;rw[hs] at hl
 match cs,hl with
 |[c0,c1,c2],_=>obtain⟨_,_,_,e0,U⟩:=F 0 _ rfl;obtain⟨_,_,_,e1,Z⟩:=F 1 _ rfl;obtain⟨_,_,_,e2,h2⟩:=F 2 _ rfl;obtain rfl:c0=_:=Option.some.inj e0;obtain rfl:c1=_:=Option.some.inj e1;obtain rfl:c2=_:=Option.some.inj e2;obtain⟨m0,rfl,a0,b0⟩:=Z4t U;obtain⟨s,rfl,hs⟩:=Z0e Z;obtain⟨b,rfl⟩:=Z2T h2;exact⟨⟨m0,s,b⟩,rfl,⟨a0,b0,hs⟩⟩
theorem IS{len cap:Nat}{y:DataW H×List MemPlace}(hf:DataW.trod enc prog W 0 (λ_=>true) true fuel 29 [.slice a len cap]=some y):∃l:List En,len=l.length/\len<=cap/\cap<=maxLen/\Jr W a l:=by
 rcases open_slice underlying29 hf with ⟨h,_⟩|⟨x,l,c,m,n,D,Pl,h,_,hl,hm,af,_,hi⟩
 .simp at h;obtain⟨rfl,rfl,rfl⟩:=h;exact⟨[],rfl,Z5D,Nat.zero_le _,λi hi=>by simp at hi⟩
 .simp at h;obtain⟨rfl,rfl,rfl⟩:=h;simp at af;have h3:prog.cellsOf 74=3:=by kernel_rfl
  rw[h3] at hi;have hex:∀i,i<len->∃e:En,e.ok/\∀j v,e.cells[j]? =some v->W.cell? ((x.add (i*3)).add j)=some v:=by intro i ae;obtain⟨ag,hc,ht⟩:=hi i (by omega);obtain⟨e,rfl,F⟩:=Z0R ht;obtain⟨_,ai,ah⟩:=World.cells?_some hc;grind
  have:Inhabited En:=⟨⟨0,⟨#[]⟩,false⟩⟩;obtain⟨f,C⟩:=choose_lt (α:=En) hex;refine⟨(List.range len).map f,by simp,hl,hm,λi ae=> ?_⟩;have O:i<len:=by simp_all
  have e0:((List.range len).map f)[i]=f i:=by simp
  rw[e0];obtain⟨F,J⟩:=C i O;have U:=J 0 _ rfl;have Z:=(C 0 (by omega)).2 0 _ rfl;obtain⟨b,o,spot⟩:=x;have M:spot=none:=by simpa[Addr.add] using World.cell?_spot Z
  subst M;have ea:∀j,((⟨b,o,none⟩:Addr).add (i*3)).add j=⟨b,o+i*3+j,none⟩:=by intro j;unfold Addr.add;grind
  refine⟨F,b,o,rfl,?_,λj v hj=> ?_⟩
  .have:=U;rw[ea] at this;exact Hz this
  .simp_all
end
