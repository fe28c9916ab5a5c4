/- Part 12: lemmas about what the program computes. -/
import Derived.Test.YthppfllkocphbaaGreatDoorY10
namespace Go.Proofs.YthppfllkocphbaaGreatDoor
set_option linter.unusedVariables false
set_option linter.unusedSimpArgs false
set_option maxHeartbeats 25600000
set_option maxRecDepth 100000
open Tryz Go.RowKit
section
open Go.Maps Go.WideMaps
variable{a b ca db fb g ga gu n n1 n2 na oa q y:Nat}{acts:List Ac}{d d':Dir}{f:Z1}{rs:List (Nat×Nat)}{sm sz:Int}{ts:List Value}{used:List Bool}{v:Value}{w w' w4 wr:World}
def Y1(used:List Bool)(a:Nat):List Nat:=(List.range' a (used.length-a)).filter λi=> !used.getD i true
theorem EZ(used:List Bool):Y1 used 0=Wu used:=by unfold Y1 Wu;rw[Nat.sub_zero,List.range_eq_range']
theorem Mv(h:a<used.length):Y1 used a=if used.getD a true=true then Y1 used (a+1) else a::Y1 used (a+1):=by unfold Y1;rw[show used.length-a=(used.length- (a+1))+1 from by omega,List.range'_succ,List.filter_cons];grind
theorem Nj(h:used.length<=a):Y1 used a=[]:=by unfold Y1;simp_all
theorem Pu{i:Nat}(h:i∈Y1 used a):i<used.length:=by unfold Y1 at h;grind
theorem TP{R:List Nat}{x:Bs×Nat}{r:Z1}{e:Ent}(h:Yn R (x::r) d=some d')(he:d.get x.1=some e):ZJ e.size<=R.length/\Yn (R.drop (ZJ e.size)) r (d.put x.1 {e with runs:=ZZ (R.take (ZJ e.size))})=some d':=by unfold Yn at h;simp_all
theorem Pf(l:List Nat)(a:Nat):ZZ (l++[a])=W7 (ZZ l) a:=by unfold ZZ;simp
theorem Z3M{l:List Nat}(h:∀i∈l,i<n){r:Nat×Nat}(J:r∈ZZ l):1<=r.2/\r.1+r.2<=n:=by
 have C:=GQ l r J;refine⟨C,?_⟩;have F:r.1+r.2-1∈Zb (ZZ l):=by unfold Zb;grind
 rw[Cd] at F;grind
theorem Z1r(h:rs≠[]):∃init f m,rs=init++[(f,m)]:=⟨rs.dropLast,(rs.getLast h).1,(rs.getLast h).2,by rw[show((rs.getLast h).1,(rs.getLast h).2)=rs.getLast h from rfl,List.dropLast_concat_getLast]⟩
theorem GJ(init:List (Nat×Nat))(f m a:Nat):W7 (init++[(f,m)]) a=if f+m=a then init++[(f,m+1)] else init++[(f,m)]++[(a,1)]:=by unfold W7;simp
theorem Z34(h:ZE w b n d){k:Bs}{e:Ent}(F:d.get k=some e)(J:k.length<=maxLen)(hr:e.runs=[]):∀W,Below w.heap.size w W->(Instr.lookup 155 (.map (some b)) (.string (str k)) false).run prog W=.ok (.agg #[.int .i64 (e.size:Int),.int .u32 (e.sum:Int),.slice none 0 0]) W:=by obtain⟨a,l,c,U,C⟩:=N8 h F J;obtain⟨M,l',O,he,⟨Z,_⟩,h4⟩:=C;simp_all
structure Fh(w:World)(q db fb ga oa na ca gu g:Nat)(used:List Bool)(ts:List Value)(acts:List Ac)(d:Dir)(f:Z1)(n1 n2:Nat)(wr:World):Prop where
 pl:PlA wr q db fb ga oa na ca (.slice (some ⟨gu,0,none⟩) used.length used.length) acts d f n1 n2
 us:Row wr gu 4 (used.map .bool)
 txt:Row wr g 9 ts
 fr:Fr [db] w wr
theorem Fh.after(h:Fh w q db fb ga oa na ca gu g used ts acts d f n1 n2 wr)(C:Below wr.heap.size wr w'):Fh w q db fb ga oa na ca gu g used ts acts d f n1 n2 w':=⟨h.pl.after C,h.us.after C,h.txt.after C,h.fr.trans (Fr.of_below (L:=[]) C) (by simp)⟩
theorem Fh.dirTo{F:Nat}(h:Fh w q db fb ga oa na ca gu g used ts acts d f n1 n2 wr)(C:Fr [db] wr w')(J:ZE w' db F d'):Fh w q db fb ga oa na ca gu g used ts acts d' f F n2 w':=by obtain⟨M,m1,_⟩:=h.pl.dir;exact⟨h.pl.dirTo C J,h.us.fr C (Wy h.us m1),h.txt.fr C (Wy h.txt m1),h.fr.trans C (λi hi _=>by simp at hi;simp[hi])⟩
structure JS(w4:World)(y:Nat)(sz sm:Int)(v:Value)(rs:List (Nat×Nat))(wr:World):Prop where
 bel:Below y w4 wr
 row:Row wr y 164 [.int .i64 sz,.int .u32 sm,v]
 own:wr.ownsRow (y+1) 197 2 v rs.length (Qp rs)
 ye:y=w4.heap.size
 nil:rs=[]->v=.slice none 0 0
theorem JS.after(h:JS w4 y sz sm v rs wr)(C:Below wr.heap.size wr w'):JS w4 y sz sm v rs w':=⟨h.bel.trans (C.mono (Nat.le_of_lt h.row.lt)),h.row.after C,Wc h.own C,h.ye,h.nil⟩
theorem JS.entv{sz sm:Nat}(h:JS w4 y sz sm v rs wr):∃a l c,v=.slice a l c/\Xe wr (.agg #[.int .i64 (sz:Int),.int .u32 (sm:Int),.slice a l c]) ⟨sz,sm,rs⟩:=by
 rcases h.own.2 with ⟨hv,C⟩|⟨g,cap,cur,hv,_⟩
 .have F:rs=[]:=List.length_eq_zero_iff.1 C;exact⟨none,0,0,hv,none,0,0,rfl,⟨C.symm,Or.inl F⟩,λ_=>⟨rfl,rfl⟩⟩
 .obtain⟨U,Z,O,M,_,_,_,J⟩:=A7 h.own (by rw[hv];simp)
  exact⟨_,_,_,M,_,_,_,rfl,⟨rfl,Or.inr ⟨U,O,rfl,J⟩⟩,λC=>by
   have F:=h.nil C
   rw[hv] at F;cases F⟩
theorem TU(init:List (Nat×Nat))(f m k:Nat):(Qp (init++[(f,m)])).set (2*init.length+1) (.int .i64 (k:Int))=Qp (init++[(f,k)]):=by rw[JQ,JQ,List.set_append_right _ _ (by rw[Wq];omega),Wq];rw[show 2*init.length+1-2*init.length=1 from by omega];rfl
theorem JS.grow{v':Value}{C:World}{o:Obj}(h:JS w4 y sz sm v rs wr)(M:C.ownsRow (y+1) 197 2 v' (rs.length+1) (Qp rs++[.int .i64 (b:Int),.int .i64 1]))(J:(wr.alloc o).grownBy C v.ownBlock):Row C y 164 [.int .i64 sz,.int .u32 sm,v]/\JS w4 y sz sm v' (rs++[(b,1)]) (C.setCell ⟨y,2,none⟩ v'):=by
 have F:=Ae (h.row.alloc o) J (XD h.row h.own (by simp));have O:Below y w4 C:=by have U:Fr (ZG v) wr C:=((Fr.refl (ZG v) wr).alloc o).grown J (λk hk=>Or.inl (ZK.2 hk));exact h.bel.trans (U.below (Nat.le_of_lt h.row.lt) (λi hi=>by have:=Jj h.own (ZK.1 hi);omega))
 refine⟨F,O.setCell (p:=⟨y,2,none⟩) Z5D _,F.set 2 v',?_,h.ye,λZ=>by simp at Z⟩;have h9:=ownsRow_setCell_below M (a:=⟨y,2,none⟩) (Nat.lt_succ_self y) v';rw[Z5d,JQ];exact h9
theorem JS.more{cap:Nat}{init:List (Nat×Nat)}{f m:Nat}(h:JS w4 y sz sm (.slice (some ⟨g,0,none⟩) (init.length+1) cap) (init++[(f,m)]) wr)(k:Nat):JS w4 y sz sm (.slice (some ⟨g,0,none⟩) (init.length+1) cap) (init++[(f,k)]) (wr.setCell ⟨g,2*init.length+1,none⟩ (.int .i64 (k:Int))):=by have O:y+1<=g:=Jj h.own rfl;have C:=h.own;rw[show(init++[(f,m)]).length=init.length+1 from by simp] at C;have U:=(C.stored (2*init.length+1) (.int .i64 (k:Int))).1;have F:=h.bel.setCell (p:=⟨g,2*init.length+1,none⟩) (by grind) (.int .i64 (k:Int));have J:Fr [g] wr (wr.setCell ⟨g,2*init.length+1,none⟩ (.int .i64 (k:Int))):=(Fr.refl _ _).setCell (Or.inl (by simp)) _;refine⟨F,h.row.fr J (by grind),?_,h.ye,λM=>by simp at M⟩;rw[show(init++[(f,k)]).length=init.length+1 from by simp,<-TU init f m k];omega
theorem JS.shape(h:JS w4 y sz sm v rs wr):(rs=[]/\v=.slice none 0 0)∨∃ (g cap:Nat) (init:List (Nat×Nat)) (f m:Nat),rs=init++[(f,m)]/\v=.slice (some ⟨g,0,none⟩) (init.length+1) cap/\y+1<=g/\ wr.cell? ⟨g,2*init.length,none⟩=some (.int .i64 (f:Int))/\wr.cell? ⟨g,2*init.length+1,none⟩=some (.int .i64 (m:Int)):=by
 by_cases C:rs=[]
 .exact Or.inl ⟨C,h.nil C⟩
 .obtain⟨init,f,m,rfl⟩:=Z1r C
  obtain⟨O,M,Z,J,U,_,_,F⟩:=A7 h.own (λe=>by
   rcases h.own.2 with ⟨_,h9⟩|⟨g,cap,cur,hv,_⟩
   .simp_all
   .rw[e] at hv;cases hv)
  rw[Z5d] at J;have h2:=AF (init++[(f,m)]) init.length (by simp);exact Or.inr ⟨O,M,init,f,m,rfl,J,U,F.cell (by grind),F.cell (by grind)⟩
theorem OJ(h:Strs w b v []):∃g cap,v=.slice g 0 cap:=by
 rcases h.2 with ⟨rfl,_⟩|⟨g,cap,cur,rfl,_⟩
 .simp
 .simp
theorem VU(q db fb ga oa na ca gu:Nat)(used:List Bool)(acts:List Ac)(d d':Dir)(f:Z1)(n1 n2:Nat)(w:World)(h:PlA w q db fb ga oa na ca (.slice (some ⟨gu,0,none⟩) used.length used.length) acts d f n1 n2)(hu:Row w gu 4 (used.map .bool))(hp:Yn (Wu used) f d=some d')(hn:(f.map (·.1)).Nodup)(ha:(f.map (·.2)).Pairwise (· < ·))(dx:f.length<=12)(hi:∀p∈f,p.2<=100000)(ct:∀p∈f,p.1.length<=220)(fh:∀x∈f,∃e,d.get x.1=some e/\e.runs=[]/\e.size<=12000/\e.sum<4294967296)(jq:used.length<=100000)(jl:n1<=100000000):Calls prog 87 #[.pointer (some ⟨q,0,none⟩),.int .i64 ((Wu used).length:Nat)] w λe w'=>e=.returned (.bool true)/\(∃fu,fu<=n1+12/\PlA w' q db fb ga oa na ca (.slice (some ⟨gu,0,none⟩) used.length used.length) acts d' f fu n2)/\Fr [db] w w':=by
 obtain⟨i0,ez,fp,fq,ft⟩:=info_parts I9;have HP:=Z5F h;have HU:=Z5F hu;have HF:=Z5K hn ct fh;have ir:(f.map (·.1)).length=f.length:=Z5i ..;have jg:(Wu used).length<=used.length:=by unfold Wu;exact Z5w (List.length_filter_le _ _) (by simp)
 clear h hu;go_enter func87,ntmps87;by_cases ek:f=[]
 .subst ek;have hd:d=d':=by unfold Yn at hp;exact Option.some.inj hp
  subst hd;go_wp2_with (go_at_call 131;refine(Eh q db fb ga oa na ca _ acts d [] n1 n2 _ HP.out hn ha dx hi ct).mono ?_;rintro e w1 ⟨v,rfl,hv,bh⟩;have S1:=Z5F bh;obtain⟨g,cap,rfl⟩:=OJ hv;clear hv bh);go_loopw [14] (λiv wr=>iv=.int .i64 0/\Below w.heap.size w wr) (λ_ _=>0)
  case atStart=>exact⟨rfl,S1.out⟩
  case round=>obtain⟨rfl,hb⟩:=hrel;go_wp2_with fail;go_ret;exact⟨rfl,⟨n1,by omega,HP.out.after hb⟩,Fr.of_below hb⟩
 have ig:0<f.length:=List.length_pos_iff.2 ek;go_wp2_with (go_at_call 131;refine(Eh q db fb ga oa na ca _ acts d f n1 n2 _ HP.out hn ha dx hi ct).mono ?_;rintro e w1 ⟨v,rfl,hv,bh⟩;obtain⟨g,cap,sp,rfl,eu,je,jf,fg⟩:=Qs hv (by rw[ir];exact ig);have S1:=Z5K fg bh eu;clear hv fg bh eu);obtain⟨ts,dq⟩:=Z5H (Z7 ((f.map (·.1)).map str)++sp);have fi:∀k (hk:k<f.length),ts[k]? =some (.string (str (f[k]).1)):=λk hk=>by rw[<-dq,Z5c (by simp[Z7];omega)];simp[Z7,hk]
 have P1:Fh w q db fb ga oa na ca gu g used ts acts d f n1 n2 w1:=⟨HP.out.after S1.out.2.1,HU.out.after S1.out.2.1,by rw[<-dq];exact S1.out.1,Fr.of_below S1.out.2.1⟩;have gj:=Z5F P1;have ia:=Z5F fi;clear dq fi P1 hn ha hi ct fh;go_loopw [1,5,14] (λfv av iv wr=>∃ (i a:Nat) (di:Dir) (ni:Nat),i<=f.length/\a<=used.length/\fv=.int .i64 ((Y1 used a).length:Nat)/\av=.int .i64 a/\iv=.int .i64 i/\Yn (Y1 used a) (f.drop i) di=some d'/\ni<=n1+i/\(∀x∈f.drop i,di.get x.1=d.get x.1)/\Fh w q db fb ga oa na ca gu g used ts acts di f ni n2 wr) (λ_ _ iv _=>f.length- (intOf iv).toNat)
 case atStart=>exact⟨0,0,d,n1,by omega,by omega,by rw[EZ],rfl,rfl,by rw[EZ];exact hp,by omega,λ_ _=>rfl,gj.out⟩
 case round=>
  obtain⟨i,a,di,ni,ji,ic,rfl,rfl,rfl,b8,jm,bm,hS⟩:=hrel;have HS:=Z5F hS;by_cases dj:i<f.length
  .have aq:=hS.txt.cell (ia.out i dj);have b7:f[i]∈f:=Z5r dj;have ah:f.drop i=f[i]::f.drop (i+1):=List.drop_eq_getElem_cons dj;rw[ah] at b8 bm;obtain⟨e,ef,dp,jo,iy⟩:=HF.out.2.2 _ b7;have he:di.get (f[i]).1=some e:=by rw[bm _ List.mem_cons_self];exact ef
   have iz:=HF.out.2.1 _ b7;have dm:∀x∈f.drop (i+1),x.1≠(f[i]).1:=λx hx e9=>by have C:=HF.out.1;rw[<-Z5z i f,ah,Z5u,Z5t] at C;have h8:=(List.nodup_append.1 C).2.1;exact(List.nodup_cons.1 h8).1 (by rw[<-e9];exact List.mem_map_of_mem hx)
   obtain⟨x,hx⟩:=Z5H f[i];rw[hx] at aq b8 bm he iz dm;obtain⟨bu,ak⟩:=TP b8 he;have fo:x.1.length<=maxLen:=by unfold maxLen;omega
   have dt:=hS.pl.row.cell (j:=0) rfl;have ik:=Z34 hS.pl.dir he fo dp _ Z5E;obtain⟨y,hy⟩:=Z5H wr.heap.size;obtain⟨R,hR⟩:=Z5H (Y1 used a);obtain⟨sc,cu⟩:=Z5H (ZJ e.size);rw[hR] at bu ak⊢;rw[cu] at bu ak;have ix:sc<=200:=by rw[<-cu];unfold ZJ;omega
   have HB:Hid (JS wr y e.size e.sum (.slice none 0 0) [] (wr.alloc (.cells #[.int .i64 (e.size:Int),.int .u32 (e.sum:Int),.slice none 0 0] 164))):=Z5F ⟨by rw[<-hy];exact(Below.refl _ wr).alloc Z5D _,by rw[<-hy];exact Row.new wr _ [_,_,_],World.ownsRow_nil _ _ _ _,hy.symm,λ_=>rfl⟩;have e0:=(Row.new wr 164 [.int .i64 (e.size:Int),.int .u32 (e.sum:Int),.slice none 0 0]).cell (j:=0) rfl;have jc:R.length<=used.length:=by rw[<-hR];unfold Y1;refine Z5w (List.length_filter_le _ _) ?_;simp
   have sb:IntKind.i64.wrap ((R.length:Int)- (sc:Int))=((R.length-sc:Nat):Int):=by rw[Z5x _ (by omega)];omega
   have sd:decide (((R.length-sc:Nat):Int)<0)=false:=decide_eq_false (by omega);have HE:=Z5M ak bm dm iy hR;have HX:=Z5L hx fo hy cu;have j9:=Z5J he dp;clear b8 ak bm dm ef he dp hx hS ah b7 hR hp cu;go_wp2_with (go_at_call 90;refine(EE e.size (by omega) _).mono ?_;rw[HX.out.2.2.2];rintro r w9 ⟨rfl,rfl⟩);clear e0 ik dt sb sd aq;go_loopw [5,9] (λav lv wi=>∃ (b j:Nat) (v:Value),a<=b/\b<=used.length/\j<=sc/\av=.int .i64 b/\lv=.int .i64 ((sc-j:Nat):Int)/\Y1 used b=R.drop j/\JS wr y e.size e.sum v (ZZ (R.take j)) wi) (λav _ _=>used.length- (intOf av).toNat)
   case atStart=>exact⟨a,0,_,by omega,ic,by omega,rfl,rfl,by rw[HE.out.2.2.2.2];rfl,HB.out⟩
   case round=>
    obtain⟨b,j,v,jd,ie,fc,rfl,rfl,au,bf⟩:=hrel;have O:=Z5F bf;have cn:=Z5F (HS.out.after (by rw[HX.out.2.2.1];exact bf.bel));have j7:=bf.row.lt;by_cases hj:j<sc
    .have de:R.drop j≠[]:=λe9=>by have:=List.drop_eq_nil_iff.1 e9;omega
     have dc:b<used.length:=by
      rcases Nat.lt_or_ge b used.length with C|C
      .exact C
      .rw[Nj C] at au;exact absurd au.symm de
     have al:=Mv dc
     have cj:=cn.out.us.cell (j:=b) (v:=.bool (used.getD b true)) (by
      rw[List.getElem?_map,Z5a dc,Z59,Z5a dc];rfl)
     have cz:=cn.out.pl.row.cell (j:=3) rfl;have g0:decide (0<((sc-j:Nat):Int))=true:=decide_eq_true (by omega);cases hu:used.getD b true
     case true=>
      rw[hu] at cj al;have bg:=Z5J au al;clear au al bf de hu;go_wp2_with fail;go_roundw
      case measure=>simp[intOf];omega
      case rel=>exact⟨b+1,j,v,by omega,by omega,fc,by go_num,rfl,by rw[<-bg.out.1,bg.out.2];rfl,O.out⟩
     case false=>
      rw[hu] at cj al;rw[if_neg (by decide)] at al;rw[au] at al;have ew:R[j]? =some b:=by
       have C:(R.drop j)[0]? =some b:=by rw[al];rfl
       rw[List.getElem?_drop] at C;exact C
      have bz:R.take (j+1)=R.take j++[b]:=by rw[List.take_add_one,ew];rfl
      have bq:Y1 used (b+1)=R.drop (j+1):=by
       have C:(R.drop j).drop 1=Y1 used (b+1):=by rw[al];rfl
       rw[List.drop_drop] at C;exact C.symm
      have dz:ZZ (R.take (j+1))=W7 (ZZ (R.take j)) b:=(by rw[bz,Pf]);have dy:∀z∈R.take j,z<used.length:=λz hz=>Pu (a:=a) (by rw[HE.out.2.2.2.2];exact List.mem_of_mem_take hz);have HJ:=Z5K bq dz dy;clear au al bf de hu ew bz bq dz dy;have e2:=O.out.row.cell (j:=2) rfl;have sj:IntKind.i64.wrap (((sc-j:Nat):Int)-1)=((sc- (j+1):Nat):Int):=by rw[Z5x _ (by omega)];omega
      rcases O.out.shape with ⟨b9,rfl⟩|⟨gr,aj,init,fr,m,b9,rfl,jh,cf,cm⟩
      .have U:=Z5F b9;clear b9;go_wp2_with fail;go_quiet (fail);have J:=Zv (Below.refl wr.heap.size wr) nq;have F:=O.out.after J;have S3:=cn.out.after J;generalize wr.drewN nq=w3 at*
       have dw:=F.row.cell (j:=2) rfl;have aw:=Z5F F;have ja:=Z5F S3;clear J F S3 e2 cj cz g0 sj;go_wp2_with (at_builtin;refine wpList_append_own _ rfl (.tmp 78) (.tmp 81) 162 rfl (y+1) 197 i0 _ 2 16 underlying162 ez fp fq ft rfl (by omega) (.slice none 0 0) 0 [] rfl (World.ownsRow_nil _ _ _ _) ⟨w3.heap.size,0,none⟩ 1 1 [.int .i64 (b:Int),.int .i64 1] rfl rfl (World.news_of_block (cs:= #[.int .i64 (b:Int),.int .i64 1]) (t:=197) (fr:=(0,0)) (heap_alloc_new w3 _)) (by simp[Value.oneCell']) (by unfold maxLen;omega) (by omega) (by have:=aw.out.row.lt;simp;omega) ?_;intro v' w6 ae ai af;obtain⟨g6,ag,j8,rfl,_,_,_,_⟩:=A7 ae (λe6=>by have:=af.1 e6;omega);clear af;have Z:=aw.out.grow (v':=.slice (some ⟨g6,0,none⟩) (0+1) ag) (by rw[U.out];exact ae) ai;have f26:=Z.1.free (j:=2) (by simp);have ib:=Z.1.cell (j:=2) rfl;have cw:=Z5F Z;clear Z ae ai);go_roundw
       case measure=>simp[intOf];omega
       case rel=>refine⟨b+1,j+1,.slice (some ⟨g6,0,none⟩) 1 ag,by omega,by omega,by omega,by go_num,rfl,HJ.out.1,?_⟩;rw[HJ.out.2.1,show W7 (ZZ (R.take j)) b=ZZ (R.take j)++[(b,1)] from by rw[U.out];rfl];exact cw.out.2
      .have fa:(fr,m)∈ZZ (R.take j):=by rw[b9];simp
       obtain⟨fe,ff⟩:=Z3M HJ.out.2.2 fa;have bj:(ZZ (R.take j)).length<=200:=by have:=Pg (R.take j);rw[Z5j] at this;omega
       rw[b9,Z5d,List.length_singleton] at bj;have iq:fr+m<=used.length:=ff;have im:1<=m:=fe;have U:=Z5F b9;have ey:gr<wr.heap.size:=(O.out.own.lt gr rfl).2;clear b9 fa fe ff;obtain⟨il,cr⟩:=Z5H init.length;obtain⟨M,dh⟩:=Z5H (il+1);rw[cr,Nat.mul_comm] at cf cm;rw[cr,dh] at e2 O bj;have ij:il<M:=(by omega);have jk:IntKind.i64.wrap ((M:Int)-1)=(il:Int):=by rw[Z5x _ (by omega)];omega
       have az:=Z5J cr dh;clear cr dh;go_wp2_with fail;have g1:decide (0<=(il:Int))=true:=decide_eq_true (by omega);by_cases er:fr+m=b
       .have iw:decide ((fr:Int)+(m:Int)=(b:Int))=true:=decide_eq_true (by omega);go_quiet (fail);have J:=Zv (Below.refl wr.heap.size wr) nq;have F:=O.out.after J;have du:(wr.drewN nq).cell? ⟨gr,il*2+1,none⟩=some (.int .i64 (m:Int)):=by rw[World.cell?_of_block (J.block gr ey)];exact cm
        generalize wr.drewN nq=w3 at*
        have dw:=F.row.cell (j:=2) rfl;have ho:w3.ownsRow (y+1) 197 2 (.slice (some ⟨gr,0,none⟩) M aj) M (Qp (ZZ (R.take j))):=by have C:=F.own;rw[show(ZZ (R.take j)).length=M from by rw[U.out,Z5d,List.length_singleton,az.out.1,az.out.2]] at C;exact C
        have jb:=ho.frozenAt (il*2+1);have HO:=Z5F ho;have aw:=Z5F F;clear J F e2 cj cz g0 sj cm cf ho;go_wp2_with fail;go_roundw
        case measure=>simp[intOf];omega
        case rel=>refine⟨b+1,j+1,.slice (some ⟨gr,0,none⟩) M aj,by omega,by omega,by omega,by go_num,rfl,HJ.out.1,?_⟩;rw[HJ.out.2.1,U.out,GJ,if_pos er];have C:=aw.out;obtain⟨q1,q2⟩:=az.out;subst q2;subst q1;rw[U.out] at C;have h8:=C.more (m+1);rw[Nat.mul_comm 2] at h8;exact h8
       .have iw:decide ((fr:Int)+(m:Int)=(b:Int))=false:=decide_eq_false (by omega);go_quiet (fail);have J:=Zv (Below.refl wr.heap.size wr) nq;have F:=O.out.after J;have du:(wr.drewN nq).cell? ⟨gr,il*2+1,none⟩=some (.int .i64 (m:Int)):=by rw[World.cell?_of_block (J.block gr ey)];exact cm
        generalize wr.drewN nq=w3 at*
        have dw:=F.row.cell (j:=2) rfl;have ho:w3.ownsRow (y+1) 197 2 (.slice (some ⟨gr,0,none⟩) M aj) M (Qp (ZZ (R.take j))):=by have C:=F.own;rw[show(ZZ (R.take j)).length=M from by rw[U.out,Z5d,List.length_singleton,az.out.1,az.out.2]] at C;exact C
        have HO:=Z5F ho;have aw:=Z5F F;clear J F e2 cj cz g0 sj cm cf ho;clear du;go_wp2_with (at_builtin;refine wpList_append_own _ rfl (.tmp 78) (.tmp 81) 162 rfl (y+1) 197 i0 _ 2 16 underlying162 ez fp fq ft rfl (by omega) (.slice (some ⟨gr,0,none⟩) M aj) M (Qp (ZZ (R.take j))) rfl (HO.out.alloc _) ⟨w3.heap.size,0,none⟩ 1 1 [.int .i64 (b:Int),.int .i64 1] rfl rfl (World.news_of_block (cs:= #[.int .i64 (b:Int),.int .i64 1]) (t:=197) (fr:=(0,0)) (heap_alloc_new w3 _)) (by simp[Value.oneCell']) (by unfold maxLen;omega) (by omega) (by have:=aw.out.row.lt;simp;omega) ?_;intro v' w6 ae ai af;obtain⟨g6,ag,j8,rfl,_,_,_,_⟩:=A7 ae (λe6=>by have:=af.1 e6;omega);clear af;have Z:=aw.out.grow (v':=.slice (some ⟨g6,0,none⟩) (M+1) ag) (by rw[show(ZZ (R.take j)).length=M from by rw[U.out,Z5d,List.length_singleton,az.out.1,az.out.2]];exact ae) ai;have f26:=Z.1.free (j:=2) (by simp);have ib:=Z.1.cell (j:=2) rfl;have cw:=Z5F Z;clear Z ae ai);go_roundw
        case measure=>simp[intOf];omega
        case rel=>refine⟨b+1,j+1,.slice (some ⟨g6,0,none⟩) (M+1) ag,by omega,by omega,by omega,by go_num,rfl,HJ.out.1,?_⟩;have C:W7 (ZZ (R.take j)) b=ZZ (R.take j)++[(b,1)]:=(by rw[U.out,GJ,if_neg er]);rw[HJ.out.2.1,C];exact cw.out.2
    .have df:j=sc:=(by omega);clear hj fc;subst df;have g0:decide (0<((j-j:Nat):Int))=false:=decide_eq_false (by omega);obtain⟨a',l',c',rfl,eh⟩:=O.out.entv;have J:=(Below.refl wr.heap.size wr).drew;have D:=cn.out.after J;have dt:=D.pl.row.cell (j:=0) rfl;have F:=O.out.after J;have e0:=F.row.cell (j:=0) rfl;have e1:=F.row.cell (j:=1) rfl;have e2:=F.row.cell (j:=2) rfl;obtain⟨w6,iu,ee,eo⟩:=KQ D.pl.dir (by unfold maxLen;omega) x.1 HX.out.2.1 _ ⟨e.size,e.sum,ZZ (R.take j)⟩ (eh.fr (Fr.of_below (L:=[]) J) (by simp));have D6:=D.dirTo eo ee;have fw:=Z5F D6;have bg:=Z5F au;have fm:=HX.out.2.1;clear D F eh J ee eo bf D6 au;go_wp2_with fail;go_region;go_wp2_with fail;go_roundw
     case measure=>simp[intOf];omega
     case rel=>
      refine⟨i+1,b,_,ni+1,by omega,ie,?_,rfl,by go_num,?_,by omega,?_,fw.out⟩
      .rw[bg.out,List.length_drop]
      .rw[bg.out];exact HE.out.1
      .intro x' fj;rw[Dir.get_put,if_neg (HE.out.2.2.1 x' fj)];exact HE.out.2.1 x' (Z5n _ fj)
  .obtain rfl:i=f.length:=(by omega);rw[List.drop_length] at b8;have hd:di=d':=by unfold Yn at b8;exact Option.some.inj b8
   subst hd;clear hS;go_wp2_with fail;go_ret;exact⟨rfl,⟨ni,by omega,HS.out.pl⟩,HS.out.fr⟩
end
section
open Go.Maps Go.WideMaps
variable{N T V:Bs}{a:Ac}{acts:List Ac}{d:Dir}{f:Z1}{k:Nat}
theorem Z0v(h:Ac.wrong ⟨1,N,T,V⟩=false):T=[]/\1<=N.length/\N.length<=220/\V.length<=12000:=by unfold Ac.wrong at h;simp_all
theorem Ut(h:Ac.wrong ⟨2,N,T,V⟩=false):T=[]/\V=[]/\1<=N.length/\N.length<=220:=by unfold Ac.wrong at h;simp_all
theorem Uu(h:Ac.wrong ⟨3,N,T,V⟩=false):V=[]/\1<=T.length/\T.length<=220/\1<=N.length/\N.length<=220:=by unfold Ac.wrong at h;simp_all
theorem Z3z(q db fb ga oa na ca:Nat)(us:Value)(acts:List Ac)(d d':Dir)(f f':Z1)(n1 n2 k:Nat)(a:Ac)(w:World)(h:PlA w q db fb ga oa na ca us acts d f n1 n2)(hk:acts[k]? =some a)(hm:acts.length<=100000)(hw:a.wrong=false)(C:Wh k a d f=some (d',f'))(ae:n1<=100000000)(af:n2<=100000000)(O:na<=ca):Calls prog 86 #[.pointer (some ⟨q,0,none⟩),.int .i64 k] w λe w'=>e=.returned .nilIface/\(∃ah ai,ah<=n1+1/\ai<=n2+1/\PlA w' q db fb ga oa na ca us acts d' f' ah ai)/\Fr [db,fb] w w':=by
 have Z:k<acts.length:=by grind
 have hg:acts.getD k ⟨0,[],[],[]⟩=a:=by simp_all
 obtain⟨kd,N,T,V⟩:=a;unfold Wh at C;split at C
 .rename_i J;have F:kd=1:=J;subst F;obtain⟨rfl,h2,M,h4⟩:=Z0v hw;obtain⟨rfl,rfl⟩:=C;exact Z3A q db fb ga oa na ca us acts d f n1 n2 k N V w h Z hm hg M h4 ae af O
 .rename_i J;have F:kd=2:=J;subst F;obtain⟨rfl,rfl,h2,M⟩:=Ut hw;split at C
  .rename_i e0 U;obtain⟨rfl,rfl⟩:=C;exact Z1Q q db fb ga oa na ca us acts d f n1 n2 k N e0 w h Z hm hg M U ae af O
  .grind
 .rename_i J;have F:kd=3:=J;subst F;obtain⟨rfl,h2,M,h4,h5⟩:=Uu hw;split at C
  .rename_i e0 U;split at C
   .grind
   .rename_i ag;simp at ag;obtain⟨ak,al⟩:=ag;obtain⟨rfl,rfl⟩:=C;have aj:f.by N=none:=by have h9:=Z1.has_by f N;simp_all
    exact Z1R q db fb ga oa na ca us acts d f n1 n2 k N T e0 w h Z hm hg h5 M ak U aj ae af O
  .grind
 .grind
theorem Pk(J:acts[k]? =some a){d d1:Dir}{f f1:Z1}(h:Qi (acts.drop k) k d f=some (d1,f1)):∃C f',Wh k a d f=some (C,f')/\Qi (acts.drop (k+1)) (k+1) C f'=some (d1,f1):=by obtain⟨F,he⟩:=List.getElem?_eq_some_iff.1 J;rw[List.drop_eq_getElem_cons F,he,Qi] at h;grind
theorem Pi{M:Dir}{f':Z1}(h:Wh k a d f=some (M,f'))(U:(f.map (·.2)).Pairwise (· < ·))(C:∀x∈f,x.2<k)(hl:∀x∈f,x.1.length<=220)(hw:a.wrong=false):(f'.map (·.2)).Pairwise (· < ·)/\(∀x∈f',x.2<k+1)/\∀x∈f',x.1.length<=220:=by
 have F:∀n,((f.del n).map (·.2)).Pairwise (· < ·):=λn=>U.sublist ((List.filter_sublist).map _);unfold Wh at h;split at h
 .rename_i O;simp only[Z5e,Prod.mk.injEq] at h;obtain⟨rfl,rfl⟩:=h;refine⟨?_,λx hx=> ?_,λx hx=> ?_⟩
  .rw[Z5u,List.pairwise_append];refine⟨F _,by simp,λx hx y J=> ?_⟩;obtain⟨z,Z,rfl⟩:=List.mem_map.1 hx;simp only[Z5t,List.map_nil,Z58] at J;subst J;exact C z (Z1.mem_del.1 Z).1
  .rcases Z5p.1 hx with hx|hx
   .have:=C x (Z1.mem_del.1 hx).1;omega
   .simp_all
  .rcases Z5p.1 hx with hx|hx
   .exact hl x (Z1.mem_del.1 hx).1
   .rw[Z58] at hx;subst hx;exact(Ac.put_ok hw O).2.1
 .split at h
  .simp only[Z5e,Prod.mk.injEq] at h;obtain⟨rfl,rfl⟩:=h;exact⟨F _,λx hx=>by have:=C x (Z1.mem_del.1 hx).1;omega,λx hx=>hl x (Z1.mem_del.1 hx).1⟩
  .grind
 .split at h
  .split at h
   .cases h
   .simp only[Z5e,Prod.mk.injEq] at h;obtain⟨rfl,rfl⟩:=h;exact⟨(F a.name).sublist ((List.filter_sublist).map _),λx hx=>by have:=C x (Z1.mem_del.1 (Z1.mem_del.1 hx).1).1;omega,λx hx=>hl x (Z1.mem_del.1 (Z1.mem_del.1 hx).1).1⟩
  .grind
 .grind
theorem N9(hw:∀a∈acts,a.wrong=false):∀{k:Nat} {d C:Dir} {f f':Z1},Qi acts k d f=some (C,f')->(f.map (·.2)).Pairwise (· < ·)->(∀x∈f,x.2<k)->(∀x∈f,x.1.length<=220)->(f'.map (·.2)).Pairwise (· < ·)/\(∀x∈f',x.2<k+acts.length)/\∀x∈f',x.1.length<=220:=by
 induction acts with
 |nil=>intro k d C f f' h J F hl;simp[Qi] at h;obtain⟨rfl,rfl⟩:=h;exact⟨J,F,hl⟩
 |cons a r ih=>
  intro k d C f f' h J F hl;rw[Qi] at h;split at h
  .rename_i d1 f1 M;obtain⟨O,o2,U⟩:=Pi M J F hl (hw a (by simp));grind
  .grind
theorem Fb(a b:List Nat)(v:Bs):Qd (a++b) v=Qd a v++Qd b (v.drop (64*a.length)):=by
 induction a generalizing v with
 |nil=>simp[Qd]
 |cons x a ih=>rw[List.cons_append,Qd,Qd,ih,List.drop_drop,List.cons_append,Z5h,show 64*(a.length+1)=64+64*a.length from by omega]
theorem Fc(l:List Nat)(v:Bs):(Qd l v).length=l.length:=by
 induction l generalizing v with
 |nil=>rfl
 |cons x l ih=>rw[Qd,Z5h,Z5h,ih]
theorem Du(d:Dir)(acts:List Ac)(f g:Z1):Yb d acts (f++g)=Yb d acts f++Yb d acts g:=by unfold Yb;rw[List.flatMap_append]
theorem OO(d:Dir)(acts:List Ac)(x:Bs×Nat){e:Ent}(h:d.get x.1=some e):Yb d acts [x]=Qd e.secs (acts.getD x.2 ⟨0,[],[],[]⟩).value:=by unfold Yb;simp[h]
theorem Iv(h:∀x∈f,∃e,d.get x.1=some e/\Ent.Ok 800 100 e):(Yb d acts f).length<=200*f.length:=by
 induction f with
 |nil=>simp[Z2w]
 |cons x r ih=>
  obtain⟨e,he,C⟩:=h x (by simp);have F:e.secs.length<=200:=by rw[C.secs];have:=C.size;unfold ZJ;omega
  rw[show x::r=[x]++r from rfl,Du,Z5d,OO d acts x he,Fc,Z5d];grind
theorem Ph{Y:List DOp}(h:∃r,Yb d acts f=Y++r)(C:Y≠[]):∃r,Q3 d acts f=Y++r:=by obtain⟨r,h⟩:=h;refine⟨r++[.fl],?_⟩;unfold Q3;simp_all
end
section
open Go.Maps Go.WideMaps
structure WrS(B p d:Nat)(P:Pw)(D:Dk)(L:List Nat)(s q db fb ga oa na ca:Nat)(us:Value)(acts:List Ac)(dir:Dir)(f:Z1)(n1 n2:Nat)(l0:List Value)(g:Nat)(ts:List Value)(w:World)(A:List DOp)(wr:World):Prop where
 pl:PlA wr q db fb ga oa na ca us acts dir f n1 n2
 st:Row wr s 157 (.pointer (some ⟨d,0,none⟩)::l0)
 txt:Row wr g 9 ts
 stg:∃P1 D1 L1,Stg B p d 800 L [] A P D w P1 D1 L1 wr
section
variable{B p d:Nat}{P:Pw}{D:Dk}{L:List Nat}{s q db fb ga oa na ca:Nat}{us:Value}{acts:List Ac}{dir:Dir}{f:Z1}{n1 n2:Nat}{l0:List Value}{g:Nat}{ts:List Value}{w:World}{A:List DOp}{wr:World}
theorem WrS.after(h:WrS B p d P D L s q db fb ga oa na ca us acts dir f n1 n2 l0 g ts w A wr){w':World}(C:Below wr.heap.size wr w'):WrS B p d P D L s q db fb ga oa na ca us acts dir f n1 n2 l0 g ts w A w':=by obtain⟨P1,D1,L1,F⟩:=h.stg;exact⟨h.pl.after C,h.st.after C,h.txt.after C,P1,D1,L1,F.after C⟩
theorem PlA.did{L1:List Nat}{P1:Pw}{D1:Dk}{w':World}(h:PlA wr q db fb ga oa na ca us acts dir f n1 n2)(C:PD B wr p d 800 P D L)(M:Did B p d 800 L [] P1 D1 wr w' L1)(O:ga∉p::L):PlA w' q db fb ga oa na ca us acts dir f n1 n2:=by
 have F:Fr (p::L) wr w':=by simpa using M.fr
 refine⟨M.row C h.row (by simp) (by simp) (by simp) (by simp) (by simp),h.dir.fr F ?_ C.no_ext,h.fsh.fr F ?_,h.ard.fr F O,h.many,h.ne,h.nag⟩
 .obtain⟨Z,m1,_⟩:=h.dir;obtain⟨es,U,J⟩:=m1.block;exact C.map_ne J
 .obtain⟨es,U,J⟩:=h.fsh.block;exact C.map_ne J
end
theorem Z0o(d:Dir)(acts:List Ac)(f:Z1)(i:Nat)(hi:i<f.length){e:Ent}(h:d.get (f[i]).1=some e):Yb d acts (f.take (i+1))=Yb d acts (f.take i)++Qd e.secs (acts.getD (f[i]).2 ⟨0,[],[],[]⟩).value:=by rw[Z5f hi,Du,OO d acts _ h]
theorem Rs(l:List Nat)(a:Nat)(v:Bs):Qd (l++[a]) v=Qd l v++[.wr a (Ja (v.drop (64*l.length)))]:=by rw[Fb];rfl
theorem Rt(d:Dir)(acts:List Ac)(f:Z1)(i:Nat):∃r,Yb d acts f=Yb d acts (f.take i)++r:=⟨Yb d acts (f.drop i),by rw[<-Du,Z5z]⟩
theorem VS(v:ByteArray)(h nn z:Nat)(C:v.size=h)(F:nn=min h 64)(J:z=64-nn):v.extract 0 nn++WU z=Ja v.data.toList:=by
 apply MU;have hl:v.data.toList.length=h:=by simp_all
 rw[data_append];have e1:(v.extract 0 nn).data.toList=v.data.toList.take 64:=by rw[Lib.extract_data];grind
 congr 1;show List.replicate z 0=_;simp_all
theorem Z0Z(sz sm:Int)(a:Option Addr)(l c:Nat)(W:World):(Instr.field 164 (.agg #[.int .i64 sz,.int .u32 sm,.slice a l c]) 2).run prog W=.ok (.slice a l c) W:=by kernel_rfl
theorem MC(B p d:Nat)(P:Pw)(D:Dk)(L:List Nat)(s q db fb ga oa na ca:Nat)(us:Value)(acts:List Ac)(dir:Dir)(f:Z1)(n1 n2:Nat)(l0:List Value)(w:World)(h:PD B w p d 800 P D L)(hB:B<=w.heap.size)(hs:Row w s 157 (.pointer (some ⟨d,0,none⟩)::l0))(hp:PlA w q db fb ga oa na ca us acts dir f n1 n2)(ie:ga∉p::L)(hf:∀x∈f,∃e,dir.get x.1=some e/\Ent.Ok 800 100 e/\e.size=(acV acts x.2).length/\x.2<acts.length)(hn:(f.map (·.1)).Nodup)(ha:(f.map (·.2)).Pairwise (· < ·))(ft:f.length<=12)(jy:acts.length<=100000)(im:∀x∈f,x.1.length<=220)(kf:na<=ca)(jh:D.wait.length<=100000):Calls prog 134 #[.pointer (some ⟨s,0,none⟩),.pointer (some ⟨q,0,none⟩)] w (Ans w.heap.size (Z2 (Q3 dir acts f) P D).1 (Ran B p d 800 L [] (Q3 dir acts f) P D w)):=by
 have hi:∀x∈f,x.2<=100000:=λx hx=>by obtain⟨e,_,_,_,U⟩:=hf x hx;omega
 have jm:(f.map (·.1)).length=f.length:=Z5i ..;have O:=Z5M h hB hs hp ie;have M:=Z5M hf hn ha hi im;have HM:=Z5F jm;clear h hB hs hp ie hf hn ha hi im;go_enter func134,ntmps134;by_cases ib:f=[]
 .subst ib;have e0:Q3 dir acts []=[]:=rfl;rw[e0];go_wp2_with (go_at_call 131;refine(Eh q db fb ga oa na ca _ acts dir [] n1 n2 _ O.out.2.2.2.1 M.out.2.1 M.out.2.2.1 ft M.out.2.2.2.1 M.out.2.2.2.2).mono ?_;rintro e w1 ⟨v,rfl,hv,bq⟩;have S1:=Z5F bq;obtain⟨g,cap,rfl⟩:=OJ hv;clear hv bq);go_loopw [5,17] (λwv iv wr=>iv=.int .i64 0/\wv=.bool false/\Below w.heap.size w wr) (λ_ _ _=>0)
  case atStart=>exact⟨rfl,rfl,S1.out⟩
  case round=>obtain⟨rfl,rfl,hb⟩:=hrel;go_wp2_with fail;go_ret;exact⟨_,rfl,Zk.nil _ _,L,Did.same O.out.1 [] hb⟩
 have ji:0<f.length:=List.length_pos_iff.2 ib;go_wp2_with (go_at_call 131;refine(Eh q db fb ga oa na ca _ acts dir f n1 n2 _ O.out.2.2.2.1 M.out.2.1 M.out.2.2.1 ft M.out.2.2.2.1 M.out.2.2.2.2).mono ?_;rintro e w1 ⟨v,rfl,hv,bq⟩;obtain⟨g,cap,sp,rfl,ig,jz,ke,iw⟩:=Qs hv (by rw[HM.out];exact ji);have S1:=Z5K iw bq ig;clear hv iw bq ig);obtain⟨ts,fg⟩:=Z5H (Z7 ((f.map (·.1)).map str)++sp);have b8:∀k (hk:k<f.length),ts[k]? =some (.string (str (f[k]).1)):=λk hk=>by rw[<-fg,Z5c (by simp[Z7];omega)];simp[Z7,hk]
 have W0:WrS B p d P D L s q db fb ga oa na ca us acts dir f n1 n2 l0 g ts w [] w1:=⟨O.out.2.2.2.1.after S1.out.2.1,O.out.2.2.1.after S1.out.2.1,by rw[<-fg];exact S1.out.1,P,D,L,Stg.start O.out.1 [] S1.out.2.1⟩;have jd:=Z5F W0;have jc:=Z5F b8;clear fg b8 W0;go_loopw [5,17] (λwv iv wr=>∃i:Nat,i<=f.length/\wv=.bool (!(Yb dir acts (f.take i)).isEmpty)/\iv=.int .i64 i/\WrS B p d P D L s q db fb ga oa na ca us acts dir f n1 n2 l0 g ts w (Yb dir acts (f.take i)) wr) (λ_ iv _=>f.length- (intOf iv).toNat)
 case atStart=>exact⟨0,by omega,rfl,rfl,jd.out⟩
 case round=>
  obtain⟨i,kg,rfl,rfl,hS⟩:=hrel;have HS:=Z5F hS;by_cases ey:i<f.length
  .have au:=hS.txt.cell (jc.out i ey);have al:f[i]∈f:=Z5r ey;obtain⟨e,he,ek,cu,dj⟩:=M.out.1 _ al;have bg:=Z0o dir acts f i ey he;have af:=Rt dir acts f (i+1);have j8:=M.out.2.2.2.2 _ al;have bf:f.by (f[i]).1=some (f[i]).2:=Z1.by_mem M.out.2.1 al
   obtain⟨x,hx⟩:=Z5H f[i];rw[hx] at au he cu dj bg j8 bf;have fq:=Iv (d:=dir) (acts:=acts) (f:=f.take i) (λx hx=>by obtain⟨e,he,k,_⟩:=M.out.1 x (List.mem_of_mem_take hx);exact⟨e,he,k⟩);have jb:Hid ((Yb dir acts (f.take i)).length<=2400):=Z5F (by rw[Z5j] at fq;omega);clear fq;obtain⟨A0,bh⟩:=Z5H (Yb dir acts (f.take i));rw[bg,bh] at af;rw[bh] at bg HS⊢;have j9:x.1.length<=maxLen:=by unfold maxLen;omega
   have dy:(acts.getD x.2 ⟨0,[],[],[]⟩).value=acV acts x.2:=rfl;obtain⟨V,hV⟩:=Z5H (acV acts x.2);rw[dy] at bg af;rw[hV] at bg cu af;have jx:V.length<=12000:=by rw[<-cu];exact ek.size
   have D1:=HS.out.after ((Below.refl wr.heap.size wr).drew);have y2:=D1.pl.row.cell (j:=2) rfl;have y1:=D1.pl.row.cell (j:=1) rfl;have jk:(Instr.lookup 165 (.map (some fb)) (.string (str x.1)) false).run prog wr.drew=.ok (.int .i64 (x.2:Int)) wr.drew:=D1.pl.fsh.at_some underlying165 (DD _) j9 (by unfold Qw;rw[bf];rfl);have jf:wr.drew.cell? ⟨ga,oa+x.2*4+3,none⟩=some (.string (str V)):=by rw[<-hV,<-dy];exact(D1.pl.ard.2 x.2 dj).2.2.2
   have jw:x.2<na:=by rw[D1.pl.many];exact dj
   have fi:(x.2:Int)<(na:Int):=(by omega);have HE:=Z5N he ek cu bg af j9;have HX:=Z5K hx bh hV;have dp:=Z5F D1;clear hx he ek cu bg bf af j8 dy hV bh hS al D1 dj;go_wp2_with fail;go_region;generalize wr.drew=w3 at*
   clear y2 y1 jk jf jw fi au;obtain⟨a2,l2,c2,ij,a',l',c',dh,⟨hlen,az⟩, -⟩:=N8 dp.out.pl.dir HE.out.1 HE.out.2.2.2.2.2;injection dh with dh;simp at dh;obtain⟨rfl,rfl,rfl⟩:=dh;subst hlen;have ew:=ij _ Z5E;have eo:=Z0Z (e.size:Int) (e.sum:Int) a2 e.runs.length c2;have y0:=dp.out.pl.row.cell (j:=0) rfl;have HR:=Z5F az;clear ij az;go_wp2_with fail;clear ew y0 eo;have ag:(Zb e.runs).length=ZJ V.length:=by rw[<-HE.out.2.2.1];exact HE.out.2.1.secs
   have aj:(Zb e.runs).length<=200:=by rw[ag];unfold ZJ;omega
   have gj:V.length<=64*(Zb e.runs).length:=by rw[ag];unfold ZJ;omega
   have ai:=HE.out.2.1.many;have fc:e.runs.length<=200:=Z5w (DH e.runs (λr hr=>(ai r hr).1)) aj;have dq:=Z5L ai ag aj gj;clear ai ag aj gj;go_loopw [5,8,42] (λwv vv kv wj=>∃J:Nat,J<=e.runs.length/\wv=.bool (!(A0++Qd (Zb (e.runs.take J)) V).isEmpty)/\vv=.string (str (V.drop (64*(Zb (e.runs.take J)).length)))/\kv=.int .i64 J/\WrS B p d P D L s q db fb ga oa na ca us acts dir f n1 n2 l0 g ts w (A0++Qd (Zb (e.runs.take J)) V) wj/\(e.runs=[]∨∃gr sp,a2=some ⟨gr,0,none⟩/\Row wj gr 197 (Qp e.runs++sp))) (λ_ _ kv _=>e.runs.length- (intOf kv).toNat)
   case atStart=>exact⟨0,by omega,by simp[Zb,Qd],by simp[Zb],rfl,by simpa[Zb,Qd] using dp.out,HR.out⟩
   case round=>
    obtain⟨J,kj,rfl,rfl,rfl,dz,de⟩:=hrel;have cw:=Z5J dz de;by_cases bj:J<e.runs.length
    .obtain⟨gr,fm,rfl,aq⟩:∃gr sp,a2=some ⟨gr,0,none⟩/\Row wr gr 197 (Qp e.runs++sp):=by
      rcases de with h0|h0
      .rw[h0] at bj;cases bj
      .exact h0
     obtain⟨g1,g2⟩:=AF e.runs J bj;have hl:=Wq e.runs;have d1:=aq.cell (j:=J*2) (by rw[Z5c (by omega),Nat.mul_comm];exact g1);have d2:=aq.cell (j:=J*2+1) (by rw[Z5c (by omega),Nat.mul_comm];exact g2);have ik:=dq.out.1 (e.runs.getD J (0,0)) (by rw[Z59,Z5a bj];exact Z5r bj);have b8:=JM e.runs J bj;have js:=Au e.runs (J+1);obtain⟨fr,er⟩:=Z5H (e.runs.getD J (0,0)).1;obtain⟨m,hm⟩:=Z5H (e.runs.getD J (0,0)).2;rw[er,hm] at b8 ik;rw[er] at d1;rw[hm] at d2;obtain⟨m1,m2,m3⟩:=ik;obtain⟨F,hF⟩:=Z5H (Zb (e.runs.take J));rw[hF] at b8 cw⊢;obtain⟨zz,dm⟩:=js;rw[b8] at dm;have cj:F.length+m+zz.length=(Zb e.runs).length:=by have:=congrArg List.length dm;simp only[Z5d,List.length_range'] at this;omega
     have HK:=Z5L b8 dm hF cj;have dt:=Z5F aq;clear dz de aq g1 g2 hl er hm b8 hF dm cj;go_wp2_with fail;obtain⟨y,hy⟩:=Z5H wr.heap.size;have fe:=Row.new wr 197 [.int .i64 (fr:Int),.int .i64 (m:Int)];have bf:=(Below.refl wr.heap.size wr).alloc Z5D (.cells #[.int .i64 (fr:Int),.int .i64 (m:Int)] 197);have T5:=cw.out.1.after bf;have R5:=dt.out.after bf;rw[hy] at fe⊢;generalize wr.alloc (.cells #[.int .i64 (fr:Int),.int .i64 (m:Int)] 197)=w6 at*
     have fp:=Z5K T5 fe R5;clear T5 fe R5 hy d1 d2 bf;go_loopw [5,8,11] (λwv vv av wk=>∃C:Nat,C<=m/\wv=.bool (!(A0++Qd (F++List.range' fr C) V).isEmpty)/\vv=.string (str (V.drop (64*(F.length+C))))/\av=.int .i64 ((fr+C:Nat):Int)/\WrS B p d P D L s q db fb ga oa na ca us acts dir f n1 n2 l0 g ts w (A0++Qd (F++List.range' fr C) V) wk/\Row wk y 197 [.int .i64 (fr:Int),.int .i64 (m:Int)]/\Row wk gr 197 (Qp e.runs++fm)) (λ_ _ av _=>fr+m- (intOf av).toNat)
     case atStart=>exact⟨0,by omega,by simp,by simp,by simp,by simpa using fp.out.1,fp.out.2⟩
     case round=>
      obtain⟨C,kt,rfl,rfl,rfl,dx,ct,fa⟩:=hrel;have x0:=ct.cell (j:=0) rfl;have x1:=ct.cell (j:=1) rfl;have b9:=Z5K dx ct fa;by_cases kq:C<m
      .obtain⟨Z,dc⟩:=Z5H (fr+C);have k3:(Z:Int)<(fr:Int)+(m:Int):=(by omega);have jg:=HK.out.2.2.2;have je:64*(F.length+C)<=64*200:=by have:=dq.out.2.2.1;omega
       obtain⟨dn,eh⟩:=Z5H (64*(F.length+C));obtain⟨v,hv⟩:=Z5H (str (V.drop dn));have fh:v.size=V.length-dn:=(by rw[<-hv,Z5,List.length_drop]);obtain⟨rl,iz⟩:=Z5H (V.length-dn);rw[iz] at fh;obtain⟨nn,iq⟩:=Z5H (min rl 64);obtain⟨z,hz⟩:=Z5H (64-nn);have kh:min (rl:Int) 64=(nn:Int):=(by omega);have ja:(64:Int)- (nn:Int)=(z:Int):=(by omega);have ku:z<=64:=(by omega);have j7:=Z5x ((64:Int)- (nn:Int)) (by omega);rw[ja] at j7;have ju:IntKind.i64.wrap ((64:Int)- (nn:Int))=(z:Int):=by rw[ja];exact j7
       have ir:nn<=v.size:=(by omega);have jo:(nn:Int)<=(rl:Int):=(by omega);have jq:nn<=rl:=(by omega);have jr:(nn:Int)<=(v.size:Int):=(by omega);have km:∀W,(Instr.slice 9 (.string v) none (some (.int .i64 (nn:Int))) none).run prog W=.ok (.string (v.extract 0 nn)) W:=λW=>Ex (P:=prog) 9 underlying9 v nn ir W;have jt:∀W,(Instr.slice 9 (.string v) (some (.int .i64 (nn:Int))) none none).run prog W=.ok (.string (v.extract nn v.size)) W:=λW=>YA (P:=prog) 9 underlying9 v nn ir W;have iu:v.extract 0 nn++WU z=Ja (V.drop dn):=(by rw[VS v rl nn z fh iq.symm hz.symm,<-hv,Zn]);have ia:(v.extract 0 nn).size=nn:=by rw[ByteArray.size_extract];omega
       have ee:∀W,(Op.stringOp .add (v.extract 0 nn) (WU z)).run prog W=.ok (.string (Ja (V.drop dn))) W:=λW=>by rw[<-iu];exact run_string_add_sum W _ _ (by rw[ia,XL];omega)
       obtain⟨ak,dw⟩:=Z5H (Ja (V.drop dn));rw[dw] at ee;have aw:v.extract nn v.size=str (V.drop (64*(F.length+(C+1)))):=by
        apply YU;rw[Lib.extract_to_end,<-hv,Zn,Zn,List.drop_drop];rcases Nat.lt_or_ge rl 64 with U|U
        .rw[List.drop_of_length_le (by omega),List.drop_of_length_le (by omega)]
        .congr 1;omega
       obtain⟨A,hA⟩:=Z5H (A0++Qd (F++List.range' fr C) V);have fu:A0++Qd (F++List.range' fr (C+1)) V=A++[.wr Z ak]:=(by rw[List.range'_1_concat,<-Z5g,Rs,<-Z5g,hA,Z5d,List.length_range',dc,eh,dw]);rw[hA] at b9;obtain⟨P1,D1,L1,ae⟩:=b9.out.1.stg;have ic:D1.wait.length<1099511627776:=by
        have U:=ae.few;have h8:A.length<=12000:=by rw[<-hA,Z5d,Fc,Z5d,List.length_range'];have h7:=jb.out;rw[HX.out.2.1] at h7;have h6:=dq.out.2.2.1;omega
        omega
       have fw:B<=wr.heap.size:=Z5w O.out.2.1 ae.size;have ah:ga∉p::L1:=λhm=>by
        rcases Z5q.1 hm with rfl|hm
        .exact O.out.2.2.2.2 (by simp)
        .rcases ae.did.grew ga hm with U|U
         .exact O.out.2.2.2.2 (Z5n _ U)
         .have:=O.out.2.2.2.1.ard.1;omega
       have HQ:=Z5O dc fu aw hA ah fw ic;have S0:=Z5L (b9.out.1.after ((Below.refl wr.heap.size wr).drew)) (ae.after ((Below.refl wr.heap.size wr).drew)) (b9.out.2.1.after ((Below.refl wr.heap.size wr).drew)) (b9.out.2.2.after ((Below.refl wr.heap.size wr).drew));have s0:wr.drew.cell? ⟨s,0,none⟩=some (.pointer (some ⟨d,0,none⟩)):=S0.out.1.st.cell (j:=0) rfl;rw[dc,eh,hv];clear dx ct fa dc eh hv iz iq hz iu ia dw aw hA fu ae ic fw ah jg je;go_wp2_with fail;go_region_held3 (λw'=>w'.cell? ⟨s,0,none⟩=some (.pointer (some ⟨d,0,none⟩))) (first|assumption|exact S1.out.1.st.cell (j:=0) rfl|exact S2.out.cell (j:=0) rfl)
        (first|(go_at_call 120;refine(Tryz.strings_Repeat ⟨#[0]⟩ z _ (by omega) (by show 1*z<=_;omega)).mono ?_;rw[Jp];rintro e w7 ⟨rfl,bu⟩;have S1:=Z5L (S0.out.1.after bu) (S0.out.2.1.after bu) (S0.out.2.2.1.after bu) (S0.out.2.2.2.after bu);clear bu)|(go_at_call 190;refine(PD.write S1.out.2.1.did.pd (Z5w O.out.2.1 S1.out.2.1.size) (Z:Int) ak HQ.out.2.2.2.2.2.2).mono ?_;rintro e w8 ⟨ev,rfl,cr,L2,ef⟩;have S2:=Z5F (ef.row S1.out.2.1.did.pd S1.out.1.st (by simp) (by decide) (by decide) (by decide) (by decide));have S3:=Z5J cr ef;clear cr ef))
       have ah:=HQ.out.2.2.2.2.1;have ez:PlA w8 q db fb ga oa na ca us acts dir f n1 n2:=S1.out.1.pl.did S1.out.2.1.did.pd S3.out.2 ah;have ff:Row w8 g 9 ts:=S3.out.2.row S1.out.2.1.did.pd S1.out.1.txt (by simp) (by decide) (by decide) (by decide) (by decide);have fj:Row w8 y 197 [.int .i64 (fr:Int),.int .i64 (m:Int)]:=S3.out.2.row S1.out.2.1.did.pd S1.out.2.2.1 (by simp) (by decide) (by decide) (by decide) (by decide);have eu:Row w8 gr 197 (Qp e.runs++fm):=S3.out.2.row S1.out.2.1.did.pd S1.out.2.2.2 (by simp) (by decide) (by decide) (by decide) (by decide);have cz:=S3.out.1;have cn:(Z2 [DOp.wr Z ak] P1 D1).1=YB P1 D1 (Z:Int) ak:=by rw[AJ];rfl
       have df:Ran B p d 800 L1 [] [DOp.wr Z ak] P1 D1 w7 w8:=Ran.one ⟨L2,S3.out.2⟩;rcases cz.split with ⟨hc,rfl⟩|⟨hc,b,rfl⟩
       .obtain⟨P2,D2,L3,b7⟩:=S1.out.2.1.next (by rw[cn];exact hc) df
        have S4:=Z5K (WrS.mk ez S2.out ff ⟨P2,D2,L3,b7⟩) fj eu;clear ez ff fj eu cz cn df b7 hc ah;go_wp2_with fail;go_roundw
        case measure=>have:=HQ.out.1;simp[intOf];omega
        case rel=>obtain⟨q1,q2,q3,q4, -⟩:=HQ.out;exact⟨C+1,by omega,by rw[q2];simp,by rw[<-q3,fh],by rw[<-q1];go_num,by rw[q2];exact S4.out.1,S4.out.2.1,S4.out.2.2⟩
       .have bm:=S1.out.2.1.fail (by rw[cn];exact cz) df;have bz:=S1.out.2.1.code_ne (b:=[DOp.wr Z ak]) (by rw[cn];exact hc);have af:∃r,Q3 dir acts f=(A++[DOp.wr Z ak])++r:=by
         refine Ph ?_ (by simp);obtain⟨r,hr⟩:=HE.out.2.2.2.2.1;obtain⟨q1,q2,q3,q4, -⟩:=HQ.out;rw[hr,<-q2,show e.secs=Zb e.runs from rfl,HK.out.2.1];have jl:List.range' fr m=List.range' fr (C+1)++List.range' (fr+(C+1)) (m- (C+1)):=by rw[List.range'_append_1];congr 1;omega
         rw[jl,<-Z5g F,Z5g (F++_),Fb];exact⟨Qd (List.range' (fr+(C+1)) (m- (C+1))++zz) (List.drop (64*(F++List.range' fr (C+1)).length) V)++r,by simp only[Z5g]⟩
        obtain⟨r9,iy⟩:=af;have HN:=Z5J (Q8 (r:=r9) bz bm) iy;clear bm bz iy ez ff fj eu cz cn df hc ah;go_wp2_with fail;go_ret;have U:=HN.out.1;rw[<-HN.out.2] at U;exact U
      .obtain rfl:C=m:=(by omega);have k3:¬ ((fr+C:Nat):Int)<(fr:Int)+(C:Int):=(by omega);clear dx ct fa;go_wp2_with fail;go_roundw
       case measure=>simp[intOf];omega
       case rel=>exact⟨J+1,by omega,by rw[HK.out.1],by rw[HK.out.1,Z5d,List.length_range'],by go_num,by rw[HK.out.1];exact b9.out.1,Or.inr ⟨gr,fm,rfl,b9.out.2.2⟩⟩
    .obtain rfl:J=e.runs.length:=(by omega);rw[Z5A] at cw;clear dz de;go_wp2_with fail;go_roundw
     case measure=>simp[intOf];omega
     case rel=>have U:Yb dir acts (f.take (i+1))=A0++Qd (Zb e.runs) V:=HE.out.2.2.2.1;exact⟨i+1,by omega,by rw[U,Z5A],by go_num,by rw[U];exact cw.out.1⟩
  .obtain rfl:i=f.length:=(by omega);rw[Z5A] at HS⊢;obtain⟨P1,D1,L1,ae⟩:=HS.out.stg;have HG:=Z5F ae;obtain⟨A,hA⟩:=Z5H (Yb dir acts f);have e9:Q3 dir acts f=if A.isEmpty then[] else A++[.fl]:=by unfold Q3;rw[hA]
   rw[hA] at HG⊢;clear hS ae;have fo:=Z5F e9;clear e9 hA;cases du:A.isEmpty
   case true=>have bh:=List.isEmpty_iff.1 du;subst bh;clear du;go_wp2_with fail;go_ret;rw[show Q3 dir acts f=[] from fo.out];exact HG.out.ok w.heap.size
   case false=>have c0:=HS.out.st.cell (j:=0) rfl;go_wp2_with (go_at_call 191;refine(PD.flush1 HG.out.did.pd (Z5w O.out.2.1 HG.out.size)).mono ?_;rintro e w8 ⟨ev,rfl,cr,ix⟩;have S3:=Z5J cr ix;clear cr ix);go_ret;rw[show Q3 dir acts f=A++[.fl] from by rw[fo.out,if_neg (by rw[du];decide)]];exact HG.out.fail S3.out.1 S3.out.2
end
section
open Go.Maps Go.WideMaps
variable{a b:Dir}
theorem Z20(P:Pw)(D:Dk)(a:Int):rdy P D a≠12:=by unfold rdy;omega
theorem DOp.code_ne12(P:Pw)(D:Dk)(o:DOp):o.code P D≠12:=by
 have h:=Z20 P D;cases o with
 |wr a s=>show YB P D a s≠12;unfold YB;grind
 |fl=>show X9 P D≠12;unfold X9;grind
theorem PX(l:List DOp)(P:Pw)(D:Dk):(Z2 l P D).1≠12:=by
 induction l generalizing P D with
 |nil=>simp[Z2]
 |cons o l ih=>
  rw[Wz];split
  .simp_all
  .exact DOp.code_ne12 P D o
theorem YN.fit{n half:Nat}{R:Nat->ByteArray}{S:Sto}{recs:List Rec}(h:YN n half R S recs)(C:half<=1000)(he:S.j.epoch<=3000000000):S.j.Fit/\S.j.next<=S.j.half:=by
 have F:=h.img.on.fits;have J:=AV (recs.map Rec.enc);have M:=h.jhalf;have O:=h.img.many;have U:=h.img.next
 exact⟨⟨by omega,he,by omega,by omega⟩,by omega⟩
def WD(w:World)(ga oa:Nat)(acts:List Ac):Prop:=Aj w ga oa acts/\∃l,Row w ga 151 l
structure Z2D(B p d j:Nat)(L:List Nat)(ops:List DOp)(J1:Jn)(P:Pw)(D:Dk)(w w':World):Prop where
 ran:Ran B p d 800 L [j] ops P D w w'
 ok:(Z2 ops P D).1=0->JAt w' j d J1
theorem Z0G(ha:a.Sorted)(F:b.Sorted):(a.both b).length<=a.length+b.length:=by
 have C:=(Dir.names_nodup (Dir.both_sorted ha b)).length_le_of_subset (l₂:=a.names++b.names) (λn M=>by
  have h:=Qy.1 M;rw[Dir.both_get _ F] at h;cases J:b.get n with
  |some e=>exact List.mem_append_right _ (Qy.2 (by simp_all))
  |none=>
   rw[J] at h
   exact List.mem_append_left _ (Qy.2 h))
 simpa[Dir.names] using C
theorem Z2U(F:b.Sorted)(h:b≠[]):a.both b≠[]:=by
 intro J;cases b with
 |nil=>exact h rfl
 |cons x r=>have M:=Dir.mem_get F (n:=x.1) (e:=x.2) (by simp);have C:=Dir.both_get (a:=a) x.1 F;rw[M,J] at C;cases C
theorem Z1q(B p d:Nat)(P:Pw)(D:Dk)(L:List Nat)(s j q db fb ga oa na ca sb nb:Nat)(us bg:Value)(S:Sto)(recs:List Rec)(R:Nat->ByteArray)(acts:List Ac)(dir:Dir)(f:Z1)(n1 n2:Nat)(w:World)(h:PD B w p d 800 P D L)(hB:B<=w.heap.size)(hs:Row w s 157 [.pointer (some ⟨d,0,none⟩),.pointer (some ⟨j,0,none⟩),.int .i64 S.half,.map (some sb),us,.bool false])(hj:JAt w j d S.j)(dz:B<=j)(er:ZE w sb nb S.dir)(fi:nb<=100000000)(hp:PlA w q db fb ga oa na ca bg acts dir f n1 n2)(bq:ga∉p::L)(hi:YN 800 100 R S recs)(ai:A8 800 100 R S.dir acts dir f)(hr:Fi S dir f)(ha:(f.map (·.2)).Pairwise (· < ·))(fc:f.length<=12)(fe:acts.length<=100000)(fj:∀x∈f,x.1.length<=220)(ff:na<=ca)(fh:D.wait.length<=1000)(ht:Ty w)(hg:0<B)(ft:S.j.epoch<=2000000000)(fw:S.dir.length<=10000):Calls prog 92 #[.pointer (some ⟨s,0,none⟩),.pointer (some ⟨q,0,none⟩),.string (str (Ya dir))] w (Ans w.heap.size (Z2 (S.ops acts dir f) P D).1 (Z2D B p d j L (S.ops acts dir f) (S.jNew dir f) P D w)):=by
 have bm:∀x∈f,∃e,dir.get x.1=some e/\Ent.Ok 800 100 e/\e.size=(acV acts x.2).length/\x.2<acts.length:=λx hx=>by obtain⟨e,he,k1,k2,k3,k4⟩:=ai.fresh x hx;exact⟨e,he,ai.ok.get he,k1,k4⟩
 have bz:=hi.ok;obtain⟨aw,eh⟩:=hi.fit (by omega) (by omega);have dp:=hi.open_;have ee:=hi.jhalf;have dh:=Z2U (a:=S.dir) ai.ok.sorted hr.ne2;have dj:=Z0G bz.sorted ai.ok.sorted;have fm:=Iv (d:=dir) (acts:=acts) (f:=f) (λx hx=>by obtain⟨e,he,k,_⟩:=bm x hx;exact⟨e,he,k⟩);obtain⟨A,hA⟩:=Z5H (Q3 dir acts f);have fq:A.length<=2401:=by
  rw[<-hA];unfold Q3;split
  .simp
  .rw[Z5d,List.length_singleton];omega
 obtain⟨Jo,af⟩:=Z5H (S.jOps dir f);have b7:S.ops acts dir f=A++Jo:=by unfold Sto.ops;rw[hA,af]
 obtain⟨J1,Z⟩:=Z5H (S.jNew dir f);rw[b7,Z];have cw:=MC B p d P D L s q db fb ga oa na ca bg acts dir f n1 n2 _ w h hB hs hp bq bm ai.fr ha fc fe fj ff (by omega);rw[hA] at cw;obtain⟨m,hm⟩:=Z5H (QM S.dir dir f).length;have ef:m≠0:=by rw[<-hm];exact λe=>hr.ne1 (List.length_eq_zero_iff.1 e)
 have fu:decide ((m:Int)=0)=false:=decide_eq_false (by omega);obtain⟨so,ct⟩:=Z5H (Jb (QM S.dir dir f));have cu:=hr.some_;rw[ct] at cu;have fo:=hr.whole;have HW:=Z5F cw;have C:=Z5O h hB hs hj er hp bq;have HI:=Z5N hi ai hr bz dh dj;have U:=Z5M hA af Z hm ct;have M:=Z5M dp aw eh dz ee;have HT:=Z5J ht hg;have HM:=Z5F ef;clear cw h hB hs hj er hp bq hi ai hr bz dh dj hA af Z hm ct dp aw eh dz ee ht hg ef bm b7 fm;go_enter func92,ntmps92;go_wp2_with fail;refine HW.out.mono ?_;rintro e w1 ⟨ev,rfl,he,L1,O⟩;rcases he.split with ⟨hc,rfl⟩|⟨hc,b,rfl⟩
 case inr=>have HE:=Z5K he hc O;clear he hc O;go_wp2_with fail;go_ret;exact⟨_,rfl,by rw[Bq HE.out.2.1];exact HE.out.1,Ran.stop HE.out.2.1 ⟨L1,HE.out.2.2.wider (by simp)⟩,λh0=>absurd h0 (ZR HE.out.2.1)⟩
 have aj:=O6 hc;obtain⟨P1,df⟩:=Z5H (Z2 A P D).2.1;obtain⟨D1,de⟩:=Z5H (Z2 A P D).2.2;rw[df,de] at aj O;have T1:Stg B p d 800 L [j] A P D w P1 D1 L1 w1:=⟨aj,O.wider (by simp)⟩;have az:D1.wait.length<=100000:=by have:=T1.few;omega
 have ek:PlA w1 q db fb ga oa na ca bg acts dir f n1 n2:=C.out.2.2.2.2.2.1.did C.out.1 O C.out.2.2.2.2.2.2;have cn:=O.row C.out.1 C.out.2.2.1 (by simp) (by simp) (by simp) (by simp) (by simp);have du:JAt w1 j d S.j:=JAt.did O C.out.1 C.out.2.2.2.1 (by simp)
 have b8:ZE w1 sb nb S.dir:=C.out.2.2.2.2.1.fr O.fr (by
  obtain⟨fv,m1,_⟩:=C.out.2.2.2.2.1;obtain⟨es,cl,hb⟩:=m1.block
  simpa using C.out.1.map_ne hb) (by simpa using C.out.1.no_ext)
 have eu:Ty w1:=Ty.did HT.out.1 O HT.out.2 C.out.1.bp C.out.1.bL (by simp);have bj:=Pe 800 100 q db fb ga oa na ca bg acts dir S.dir f n1 n2 sb nb w1 ek b8 HI.out.2.1.ok HI.out.2.2.2.1 (by omega) HI.out.2.2.2.2.1 fi HI.out.2.2.1.many (by have:=HI.out.2.2.2.2.2;have:=HI.out.2.2.1.many;omega) HI.out.2.2.1.some_;rw[U.out.2.2.2.2,U.out.2.2.2.1] at bj;have HC:=Z5M T1 cn du eu bj;have c3:=cn.cell (j:=3) rfl;clear he hc O aj df de T1 ek cn du b8 eu bj;go_wp2_with fail;refine HC.out.2.2.2.2.mono ?_;rintro e w2 ⟨rfl,aq⟩;have T2:=HC.out.1.after aq;have cr:=HC.out.2.1.after aq;have dw:JAt w2 j d S.j:=JAt.after HC.out.2.2.1 aq;have ew:Ty w2:=HC.out.2.2.2.1.below aq;have c1:=cr.cell (j:=1) rfl;have J:=Z5L T2 cr dw ew;have dc:B<=w2.heap.size:=Z5w C.out.2.1 T2.size;have HB:=Z5F dc;clear c3 aq T2 cr dw ew dc;go_wp2_with fail;by_cases ae:Zf so.length / 64<=S.j.half-S.j.next
 .have af:S.j.appendOps so=Jo:=by have F:=U.out.2.1;unfold Sto.jOps at F;rw[U.out.2.2.2.2,if_pos ae] at F;exact F
  have Z:S.j.appended so=J1:=by have F:=U.out.2.2.1;unfold Sto.jNew at F;rw[U.out.2.2.2.2,if_pos ae] at F;exact F
  have ak:=PC B p d 800 j P1 D1 L1 S.j (str so) w2 J.out.1.did.pd HB.out J.out.2.2.1 M.out.2.2.2.1 J.out.2.2.2 HT.out.2 M.out.1 M.out.2.1 (by rw[Z5];exact cu) M.out.2.2.1 (by rw[Z5];exact ae) (by have h1:=M.out.2.2.1;have h2:=M.out.2.2.2.2;omega) az;rw[Zn,af,Z] at ak;have bh:=Z5F ak;clear ak af Z ae;refine bh.out.mono ?_;rintro e w3 ⟨ev,rfl,ag,bf⟩;have ah:∀w',w3=w'->Ans w.heap.size (Z2 (A++Jo) P D).1 (Z2D B p d j L (A++Jo) J1 P D w) (.returned ev) w':=λw' e9=>by subst e9;exact⟨ev,rfl,by rw[A9 J.out.1.run];exact ag.base J.out.1.size,Ran.go J.out.1.run J.out.1.did bf.ran,λh0=>bf.ok (by rw[A9 J.out.1.run] at h0;exact h0)⟩
  have bu:=PX Jo P1 D1;have al:=Z5K ah ag bu;rcases ag.split with ⟨hc,rfl⟩|⟨hc,b,rfl⟩
  .clear ag bf ah bu hc;go_wp2_with fail;go_ret;exact al.out.1 _ rfl
  .obtain⟨cd,dm⟩:=Z5H (Z2 Jo P1 D1).1;rw[dm] at al;have fg:(cd==12)=false:=by have:=al.out.2.2;simpa using this
   clear ag bf ah bu hc dm;go_wp2_with (go_at_call 19;refine(QJ _ cd 12 _ _ al.out.2.1 (by decide)).mono ?_;rw[fg];rintro e w4 ⟨rfl,rfl⟩);go_ret;exact al.out.1 _ rfl
 .have af:S.j.resetOps (Ya dir)=Jo:=by have F:=U.out.2.1;unfold Sto.jOps at F;rw[U.out.2.2.2.2,if_neg ae] at F;exact F
  have Z:S.j.reset (Ya dir)=J1:=by have F:=U.out.2.2.1;unfold Sto.jNew at F;rw[U.out.2.2.2.2,if_neg ae] at F;exact F
  have ak:=Nz d j S.j (str so) w2 J.out.2.2.1 M.out.1 M.out.2.1 M.out.2.2.1 (by rw[Z5];exact cu) (by rw[Z5];omega);have bh:=Z5F ak;have cz:=Z5J af Z;clear ak af Z ae;refine bh.out.mono ?_;rintro e w3 ⟨b,rfl,ag,au⟩;have T3:=J.out.1.after au;have eo:=J.out.2.1.after au;have dx:JAt w3 j d S.j:=JAt.after J.out.2.2.1 au;have ey:Ty w3:=J.out.2.2.2.below au;have b9:Below w3.heap.size w3 (w3.alloc (.cells #[.string (str (Ya dir))] 9)):=(Below.refl _ w3).alloc Z5D _;have fp:=eo.cell (j:=1) rfl;have T4:=T3.after b9;have dy:JAt _ j d S.j:=JAt.after dx b9;have ez:Ty _:=ey.below b9;have cj:=Tu B p d 800 j P1 D1 L1 S.j (str (Ya dir)) w3.heap.size 1 _ T4.did.pd (Z5w C.out.2.1 T4.size) dy M.out.2.2.2.1 ez HT.out.2 ((Row.new w3 9 [.string (str (Ya dir))]).cell (j:=0) rfl) M.out.1 M.out.2.1 (by rw[Z5];exact fo) (by rw[Z5];exact HI.out.2.2.1.fits) az;rw[Zn,cz.out.1,cz.out.2] at cj;have HR:=Z5K T4 ag cj;clear ag au T3 eo dx ey b9 T4 dy ez cj c1;go_wp2_with (first|(go_at_call 19;refine(QJ _ 12 12 _ _ HR.out.2.1 (by decide)).mono ?_;rw[show((12:Int)==12)=true from rfl];rintro e w4 ⟨rfl,rfl⟩)|(go_at_call 137;refine HR.out.2.2.mono ?_;rintro e w5 ⟨fa,rfl,dt,dq⟩;have H5:=Z5J dt dq;clear dt dq));go_ret;exact⟨fa,rfl,by rw[A9 HR.out.1.run];exact H5.out.1.base HR.out.1.size,Ran.go HR.out.1.run HR.out.1.did H5.out.2.ran,λh0=>H5.out.2.ok (by rw[A9 HR.out.1.run] at h0;exact h0)⟩
