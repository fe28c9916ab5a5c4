/- Part 10: lemmas about what the program computes. -/
import Derived.Sort.LotA
import Derived.Laws.StructEq
import Derived.Test.YthppfllkocphbaaGreatDoorY08
namespace Go.Proofs.YthppfllkocphbaaGreatDoor
set_option linter.unusedVariables false
set_option linter.unusedSimpArgs false
set_option maxHeartbeats 25600000
set_option maxRecDepth 100000
open Tryz
section
open Go.RowKit Go.Maps Go.WideMaps
variable{b d g half j nm s:Nat}{dir:Dir}{ts:List Value}{uv:Value}{w w' wr:World}
theorem CG(l:List Bs):ZV (l.map str)=l:=by
 unfold ZV;rw[List.map_map];have:((λs:ByteArray=>s.data.toList)∘str)=id:=by rfl
 simp_all
structure RpS(w:World)(s b g d j:Nat)(uv:Value)(half:Nat)(ts:List Value)(dir:Dir)(nm:Nat)(wr:World):Prop where
 row:Row wr s 157 [.pointer (some ⟨d,0,none⟩),.pointer (some ⟨j,0,none⟩),.int .i64 half,.map (some b),uv,.bool false]
 dir:ZE wr b nm dir
 txt:Row wr g 9 ts
 fr:Fr [b] w wr
theorem RpS.after(h:RpS w s b g d j uv half ts dir nm wr)(C:Below wr.heap.size wr w'):RpS w s b g d j uv half ts dir nm w':=⟨h.row.after C,h.dir.after C,h.txt.after C,h.fr.trans (Fr.of_below (L:=[]) C) (by simp)⟩
theorem RpS.step{F:Dir}{J:Nat}(h:RpS w s b g d j uv half ts dir nm wr)(C:Fr [b] wr w')(M:ZE w' b J F)(hs:s∉[b])(O:g∉[b]):RpS w s b g d j uv half ts F J w':=⟨h.row.fr C hs,M,h.txt.fr C O,h.fr.trans C (λi hi _=>hi)⟩
def BI(dir:Dir)(its:List (Bs×Option Ent)):Dir:=its.foldl Dt dir
theorem Z0l(dir:Dir)(C:List (Bs×Option Ent))(k:Nat)(h:k<C.length):BI dir (C.take (k+1))=Dt (BI dir (C.take k)) (C.getD k ([],none)):=by unfold BI;rw[Z5f h,List.foldl_append,Z59,Z5a h];rfl
def Gt(its:List (Bs×Option Ent))(k:Nat):Bs:=if k=0 then[] else(its.getD (k-1) ([],none)).1
theorem Hm(B p d n:Nat)(P:Pw)(D:Dk)(L:List Nat)(s half j b nm:Nat)(uv:Value)(dir:Dir)(q:Bs)(O:Dir)(C:List (Bs×Option Ent))(w:World)(h:PD B w p d n P D L)(aj:Row w s 157 [.pointer (some ⟨d,0,none⟩),.pointer (some ⟨j,0,none⟩),.int .i64 half,.map (some b),uv,.bool false])(hd:ZE w b nm dir)(iz:nm<=1000000)(iy:1<=C.length)(h2:2*half<=n)(ai:(C.map (·.1)).Pairwise (· < ·))(bu:∀x∈C,1<=x.1.length/\x.1.length<=220/\∀e:Ent,x.2=some e->Ent.Ok n half e)(hq:(q=XH/\O=[]/\∀x∈C,x.2≠none)∨(q=WS/\O=dir))(fa:(BI O C).Ok n half)(ee:(Zz (q::C.map QT)).length<=60000):Calls prog 109 #[.pointer (some ⟨s,0,none⟩),.string (str (Zz (q::C.map QT)))] w λr w'=>r=.returned (.bool true)/\(∃fh au,Row w' s 157 [.pointer (some ⟨d,0,none⟩),.pointer (some ⟨j,0,none⟩),.int .i64 half,.map (some b),fh,.bool false]/\ZE w' b au (BI O C)/\Ao w' fh (Q6 n half (BI O C)))/\Fr [s,b] w w':=by
 have hlen:C.length<=20000:=by have:=Wk (q::C.map QT);rw[ZN] at ee;rw[Z5h,Z5i] at this;omega
 have bq:∀x∈C,(QT x).length<=60000:=λx hx=>by have:=FK (l:=q::C.map QT) (s:=QT x) (Z5n _ (List.mem_map_of_mem hx));rw[ZN] at ee;omega
 obtain⟨ss,dc⟩:=Z5H ((q::C.map QT).map str);have ia:ss.length=C.length+1:=by rw[<-dc];simp
 have aq:=λW=>EI (str (Zz (q::C.map QT))) ss W (by rw[Zn,<-dc,CG]) (by rw[Z5];omega);rw[ia] at aq;obtain⟨T,hT⟩:=Z5H (str (Zz (q::C.map QT)));rw[hT] at aq⊢;obtain⟨fv,m1,m2,m3⟩:=hd;have az:∀W,Below w.heap.size w W->∀k e,dir.get k=some e->∃v,fv k=some v/\Xe W v e:=λW hW k e M=>by obtain⟨v,h1,h2⟩:=m3 k e M;exact⟨v,h1,h2.fr (Fr.of_below (L:=[]) hW) (by simp)⟩
 have er:s∉[b]/\∀{g:Nat},w.heap.size<=g->g∉[b]:=⟨λhm=>by
  rw[Z58] at hm;subst hm;obtain⟨es,cl,hb⟩:=m1.block;exact Yh aj hb,λhg hm=>by
  rw[Z58] at hm;subst hm
  have:=m1.lt;omega⟩
 have ak:=Z5F er;have ek:=Z5F m1.block;have H:=Z5F h;have HD:=Z5L aj m1 m2 az;have HI:=Z5L ai bu hq fa;have fi:=Z5F bq;have HS:=Z5J dc aq;have c2:=aj.cell (j:=3) rfl;have ib:=aj.lt;have j7:((C.length:Int)+1==0)=false:=by simp;omega
 clear h aj m1 m2 m3 az ai bu hq fa dc aq hT ee bq er;rcases HI.out.2.2.1 with ⟨q1,q2, -⟩|⟨q1,q2⟩
 case' inl=>have QE:=Z5J q1 q2;clear q1 q2;go_enter func109,ntmps109;go_wp2_with (go_at_call 155;refine(HS.out.2 _).mono ?_;rintro r w1 ⟨a,cap,rfl,U,J⟩;obtain⟨g,dj,sp,hv,bg,fp,fq,Z⟩:=Qs U (by omega);simp only[Value.slice.injEq,true_and] at hv;obtain⟨rfl,rfl⟩:=hv;rw[<-HS.out.1] at Z;have c0:=Z.cell (j:=0) (v:=.string ⟨#[97,108,108]⟩) (by rw[QE.out.1];rfl);have S1:=Z5K Z J bg;have z1:1<=cap:=(by omega);have z3:¬cap=1:=(by omega);have z2:C.length+1<=cap:=(by omega);have e3:w1.cell? ⟨s,3,none⟩=some (.map (some b)):=(HD.out.1.after J).cell (j:=3) rfl;obtain⟨w2,bf,ey,cu⟩:=Z32 underlying155 (HD.out.2.1.after J) 0;have R2:RpS w s b g d j uv half (Z7 ((q::C.map QT).map str)++sp) O 0 w2:=(by rw[QE.out.2];exact⟨(HD.out.1.after J).fr cu ak.out.1,⟨_,ey,λ_ _=>rfl,λk e h=>by cases h⟩,Z.fr cu (ak.out.2 bg),(Fr.of_below (L:=[b]) J).trans cu (λi hi _=>hi)⟩);have df:=Z5F R2;clear ey cu R2;clear U Z J bg)
 case' inr=>have QE:=Z5J q1 q2;clear q1 q2;go_enter func109,ntmps109;go_wp2_with (go_at_call 155;refine(HS.out.2 _).mono ?_;rintro r w1 ⟨a,cap,rfl,U,J⟩;obtain⟨g,dj,sp,hv,bg,fp,fq,Z⟩:=Qs U (by omega);simp only[Value.slice.injEq,true_and] at hv;obtain⟨rfl,rfl⟩:=hv;rw[<-HS.out.1] at Z;have c0:=Z.cell (j:=0) (v:=.string ⟨#[115,111,109,101]⟩) (by rw[QE.out.1];rfl);have S1:=Z5K Z J bg;have z1:1<=cap:=(by omega);have z3:¬cap=1:=(by omega);have z2:C.length+1<=cap:=(by omega);have e3:w1.cell? ⟨s,3,none⟩=some (.map (some b)):=(HD.out.1.after J).cell (j:=3) rfl;have bf:=True.intro;have R2:RpS w s b g d j uv half (Z7 ((q::C.map QT).map str)++sp) O nm w1:=(by rw[QE.out.2];exact⟨HD.out.1.after J,⟨fv,HD.out.2.1.after J,HD.out.2.2.1,HD.out.2.2.2 _ J⟩,Z,Fr.of_below J⟩);have df:=Z5F R2;clear R2;clear U Z J bg)
 all_goals
  obtain⟨ts,de⟩:=Z5H (Z7 ((q::C.map QT).map str)++sp);have fg:∀k,k<C.length->ts[k+1]? =some (.string (str (QT (C.getD k ([],none))))):=λk M=>by rw[<-de,Z5c (by simp[Z7];omega),Z5t,Z7,Z5t,List.getElem?_cons_succ,List.getElem?_map,List.getElem?_map,List.getElem?_map,Z5a M,Z59,Z5a M];rfl
  have ff:ts[0]? =some (.string (str q)):=by rw[<-de];rfl
  rw[de] at df;have fj:=Z5F fg;have cr:=Z5F ff;clear de fg ff;go_loopw [7,51] (λlv kv wr=>∃ (k au:Nat),k<=C.length/\kv=.int .i64 k/\lv=.string (str (Gt C k))/\au<=1000000+k/\RpS w s b g d j uv half ts (BI O (C.take k)) au wr) (λ_ kv _=>C.length- (intOf kv).toNat)
  case atStart=>exact⟨0,_,by omega,rfl,rfl,by omega,df.out⟩
  case round=>
   obtain⟨k,au,M,rfl,rfl,fu,hR⟩:=hrel;by_cases bh:k<C.length
   .obtain⟨x,hx⟩:=Z5H (C.getD k ([],none));have eh:x∈C:=by rw[<-hx,Z59,Z5a bh];exact Z5r bh
    have aw:=hR.txt.cell (fj.out k bh);have ef:=Z0l O C k bh;rw[hx] at aw ef;obtain⟨b1,b2,b3⟩:=HI.out.2.1 x eh;have eu:=fi.out x eh;have ae:Gt C k<x.1:=by
     unfold Gt;by_cases h0:k=0
     .rw[if_pos h0];cases ic:x.1 with
      |nil=>rw[ic] at b1;simp at b1
      |cons a r=>exact List.Lex.nil
     .rw[if_neg h0];have:=HI.out.1;rw[List.pairwise_iff_getElem] at this;have F:=this (k-1) k (by simp;omega) (by simpa using bh) (by omega);simp only[List.getElem_map] at F;have g1:C.getD (k-1) ([],none)=C[k-1]:=by rw[Z59,Z5a (by omega)];rfl
      have g2:C.getD k ([],none)=C[k]:=by rw[Z59,Z5a bh];rfl
      rw[<-hx,g1,g2];exact F
    obtain⟨nx,o⟩:=x;have dq:wr.cell? ⟨g,1+k,none⟩=some (.string (str (QT (nx,o)))):=by rw[Nat.add_comm];exact aw
    simp only at b1 b2 b3 ae;obtain⟨la,dw⟩:=Z5H (Gt C k);rw[dw] at ae⊢;have iq:wr.cell? ⟨s,3,none⟩=some (.map (some b)):=hR.row.cell (j:=3) rfl;have ix:((k+1:Nat):Int)=(k:Int)+1:=(by omega);have HK:=Z5L hR ef hx dw;have ie:=hR.fr.size;clear hR ef hx dw bf;cases o with
    |none=>
     rcases HI.out.2.2.1 with ⟨-, -,F⟩|⟨q1,q2⟩
     .exact absurd rfl (F _ eh)
     have cr:=Z5F (show ts[0]? =some (.string ⟨#[115,111,109,101]⟩) from by have F:=cr.out;rw[q1] at F;exact F);clear q1 q2;have cn:=λW=>EI (str (QT (nx,none))) [str nx] W (by rw[Zn];rfl) (by rw[Z5];omega);have dh:=Z5F cn;have fw:(str nx).size<=220:=by rw[Z5];exact b2
     have l1:Op.bytesLess (str nx).toList (str la).toList=false:=by rw[ByteArray.toList_eq,ByteArray.toList_eq,bytesLess_eq];exact decide_eq_false (λF=>Bp _ (MX (show nx<la from F) ae))
     have l2:((str nx).toList==(str la).toList)=false:=BZ (λF=>by have:=GE F;rw[this] at ae;exact Bp _ ae);have cz:nx.length<=maxLen:=by unfold maxLen;omega
     clear cn b3 eu;have eo:wr.cell? ⟨g,0,none⟩=some (.string ⟨#[115,111,109,101]⟩):=HK.out.1.txt.cell cr.out;have ij:=Z5F eo;clear eo;go_wp2_with (go_at_call 155;refine(dh.out _).mono ?_;rintro r w3 ⟨a,b9,rfl,U,bm⟩;obtain⟨g3,bj,ig,hv,ah,dt,ft,b8⟩:=Qs U (Nat.succ_pos _);simp only[Value.slice.injEq,true_and] at hv;obtain⟨rfl,rfl⟩:=hv;have y0:=b8.cell (j:=0) (v:=.string (str nx)) rfl;have R3:=HK.out.1.after bm;have im:w3.cell? ⟨g,0,none⟩=some (.string ⟨#[115,111,109,101]⟩):=R3.txt.cell cr.out;have fm:w3.cell? ⟨s,3,none⟩=some (.map (some b)):=R3.row.cell (j:=3) rfl;have q1:1<=b9:=dt;obtain⟨fo,n1,n2,n3⟩:=R3.dir;obtain⟨w4,du,bz,b7⟩:=Gp underlying155 n1 nx cz 0;have R4:=R3.step b7 (ZE.delW bz n2 (DC n1 n3 b7)) ak.out.1 (ak.out.2 S1.out.2.2);have S4:=Z5F R4;clear bz b7 R4 n1 n2 n3 U b8 bm ah R3);go_roundw
     all_goals first
      |exact⟨k+1,au,by omega,by go_num,by unfold Gt;rw[if_neg (by omega),Nat.add_sub_cancel,HK.out.2.2.1],by omega,by rw[HK.out.2.1];exact S4.out⟩
      |(simp[intOf];omega)
    |some e=>
     have he:=b3 e rfl;have cn:=λW=>EI (str (QT (nx,some e))) [str nx,str e.tail] W (by rw[Zn];rfl) (by rw[Z5];omega);have dh:=Z5F cn;have fw:(str nx).size<=220:=by rw[Z5];exact b2
     have l1:Op.bytesLess (str nx).toList (str la).toList=false:=by rw[ByteArray.toList_eq,ByteArray.toList_eq,bytesLess_eq];exact decide_eq_false (λF=>Bp _ (MX (show nx<la from F) ae))
     have l2:((str nx).toList==(str la).toList)=false:=BZ (λF=>by have:=GE F;rw[this] at ae;exact Bp _ ae);have cz:nx.length<=maxLen:=by unfold maxLen;omega
     clear cn b3 eu;go_wp2_with (first|(go_at_call 155;refine(dh.out _).mono ?_;rintro r w3 ⟨a,b9,rfl,U,bm⟩;obtain⟨g3,bj,ig,hv,ah,dt,ft,b8⟩:=Qs U (Nat.succ_pos _);simp only[Value.slice.injEq,true_and] at hv;obtain⟨rfl,rfl⟩:=hv;have y0:=b8.cell (j:=0) (v:=.string (str nx)) rfl;have y1:=b8.cell (j:=1) (v:=.string (str e.tail)) rfl;have R3:=HK.out.1.after bm;have fm:w3.cell? ⟨s,3,none⟩=some (.map (some b)):=R3.row.cell (j:=3) rfl;have S3:=Z5K R3 b8 ah;have q1:2<=b9:=dt;obtain⟨fo,n1,n2,n3⟩:=R3.dir;obtain⟨w4,du,bz,b7⟩:=Gp underlying155 n1 nx cz 0;have R4:=R3.step b7 (ZE.delW bz n2 (DC n1 n3 b7)) ak.out.1 (ak.out.2 S1.out.2.2);have dy:=b8.fr b7 (ak.out.2 (Z5w ie ah));have j9:=dy.cell (j:=0) (v:=.string (str nx)) rfl;have ja:=dy.cell (j:=1) (v:=.string (str e.tail)) rfl;have ir:w4.cell? ⟨s,3,none⟩=some (.map (some b)):=R4.row.cell (j:=3) rfl;have S4:=Z5F R4;clear bz b7 R4 dy n1 n2 n3 U b8 bm ah R3)|(go_at_call 156;refine(Z0j B p d n P D L s half e _ (H.out.fr S4.out.fr (λk M=>by rw[Z58] at M;subst M;obtain⟨es,cl,dp⟩:=ek.out;exact H.out.map_ne dp)) (S4.out.row.cell (j:=0) rfl) (S4.out.row.cell (j:=2) rfl) he h2).mono ?_;rintro r w5 ⟨v5,rfl,⟨a5,ag,af,rfl,cj⟩,hb5⟩;have R5:=S4.out.after hb5;have S5:=Z5J R5 cj;clear hb5 R5 cj));obtain⟨x,hx⟩:=Z5H w5.heap.size;have dz:=Row.new w5 164 [.int .i64 (e.size:Int),.int .u32 (e.sum:Int),.slice a5 ag af];have dm:=(Below.refl w5.heap.size w5).alloc Z5D (.cells #[.int .i64 (e.size:Int),.int .u32 (e.sum:Int),.slice a5 ag af] 164);have R6:=S5.out.1.after dm;have E6:=S5.out.2.fr (Fr.of_below (L:=[]) dm) (by simp);rw[hx] at dz⊢;generalize w5.alloc (.cells #[.int .i64 (e.size:Int),.int .u32 (e.sum:Int),.slice a5 ag af] 164)=w6 at*
     have ct:Below w6.heap.size w6 w6.drew:=Z5E.drew;have R7:=R6.after ct;have al:=dz.after ct;have x0:=al.cell (j:=0) rfl;have x1:=al.cell (j:=1) rfl;have x2:=al.cell (j:=2) rfl;have iu:w6.drew.cell? ⟨s,3,none⟩=some (.map (some b)):=R7.row.cell (j:=3) rfl;have E7:=E6.fr (Fr.of_below (L:=[]) ct) (by simp);obtain⟨iw,n1,n2,n3⟩:=R7.dir;obtain⟨w8,gj,ez,cw⟩:=L9 underlying155 n1 (by unfold maxLen;omega) nx cz (.agg #[.int .i64 (e.size:Int),.int .u32 (e.sum:Int),.slice a5 ag af]);have E8:Xe w8 (.agg #[.int .i64 (e.size:Int),.int .u32 (e.sum:Int),.slice a5 ag af]) e:=⟨a5,ag,af,rfl,E7.fr cw (XB n1)⟩;have R8:=R7.step cw (ZE.putW ez n2 (DC n1 n3 cw) E8) ak.out.1 (ak.out.2 S1.out.2.2);have S8:=Z5F R8;clear R6 E6 R7 dz al E7 n1 n2 n3 ez cw E8 R8 dm ct hx;go_region
     all_goals go_wp2_with fail
     all_goals go_roundw
     all_goals first
      |exact⟨k+1,au+1,by omega,by go_num,by unfold Gt;rw[if_neg (by omega),Nat.add_sub_cancel,HK.out.2.2.1],by omega,by rw[HK.out.2.1];exact S8.out⟩
      |(simp[intOf];omega)
   .obtain rfl:k=C.length:=(by omega);rw[Z5A] at hR;have ik:=hR.row.cell (j:=3) rfl;have HR:=Z5F hR;have fc:PD B wr p d n P D L:=H.out.fr hR.fr (λk M=>by rw[Z58] at M;subst M;obtain⟨es,cl,dp⟩:=ek.out;exact H.out.map_ne dp);have HP:=Z5F fc;clear hR fc bf;go_wp2_with (go_at_call 94;refine(CW B p d n P D L s half b au (BI O C) _ HP.out (HR.out.row.cell (j:=0) rfl) (HR.out.row.cell (j:=2) rfl) HR.out.dir HI.out.2.2.2 h2).mono ?_;rintro r w9 ⟨j8,rfl,⟨g9,rfl,fe⟩,hb9⟩;have R9:=HR.out.after hb9;have f49:=R9.row.free (j:=4) (by simp);have d49:=R9.row.cell (j:=4) rfl;have S9:=Z5J R9 fe;clear hb9 R9 fe);go_ret;have dx:s≠g9:=λe9=>by have:=Yz S9.out.1.row (by rw[e9];exact S9.out.2);revert this;decide
    have ew:Fr [s] w9 (w9.setCell ⟨s,4,none⟩ (.slice (some ⟨g9,0,none⟩) (Q6 n half (BI O C)).length (Q6 n half (BI O C)).length)):=(Fr.refl _ _).setCell (Or.inl (by simp)) _
    refine⟨rfl,⟨_,au,S9.out.1.row.set 4 _,S9.out.1.dir.fr ew (λhm=>ak.out.1 (by rw[Z58] at hm⊢;exact hm.symm)) (λk M l hl=>by
     rw[Z58] at M;subst M;have:=Yz S9.out.1.row hl
     revert this;decide),g9,rfl,S9.out.2.other (λe9=>dx e9.symm) _⟩,(S9.out.1.fr.mono (λi hi _=>by simp at hi;simp[hi])).trans ew (λi hi _=>by simp at hi;simp[hi])⟩
end
section
open Go.RowKit Go.Maps Go.WideMaps
def C7(B:Nat)(w:World)(s d:Nat)(S:Sto):Prop:=B<=s/\∃j b uv,B<=j/\Row w s 157 [.pointer (some ⟨d,0,none⟩),.pointer (some ⟨j,0,none⟩),.int .i64 S.half,.map (some b),uv,.bool false]/\JAt w j d S.j/\ZE w b S.dir.length S.dir/\Ao w uv S.used
theorem PD.no_ext{B:Nat}{w:World}{p d n:Nat}{P:Pw}{D:Dk}{L:List Nat}(h:PD B w p d n P D L):∀k,k∈p::L->∀l,¬Row w k 197 l:=λk C l hl=>h.row_ne hl (by simp) (by simp) (by simp) (by simp) C
def Sto.first:Sto:=⟨800,100,Jn.first 100,[],Q6 800 100 []⟩
theorem Ia:Dir.Ok 800 100 []:=⟨List.Pairwise.nil,by simp,by simp,List.nodup_nil⟩
structure Sf(B p d:Nat)(L:List Nat)(P:Pw)(D:Dk)(w:World)(sv ev:Value)(w':World):Prop where
 err:Zk w' w.heap.size (Z2 (Jn.format 100) P D).1 ev
 ran:Ran B p d 800 L [] (Jn.format 100) P D w w'
 sto:(Z2 (Jn.format 100) P D).1=0->∃s,sv=.pointer (some ⟨s,0,none⟩)/\w.heap.size<=s/\C7 w.heap.size w' s d Sto.first
 none_:(Z2 (Jn.format 100) P D).1≠0->sv=.pointer none
theorem Hl(B p d:Nat)(P:Pw)(D:Dk)(L:List Nat)(w:World)(h:PD B w p d 800 P D L)(hB:B<=w.heap.size)(ht:Ty w)(hg:0<B)(az:D.wait.length<=100000):Calls prog 101 #[.pointer (some ⟨d,0,none⟩)] w λe w'=>∃sv ev,e=.returned (.tuple #[sv,ev])/\Sf B p d L P D w sv ev w':=by
 have H:=Z5L h hB ht hg;clear h hB ht hg;go_enter func101,ntmps101;go_wp2_with fail;refine(BW B p d P D L w H.out.1).mono ?_;rintro e w1 ⟨s,b,rfl,aq,bh,cn,cu,af⟩;have bu:=H.out.1.after af;have ah:Ty w1:=H.out.2.2.1.below af;have dc:=af.size;have c2:=aq.cell (j:=2) rfl;have f1:=aq.free (j:=1) (by simp);have S1:=Z5N aq bh bu ah cn af;clear aq bh bu ah cn af;have b8:=PE B p d 800 P D L 100 w1 S1.out.2.2.1 (Z5w H.out.2.1 dc) S1.out.2.2.2.1 H.out.2.2.2 (by omega) (by omega) az;rw[show((2*100:Nat):Int)=200 from rfl] at b8;have cr:=Z5F b8;clear b8;go_wp2_with fail;refine cr.out.mono ?_;rintro e w2 ⟨jv,ev,rfl,hF⟩;have cw:∃U,Did B p d 800 L [] (Z2 (Jn.format 100) P D).2.1 (Z2 (Jn.format 100) P D).2.2 w1 w2 U:=hF.ran;obtain⟨U,M⟩:=cw;have O:Row w2 s 157 [.pointer (some ⟨d,0,none⟩),.pointer none,.int .i64 100,.map (some b),.slice none 0 0,.bool false]:=M.row S1.out.2.2.1 S1.out.1 (by simp) (by simp) (by simp) (by simp) (by simp);have f12:=O.free (j:=1) (by simp);have df:=O.cell (j:=1) rfl;have ct:=O.cell (j:=3) rfl;have Z:s∉p::U:=M.pd.row_ne O (by simp) (by simp) (by simp) (by simp)
 have aj:ZE w2 b 0 []:=S1.out.2.1.fr M.fr (by
  obtain⟨fv,m1,_⟩:=S1.out.2.1;obtain⟨es,cl,hb⟩:=m1.block
  simpa using S1.out.2.2.1.map_ne hb) (by simpa using S1.out.2.2.1.no_ext)
 rcases hF.err.split with ⟨hc,rfl⟩|⟨hc,be,rfl⟩
 case inr=>
  obtain rfl:=hF.none_ hc;have ai:Ty (w2.setCell ⟨s,1,none⟩ (.pointer none)):=(Ty.did S1.out.2.2.2.1 M H.out.2.2.2 S1.out.2.2.1.bp S1.out.2.2.1.bL (by simp)).set (by have:=Ty.lt H.out.2.2.1;have:=S1.out.2.2.2.2.1;simp;omega) _;have hE:Zk (w2.setCell ⟨s,1,none⟩ (.pointer none)) w1.heap.size (Z2 (Jn.format 100) P D).1 (.iface 139 (.pointer (some ⟨be,0,none⟩))):=hF.err.fr ((Fr.refl [s] w2).setCell (Or.inl (by simp)) _) (λk F=>by rw[Z58] at F;subst F;exact S1.out.1.lt);have HZ:=Z5M hF M hc hE Z;clear hF M hc hE O Z aj ct;go_wp2_with fail;refine(C3 _ _ _ _ HZ.out.2.2.2.1 ai).mono ?_;rintro e w3 ⟨v3,rfl,bj,bg⟩;have H3:=Z5J bj bg;have de:=HZ.out.2.1.fr.size;clear bj bg ai;go_wp2;go_ret2
  refine⟨_,_,rfl,H3.out.1.base (by have:(w2.setCell ⟨s,1,none⟩ (.pointer none)).heap.size=w2.heap.size:=by simp[World.setCell]
                                   omega),?_,λh0=>absurd h0 HZ.out.2.2.1,λ_=>rfl⟩
  have ak:Did B p d 800 L [] (Z2 (Jn.format 100) P D).2.1 (Z2 (Jn.format 100) P D).2.2 w w2 U:=HZ.out.2.1.from S1.out.2.2.2.2.2;exact⟨U,(ak.frame (Y:=[s]) ((Fr.refl _ _).setCell (Or.inl (by simp)) _) (by simpa using HZ.out.2.2.2.2) (by simp;exact S1.out.2.2.2.2.1)).after H3.out.2⟩
 obtain⟨j,rfl,bm,b7⟩:=hF.jn hc;obtain⟨w3,au⟩:=Z5I (w2.setCell ⟨s,1,none⟩ (.pointer (some ⟨j,0,none⟩)));have ag:Fr [s] w2 w3:=by rw[au];exact(Fr.refl _ _).setCell (Or.inl (by simp)) _
 have bz:PD B w3 p d 800 _ _ U:=M.pd.fr ag (λk F=>by rw[Z58] at F;subst F;exact Z);have b9:Row w3 s 157 [.pointer (some ⟨d,0,none⟩),.pointer (some ⟨j,0,none⟩),.int .i64 100,.map (some b),.slice none 0 0,.bool false]:=by rw[au];exact O.set 1 _
 have bq:JAt w3 j d (Jn.first 100):=Row.fr b7 ag (λhm=>by
  rw[Z58] at hm;have:=Yz b7 (by rw[hm];exact O)
  revert this;decide)
 have ak:ZE w3 b 0 []:=aj.fr ag (λhm=>by
  rw[Z58] at hm;obtain⟨fv,m1,_⟩:=aj;obtain⟨es,cl,hb⟩:=m1.block;subst hm
  exact Yh O hb) (λk F l hl=>by
  rw[Z58] at F;subst F;have:=Yz O hl
  revert this;decide)
 have dh:=b9.cell (j:=3) rfl;have dj:w3.heap.size=w2.heap.size:=by rw[au];simp[World.setCell]
 have ae:Did B p d 800 L [] (Z2 (Jn.format 100) P D).2.1 (Z2 (Jn.format 100) P D).2.2 w w3 U:=(M.from S1.out.2.2.2.2.2).frame (Y:=[s]) ag (by simpa using Z) (by simp;exact S1.out.2.2.2.2.1);have C:=Z5O bz b9 bq ak ae hc bm;have de:=M.fr.size;have HW:=Z5F au;clear bz b9 bq ak ae hc bm b7 hF M O aj ag Z;go_wp2_with (go_at_call 94;rw[<-HW.out];refine(CW B p d 800 _ _ U s 100 b 0 [] _ C.out.1 (C.out.2.1.cell (j:=0) rfl) (C.out.2.1.cell (j:=2) rfl) C.out.2.2.2.1 Ia (by omega)).mono ?_;rintro r w9 ⟨dm,rfl,⟨g9,rfl,cj⟩,aw⟩;have R9:=C.out.2.1.after aw;have f49:=R9.free (j:=4) (by simp);have d49:=R9.cell (j:=4) rfl;have J:=Z5K R9 cj aw;clear aw R9 cj);go_ret2;have al:Fr [s] w9 (w9.setCell ⟨s,4,none⟩ (.slice (some ⟨g9,0,none⟩) (Q6 800 100 []).length (Q6 800 100 []).length)):=(Fr.refl _ _).setCell (Or.inl (by simp)) _;have bf:∀{g:Nat} {et:TypeId} {l:List Value},et≠157->Row w9 g et l->g∉[s]:=λhet hl hm=>by rw[Z58] at hm;subst hm;exact het (Yz hl J.out.1)
 have cz:PD B w9 p d 800 _ _ U:=C.out.1.after J.out.2.2;refine⟨_,_,rfl,by rw[C.out.2.2.2.2.2.1];exact Zk.nil _ _,⟨U,(C.out.2.2.2.2.1.after J.out.2.2).frame (Y:=[s]) al (λk F=>by rw[Z58] at F;subst F;exact cz.row_ne J.out.1 (by decide) (by decide) (by decide) (by decide)) (by simp;exact S1.out.2.2.2.2.1)⟩,λ_=>⟨s,rfl,S1.out.2.2.2.2.1,S1.out.2.2.2.2.1,j,b,_,?_,J.out.1.set 4 _,?_,?_,g9,rfl,?_⟩,λh0=>absurd C.out.2.2.2.2.2.1 h0⟩
 .have:=C.out.2.2.2.2.2.2;omega
 .exact Row.fr (C.out.2.2.1.after J.out.2.2) al (bf (by decide) (C.out.2.2.1.after J.out.2.2))
 .refine(C.out.2.2.2.1.after J.out.2.2).fr al (λhm=> ?_) (λk F l hl=>bf (by decide) hl F);rw[Z58] at hm;obtain⟨fv,m1,_⟩:=C.out.2.2.2.1.after J.out.2.2;obtain⟨es,cl,hb⟩:=m1.block;subst hm;exact Yh J.out.1 hb
 .exact J.out.2.1.fr al (bf (by decide) J.out.2.1)
end
section
open Go.RowKit Go.Maps Go.WideMaps
variable{acts:List Ac}{b ca db fb ga n n1 n1' n2 n2' na oa q x:Nat}{bx:List Value}{d d':Dir}{f f':Z1}{us:Value}{w w' wr:World}
def Aj(w:World)(ga oa:Nat)(acts:List Ac):Prop:=ga<w.heap.size/\∀k,k<acts.length->w.cell? ⟨ga,oa+k*4,none⟩=some (.int .i64 ((acts.getD k ⟨0,[],[],[]⟩).kind:Int))/\w.cell? ⟨ga,oa+k*4+1,none⟩=some (.string (str (acts.getD k ⟨0,[],[],[]⟩).name))/\
 w.cell? ⟨ga,oa+k*4+2,none⟩=some (.string (str (acts.getD k ⟨0,[],[],[]⟩).to))/\w.cell? ⟨ga,oa+k*4+3,none⟩=some (.string (str (acts.getD k ⟨0,[],[],[]⟩).value))
theorem Aj.fr{L:List Nat}(h:Aj w ga oa acts)(C:Fr L w w')(F:ga∉L):Aj w' ga oa acts:=by have J:=C.block ga h.1 F;have hc:∀i,w'.cell? ⟨ga,i,none⟩=w.cell? ⟨ga,i,none⟩:=λi=>World.cell?_of_block (a:=⟨ga,i,none⟩) J;refine⟨Z5v h.1 C.size,λk M=> ?_⟩;rw[hc,hc,hc,hc];exact h.2 k M
theorem Aj.after(h:Aj w ga oa acts)(C:Below w.heap.size w w'):Aj w' ga oa acts:=h.fr (Fr.of_below (L:=[]) C) (by simp)
def Qw(f:Z1):Bs->Option Value:=λm=>(f.by m).map λk=>.int .i64 (k:Int)
structure PlA(w:World)(q db fb ga oa na ca:Nat)(us:Value)(acts:List Ac)(d:Dir)(f:Z1)(n1 n2:Nat):Prop where
 row:Row w q 167 [.map (some db),.map (some fb),.slice (some ⟨ga,oa,none⟩) na ca,us]
 dir:ZE w db n1 d
 fsh:ZA w fb n2 (Qw f)
 ard:Aj w ga oa acts
 many:na=acts.length
 ne:db≠fb
 nag:ga≠db/\ga≠fb
theorem PlA.after(h:PlA w q db fb ga oa na ca us acts d f n1 n2)(C:Below w.heap.size w w'):PlA w' q db fb ga oa na ca us acts d f n1 n2:=⟨h.row.after C,h.dir.after C,h.fsh.after C,h.ard.after C,h.many,h.ne,h.nag⟩
theorem Tn(f:Z1)(n:Bs):(λm=>if m=n then none else Qw f m)=Qw (f.del n):=by
 funext m
 unfold Qw;rw[Z1.by_del];grind
theorem To(f:Z1)(n:Bs)(k:Nat):(λm=>if m=n then some (.int .i64 (k:Int)) else Qw (f.del n) m)=Qw (f.del n++[(n,k)]):=by
 funext m
 unfold Qw;rw[Z1.by_append,Z1.by_del];by_cases h:m=n
 .rw[if_pos h,if_pos h];simp[Z1.by,h]
 .rw[if_neg h,if_neg h];cases C:f.by m with
  |some x=>rfl
  |none=>simp[Z1.by,Ne.symm h]
theorem Wy{g:Nat}{C:TypeId}{l:List Value}{f:Bs->Option Value}(J:Row w g C l)(h:ZA w b n f):g∉[b]:=λhm=>by rw[Z58] at hm;subst hm;obtain⟨es,M,F⟩:=h.block;exact Yh J F
theorem PlA.dirTo(h:PlA w q db fb ga oa na ca us acts d f n1 n2)(C:Fr [db] w w')(F:ZE w' db n1' d'):PlA w' q db fb ga oa na ca us acts d' f n1' n2:=by obtain⟨J,m1,_⟩:=h.dir;exact⟨h.row.fr C (Wy h.row m1),F,h.fsh.fr C (by simp;exact λe=>h.ne e.symm),h.ard.fr C (by simp;exact h.nag.1),h.many,h.ne,h.nag⟩
theorem PlA.freshTo(h:PlA w q db fb ga oa na ca us acts d f n1 n2)(C:Fr [fb] w w')(F:ZA w' fb n2' (Qw f')):PlA w' q db fb ga oa na ca us acts d f' n1 n2':=⟨h.row.fr C (Wy h.row h.fsh),h.dir.fr C (by simp;exact h.ne) (XB h.fsh),F,h.ard.fr C (by simp;exact h.nag.2),h.many,h.ne,h.nag⟩
theorem KP(h:ZE w b n d)(k:Bs)(F:k.length<=maxLen)(ty:TypeId):∃w',(Builtin.delete_ #[155,9] ty #[.map (some b),.string (str k)]).run prog w=.ok (.tuple #[]) w'/\ZE w' b n (d.del k)/\Fr [b] w w':=by obtain⟨O,m1,m2,m3⟩:=h;obtain⟨w',J,M,C⟩:=Gp underlying155 m1 k F ty;exact⟨w',J,ZE.delW M m2 (DC m1 m3 C),C⟩
theorem KQ(h:ZE w b n d)(J:n<maxLen)(k:Bs)(F:k.length<=maxLen)(v:Value)(e:Ent)(he:Xe w v e):∃w',(Instr.mapUpdate 155 (.map (some b)) (.string (str k)) v).run prog w=.ok () w'/\ZE w' b (n+1) (d.put k e)/\Fr [b] w w':=by obtain⟨U,m1,m2,m3⟩:=h;obtain⟨w',M,O,C⟩:=L9 underlying155 m1 J k F v;exact⟨w',M,ZE.putW O m2 (DC m1 m3 C) (he.fr C (XB m1)),C⟩
theorem CJ(h:ZA w b n (Qw f))(k:Bs)(F:k.length<=maxLen)(ty:TypeId):∃w',(Builtin.delete_ #[165,9] ty #[.map (some b),.string (str k)]).run prog w=.ok (.tuple #[]) w'/\ZA w' b n (Qw (f.del k))/\Fr [b] w w':=by obtain⟨w',J,C,M⟩:=Gp underlying165 h k F ty;exact⟨w',J,by rw[Tn] at C;exact C,M⟩
theorem Vg{k:Bs}(h:ZA w b n (Qw (f.del k)))(J:n<maxLen)(F:k.length<=maxLen)(i:Nat):∃w',(Instr.mapUpdate 165 (.map (some b)) (.string (str k)) (.int .i64 (i:Int))).run prog w=.ok () w'/\ZA w' b (n+1) (Qw (f.del k++[(k,i)]))/\Fr [b] w w':=by obtain⟨w',M,C,O⟩:=L9 underlying165 h J k F (.int .i64 (i:Int));exact⟨w',M,by rw[To] at C;exact C,O⟩
theorem Cg(h:ZE w b n d)(k:Bs)(F:k.length<=maxLen):∃ (sz sm:Int) (a:Option Addr) (l c:Nat),(∀W,Below w.heap.size w W->(Instr.lookup 155 (.map (some b)) (.string (str k)) true).run prog W=.ok (.tuple #[.agg #[.int .i64 sz,.int .u32 sm,.slice a l c],.bool (d.get k).isSome]) W)/\ (∀W,Below w.heap.size w W->(Instr.lookup 155 (.map (some b)) (.string (str k)) false).run prog W=.ok (.agg #[.int .i64 sz,.int .u32 sm,.slice a l c]) W∨d.get k=none)/\∀e,d.get k=some e->Xe w (.agg #[.int .i64 sz,.int .u32 sm,.slice a l c]) e:=by
 obtain⟨U,m1,m2,m3⟩:=h;cases J:d.get k with
 |none=>exact⟨0,0,none,0,0,λW C=>(m1.after C).look_none underlying155 (Aa W) F (m2 k J),λW C=>Or.inr rfl,λe he=>by cases he⟩
 |some e=>obtain⟨v,hv,a,l,c,rfl,M⟩:=m3 k e J;exact⟨_,_,a,l,c,λW C=>(m1.after C).look_some underlying155 (Aa W) F hv,λW C=>Or.inl ((m1.after C).at_some underlying155 (Aa W) F hv),λO he=>by cases he;exact⟨a,l,c,rfl,M⟩⟩
theorem DD(w:World):(zeroValue 3).run prog w=.ok (.int .i64 0) w:=by kernel_rfl
theorem BO(h:ZA w b n (Qw f))(k:Bs)(F:k.length<=maxLen):(Instr.lookup 165 (.map (some b)) (.string (str k)) true).run prog w=.ok (.tuple #[.int .i64 (((f.by k).getD 0:Nat):Int),.bool (f.by k).isSome]) w:=by
 cases C:f.by k with
 |none=>exact h.look_none underlying165 (DD w) F (by unfold Qw;rw[C];rfl)
 |some i=>exact h.look_some underlying165 (DD w) F (by unfold Qw;rw[C];rfl)
theorem Z2m(s:ByteArray)(w:World)(hs:s.size<=maxLen):Calls prog 130 #[.string s] w λe w'=>e=.returned (.int .u32 (Wt s.data.toList:Int))/\w=w':=(DM s w hs).mono λe w' h=>⟨by rw[h.1,QD];rfl,h.2⟩
structure PdS(w:World)(q db fb ga oa na ca:Nat)(us:Value)(acts:List Ac)(d:Dir)(f:Z1)(n1 n2 x:Nat)(bx:List Value)(wr:World):Prop where
 pl:PlA wr q db fb ga oa na ca us acts d f n1 n2
 box:Row wr x 151 bx
 fr:Fr [db,fb] w wr
theorem PdS.after(h:PdS w q db fb ga oa na ca us acts d f n1 n2 x bx wr)(C:Below wr.heap.size wr w'):PdS w q db fb ga oa na ca us acts d f n1 n2 x bx w':=⟨h.pl.after C,h.box.after C,h.fr.trans (Fr.of_below (L:=[]) C) (by simp)⟩
theorem PdS.dirTo(h:PdS w q db fb ga oa na ca us acts d f n1 n2 x bx wr)(C:Fr [db] wr w')(F:ZE w' db n1' d'):PdS w q db fb ga oa na ca us acts d' f n1' n2 x bx w':=by obtain⟨J,m1,_⟩:=h.pl.dir;exact⟨h.pl.dirTo C F,h.box.fr C (Wy h.box m1),h.fr.trans C (λi hi _=>by simp at hi;simp[hi])⟩
theorem PdS.freshTo(h:PdS w q db fb ga oa na ca us acts d f n1 n2 x bx wr)(C:Fr [fb] wr w')(F:ZA w' fb n2' (Qw f')):PdS w q db fb ga oa na ca us acts d f' n1 n2' x bx w':=⟨h.pl.freshTo C F,h.box.fr C (Wy h.box h.pl.fsh),h.fr.trans C (λi hi _=>by simp at hi;simp[hi])⟩
theorem Z3A(q db fb ga oa na ca:Nat)(us:Value)(acts:List Ac)(d:Dir)(f:Z1)(n1 n2 k:Nat)(N V:Bs)(w:World)(h:PlA w q db fb ga oa na ca us acts d f n1 n2)(hk:k<acts.length)(hm:acts.length<=100000)(ha:acts.getD k ⟨0,[],[],[]⟩=⟨1,N,[],V⟩)(hN:N.length<=220)(hV:V.length<=12000)(de:n1<=100000000)(df:n2<=100000000)(cz:na<=ca):Calls prog 86 #[.pointer (some ⟨q,0,none⟩),.int .i64 k] w λe w'=>e=.returned .nilIface/\(∃n1' n2',n1'<=n1+1/\n2'<=n2+1/\PlA w' q db fb ga oa na ca us acts ((d.del N).put N ⟨V.length,Wt V,[]⟩) (f.del N++[(N,k)]) n1' n2')/\Fr [db,fb] w w':=by
 have J:N.length<=maxLen:=by unfold maxLen;omega
 have c2:=h.row.cell (j:=2) rfl;obtain⟨a0,a1,a2,a3⟩:=h.ard.2 k hk;rw[ha] at a0 a1 a2 a3;have dc:k<na:=by rw[h.many];exact hk
 have HP:=Z5F h;clear h ha;go_enter func86,ntmps86;go_wp2_with fail;obtain⟨x,hx⟩:=Z5H w.heap.size;have aj:=Row.new w 151 [.int .i64 1,.string (str N),.string (str []),.string (str V)];have ah:=(Below.refl w.heap.size w).alloc Z5D (.cells #[.int .i64 1,.string (str N),.string (str []),.string (str V)] 151);have P1:=HP.out.after ah;have F1:Fr [db,fb] w _:=Fr.of_below ah;rw[hx] at aj⊢;generalize w.alloc (.cells #[.int .i64 1,.string (str N),.string (str []),.string (str V)] 151)=w1 at*
 have D1:PdS w q db fb ga oa na ca us acts d f n1 n2 x _ w1:=⟨P1,aj,F1⟩;have F:=Z5F D1;clear D1 P1 aj F1 ah hx c2 a0 a1 a2 a3;obtain⟨sz,sm,a,l,c,ai,_,_⟩:=Cg F.out.pl.dir N J;have k2:=λo=>ai ((w1.alloc o).drew) (((Below.refl w1.heap.size w1).alloc Z5D o).drew);have k1:=ai w1.drew Z5E.drew;have cu:=F.out.pl.row.cell (j:=0) rfl;have cj:=F.out.box.cell (j:=1) rfl;have ct:=F.out.box.lt;have bz:=F.out.pl.row.lt;clear ai;go_region;have D2:=F.out.after (((Below.refl w1.heap.size w1).alloc Z5D (.cells #[.int .i64 sz,.int .u32 sm,.slice a l c] 164)).drew);generalize (w1.alloc (.cells #[.int .i64 sz,.int .u32 sm,.slice a l c] 164)).drew=w2 at*
 clear k1 k2 cu cj ct bz;have bg:=Z5F D2;have x0:=D2.box.cell (j:=0) rfl;clear D2;go_wp2_with fail;have Z:=bg.out.after ((Below.refl _ w2).drew);have y1:=Z.pl.row.cell (j:=1) rfl;have C:=Z.box.cell (j:=1) rfl;have bu:=BO Z.pl.fsh N J;clear x0;have al:=Z5F Z;clear Z;go_region;generalize w2.drew=w3 at*
 clear y1 C bu;have x0:=al.out.box.cell (j:=0) rfl;go_wp2_with fail;clear x0;have D4:=al.out.after ((Below.refl _ w3).drew);have y0:=D4.pl.row.cell (j:=0) rfl;have C:=D4.box.cell (j:=1) rfl;obtain⟨w4,ae,aq,az⟩:=KP D4.pl.dir N J 0;have D5:=D4.dirTo az aq;have bh:=Z5F D5;clear D4 D5 aq az;go_region;clear y0 C ae;go_wp2_with fail;have D6:=bh.out.after ((Below.refl _ w4).drew);have y1:=D6.pl.row.cell (j:=1) rfl;have C:=D6.box.cell (j:=1) rfl;obtain⟨w5,ae,au,b7⟩:=CJ D6.pl.fsh N J 0;have D7:=D6.freshTo b7 au;have U:=Z5F D7;clear D6 D7 au b7;go_region;clear y1 C ae;have x0:=U.out.box.cell (j:=0) rfl;go_wp2_with fail;clear x0;have M:=U.out.after ((Below.refl _ w5).drew);have y0:=M.pl.row.cell (j:=0) rfl;have C:=M.box.cell (j:=1) rfl;have x3:=M.box.cell (j:=3) rfl;have bq:(str V).size=V.length:=Z5 V;obtain⟨w6,ag,aw,b8⟩:=KQ M.pl.dir (by unfold maxLen;omega) N J (.agg #[.int .i64 (V.length:Int),.int .u32 (Wt (str V).data.toList:Int),.slice none 0 0]) ⟨V.length,Wt V,[]⟩ ⟨none,0,0,rfl,⟨rfl,Or.inl rfl⟩,λ_=>⟨rfl,rfl⟩⟩;have D9:=M.dirTo b8 aw;have bj:=Z5F D9;have bm:(str V).size<=maxLen:=by rw[bq];unfold maxLen;omega
 have cw:=U.out.pl.row.cell (j:=0) rfl;have cn:=U.out.box.cell (j:=1) rfl;have cr:=U.out.box.cell (j:=3) rfl;clear M D9 aw b8;go_still_tail 13,(by kernel_rfl)
 still_call (XJ (Z2m (str V) _ bm))
 repeat still_step
 refine wpStill_nil ?_;change wpList _ _ _ _ _ w5.drew;go_wp2_with fail;clear y0 C x3 ag cw cn cr;have O:=bj.out.after ((Below.refl _ w6).drew);have y1:=O.pl.row.cell (j:=1) rfl;have C:=O.box.cell (j:=1) rfl;obtain⟨w7,ag,bf,b9⟩:=Vg O.pl.fsh (by unfold maxLen;omega) J k;have ak:=O.freshTo b9 bf;have af:=Z5F ak;clear O ak bf b9;go_region;go_wp2_with fail;go_ret;exact⟨rfl,⟨_,_,Z5D,Z5D,af.out.pl⟩,af.out.fr⟩
end
section
open Go.RowKit Go.Maps Go.WideMaps
variable{a:Option Addr}{c l y:Nat}{e:Ent}{sm sz:Int}{w w':World}
structure EbS(y:Nat)(sz sm:Int)(a:Option Addr)(l c:Nat)(e:Ent)(w:World):Prop where
 row:Row w y 164 [.int .i64 sz,.int .u32 sm,.slice a l c]
 ent:Xe w (.agg #[.int .i64 sz,.int .u32 sm,.slice a l c]) e
theorem EbS.after(h:EbS y sz sm a l c e w)(C:Below w.heap.size w w'):EbS y sz sm a l c e w':=⟨h.row.after C,h.ent.fr (Fr.of_below (L:=[]) C) (by simp)⟩
theorem EbS.dirTo(h:EbS y sz sm a l c e w){b n:Nat}{d:Dir}(F:ZE w b n d)(C:Fr [b] w w'):EbS y sz sm a l c e w':=by obtain⟨J,m1,_⟩:=F;exact⟨h.row.fr C (Wy h.row m1),h.ent.fr C (XB m1)⟩
theorem EbS.freshTo(h:EbS y sz sm a l c e w){b n:Nat}{f:Bs->Option Value}(m1:ZA w b n f)(C:Fr [b] w w'):EbS y sz sm a l c e w':=⟨h.row.fr C (Wy h.row m1),h.ent.fr C (XB m1)⟩
theorem Z1Q(q db fb ga oa na ca:Nat)(us:Value)(acts:List Ac)(d:Dir)(f:Z1)(n1 n2 k:Nat)(N:Bs)(e0:Ent)(w:World)(h:PlA w q db fb ga oa na ca us acts d f n1 n2)(hk:k<acts.length)(hm:acts.length<=100000)(ha:acts.getD k ⟨0,[],[],[]⟩=⟨2,N,[],[]⟩)(hN:N.length<=220)(hg:d.get N=some e0)(bq:n1<=100000000)(bu:n2<=100000000)(bj:na<=ca):Calls prog 86 #[.pointer (some ⟨q,0,none⟩),.int .i64 k] w λe w'=>e=.returned .nilIface/\(∃al aq,al<=n1+1/\aq<=n2+1/\PlA w' q db fb ga oa na ca us acts (d.del N) (f.del N) al aq)/\Fr [db,fb] w w':=by
 have M:N.length<=maxLen:=by unfold maxLen;omega
 have c2:=h.row.cell (j:=2) rfl;obtain⟨a0,a1,a2,a3⟩:=h.ard.2 k hk;rw[ha] at a0 a1 a2 a3;have bm:k<na:=by rw[h.many];exact hk
 have bz:(d.get N).isSome=true:=by simp_all
 have HP:=Z5F h;clear h ha;go_enter func86,ntmps86;go_wp2_with fail;obtain⟨x,hx⟩:=Z5H w.heap.size;have ah:=Row.new w 151 [.int .i64 2,.string (str N),.string (str []),.string (str [])];have ae:=(Below.refl w.heap.size w).alloc Z5D (.cells #[.int .i64 2,.string (str N),.string (str []),.string (str [])] 151);have P1:=HP.out.after ae;have F1:Fr [db,fb] w _:=Fr.of_below ae;rw[hx] at ah⊢;generalize w.alloc (.cells #[.int .i64 2,.string (str N),.string (str []),.string (str [])] 151)=w1 at*
 have D1:PdS w q db fb ga oa na ca us acts d f n1 n2 x _ w1:=⟨P1,ah,F1⟩;have C:=Z5F D1;clear D1 P1 ah F1 ae hx c2 a0 a1 a2 a3;obtain⟨sz,sm,a,l,c,ag,_,_⟩:=Cg C.out.pl.dir N M;have k2:=λo=>ag ((w1.alloc o).drew) (((Below.refl w1.heap.size w1).alloc Z5D o).drew);have k1:=ag w1.drew Z5E.drew;have bh:=C.out.pl.row.cell (j:=0) rfl;have bf:=C.out.box.cell (j:=1) rfl;have bg:=C.out.box.lt;have b9:=C.out.pl.row.lt;clear ag;go_region;have D2:=C.out.after (((Below.refl w1.heap.size w1).alloc Z5D (.cells #[.int .i64 sz,.int .u32 sm,.slice a l c] 164)).drew);generalize (w1.alloc (.cells #[.int .i64 sz,.int .u32 sm,.slice a l c] 164)).drew=w2 at*
 clear k1 k2 bh bf bg b9;have au:=Z5F D2;have U:=D2.box.cell (j:=0) rfl;clear D2;go_wp2_with fail;have F:=au.out.after ((Below.refl _ w2).drew);have y1:=F.pl.row.cell (j:=1) rfl;have x1:=F.box.cell (j:=1) rfl;have b8:=BO F.pl.fsh N M;clear U;have ai:=Z5F F;clear F;go_region;generalize w2.drew=w3 at*
 clear y1 x1 b8;have U:=ai.out.box.cell (j:=0) rfl;go_wp2_with fail;clear U;have J:=ai.out.after ((Below.refl _ w3).drew);have y0:=J.pl.row.cell (j:=0) rfl;have x1:=J.box.cell (j:=1) rfl;obtain⟨w4,af,aj,ak⟩:=KP J.pl.dir N M 0;have D5:=J.dirTo ak aj;have aw:=Z5F D5;clear J D5 aj ak;go_region;go_wp2_with fail;have O:=aw.out.after ((Below.refl _ w4).drew);have y1:=O.pl.row.cell (j:=1) rfl;have x1:=O.box.cell (j:=1) rfl;obtain⟨w5,af,az,b7⟩:=CJ O.pl.fsh N M 0;have D7:=O.freshTo b7 az;have Z:=Z5F D7;go_region;have U:=Z.out.box.cell (j:=0) rfl;go_wp2_with fail;go_ret;exact⟨rfl,⟨_,_,Nat.le_succ _,Nat.le_succ _,Z.out.pl⟩,Z.out.fr⟩
theorem Z1R(q db fb ga oa na ca:Nat)(us:Value)(acts:List Ac)(d:Dir)(f:Z1)(n1 n2 k:Nat)(N T:Bs)(e0:Ent)(w:World)(h:PlA w q db fb ga oa na ca us acts d f n1 n2)(hk:k<acts.length)(hm:acts.length<=100000)(ha:acts.getD k ⟨0,[],[],[]⟩=⟨3,N,T,[]⟩)(hN:N.length<=220)(hT:T.length<=220)(dh:T≠N)(hg:d.get N=some e0)(dm:f.by N=none)(dy:n1<=100000000)(dz:n2<=100000000)(dw:na<=ca):Calls prog 86 #[.pointer (some ⟨q,0,none⟩),.int .i64 k] w λe w'=>e=.returned .nilIface/\(∃bu bz,bu<=n1+1/\bz<=n2+1/\PlA w' q db fb ga oa na ca us acts ((d.del N).put T e0) ((f.del N).del T) bu bz)/\Fr [db,fb] w w':=by
 have aj:N.length<=maxLen:=by unfold maxLen;omega
 have c2:=h.row.cell (j:=2) rfl;obtain⟨a0,a1,a2,a3⟩:=h.ard.2 k hk;rw[ha] at a0 a1 a2 a3;have dx:k<na:=by rw[h.many];exact hk
 have ee:(d.get N).isSome=true:=by rw[hg];rfl
 have dj:((str T).toList==(str N).toList)=false:=BZ (λe=>dh (GE e));have ah:T.length<=maxLen:=by unfold maxLen;omega
 have HP:=Z5F h;clear h ha;go_enter func86,ntmps86;go_wp2_with fail;obtain⟨x,hx⟩:=Z5H w.heap.size;have az:=Row.new w 151 [.int .i64 3,.string (str N),.string (str T),.string (str [])];have ak:=(Below.refl w.heap.size w).alloc Z5D (.cells #[.int .i64 3,.string (str N),.string (str T),.string (str [])] 151);have P1:=HP.out.after ak;have F1:Fr [db,fb] w _:=Fr.of_below ak;rw[hx] at az⊢;generalize w.alloc (.cells #[.int .i64 3,.string (str N),.string (str T),.string (str [])] 151)=w1 at*
 have D1:PdS w q db fb ga oa na ca us acts d f n1 n2 x _ w1:=⟨P1,az,F1⟩;have F:=Z5F D1;clear D1 P1 az F1 ak hx c2 a0 a1 a2 a3;obtain⟨sz,sm,a,l,c,au,_,af⟩:=Cg F.out.pl.dir N aj;have af:=af e0 hg;have k2:=λo=>au ((w1.alloc o).drew) (((Below.refl w1.heap.size w1).alloc Z5D o).drew);have k1:=au w1.drew Z5E.drew;have du:=F.out.pl.row.cell (j:=0) rfl;have dq:=F.out.box.cell (j:=1) rfl;have dt:=F.out.box.lt;have dp:=F.out.pl.row.lt;clear au;go_region;obtain⟨y,hy⟩:=Z5H w1.heap.size;have M2:EbS y sz sm a l c e0 ((w1.alloc (.cells #[.int .i64 sz,.int .u32 sm,.slice a l c] 164)).drew):=⟨by rw[<-hy];exact(Row.new w1 164 [.int .i64 sz,.int .u32 sm,.slice a l c]).after (Z5E.drew),af.fr (Fr.of_below (L:=[]) ((((Below.refl w1.heap.size w1).alloc Z5D _)).drew)) (by simp)⟩;rw[hy];have D2:=F.out.after (((Below.refl w1.heap.size w1).alloc Z5D (.cells #[.int .i64 sz,.int .u32 sm,.slice a l c] 164)).drew);generalize (w1.alloc (.cells #[.int .i64 sz,.int .u32 sm,.slice a l c] 164)).drew=w2 at*
 clear k1 k2 du dq dt dp;have ct:=Z5F M2;clear M2 af hy;have cj:=Z5F D2;have x0:=D2.box.cell (j:=0) rfl;clear D2;go_wp2_with fail;have U:=cj.out.after ((Below.refl _ w2).drew);have y1:=U.pl.row.cell (j:=1) rfl;have C:=U.box.cell (j:=1) rfl;have bm:=BO U.pl.fsh N aj;rw[dm] at bm;have cu:=Z5F (ct.out.after ((Below.refl _ w2).drew));clear x0;have ai:=Z5F U;clear U;go_region;generalize w2.drew=w3 at*
 clear y1 C bm;have x0:=ai.out.box.cell (j:=0) rfl;have C:=ai.out.box.cell (j:=1) rfl;have x2:=ai.out.box.cell (j:=2) rfl;go_wp2_with fail;clear x0 C x2;have J:=ai.out.after ((Below.refl _ w3).drew);have y0:=J.pl.row.cell (j:=0) rfl;have C:=J.box.cell (j:=1) rfl;obtain⟨w4,ae,b9,al⟩:=KP J.pl.dir N aj 0;have D5:=J.dirTo al b9;have cw:=Z5F ((cu.out.after ((Below.refl _ w3).drew)).dirTo J.pl.dir al);have cn:=Z5F D5;clear J D5 b9 al;go_region;clear y0 C ae;go_wp2_with fail;have M:=cn.out.after ((Below.refl _ w4).drew);have y1:=M.pl.row.cell (j:=1) rfl;have C:=M.box.cell (j:=1) rfl;obtain⟨w5,ae,bf,aq⟩:=CJ M.pl.fsh N aj 0;have D7:=M.freshTo aq bf;have cz:=Z5F ((cw.out.after ((Below.refl _ w4).drew)).freshTo M.pl.fsh aq);have b8:=Z5F D7;clear M D7 bf aq;go_region;clear y1 C ae;have x0:=b8.out.box.cell (j:=0) rfl;go_wp2_with fail;clear x0;have Z:=b8.out.after ((Below.refl _ w5).drew);have M8:=cz.out.after ((Below.refl _ w5).drew);have y0:=Z.pl.row.cell (j:=0) rfl;have x2:=Z.box.cell (j:=2) rfl;have dc:=M8.row.cell (j:=0) rfl;have de:=M8.row.cell (j:=1) rfl;have df:=M8.row.cell (j:=2) rfl;obtain⟨w6,aw,bg,bh⟩:=KQ Z.pl.dir (by unfold maxLen;omega) T ah (.agg #[.int .i64 sz,.int .u32 sm,.slice a l c]) e0 M8.ent;have D9:=Z.dirTo bh bg;have cr:=Z5F D9;clear Z D9 M8 bg bh;go_region;clear y0 x2 dc de df aw;go_wp2_with fail;have O:=cr.out.after ((Below.refl _ w6).drew);have y1:=O.pl.row.cell (j:=1) rfl;have x2:=O.box.cell (j:=2) rfl;obtain⟨w7,ae,bq,bj⟩:=CJ O.pl.fsh T ah 0;have b7:=O.freshTo bj bq;have ag:=Z5F b7;clear O b7 bq bj;go_region;go_wp2_with fail;go_ret;exact⟨rfl,⟨_,_,Z5D,Nat.le_succ _,ag.out.pl⟩,ag.out.fr⟩
end
section
open Go.RowKit Go.Maps Go.WideMaps
variable{w:World}
theorem Z1f(h:Value)(w:World):Calls prog 263 #[.slice none 0 0,.int .i64 0,.int .i64 0,h] w λe w'=>e=.returned (.tuple #[])/\w'=w:=by
 go_enter func263,ntmps263;go_wp2_with fail;go_loopw [8] (λiv wr=>iv=.int .i64 1/\wr=w) (λ_ _=>0)
 case atStart=>exact⟨rfl,rfl⟩
 case round=>go_wp2_with fail;go_end0;simp
theorem Z1S(h:Value)(l:Int)(w:World):Calls prog 242 #[.slice none 0 0,.int .i64 0,.int .i64 0,.int .i64 l,h] w λe w'=>e=.returned (.tuple #[])/\w'=w:=by
 go_enter func242,ntmps242;go_wp2_with fail;go_loopw [1,2] (λav bv wr=>av=.int .i64 0/\bv=.int .i64 0/\wr=w) (λ_ _ _=>0)
 case atStart=>exact⟨rfl,rfl,rfl⟩
 case round=>obtain⟨rfl,rfl,rfl⟩:=hrel;go_wp2_with (go_at_call 263;refine(Z1f h _).mono ?_;rintro e w' ⟨rfl,rfl⟩);exact bodyPost_ret (results_none (by rfl) _ _ _) rfl ⟨rfl,rfl⟩
theorem Z09(h:Value)(w:World):Calls prog 187 #[.slice none 0 0,h] w λe w'=>e=.returned (.tuple #[])/\w'=w:=by
 have hl:(0:Int)<=18446744073709551615:=by omega
 go_enter func187,ntmps187;go_wp2_with (first|(go_at_call 123;refine(Tryz.bits_Len 0 _ (by omega) hl).mono ?_;rintro e w' ⟨rfl,rfl⟩)|(go_at_call 242;refine(Z1S h _ _).mono ?_;rintro e w' ⟨rfl,rfl⟩));go_end0;simp
theorem ZA.at_none{b n:Nat}{f:Bs->Option Value}{t e:TypeId}(h:ZA w b n f)(U:prog.underlying t=some (.map 9 e)){z:Value}(Z:(zeroValue e).run prog w=.ok z w){k:Bs}(O:k.length<=maxLen)(M:f k=none):(Instr.lookup t (.map (some b)) (.string (str k)) false).run prog w=.ok z w:=by
 obtain⟨D,F,J⟩:=h;obtain⟨v',ps,C,hv⟩:=F.lookup JG U Z (zd:=.held z) (zp:=[]) rfl (FF k O);have hh:Maps.has D (.string k)=false:=by rw[(J k).1,M];rfl
 rw[atKey_of_not_has hh] at hv;simp[Xl] at hv;rw[C,hv.1]
abbrev Nm:={l:Bs // l.length<=maxLen}
instance:Inhabited Nm:=⟨⟨[],by simp⟩⟩
def KS(x:Nm):Value:=.string (str x.1)
def ixN(f:Z1)(x:Bs):Int:=((f.by x).getD 0:Nat)
def cfN(f:Z1)(x y:Nm):Int:=ixN f x.1-ixN f y.1
theorem Vz(J q fb n2:Nat)(f:Z1)(x y:Bs)(W:World)(h0:W.cell? ⟨J,0,none⟩=some (.pointer (some ⟨q,0,none⟩)))(h1:W.cell? ⟨q,1,none⟩=some (.map (some fb)))(hm:ZA W fb n2 (Qw f))(hx:x.length<=maxLen)(U:y.length<=maxLen)(hi:∀p∈f,p.2<=100000):Calls prog 188 #[.string (str x),.string (str y),.pointer (some ⟨J,0,none⟩)] W λe w'=>e=.returned (.int .i64 (ixN f x-ixN f y))/\∃q,w'=W.drewN q:=by
 have h:∀z,0<=ixN f z/\ixN f z<=100000:=λz=>by
  unfold ixN;cases C:f.by z with
  |none=>simp
  |some i=>have:=hi _ (Z1.mem_by C);simp at this⊢;omega
 have hl:∀z:Bs,z.length<=maxLen->(Instr.lookup 165 (.map (some fb)) (.string (str z)) false).run prog W.drew=.ok (.int .i64 (ixN f z)) W.drew:=λz C=>by
  have F:=hm.after ((Below.refl _ W).drew);unfold ixN;cases h:f.by z with
  |some i=>exact F.at_some underlying165 (DD _) C (by unfold Qw;rw[h];rfl)
  |none=>exact F.at_none underlying165 (DD _) C (by unfold Qw;rw[h];rfl)
 have Z:=hl x hx;have l2:=hl y U;obtain⟨b1,b2⟩:=h x;obtain⟨O,b4⟩:=h y;obtain⟨a,ha⟩:=Z5H (ixN f x);obtain⟨b,M⟩:=Z5H (ixN f y);rw[ha] at Z b1 b2⊢;rw[M] at l2 O b4⊢;go_enter func188,ntmps188;go_wp2_with fail;go_region;go_wp2_with fail;go_ret;exact⟨rfl,1,rfl⟩
theorem PI{f:Z1}(hn:(f.map (·.1)).Nodup)(ha:(f.map (·.2)).Pairwise (· < ·)){d C:Array Nm}(hm:∀k,k∈d.toList.map (·.1)↔k∈f.map (·.1))(hd:(d.toList.map (·.1)).Nodup)(hp:Go.Sort.PermIn 0 d.size d C)(hs:Go.Sort.SortedIn (ltOf (cfN f)) 0 d.size C):C.toList.map (·.1)=f.map (·.1):=by
 obtain⟨p1,p2,p3⟩:=hp;have ae:C.toList.Perm d.toList:=by rw[Array.toList_extract,Array.toList_extract] at p3;have t1:C.toList.take d.size=C.toList:=Z5o (by grind);have t2:d.toList.take d.size=d.toList:=Z5o (by simp);simp_all
 have J:∀i (h:i<f.length),ixN f (f[i]).1=((f[i]).2:Int):=λi h=>by unfold ixN;rw[Z1.by_mem hn (Z5r h)];rfl
 have af:∀a b,a∈f.map (·.1)->b∈f.map (·.1)->ixN f a<=ixN f b->ixN f b<=ixN f a->a=b:=λa b O U Z h4=>by obtain⟨x,hx,rfl⟩:=List.mem_map.1 O;obtain⟨y,hy,rfl⟩:=List.mem_map.1 U;obtain⟨i,hi,rfl⟩:=List.getElem_of_mem hx;obtain⟨j,F,rfl⟩:=List.getElem_of_mem hy;rw[J i hi,J j F] at Z h4;rw[List.pairwise_iff_getElem] at ha;grind
 have ag:(C.toList.map (·.1)).Perm (f.map (·.1)):=(ae.map _).trans ((List.perm_ext_iff_of_nodup hd hn).2 hm);refine List.Perm.eq_of_pairwise (le:=λa b=>ixN f a<=ixN f b) (λa b O U Z h4=>af a b (ag.mem_iff.1 O) U Z h4) ?_ ?_ ag
 .rw[List.pairwise_map,List.pairwise_iff_getElem];intro i j hi F M;have:=hs i j (by omega) M (by simp at F;omega);unfold ltOf cfN at this;simp only[decide_eq_false_iff_not] at this;have e1:C[i]! =C.toList[i]:=by simp at hi;simp[hi]
  have e2:C[j]! =C.toList[j]:=by simp at F;simp[F]
  rw[e1,e2] at this;omega
 .rw[List.pairwise_map];rw[List.pairwise_iff_getElem];intro i j hi F M;rw[J i hi,J j F];rw[List.pairwise_iff_getElem] at ha;have:=ha i j (by simpa using hi) (by simpa using F) M;simp at this;omega
theorem Z4E{h m:Nat}{enc:Nm->Value}{d:Array Nm}{os:Array Obj}:Fr [h] w (Go.Sort.grow (Go.Sort.putRow enc (Go.Sort.ahead w m) h 0 d) os):=by
 refine⟨rfl,rfl,rfl,?_,λk F C=> ?_⟩
 .simp
 .rw[Go.Sort.heap_grow_old _ _ (by simp_all)];show(w.heap.modify h (Go.Sort.onCells (Go.Sort.putCells enc 0 d)))[k]? =_;grind
theorem Z3E(w:World)(C:Nat)(d:Array Nm):Go.Sort.putRow KS w C 0 d=Go.Sort.putRow encStr w C 0 (d.toList.map (·.1)).toArray:=by
 unfold Go.Sort.putRow;congr 1
 funext c
 unfold Go.Sort.putCells;congr 1
 funext k x
 by_cases h:0<=k/\k<0+d.size
 .rw[if_pos h,if_pos (by simp_all)];have e1:d[k-0]! =d[k]:=by grind
  have e2:(d.toList.map (·.1)).toArray[k-0]! =(d[k]).1:=by grind
  rw[e1,e2];rfl
 .grind
theorem Eh(q db fb ga oa na ca:Nat)(us:Value)(acts:List Ac)(d:Dir)(f:Z1)(n1 n2:Nat)(w:World)(h:PlA w q db fb ga oa na ca us acts d f n1 n2)(hn:(f.map (·.1)).Nodup)(ha:(f.map (·.2)).Pairwise (· < ·))(fa:f.length<=12)(hi:∀p∈f,p.2<=100000)(dh:∀p∈f,p.1.length<=220):Calls prog 131 #[.pointer (some ⟨q,0,none⟩)] w λe w'=>∃v,e=.returned v/\Strs w' w.heap.size v (f.map (·.1))/\Below w.heap.size w w':=by
 have al:∀k,(Qw f k).isSome=true↔k∈f.map (·.1):=λk=>by
  have e0:(Qw f k).isSome=(f.by k).isSome:=by unfold Qw;cases f.by k<;>rfl
  rw[e0];constructor
  .intro M;obtain⟨i,hi⟩:=Option.isSome_iff_exists.1 M;exact List.mem_map.2 ⟨(k,i),Z1.mem_by hi,rfl⟩
  .intro M;obtain⟨x,hx,rfl⟩:=List.mem_map.1 M;rw[Z1.by_mem hn hx];rfl
 have hm:=h.fsh;have c1:=h.row.cell (j:=1) rfl;have fq:=h.row.lt;have HP:=Z5F h;have J:=Z5M hn ha hi dh al;clear h hn ha hi dh al;have eg:∀args w,(callFunc 188 args).run prog w=.ok (.enter 188 args) w:=enters_of func188 (by kernel_rfl) rfl;have du:=Z5F eg;clear eg;go_enter func131,ntmps131;have dm:=Row.new w 159 [.pointer (some ⟨q,0,none⟩)];have bh:=(Below.refl w.heap.size w).alloc Z5D (.cells #[.pointer (some ⟨q,0,none⟩)] 159);have df:=hm.after bh;have Z:=Z5J dm bh;clear dm bh hm;go_wp2_with (at_range;refine C2 _ rfl _ 165 rfl 3 underlying165 fb n2 (Qw f) rfl df ?_;intro w1 dy U bg bu);obtain⟨w0,b9⟩:=Z5I (w.alloc (.cells #[.pointer (some ⟨q,0,none⟩)] 159));have bf:w0.heap.size=w.heap.size+1:=by rw[b9];simp
 have M0:Met w0 fb (w.heap.size+1) n2 (Qw f) (λk=>(Qw f k).isSome) dy (.slice none 0 0) [] w1:=by rw[<-b9] at bg U;exact⟨by rw[<-bf];exact U,Strs.nil _ _,bg,by omega,by simp,λk=>by cases Qw f k<;>simp⟩
 have cj:=Z5F M0;rw[<-b9] at Z;obtain⟨r,hr⟩:=Z5H (w.heap.size+1);rw[hr] at cj;rw[show(Value.pointer (some ⟨w.heap.size+1,0,none⟩))=Value.pointer (some ⟨r,0,none⟩) from by rw[hr]];obtain⟨F,b7⟩:=Z5H w.heap.size;have O:=Z5F b7;rw[b7] at Z bf;rw[show(Value.pointer (some ⟨w.heap.size,0,none⟩))=Value.pointer (some ⟨F,0,none⟩) from by rw[b7]];have aw:=Z5F bf;clear M0 U bg bu df b9 hr b7 bf;go_loopw [3] (λv wq=>∃ (todo:Bs->Bool) (l:List Bs) (ae:Nat),Met w0 fb r n2 (Qw f) todo ae v l wq) (λ_ wq=>wq.rangeLeft fb r)
 case atStart=>exact⟨_,_,_,cj.out⟩
 case round=>
  obtain⟨todo,l,ae,hS⟩:=hrel;have af:=hS.rg;have hlen:l.length<=12:=Z5w (hS.few (f.map (·.1)) (λk M=>(J.out.2.2.2.2 k).1 M)) (by simp_all);have C:=Z5F hS;have dw:Hid (World.rangeLeft _ fb r=ae):=Z5F af.left_eq;clear hS;go_wp2_with (at_next;refine C1 _ rfl _ rfl fb r n2 (Qw f) todo ae rfl af ?_ ?_)
  .intro ag;have ak:∀k,k∈l↔k∈f.map (·.1):=λk=>by rw[C.out.mem k,ag k,J.out.2.2.2.2 k];simp
   have au:=Z5F ak;clear ag af ak;rcases C.out.own.2 with ⟨hv,h0⟩|⟨g,cap,cur,hv,_⟩
   .rw[hv];have eu:l=[]:=List.length_eq_zero_iff.1 h0;have ek:f.map (·.1)=[]:=by refine List.eq_nil_iff_forall_not_mem.2 (λk M=> ?_);have:=(au.out k).2 M;rw[eu] at this;cases this
    go_wp2_with (go_at_call 187;refine(Z09 _ _).mono ?_;rintro e w' ⟨rfl,rfl⟩);go_ret;refine⟨_,rfl,by rw[ek];exact Strs.nil _ _,?_⟩;rw[O.out];exact Z.out.2.trans (C.out.below.mono (by have:=aw.out;omega))
   .have ho:=C.out.own;rw[hv] at ho⊢;obtain⟨hH,eo,fj,eh⟩:=ho.holds;have fi:F+1<=g:=by have:=Jj ho rfl;have:=aw.out;omega
    have ey:∀x∈l,x.length<=maxLen:=λx hx=>by obtain⟨p,hp,rfl⟩:=List.mem_map.1 ((au.out x).1 hx);have:=J.out.2.2.2.1 p hp;unfold maxLen;omega
    obtain⟨dl,az⟩:∃dl:List Nm,dl.map (·.1)=l:=⟨l.pmap (λx h=>⟨x,h⟩) ey,by simp[List.map_pmap]⟩;have b8:dl.toArray.size=l.length:=by rw[<-az];simp
    have cn:Go.Sort.Holds KS wr g 0 dl.toArray:=λj hj=>by
     have dc:j<dl.length:=(by simpa using hj);have:=hH j (by simp_all);have e1:dl.toArray[j]! =dl[j]:=(by simp[dc]);have e2:l.toArray[j]! =(dl[j]).1:=by subst az;simp[dc]
     rw[e2] at this;rw[e1];exact this
    have fh:fb<wr.heap.size:=C.out.rg.owns.lt;have ah:Below w0.heap.size w0 wr:=C.out.below;have fc:wr.cell? ⟨F,0,none⟩=some (.pointer (some ⟨q,0,none⟩)):=(Z.out.1.after ah).cell (j:=0) rfl;have fe:wr.cell? ⟨q,1,none⟩=some (.map (some fb)):=by have h1:=HP.out.row.after (Z.out.2.mono (by have:=O.out;omega));exact(h1.after ah).cell (j:=1) rfl
    have fo:q<g:=by have:=O.out;omega
    have bj:fb≠g:=λe=>by obtain⟨es,cl,hb⟩:=C.out.rg.owns.block;subst e;obtain⟨ee,ez,hc⟩:=ho.cells rfl;rw[hc] at hb;cases hb
    have ai:CmpReads prog 188 #[.pointer (some ⟨F,0,none⟩)] KS (cfN f) g 0 dl.toArray.size wr:=λm os dk hd x y=>by have cw:Fr [g] wr (sortWorld KS wr g 0 m dk os):=Z4E;have ff:∀b i,b<wr.heap.size->b≠g->(sortWorld KS wr g 0 m dk os).cell? ⟨b,i,none⟩=wr.cell? ⟨b,i,none⟩:=λb i hb fm=>World.cell?_of_block (a:=⟨b,i,none⟩) (cw.block b hb (by simp_all));exact Vz F q fb n2 f x.1 y.1 _ (by grind) (by grind) (C.out.rg.owns.fr cw (by simpa using bj)) x.2 y.2 J.out.2.2.1
    have bq:=Tryz.slices_SortFunc_small (α:=Nm) KS (λx=>rfl) (cfN f) 188 #[.pointer (some ⟨F,0,none⟩)] g 0 cap dl.toArray wr du.out ai cn (by rw[b8];exact hlen) (λn W hn=>(Tryz.bits_Len n W (by omega) (by omega)).mono λe w' h=>⟨⟨_,h.1⟩,h.2⟩);have aq:Go.Sort.SWO (ltOf (cfN f)):=⟨λx=>by unfold ltOf cfN;simp,λx y z h1 h2=>by unfold ltOf cfN at*;simp at*;omega,λx y z h1 h2=>by unfold ltOf cfN at*;simp at*;omega⟩;obtain⟨dj,dq⟩:=Go.Sort.insertionSort_holds (lt:=ltOf (cfN f)) aq dl.toArray 0 dl.toArray.size (Nat.zero_le _) Z5D;have aj:=PI J.out.1 J.out.2.1 (d:=dl.toArray) (by intro k;rw[show dl.toArray.toList=dl from rfl,az];exact au.out k) (by rw[show dl.toArray.toList=dl from rfl,az];exact C.out.nodup) dj dq;rw[Z3E,aj,b8] at bq;have dx:=Z5F bq;have HO:=Z5J ho eo;clear bq ai aj dj dq aq cn hH ho;go_wp2_with (go_at_call 187;refine dx.out.mono ?_;rintro e w' ⟨rfl,m,rfl⟩);have ew:(f.map (·.1)).length=l.length:=((List.perm_ext_iff_of_nodup J.out.1 C.out.nodup).2 (λk=>(au.out k).symm)).length_eq;obtain⟨s1,s2⟩:=HO.out.1.sorted (q:=m) (os:= #[]) ew;have ef:∀W:World,Go.Sort.grow W #[]=W:=λW=>(by simp[Go.Sort.grow]);rw[ef] at s1 s2;go_ret;refine⟨_,rfl,by exact s1.mono (by have:=aw.out;have:=O.out;omega),?_⟩;rw[O.out];have ct:Below F w wr:=Z.out.2.trans (ah.mono (by have:=aw.out;omega));exact ct.trans (s2.below (Z5w (Nat.le_of_eq O.out.symm) (by have:=ct.size;exact this)) (λi hi=>by rw[Z58] at hi;subst hi;omega))
  .intro k x w2 dz er dt cz U de bm b8 fg;have cr:∀o,Below w2.heap.size w2 (w2.alloc o):=λo=>(Below.refl _ w2).alloc Z5D o;have HN:=Z5M dt cz U bm de;have fp:w0.heap.size<=w2.heap.size:=Z5w C.out.below.size bm.size;clear af dt cz U bm de er b8;go_wp2_with (at_builtin;refine KC _ rfl (.tmp 14) (.tmp 16) rfl w0.heap.size _ l rfl (C.out.own2 HN.out.2.2.2.1 (cr _)).1 w2.heap.size k rfl (heap_alloc_new w2 _) (by simp;omega) (by omega) ?_;intro v' w3 dp cu;have M3:=C.out.next HN.out.1 HN.out.2.1 HN.out.2.2.1 HN.out.2.2.2.1 (cr _) dp cu;have bz:=Z5F M3;clear M3 dp cu);go_roundw
   case rel=>exact⟨_,_,_,bz.out⟩
   case measure=>rw[bz.out.rg.left_eq,dw.out];exact HN.out.2.2.2.2
end
section
open Go.RowKit Go.Maps Go.WideMaps
variable{g n:Nat}{l:List Bs}{ts:List Value}{v:Value}{w w' wr:World}
theorem Bu(g c:Nat)(l:List Bs)(sp:List Value)(w:World)(h:Row w g 9 (Z7 (l.map str)++sp))(C:(Zz l).length<=60000):Calls prog 126 #[.slice (some ⟨g,0,none⟩) l.length c] w λe w'=>e=.returned (.tuple #[.string (str (Zz l)),.nilIface])/\Below w.heap.size w w':=by
 have J:Zx w (some ⟨g,0,none⟩) (l.map str):=λj M=>⟨g,0,rfl,by
  refine h.cell ?_;have F:j<l.length:=by simp_all
  rw[Z5c (by simp[Z7];omega)]
  simp[Z7,F]⟩
 have:=Z3o g 0 c (l.map str) w J (by rw[CG];rw[ZN] at C;exact C);rw[Z5i,CG] at this;exact this
theorem Fz(base:Nat)(v:Value)(l:List Bs)(w:World)(h:Strs w base v l)(C:l≠[])(F:(Zz l).length<=60000):Calls prog 126 #[v] w λe w'=>e=.returned (.tuple #[.string (str (Zz l)),.nilIface])/\Below w.heap.size w w':=by obtain⟨g,cap,sp,rfl,_,_,_,J⟩:=Qs h (List.length_pos_iff.2 C);exact Bu g cap l sp w J F
theorem WC{ops:Array Oper}{rest:List Oper}{o:Oper}{a:Act}{Q:Exit->Act->World->Prop}(w:World)(hg:o.guard=none)(s x:Operand)(ho:o.op=.call {callee:=.builtin .append,args:= #[s,x],argTypes:= #[96,96]})(base:Nat)(v:Value)(l:List Bs)(hs:a.eval s=v)(h:Strs w base v l)(p:Nat)(t:Bs)(hx:a.eval x=.slice (some ⟨p,0,none⟩) 1 1)(hc:w.heap[p]? =some (.cells #[.string (str t)] 9 (0,0)))(Z:base<=w.heap.size)(hl:l.length<=1000000)(hK:∀g cap w',Strs w' base (.slice (some ⟨g,0,none⟩) (l.length+1) cap) (l++[t])->Fr (ZG v) w w'->(v.ownBlock=some g∨g=w.heap.size)->wpList prog ops Q rest (a.put o.dst (.slice (some ⟨g,0,none⟩) (l.length+1) cap)) w'):wpList prog ops Q (o::rest) a w:=by
 obtain⟨j0,C,F,J,M⟩:=info_parts XK;refine wpList_append_lies w hg s x 96 ho base 9 j0 _ 1 16 underlying96 C F J M rfl (by omega) v l.length _ hs h ⟨p,0,none⟩ 1 1 [.string (str t)] hx rfl (World.news_of_block hc) (by simp[Value.oneCell']) (by omega) (by unfold maxLen;omega) (by omega) Z w.heap.size rfl ?_;intro g cap w' h1 O U _;refine hK g cap w' ?_ ((Fr.refl (ZG v) w).grown O (λk hk=>Or.inl (ZK.2 hk))) U;unfold Strs;have e:Z7 (l.map str++[str t])=Z7 (l.map str)++[.string (str t)]:=by simp[Z7]
 simp_all
structure WhS(w:World)(g:Nat)(ts:List Value)(v:Value)(l:List Bs)(wr:World):Prop where
 own:Strs wr w.heap.size v l
 txt:Row wr g 9 ts
 bel:Below w.heap.size w wr
 no:v.ownBlock≠some g
theorem WhS.after(h:WhS w g ts v l wr)(C:Below wr.heap.size wr w'):WhS w g ts v l w':=⟨h.own.after C,h.txt.after C,h.bel.trans (C.mono h.bel.size),h.no⟩
theorem WhS.next{v':Value}{l':List Bs}(h:WhS w g ts v l wr)(hs:Strs w' w.heap.size v' l')(C:Fr (ZG v) wr w')(F:v'.ownBlock≠some g):WhS w g ts v' l' w':=⟨hs,h.txt.fr C (λhm=>h.no (ZK.1 hm)),h.bel.trans (C.below h.bel.size (λi hi=>h.own.ge i hi)),F⟩
theorem N8{b:Nat}{d:Dir}(h:ZE w b n d){k:Bs}{e:Ent}(F:d.get k=some e)(J:k.length<=maxLen):∃ (a:Option Addr) (l c:Nat),(∀W,Below w.heap.size w W->(Instr.lookup 155 (.map (some b)) (.string (str k)) false).run prog W=.ok (.agg #[.int .i64 (e.size:Int),.int .u32 (e.sum:Int),.slice a l c]) W)/\Xe w (.agg #[.int .i64 (e.size:Int),.int .u32 (e.sum:Int),.slice a l c]) e:=by obtain⟨O,m1,m2,m3⟩:=h;obtain⟨v,hv,a,l,c,rfl,M⟩:=m3 k e F;exact⟨a,l,c,λW C=>(m1.after C).at_some underlying155 (Aa W) J hv,a,l,c,rfl,M⟩
def J8(x:Bs×Ent):Bs:=Zz [x.1,x.2.tail]
theorem RJ{h:Bs}{x:Bs}(hx:x∈l):x.length<=(Zz (h::l)).length:=by have:=FK (l:=h::l) (s:=x) (Z5n _ hx);rw[ZN];omega
theorem Ent.Ok.tailb{half:Nat}{e:Ent}(h:Ent.Ok n half e)(O:n<=8192):e.size<=4294967295/\e.sum<=4294967295/\(∀r∈e.runs,r.1<=4294967295/\r.2<=4294967295)/\e.runs.length<=100000:=by refine⟨by have:=h.size;omega,by have:=h.sum;omega,λr C=>by have:=h.many r C;omega,?_⟩;have M:e.runs.length<=e.secs.length:=DH e.runs (λr C=>(h.many r C).1);have F:=h.secs;have J:=h.size;unfold ZJ at F;omega
theorem Z0s(n half q db fb ga oa na ca:Nat)(us:Value)(acts:List Ac)(d:Dir)(f:Z1)(n1 n2:Nat)(w:World)(h:PlA w q db fb ga oa na ca us acts d f n1 n2)(bz:d.Ok n half)(de:n<=8192)(bm:d≠[])(aj:(Ya d).length<=60000):Calls prog 89 #[.pointer (some ⟨q,0,none⟩)] w λe w'=>e=.returned (.tuple #[.string (str (Ya d)),.nilIface])/\Below w.heap.size w w':=by
 have ak:Ya d=Zz (XH::d.map J8):=rfl;have dp:d.length<=20000:=by have:=Wk (XH::d.map J8);rw[ak,ZN] at aj;rw[Z5h,Z5i] at this;omega
 have bu:d.names.length=d.length:=Z5i ..;have cz:0<d.length:=List.length_pos_iff.2 bm;have c0:=h.row.cell (j:=0) rfl;have HP:=Z5F h;have C:=Z5K bz ak bu;have dq:=h.row.lt;rw[ak] at aj;have HZ:=Z5F aj;clear h bz ak bu bm aj;go_enter func89,ntmps89;have df:=Row.new w 9 [.string (str XH)];have bf:=(Below.refl w.heap.size w).alloc Z5D (.cells #[.string (str XH)] 9);have S0:Strs (w.alloc (.cells #[.string (str XH)] 9)) w.heap.size (.slice (some ⟨w.heap.size,0,none⟩) 1 1) [XH]:=⟨rfl,Or.inr ⟨w.heap.size,1,#[.string (str XH)],rfl,Z5D,heap_alloc_new w _,Z5D,by simp[maxLen],rfl,rfl⟩⟩;have Z:=Z5J S0 bf;clear df bf S0;go_wp2_with (go_at_call 132;refine(EH db n1 d _ (HP.out.dir.after Z.out.2) C.out.1.sorted (by omega)).mono ?_;rintro e w1 ⟨v,rfl,hv,al⟩;obtain⟨g,cap,sp,rfl,bh,dj,dm,cj⟩:=Qs hv (by rw[C.out.2.2];exact cz);have S1:=Z5K (Z.out.1.after al) cj (Z.out.2.trans (al.mono Z.out.2.size));have cr:=Z5F (show w.heap.size+1<=g by simpa using bh);clear hv cj al bh);obtain⟨ts,az⟩:=Z5H (Z7 (d.names.map str)++sp);have cn:∀k (hk:k<d.length),ts[k]? =some (.string (str (d[k]).1)):=λk hk=>by rw[<-az,Z5c (by simp[Z7,Dir.names];omega)];simp[Z7,Dir.names,hk]
 have W0:WhS w g ts (.slice (some ⟨w.heap.size,0,none⟩) 1 1) [XH] w1:=⟨S1.out.1,by rw[<-az];exact S1.out.2.1,S1.out.2.2,λe=>by
  simp only[Value.ownBlock,Z5e] at e;have:=cr.out
  omega⟩
 have cu:=Z5F W0;have ct:=Z5F cn;rw[C.out.2.2];clear az cn W0;go_loopw [4,16] (λlv iv wr=>∃k:Nat,k<=d.length/\iv=.int .i64 k/\WhS w g ts lv (XH::(d.take k).map J8) wr) (λ_ iv _=>d.length- (intOf iv).toNat)
 case atStart=>exact⟨0,by omega,rfl,cu.out⟩
 case round=>
  obtain⟨k,hk,rfl,F⟩:=hrel;have O:=Z5F F;by_cases au:k<d.length
  .have af:=F.txt.cell (ct.out k au);have J:d[k]∈d:=Z5r au;have ag:d.get (d[k]).1=some (d[k]).2:=Dir.mem_get C.out.1.sorted J;have bq:(d[k]).1.length<=maxLen:=by have:=C.out.1.name _ J;unfold maxLen;omega
   have bg:=C.out.1.ent _ J;obtain⟨t1,t2,t3,t4⟩:=bg.tailb de;obtain⟨a,ln,c,hl,aq⟩:=N8 (HP.out.dir.after F.bel) ag bq;have dc:=hl _ Z5E;have hit:(J8 d[k]).length<=60000:=Z5w (RJ (h:=XH) (List.mem_map_of_mem J)) HZ.out;have ae:(d.take (k+1)).map J8=(d.take k).map J8++[J8 d[k]]:=by rw[Z5f au,Z5u];rfl
   have bj:((d.take k).map J8).length=k:=by rw[Z5i,Z5j];omega
   obtain⟨x,hx⟩:=Z5H d[k];rw[hx] at af dc bq aq hit ae t1 t2 t3 t4;have dh:=(HP.out.row.after F.bel).cell (j:=0) rfl;have U:=Z5M aq hit ae t3 bj;clear F hl J ag bg hx aq hit ae t3 bj;go_wp2_with (first|(go_at_call 133;refine(EM _ x.2 _ U.out.1 t1 t2 U.out.2.2.2.1 t4).mono ?_;rintro r w3 ⟨rfl,b7⟩;have S3:=Z5F (O.out.after b7);clear b7)|(go_at_call 126;refine(Bu w3.heap.size 2 [x.1,x.2.tail] [] _ (Row.new w3 _ [.string (str x.1),.string (str x.2.tail)]) U.out.2.1).mono ?_;rintro r w4 ⟨rfl,b8⟩;have S4:=Z5F ((S3.out.after ((Below.refl w3.heap.size w3).alloc Z5D _)).after b8);clear b8)|(at_builtin;refine WC _ rfl (.tmp 36) (.tmp 38) rfl w.heap.size u4 (XH::(d.take k).map J8) rfl (S4.out.own.after (Z5E.alloc Z5D _)) w4.heap.size (J8 x) rfl (heap_alloc_new w4 _) (by have:=S4.out.bel.size;simp;omega) (by grind) ?_;intro g5 cw w5 M ah ai;have S5:=Z5K M ah ai;clear M ah ai));go_roundw
   case measure=>simp[intOf];omega
   case rel=>
    refine⟨k+1,by omega,by go_num,?_⟩;obtain⟨M,ah,ai⟩:=S5.out;have hlen:(XH::(d.take k).map J8).length=k+1:=(by rw[Z5h,U.out.2.2.2.2]);rw[hlen] at M;have W4:=S4.out.after ((Below.refl w4.heap.size w4).alloc Z5D (.cells #[.string (str (J8 x))] 9));refine W4.next (by rw[U.out.2.2.1];exact M) ah (λe=> ?_)
    simp only[Value.ownBlock,Z5e] at e;subst e;rcases ai with h1|h1
    .exact W4.no h1
    .have h9:g5=(w4.alloc (.cells #[.string (str (J8 x))] 9)).heap.size:=h1;have:=W4.txt.lt;omega
  .obtain rfl:k=d.length:=(by omega);rw[Z5A] at O;have hz:=HZ.out;have aw:=O.out.own;clear F;go_wp2_with (go_at_call 126;refine(Fz w.heap.size u4 (XH::d.map J8) _ aw (by simp) hz).mono ?_;rintro r w6 ⟨rfl,b9⟩;have S6:=Z5F b9;clear b9);go_ret2;exact⟨by rw[C.out.2.1];rfl,O.out.bel.trans (S6.out.mono O.out.bel.size)⟩
end
section
variable{D:Dk}{base e half n:Nat}{rs:List Bs}
theorem B9(D:Dk)(a m k:Nat):D.text a (m+k)=D.text a m++D.text (a+m) k:=by unfold Dk.text;rw[List.range_add,List.flatMap_append,List.flatMap_map];grind
theorem EO(D:Dk)(a:Nat):D.text a 1=(D.reads a).data.toList:=by unfold Dk.text;simp
theorem Z3Y{l:Bs}{k:Nat}(hl:l.length=64*k):∀{a:Nat},(∀q,q<k->D.reads (a+q)=ZQ l q)->D.text a k=l:=by
 induction k generalizing l with
 |zero=>intro a _;have:l=[]:=List.length_eq_zero_iff.1 (by omega);rw[this];rfl
 |succ k ih=>
  intro a h;rw[Nat.add_comm,B9,EO];have C:=h 0 (by omega);rw[Nat.add_zero] at C;rw[C]
  have:=ih (l:=l.drop 64) (by grind) (a:=a+1) (λq F=>by
   have:=h (1+q) (by omega);rw[<-Nat.add_assoc] at this;rw[this];unfold ZQ;congr 1;unfold sec;rw[List.drop_drop];congr 2
   omega)
  rw[this];show sec l 0++l.drop 64=l;unfold sec;simp
theorem Z0f:∀{a m:Nat},JF D.reads e a m rs->D.text a (Zp rs)=YK e m rs:=by
 induction rs with
 |nil=>intro a m _;rfl
 |cons r rs ih=>intro a m h;obtain⟨C,F⟩:=h;obtain⟨p1,p2⟩:=Jk e (m+1) r;rw[show Zp (r::rs)=Zf r.length / 64+Zp rs from rfl,B9,YK,ih F];congr 1;exact Z3Y (by omega) C
theorem LI(ok:D.ok n){a k:Nat}(ha:a<n)(h:1<=k):(D.text a k).getD 0 0=WW (D.reads a):=by
 obtain⟨q,rfl⟩:∃q,k=1+q:=⟨k-1,by omega⟩;rw[B9,EO];have C:=AI ok ha;unfold WW;have:(D.reads a).data.toList.length=64:=by simp_all
 grind
theorem Z3e(ok:D.ok n)(J:base+half<=n)(h:Z2B D.reads base half e rs):Uw (D.text base half) e rs:=by
 have M:=h.fits;refine⟨D.text (base+(1+Zp rs)) (half- (1+Zp rs)),?_,?_⟩
 .obtain⟨q,F⟩:∃q,half=1+(Zp rs+q):=⟨half-1-Zp rs,by omega⟩;rw[show half- (1+Zp rs)=q from by omega,F,B9,B9,EO,h.head,Z0f h.recs];rw[show base+1+Zp rs=base+(1+Zp rs) from by omega];rfl
 .by_cases C:1+Zp rs<half
  .right;rw[LI ok (by omega) (by omega)];exact h.stop C
  .left;rw[show half- (1+Zp rs)=0 from by omega];rfl
theorem Z4B(ok:D.ok n)(O:base+half<=n)(F:1<=half)(h:Hq D.reads base e):MJ (D.text base half) e:=by
 rcases h with h|⟨C,J,M⟩
 .left;rw[LI ok (by omega) F];exact h
 .right;obtain⟨q,rfl⟩:∃q,half=1+q:=⟨half-1,by omega⟩;exact⟨C,D.text (base+1) q,J,by rw[B9,EO,M];rfl⟩
theorem Z3k{J:Jn}(ok:D.ok n)(h:Yp D.reads J rs)(C:1<=J.half)(F:2*J.half<=n)(he:J.epoch<=3000000000)(hs:∀r∈rs,r.length<=60000)(hc:J.closed=false):JRd D J rs:=by
 have hl:∀s,J.at_ s 0+J.half<=n:=λs=>by unfold Jn.at_;split<;>omega
 exact⟨Z3e ok (hl _) h.on,Z4B ok (hl _) C h.off,h.many,h.next,h.epoch,he,h.on.fits,hs,hc⟩
end
section
open Go.RowKit Go.Maps Go.WideMaps
theorem Rk(B p d n:Nat)(P:Pw)(D:Dk)(L:List Nat)(s half j b nm:Nat)(uv:Value)(dir:Dir)(rc:Rec)(w:World)(h:PD B w p d n P D L)(O:Row w s 157 [.pointer (some ⟨d,0,none⟩),.pointer (some ⟨j,0,none⟩),.int .i64 half,.map (some b),uv,.bool false])(hd:ZE w b nm dir)(Z:nm<=1000000)(h2:2*half<=n)(hr:rc.Ok n half)(F:(Rec.app dir rc).Ok n half)(J:rc.enc.length<=60000):Calls prog 109 #[.pointer (some ⟨s,0,none⟩),.string (str rc.enc)] w λr w'=>r=.returned (.bool true)/\(∃ae af,Row w' s 157 [.pointer (some ⟨d,0,none⟩),.pointer (some ⟨j,0,none⟩),.int .i64 half,.map (some b),ae,.bool false]/\ZE w' b af (Rec.app dir rc)/\Ao w' ae (Q6 n half (Rec.app dir rc)))/\Fr [s,b] w w':=by
 cases rc with
 |all d'=>
  obtain⟨C,U⟩:=hr;have e1:Rec.enc (.all d')=Zz (XH::(d'.map λx=>(x.1,some x.2)).map QT):=Rw d';have e2:Rec.app dir (.all d')=BI [] (d'.map λx=>(x.1,some x.2)):=by unfold BI;rw[List.foldl_map];rfl
  rw[e1] at J⊢;rw[e2] at F⊢;refine Hm B p d n P D L s half j b nm uv dir XH [] _ w h O hd Z (by grind) h2 ?_ ?_ (Or.inl ⟨rfl,rfl,?_⟩) F J
  .rw[List.map_map,List.pairwise_map];exact C.sorted
  .intro x hx;obtain⟨y,M,rfl⟩:=List.mem_map.1 hx;exact⟨(C.name y M).1,(C.name y M).2,λe he=>by simp at he;rw[<-he];exact C.ent y M⟩
  .grind
 |some l=>obtain⟨U,C,h3⟩:=hr;exact Hm B p d n P D L s half j b nm uv dir WS dir l w h O hd Z (List.length_pos_iff.2 U) h2 C h3 (Or.inr ⟨rfl,rfl⟩) F J
theorem Z07(B p d:Nat)(P:Pw)(D:Dk)(L:List Nat)(w:World)(h:PD B w p d 800 P D L)(ht:Ty w)(hr:WX P D≠0):Calls prog 62 #[.pointer (some ⟨d,0,none⟩)] w λe w'=>∃ev,e=.returned (.tuple #[.pointer none,ev])/\Zk w' w.heap.size (WX P D) ev/\Below w.heap.size w w':=by have H:=Z5K h ht hr;go_enter func62,ntmps62;go_wp2_with fail;refine(BW B p d P D L w H.out.1).mono ?_;rintro e w1 ⟨s,b,rfl,ah,ak,al,ae,C⟩;have c2:=ah.cell (j:=2) rfl;have aj:=C.size;have M:=Z5F C;have ag:=Vu B p d 800 P D L 100 w1 (H.out.1.after C) (H.out.2.1.below C) (by omega) (by omega) H.out.2.2;have U:=Z5F ag;go_wp2_with fail;refine U.out.mono ?_;rintro e w2 ⟨bb,rfl,he,F⟩;have ai:Ty w2:=(H.out.2.1.below M.out).below F;have O:=Z5J he F;have aq:=F.size;go_wp2_with fail;refine(C3 _ _ _ _ O.out.1 ai).mono ?_;rintro e w3 ⟨v3,rfl,af,Z⟩;have J:=Z5J af Z;go_wp2;go_ret2;exact⟨_,rfl,J.out.1.base (by omega),(M.out.trans (O.out.2.mono aj)).trans (J.out.2.mono (by omega))⟩
theorem Ri(B p d:Nat)(P:Pw)(D:Dk)(L:List Nat)(w:World)(h:PD B w p d 800 P D L)(ht:Ty w)(hr:WX P D=0)(ha:(D.text 0 100).getD 0 0≠1)(af:(D.text 100 100).getD 0 0≠1):Calls prog 62 #[.pointer (some ⟨d,0,none⟩)] w λe w'=>∃ev,e=.returned (.tuple #[.pointer none,ev])/\Zk w' w.heap.size 15 ev/\Below w.heap.size w w':=by have H:=Z5M h ht hr ha af;go_enter func62,ntmps62;go_wp2_with fail;refine(BW B p d P D L w H.out.1).mono ?_;rintro e w1 ⟨s,b,rfl,ai,al,aq,ae,C⟩;have c2:=ai.cell (j:=2) rfl;have ak:=C.size;have M:=Z5F C;have ah:=PG B p d 800 P D L 100 w1 (H.out.1.after C) (by omega) (by omega) H.out.2.2.1 H.out.2.2.2.1 H.out.2.2.2.2;have U:=Z5F ah;go_wp2_with fail;refine U.out.mono ?_;rintro e w2 ⟨bb,rfl,he,F⟩;have aj:Ty w2:=(H.out.2.1.below M.out).below F;have O:=Z5J he F;have au:=F.size;go_wp2_with fail;refine(C3 _ _ _ _ O.out.1 aj).mono ?_;rintro e w3 ⟨v3,rfl,ag,Z⟩;have J:=Z5J ag Z;go_wp2;go_ret2;exact⟨_,rfl,J.out.1.base (by omega),(M.out.trans (O.out.2.mono ak)).trans (J.out.2.mono (by omega))⟩
structure OpS(w:World)(s b g d j:Nat)(J:Jn)(ts:List Value)(dir:Dir)(wr:World):Prop where
 row:∃uv,Row wr s 157 [.pointer (some ⟨d,0,none⟩),.pointer (some ⟨j,0,none⟩),.int .i64 100,.map (some b),uv,.bool false]/\Ao wr uv (Q6 800 100 dir)
 dir:ZE wr b dir.length dir
 jn:JAt wr j d J
 txt:Row wr g 9 ts
 bel:Below w.heap.size w wr
theorem Z2i(B p d:Nat)(P:Pw)(D:Dk)(L:List Nat)(S:Sto)(recs:List Rec)(w:World)(h:PD B w p d 800 P D L)(hr:WX P D=0)(hi:YN 800 100 D.reads S recs)(he:S.j.epoch<=3000000000)(ey:recs≠[]):Calls prog 62 #[.pointer (some ⟨d,0,none⟩)] w λe w'=>∃s,e=.returned (.tuple #[.pointer (some ⟨s,0,none⟩),.nilIface])/\C7 w.heap.size w' s d S/\Below w.heap.size w w':=by
 have cj:JRd D S.j (recs.map Rec.enc):=Z3k h.ok hi.img (by rw[hi.jhalf];omega) (by rw[hi.jhalf];omega) he (λr hr=>by
  obtain⟨x,hx,rfl⟩:=List.mem_map.1 hr
  exact hi.small x hx) hi.open_
 have H:=Z5K h hr cj;have Z:=Z5F hi;have eu:=hi.jhalf;have ew:0<recs.length:=List.length_pos_iff.2 ey;have ff:recs.length<=1000:=by have h1:=cj.fits;have h2:=AV (recs.map Rec.enc);rw[Z5i] at h2;omega
 clear h hr hi cj;go_enter func62,ntmps62;go_wp2_with fail;refine(BW B p d P D L w H.out.1).mono ?_;rintro e w1 ⟨s,b,rfl,cn,de,dy,az,bh⟩;have c2:=cn.cell (j:=2) rfl;have ez:=bh.size;have S1:=Z5M cn de dy az bh;have bz:=Z1k B p d 800 P D L S.j (recs.map Rec.enc) w1 (H.out.1.after bh) (by omega) (by omega) H.out.2.1 H.out.2.2;rw[eu,show((2*100:Nat):Int)=200 from rfl] at bz;have ef:=Z5F bz;clear bz cn de dy az bh c2;have c2:=S1.out.1.cell (j:=2) rfl;go_wp2_with fail;refine ef.out.mono ?_;rintro e w2 ⟨jv,lv,rfl,⟨j,rfl,dq,bu⟩,hown,hb2⟩;obtain⟨g,cap,sp,rfl,dp,_,_,ct⟩:=Qs hown (by simp_all);rw[Z5i];have U:=S1.out.1.after hb2;have bq:=S1.out.2.1.after hb2;have f12:=U.free (j:=1) (by simp);have fc:=U.cell (j:=1) rfl;have fe:=U.cell (j:=3) rfl;have af:Below w.heap.size w w2:=S1.out.2.2.2.2.trans (hb2.mono ez);obtain⟨w3,dc⟩:=Z5I (w2.setCell ⟨s,1,none⟩ (.pointer (some ⟨j,0,none⟩)));have b8:Fr [s] w2 w3:=by rw[dc];exact(Fr.refl _ _).setCell (Or.inl (by simp)) _
 have ne2:∀{g:Nat} {M:TypeId} {l:List Value},M≠157->Row w2 g M l->g∉[s]:=λhet hl hm=>by rw[Z58] at hm;subst hm;exact het (Yz hl U)
 have cr:Row w3 s 157 [.pointer (some ⟨d,0,none⟩),.pointer (some ⟨j,0,none⟩),.int .i64 100,.map (some b),.slice none 0 0,.bool false]:=by rw[dc];exact U.set 1 _
 have dt:JAt w3 j d S.j:=Row.fr bu b8 (ne2 (by simp) bu);have dm:=ct.fr b8 (ne2 (by simp) ct);have bm:b∉[s]:=λhm=>by rw[Z58] at hm;obtain⟨fv,m1,_⟩:=bq;obtain⟨es,cl,hb⟩:=m1.block;subst hm;exact Yh U hb
 have df:ZE w3 b 0 []:=bq.fr b8 bm (λk hk l hl=>ne2 (by simp) hl hk);have aq:Below w.heap.size w w3:=af.trans (b8.below af.size (λi hi=>by rw[Z58] at hi;subst hi;exact S1.out.2.2.1));have eo:=cr.cell (j:=3) rfl;have F:=Z5O cr dt dm df aq dq dp;have fg:=hb2.size;have HW:=Z5F dc;have ee:=Z5F bm;clear U bq cr dt dm df aq af dq bu hown ct dp b8 ne2 bm hb2;go_wp2_with (go_at_call 94;rw[<-HW.out];refine(CW B p d 800 P D L s 100 b 0 [] _ (H.out.1.after F.out.2.2.2.2.1) (F.out.1.cell (j:=0) rfl) (F.out.1.cell (j:=2) rfl) F.out.2.2.2.1 Ia (by omega)).mono ?_;rintro r w9 ⟨fi,rfl,⟨g9,rfl,dx⟩,aw⟩;have R9:=F.out.1.after aw;have f49:=R9.free (j:=4) (by simp);have d49:=R9.cell (j:=4) rfl;have J:=Z5K R9 dx aw;clear aw R9 dx);have ag:Fr [s] w9 (w9.setCell ⟨s,4,none⟩ (.slice (some ⟨g9,0,none⟩) (Q6 800 100 []).length (Q6 800 100 []).length)):=(Fr.refl _ _).setCell (Or.inl (by simp)) _;have bf:∀{g:Nat} {M:TypeId} {l:List Value},M≠157->Row w9 g M l->g∉[s]:=λhet hl hm=>by rw[Z58] at hm;subst hm;exact het (Yz hl J.out.1)
 obtain⟨ts,cw⟩:=Z5H (Z7 ((recs.map Rec.enc).map str)++sp);have dz:∀k,k<recs.length->ts[k]? =some (.string (str (recs.getD k (.all [])).enc)):=λk hk=>by rw[<-cw,Z5c (by simp[Z7];omega)];simp only[Z7,List.getElem?_map,Z5a hk,Option.map_some,Z59,Option.getD_some]
 have aw:=F.out.2.2.2.2.1.trans (J.out.2.2.mono F.out.2.2.2.2.1.size);have O0:OpS w s b g d j S.j ts [] (w9.setCell ⟨s,4,none⟩ (.slice (some ⟨g9,0,none⟩) (Q6 800 100 []).length (Q6 800 100 []).length)):=
  ⟨⟨_,J.out.1.set 4 _,g9,rfl,J.out.2.1.fr ag (bf (by simp) J.out.2.1)⟩,
   (F.out.2.2.2.1.after J.out.2.2).fr ag ee.out (λk hk l hl=>bf (by simp) hl hk),
   Row.fr (F.out.2.1.after J.out.2.2) ag (bf (by decide) (F.out.2.1.after J.out.2.2)),
   by rw[<-cw];exact(F.out.2.2.1.after J.out.2.2).fr ag (bf (by decide) (F.out.2.2.1.after J.out.2.2)),
   aw.setCell (p:=⟨s,4,none⟩) S1.out.2.2.1 _⟩
 generalize (w9.setCell ⟨s,4,none⟩ (.slice (some ⟨g9,0,none⟩) (Q6 800 100 []).length (Q6 800 100 []).length))=fj at*
 have HO:=Z5F O0;have eh:=Z5F dz;clear O0 ag bf cw dz aw f49 d49 eo;go_loopw [51] (λkv wr=>∃k:Nat,k<=recs.length/\kv=.int .i64 k/\OpS w s b g d j S.j ts ((recs.take k).foldl Rec.app []) wr) (λkv _=>recs.length- (intOf kv).toNat)
 case atStart=>exact⟨0,by omega,rfl,HO.out⟩
 case round=>
  obtain⟨k,hk,rfl,C⟩:=hrel;by_cases b9:k<recs.length
  .have b7:=C.txt.cell (eh.out k b9);obtain⟨rc,aj⟩:=Z5H (recs.getD k (.all []));rw[aj] at b7;have cu:rc∈recs:=by rw[<-aj,Z59,Z5a b9];exact Z5r b9
   have ak:(recs.take (k+1)).foldl Rec.app []=Rec.app ((recs.take k).foldl Rec.app []) rc:=by rw[Z5f b9,List.foldl_append,<-aj,Z59,Z5a b9];rfl
   have bj:=Z.out.pre (k+1) (by omega);rw[ak] at bj;have dj:=Z.out.few k (by omega);obtain⟨dk,dh⟩:=Z5H ((recs.take k).foldl Rec.app []);rw[dh] at bj dj C ak;obtain⟨uv,O,cz⟩:=C.row;have dw:=H.out.1.after C.bel;have au:=Rk B p d 800 P D L s 100 j b dk.length uv dk rc wr dw O C.dir (by omega) (by omega) (Z.out.recs rc cu) bj (Z.out.small rc cu);have HC:=Z5F au;have HK:=Z5K ak C O;clear au dw O cz C dh aj ak bj dj cu;go_wp2_with (go_at_call 109;refine HC.out.mono ?_;rintro r fm ⟨rfl,⟨fa,fh,ai,ah,al⟩,ae⟩;have ek:=Z5L ai ah al ae;clear ai ah al ae);go_roundw
   case measure=>simp[intOf];omega
   case rel=>
    refine⟨k+1,by omega,by go_num,?_⟩;rw[HK.out.1];obtain⟨ai,ah,al,ae⟩:=ek.out;obtain⟨_,C,O⟩:=HK.out;have du:∀{g:Nat} {M:TypeId} {l:List Value},M≠157->Row wr g M l->g∉[s,b]:=λhet hl hm=>by
     simp only[Z5q,Z5y,or_false] at hm;rcases hm with rfl|rfl
     .exact het (Yz hl O)
     .obtain⟨fv,m1,_⟩:=C.dir;obtain⟨es,cl,er⟩:=m1.block;exact Yh hl er
    exact⟨⟨fa,ai,al⟩,ah.tight,Row.fr C.jn ae (du (by decide) C.jn),C.txt.fr ae (du (by decide) C.txt),C.bel.trans (ae.below C.bel.size (λi hi=>by
     simp only[Z5q,Z5y,or_false] at hi;rcases hi with rfl|rfl
     .exact S1.out.2.2.1
     .exact S1.out.2.2.2.1))⟩
  .obtain rfl:k=recs.length:=(by omega);rw[Z5A,Z.out.dir] at C;have bg:=Z5F C;clear C;go_wp2_with fail;go_ret2;obtain⟨uv,O,cz⟩:=bg.out.row;refine⟨s,rfl,⟨S1.out.2.2.1,j,b,uv,?_,by rw[Z.out.hh];exact O,bg.out.jn,bg.out.dir,by rw[Z.out.used];exact cz⟩,bg.out.bel⟩;have:=F.out.2.2.2.2.2.1;omega
end
section
open Go.RowKit
variable{D:Dk}{M:Option Sto}{P:Pw}{S:Sto}
def Z8(w:World)(X:List Nat)(ts:List TypeId):Prop:=∀k∈X,∃cs e fr,w.heap[k]? =some (.cells cs e fr)/\e∈ts
section
variable{w w':World}{X Y:List Nat}{ts us:List TypeId}
theorem Z8.row_ne(h:Z8 w X ts){g:Nat}{e:TypeId}{l:List Value}(C:Row w g e l)(he:e∉ts):g∉X:=λhm=>by obtain⟨cs,F,fr,hh,hi⟩:=h g hm;obtain⟨f,J,_⟩:=C;simp_all
theorem Z8.map_ne(h:Z8 w X ts){g:Nat}{es:Array MapEntry}{C:Nat}(J:w.heap[g]? =some (.map es C)):g∉X:=λhm=>by obtain⟨cs,F,fr,hh,hi⟩:=h g hm;simp_all
theorem Z8.disj(h:Z8 w X ts)(k:Z8 w Y us)(hd:∀e∈ts,e∉us):∀i∈X,i∉Y:=λi hi C=>by obtain⟨cs,e,fr,hh,he⟩:=h i hi;obtain⟨F,Z,J,U,O⟩:=k i C;simp_all
theorem Z8.mono(h:Z8 w X ts)(C:∀i∈Y,i∈X)(J:∀e∈ts,e∈us):Z8 w Y us:=λk F=>by obtain⟨cs,e,fr,hh,he⟩:=h k (C k F);exact⟨cs,e,fr,hh,J e he⟩
theorem Z8.append(h:Z8 w X ts)(k:Z8 w Y ts):Z8 w (X++Y) ts:=λi hi=>by
 rcases Z5p.1 hi with hi|hi
 .exact h i hi
 .exact k i hi
theorem Z8.row{g:Nat}{e:TypeId}{l:List Value}(h:Row w g e l)(he:e∈ts):Z8 w [g] ts:=λk F=>by obtain⟨f,C,_⟩:=h;grind
theorem Z8.cons{g:Nat}{e:TypeId}{l:List Value}(C:Row w g e l)(he:e∈ts)(h:Z8 w X ts):Z8 w (g::X) ts:=(Z8.row C he).append h
theorem Z8.lt(h:Z8 w X ts):∀k∈X,k<w.heap.size:=λk C=>by obtain⟨cs,e,fr,hh,he⟩:=h k C;grind
end
def ND:List TypeId:=[109,5,194]
def Di:List TypeId:=112::ND
def Cm:List TypeId:=[157,225,91]
def Yl:List TypeId:=78::(Di++Cm)
theorem PD.typedL{B:Nat}{w:World}{p d n:Nat}{L:List Nat}(h:PD B w p d n P D L):Z8 w L ND:=by
 obtain⟨gh,v,rfl,F⟩:=h.dk;intro k C;simp[ZK] at C;rcases C with rfl|rfl|C
 .obtain⟨f,J,_⟩:=F.top;exact⟨_,_,_,J,by decide⟩
 .have:=F.bytes;unfold ZD at this;exact⟨_,_,_,this,by decide⟩
 .rcases F.late.2 with ⟨hv,_⟩|⟨O,cap,cur,hv,_,hh,_⟩
  .rw[hv] at C;cases C
  .rw[hv] at C;simp[Value.ownBlock] at C;subst C;exact⟨_,_,_,hh,by decide⟩
theorem PD.typed{B:Nat}{w:World}{p d n:Nat}{L:List Nat}(h:PD B w p d n P D L):Z8 w (p::L) Di:=Z8.cons h.pw (by decide) (h.typedL.mono (λ_ hi=>hi) (λe he=>by unfold Di;exact Z5n _ he))
theorem PD.power{B:Nat}{w w':World}{p d n:Nat}{P':Pw}{L:List Nat}(h:PD B w p d n P D L){X:List Nat}(J:Fr X w w')(C:∀k∈L,k∉X)(U:Ze w' p P')(pok:P'.ok):PD B w' p d n P' D L:=by obtain⟨gh,v,rfl,F⟩:=h.dk;exact⟨U,pok,⟨gh,v,rfl,F.fr J (C _ (by simp)) (C _ (by simp)) (λg O=>C _ (by simp[ZK,O]))⟩,h.ok,h.bp,h.bL⟩
def WG(w:World)(s j d:Nat)(S:Sto):Prop:=∃b uv,Row w s 157 [.pointer (some ⟨d,0,none⟩),.pointer (some ⟨j,0,none⟩),.int .i64 S.half,.map (some b),uv,.bool false]/\JAt w j d S.j/\ZE w b S.dir.length S.dir/\Ao w uv S.used
theorem WG.at_{w:World}{s j d:Nat}(h:WG w s j d S):Yf w s d S:=by obtain⟨b,uv,h⟩:=h;exact⟨j,b,uv,h⟩
theorem C7.j{B:Nat}{w:World}{s d:Nat}(h:C7 B w s d S):B<=s/\∃j,B<=j/\WG w s j d S:=by obtain⟨C,j,b,uv,F,h⟩:=h;exact⟨C,j,F,b,uv,h⟩
theorem WG.fr{w w':World}{s j d:Nat}(h:WG w s j d S){X:List Nat}{ts:List TypeId}(C:Fr X w w')(F:Z8 w X ts)(U:197∉ts)(Z:4∉ts)(hs:s∉X)(hj:j∉X):WG w' s j d S:=by
 obtain⟨b,uv,r1,r2,J,g,hv,r4⟩:=h;have O:b∉X:=by obtain⟨fv,m1,_⟩:=J;obtain⟨es,cl,hb⟩:=m1.block;exact F.map_ne hb
 exact⟨b,uv,r1.fr C hs,Row.fr r2 C hj,J.fr C O (λk hk l hl=>F.row_ne hl U hk),g,hv,r4.fr C (F.row_ne r4 Z)⟩
def CA(w:World)(x d:Nat)(D:Dk):Option Sto->List Nat->Prop
 |some S,O=>∃s j,O=[x,s,j]/\Row w x 91 [.pointer (some ⟨d,0,none⟩),.pointer (some ⟨s,0,none⟩),.int .i64 D.life,.bool true]/\WG w s j d S/\D.dead=false
 |none,O=>∃sv lf inn,O=[x]/\Row w x 91 [.pointer (some ⟨d,0,none⟩),sv,.int .i64 lf,.bool inn]/\(inn=true->D.dead=true∨D.life≠lf)
theorem CA.typed{w:World}{x d:Nat}{O:List Nat}(h:CA w x d D M O):Z8 w O Cm:=by
 cases M with
 |none=>obtain⟨sv,lf,inn,rfl,C,_⟩:=h;exact Z8.row C (by decide)
 |some S=>obtain⟨s,j,rfl,C,⟨b,uv,F,J,_⟩,_⟩:=h;exact Z8.cons C (by decide) (Z8.cons F (by decide) (Z8.row J (by decide)))
theorem CA.fr{w w':World}{x d:Nat}{O:List Nat}(h:CA w x d D M O){X:List Nat}{ts:List TypeId}(F:Fr X w w')(ht:Z8 w X ts)(U:197∉ts)(Z:4∉ts)(C:∀k∈O,k∉X):CA w' x d D M O:=by
 cases M with
 |none=>obtain⟨sv,lf,inn,rfl,J,hi⟩:=h;exact⟨sv,lf,inn,rfl,J.fr F (C _ (by simp)),hi⟩
 |some S=>obtain⟨s,j,rfl,J,hs,hd⟩:=h;exact⟨s,j,rfl,J.fr F (C _ (by simp)),hs.fr F ht U Z (C _ (by simp)) (C _ (by simp)),hd⟩
def upd{α:Type}(f:Nat->α)(i:Nat)(a:α):Nat->α:=λj=>if j=i then a else f j
theorem Zo{α:Type}(f:Nat->α)(i:Nat)(a:α):upd f i a i=a:=by simp[upd]
theorem Z6{α:Type}(f:Nat->α){i j:Nat}(a:α)(h:j≠i):upd f i a j=f j:=by simp[upd,h]
structure Eg where
 n:Nat
 p:Nat
 s:Nat
 ms:Nat
 cap:Nat
 xs:Nat->Nat
 ds:Nat->Nat
structure Ev where
 k:Nat
 m:Nat
 gen:Int
 P:Pw
 Ds:Nat->Dk
 Ms:Nat->Option Sto
def Y7(n:Nat)(xs:Nat->Nat):List Value:=(List.range n).map λi=>.pointer (some ⟨xs i,0,none⟩)
theorem XF(n:Nat)(xs:Nat->Nat)(i:Nat)(h:i<n):(Y7 n xs)[i]? =some (.pointer (some ⟨xs i,0,none⟩)):=by simp[Y7,h]
theorem YY(n:Nat)(xs:Nat->Nat):(Y7 n xs).length=n:=by simp[Y7]
structure ZY(B:Nat)(w:World)(G:Eg)(V:Ev)(Ls Os:Nat->List Nat):Prop where
 set:Row w G.s 78 [.int .i64 V.k,.int .i64 V.m,.slice (some ⟨G.ms,0,none⟩) G.n G.cap,.int .i64 V.gen,.bool false]
 mem:∃sp,Row w G.ms 92 (Y7 G.n G.xs++sp)
 n1:1<=G.n
 n16:G.n<=16
 pd:∀i,i<G.n->PD B w G.p (G.ds i) 800 V.P (V.Ds i) (Ls i)
 dap:∀i j,i<G.n->j<G.n->i≠j->∀k∈Ls i,k∉Ls j
 at_:∀i,i<G.n->CA w (G.xs i) (G.ds i) (V.Ds i) (V.Ms i) (Os i)
 oap:∀i j,i<G.n->j<G.n->i≠j->∀k∈Os i,k∉Os j
 bO:∀i,i<G.n->∀k∈Os i,B<=k
 bs:B<=G.s
def Wb(G:Eg)(Ls Os:Nat->List Nat):List Nat:=G.s::((List.range G.n).flatMap Ls++(List.range G.n).flatMap Os)
theorem Qh{G:Eg}{Ls Os:Nat->List Nat}{k:Nat}:k∈Wb G Ls Os↔k=G.s∨(∃i,i<G.n/\k∈Ls i)∨∃i,i<G.n/\k∈Os i:=by unfold Wb;simp
def EAt(B:Nat)(w:World)(G:Eg)(V:Ev)(bl:List Nat):Prop:=∃Ls Os,bl=Wb G Ls Os/\ZY B w G V Ls Os
def Zi(B:Nat)(G:Eg)(bl:List Nat)(V:Ev)(w w':World):Prop:=∃bl',EAt B w' G V bl'/\(∀k∈bl',k∈bl∨w.heap.size<=k)/\Fr (G.p::bl) w w'
section
variable{B:Nat}{w w':World}{G:Eg}{V:Ev}{bl:List Nat}
theorem ZY.pw{Ls Os:Nat->List Nat}(h:ZY B w G V Ls Os):Ze w G.p V.P:=(h.pd 0 h.n1).pw
theorem ZY.typed{Ls Os:Nat->List Nat}(h:ZY B w G V Ls Os):Z8 w (G.p::Wb G Ls Os) Yl:=by
 intro k C;rcases Z5q.1 C with rfl|C
 .obtain⟨f,F,_⟩:=h.pw;exact⟨_,_,_,F,by decide⟩
 .rcases Qh.1 C with rfl|⟨i,hi,C⟩|⟨i,hi,C⟩
  .obtain⟨f,F,_⟩:=h.set;exact⟨_,_,_,F,by decide⟩
  .exact(h.pd i hi).typedL.mono (us:=Yl) (λ_ hi=>hi) (by decide) k C
  .exact(h.at_ i hi).typed.mono (us:=Yl) (λ_ hi=>hi) (by decide) k C
theorem EAt.typed(h:EAt B w G V bl):Z8 w (G.p::bl) Yl:=by obtain⟨Ls,Os,rfl,h⟩:=h;exact h.typed
theorem EAt.row_ne(h:EAt B w G V bl){g:Nat}{e:TypeId}{l:List Value}(C:Row w g e l)(he:e∉Yl):g∉G.p::bl:=h.typed.row_ne C he
theorem EAt.ge(h:EAt B w G V bl):∀k∈G.p::bl,B<=k:=by
 obtain⟨Ls,Os,rfl,h⟩:=h;intro k C;rcases Z5q.1 C with rfl|C
 .exact(h.pd 0 h.n1).bp
 .rcases Qh.1 C with rfl|⟨i,hi,C⟩|⟨i,hi,C⟩
  .exact h.bs
  .exact(h.pd i hi).bL k C
  .exact h.bO i hi k C
theorem EAt.bw(h:EAt B w G V bl):B<=w.heap.size:=Z5w (h.ge G.p (by simp)) (Nat.le_of_lt (h.typed.lt G.p (by simp)))
theorem ZY.fr{Ls Os:Nat->List Nat}(h:ZY B w G V Ls Os){X:List Nat}{ts:List TypeId}(C:Fr X w w')(O:Z8 w X ts)(U:197∉ts)(Z:4∉ts)(h3:92∉ts)(hX:∀k∈G.p::Wb G Ls Os,k∉X):ZY B w' G V Ls Os:=by
 have F:∀k∈Wb G Ls Os,k∉X:=by simp_all
 obtain⟨sp,hm⟩:=h.mem;refine⟨h.set.fr C (F _ (by simp[Wb])),⟨sp,hm.fr C (O.row_ne hm h3)⟩,h.n1,h.n16,λi hi=>(h.pd i hi).fr C (λk J hm=> ?_),h.dap,λi hi=>(h.at_ i hi).fr C O U Z (λk J=>F k (Qh.2 (Or.inr (Or.inr ⟨i,hi,J⟩)))),h.oap,h.bO,h.bs⟩;rcases Z5q.1 hm with rfl|hm
 .simp_all
 .exact F k (Qh.2 (Or.inr (Or.inl ⟨i,hi,hm⟩))) J
theorem EAt.fr(h:EAt B w G V bl){X:List Nat}{ts:List TypeId}(U:Fr X w w')(Z:Z8 w X ts)(C:197∉ts)(F:4∉ts)(J:92∉ts)(O:∀k∈G.p::bl,k∉X):EAt B w' G V bl:=by obtain⟨Ls,Os,rfl,h⟩:=h;exact⟨Ls,Os,rfl,h.fr U Z C F J O⟩
theorem EAt.after(h:EAt B w G V bl)(C:Below w.heap.size w w'):EAt B w' G V bl:=h.fr (Fr.of_below (L:=[]) C) (ts:=[]) (λk F=>by cases F) (by simp) (by simp) (by simp) (by simp)
theorem EAt.setCell(h:EAt B w G V bl){a:Addr}{e:TypeId}{l:List Value}(C:Row w a.block e l)(he:e∉Yl)(J:e≠197)(O:e≠4)(U:e≠92)(v:Value):EAt B (w.setCell a v) G V bl:=h.fr (X:=[a.block]) (ts:=[e]) ((Fr.refl _ _).setCell (Or.inl (by simp)) v) (Z8.row C (by simp)) (by grind) (by grind) (by grind) (λk F hm=>by rw[Z58] at hm;subst hm;exact h.row_ne C he F)
theorem Zi.same(h:EAt B w G V bl)(C:Below w.heap.size w w'):Zi B G bl V w w':=⟨bl,h.after C,λk F=>Or.inl F,Fr.of_below C⟩
theorem Zi.trans{O F:Ev}{w1 w2:World}{C:List Nat}(J:EAt B w1 G O C/\(∀k∈C,k∈bl∨w.heap.size<=k)/\Fr (G.p::bl) w w1)(U:Zi B G C F w1 w2):Zi B G bl F w w2:=by
 obtain⟨bl2,e2,g2,f2⟩:=U;refine⟨bl2,e2,λk Z=> ?_,J.2.2.trans f2 (λi hi ae=> ?_)⟩
 .rcases g2 k Z with h|h
  .simp_all
  .exact Or.inr (Z5w J.2.2.size h)
 .grind
theorem Zi.after{C:Ev}{w1:World}(h:Zi B G bl C w w1)(F:Below w1.heap.size w1 w'):Zi B G bl C w w':=by obtain⟨J,e1,g1,f1⟩:=h;exact⟨J,e1.after F,g1,f1.trans (Fr.of_below (L:=[]) F) (by simp)⟩
theorem Zi.from{C:Ev}{w0:World}(h:Zi B G bl C w w')(F:Below w0.heap.size w0 w):Zi B G bl C w0 w':=by obtain⟨J,e1,g1,f1⟩:=h;exact⟨J,e1,λk O=>(g1 k O).imp id (λh=>Z5w F.size h),(Fr.of_below (L:=G.p::bl) F).trans f1 (λi hi _=>hi)⟩
theorem Zi.row{F:Ev}(h:Zi B G bl F w w')(J:EAt B w G V bl){g:Nat}{e:TypeId}{l:List Value}(C:Row w g e l)(he:e∉Yl):Row w' g e l:=by obtain⟨O,e1,g1,f1⟩:=h;exact C.fr f1 (J.row_ne C he)
theorem Zi.below{F:Ev}(h:Zi B G bl F w w')(C:EAt B w G V bl):Below B w w':=by obtain⟨J,e1,g1,f1⟩:=h;exact f1.below C.bw C.ge
theorem CC{n i H:Nat}{F:Nat->List Nat}{N:List Nat}(h:∀a b,a<n->b<n->a≠b->∀k∈F a,k∉F b)(Z:∀a,a<n->∀k∈F a,k<H)(hi:i<n)(hN:∀k∈N,k∈F i∨H<=k):∀a b,a<n->b<n->a≠b->∀k∈upd F i N a,k∉upd F i N b:=by
 intro a b ha U J k C;by_cases O:a=i
 .subst O;rw[Zo] at C;rw[Z6 _ _ J.symm];grind
 .rw[Z6 _ _ O] at C;by_cases eb:b=i
  .subst eb;rw[Zo];grind
  .rw[Z6 _ _ eb];exact h a b ha U J k C
theorem ZY.step1{Ls Os:Nat->List Nat}(h:ZY B w G V Ls Os){i:Nat}(hi:i<G.n){X:List Nat}{P':Pw}{D':Dk}{M':Option Sto}{L' O':List Nat}(J:Fr (X++G.p::Ls i) w w')(ae:Z8 w X Cm)(ai:∀j,j<G.n->j≠i->∀k∈Os j,k∉X)(U:PD B w' G.p (G.ds i) 800 P' D' L')(hM:CA w' (G.xs i) (G.ds i) D' M' O')(hL:∀k∈L',k∈Ls i∨w.heap.size<=k)(hO:∀k∈O',k∈Os i∨w.heap.size<=k):ZY B w' G {V with P:=P',Ds:=upd V.Ds i D',Ms:=upd V.Ms i M'} (upd Ls i L') (upd Os i O'):=by
 have aj:B<=w.heap.size:=EAt.bw ⟨Ls,Os,rfl,h⟩;have O:Z8 w (X++G.p::Ls i) (Di++Cm):=(ae.mono (λ_ h=>h) (λe he=>List.mem_append_right _ he)).append ((h.pd i hi).typed.mono (λ_ h=>h) (λe he=>List.mem_append_left _ he));have ag:∀j,j<G.n->j≠i->∀k∈Ls j,k∉X++G.p::Ls i:=λj C af k F hm=>by
  rcases Z5p.1 hm with hm|hm
  .exact ae.disj ((h.pd j C).typedL) (by decide) k hm F
  .rcases Z5q.1 hm with rfl|hm
   .exact(h.pd j C).typedL.row_ne (h.pd i hi).pw (by decide) F
   .exact h.dap j i C hi af k F hm
 have ah:∀j,j<G.n->j≠i->∀k∈Os j,k∉X++G.p::Ls i:=λj C af k F hm=>by
  rcases Z5p.1 hm with hm|hm
  .grind
  .exact(h.at_ j C).typed.disj (h.pd i hi).typed (by decide) k F hm
 obtain⟨sp,Z⟩:=h.mem;refine⟨h.set.fr J (O.row_ne h.set (by decide)),⟨sp,Z.fr J (O.row_ne Z (by decide))⟩,h.n1,h.n16,λj C=> ?_,CC h.dap (λa ha=>(h.pd a ha).typedL.lt) hi hL,λj C=> ?_,CC h.oap (λa ha=>(h.at_ a ha).typed.lt) hi hO,λj C k F=> ?_,h.bs⟩
 .by_cases e:j=i
  .subst e;simp[Zo];exact U
  .simp[Z6 _ _ e];exact(h.pd j C).power J (ag j C e) U.pw U.pok
 .by_cases e:j=i
  .subst e;simp[Zo];exact hM
  .simp[Z6 _ _ e];exact(h.at_ j C).fr J O (by decide) (by decide) (ah j C e)
 .by_cases e:j=i
  .subst e;rw[Zo] at F;rcases hO k F with h1|h1
   .exact h.bO j C k h1
   .omega
  .rw[Z6 _ _ e] at F;exact h.bO j C k F
theorem UN{Ls Os:Nat->List Nat}{i:Nat}{L' O':List Nat}(J:∀k∈L',k∈Ls i∨w.heap.size<=k)(O:∀k∈O',k∈Os i∨w.heap.size<=k):∀k∈Wb G (upd Ls i L') (upd Os i O'),k∈Wb G Ls Os∨w.heap.size<=k:=by
 intro k h;rcases Qh.1 h with rfl|⟨j,C,h⟩|⟨j,C,h⟩
 .exact Or.inl (by simp[Wb])
 .by_cases e:j=i
  .subst e;rw[Zo] at h;exact(J k h).imp (λF=>Qh.2 (Or.inr (Or.inl ⟨j,C,F⟩))) id
  .rw[Z6 _ _ e] at h;exact Or.inl (Qh.2 (Or.inr (Or.inl ⟨j,C,h⟩)))
 .by_cases e:j=i
  .subst e;rw[Zo] at h;exact(O k h).imp (λF=>Qh.2 (Or.inr (Or.inr ⟨j,C,F⟩))) id
  .rw[Z6 _ _ e] at h;exact Or.inl (Qh.2 (Or.inr (Or.inr ⟨j,C,h⟩)))
theorem ZY.step{Ls Os:Nat->List Nat}(h:ZY B w G V Ls Os){i:Nat}(hi:i<G.n){X:List Nat}{P':Pw}{D':Dk}{M':Option Sto}{L' O':List Nat}(U:Fr (X++G.p::Ls i) w w')(F:∀k∈X,k∈Os i)(hp:PD B w' G.p (G.ds i) 800 P' D' L')(hM:CA w' (G.xs i) (G.ds i) D' M' O')(J:∀k∈L',k∈Ls i∨w.heap.size<=k)(O:∀k∈O',k∈Os i∨w.heap.size<=k):Zi B G (Wb G Ls Os) {V with P:=P',Ds:=upd V.Ds i D',Ms:=upd V.Ms i M'} w w':=by
 refine⟨_,⟨_,_,rfl,h.step1 hi U ((h.at_ i hi).typed.mono F (λ_ he=>he)) (λj hj Z k C hm=>h.oap j i hj hi Z k C (F k hm)) hp hM J O⟩,UN J O,U.mono (λk C _=> ?_)⟩;rcases Z5p.1 C with C|C
 .exact Z5n _ (Qh.2 (Or.inr (Or.inr ⟨i,hi,F k C⟩)))
 .rcases Z5q.1 C with rfl|C
  .simp
  .exact Z5n _ (Qh.2 (Or.inr (Or.inl ⟨i,hi,C⟩)))
end
end
section
variable{N:List Bs}{e:Ent}{f:Z1}{half n:Nat}
def Dir.Sm(N:List Bs)(d:Dir):Prop:=∀x∈d,x.1∈N/\x.2.size<=500/\1<=x.2.size
structure Ac.Sm(N:List Bs)(a:Ac):Prop where
 name:a.name∈N
 «to»:a.kind=3->a.to∈N
 value:a.value.length<=500
 pos:a.kind=1->1<=a.value.length
theorem Z0M{d J:Dir}{f':Z1}{k:Nat}{a:Ac}(h:Dir.Sm N d)(ha:Ac.Sm N a)(C:Wh k a d f=some (J,f')):Dir.Sm N J/\f'.length<=f.length+1:=by
 have F:∀ (g:Z1) (n:Bs),(g.del n).length<=g.length:=λg n=>List.length_filter_le _ _;unfold Wh at C;split at C
 .rename_i M;obtain⟨rfl,rfl⟩:=C;refine⟨λx hx=> ?_,by rw[Z5d];have:=F f a.name;simp;omega⟩;rcases Dir.mem_put.1 hx with rfl|⟨hx,_⟩
  .exact⟨ha.name,ha.value,ha.pos M⟩
  .exact h x (Dir.mem_del.1 hx).1
 .split at C
  .simp at C;obtain⟨rfl,rfl⟩:=C;exact⟨λx hx=>h x (Dir.mem_del.1 hx).1,by have:=F f a.name;omega⟩
  .grind
 .rename_i U;split at C
  .rename_i e0 O;split at C
   .grind
   .simp at C;obtain⟨rfl,rfl⟩:=C;refine⟨λx hx=> ?_,by have M:=F f a.name;have Z:=F (f.del a.name) a.to;omega⟩;rcases Dir.mem_put.1 hx with rfl|⟨hx,_⟩
    .exact⟨ha.to U,(h _ (Dir.get_some_mem O)).2⟩
    .exact h x (Dir.mem_del.1 hx).1
  .grind
 .grind
theorem UX{l:List Ac}(ha:∀a∈l,Ac.Sm N a):∀{k:Nat} {d F:Dir} {f f':Z1},Dir.Sm N d->Qi l k d f=some (F,f')->Dir.Sm N F/\f'.length<=f.length+l.length:=by
 induction l with
 |nil=>intro k d F f f' h C;simp[Qi] at C;obtain⟨rfl,rfl⟩:=C;exact⟨h,by simp⟩
 |cons a r ih=>
  intro k d F f f' h C;rw[Qi] at C;split at C
  .rename_i d1 f1 J;obtain⟨M,O⟩:=Z0M h (ha a (by simp)) J;grind
  .grind
theorem Z1V(todo:Z1):∀{free:List Nat} {d F:Dir},Dir.Sm N d->Yn free todo d=some F->Dir.Sm N F:=by
 induction todo with
 |nil=>intro free d F h C;simp[Yn] at C;subst C;exact h
 |cons x r ih=>
  intro free d F h C;rw[Yn] at C;split at C
  .rename_i e he;split at C
   .refine ih (λy J=> ?_) C;rcases Dir.mem_put.1 J with rfl|⟨J,_⟩
    .have M:=h _ (Dir.get_some_mem he);omega
    .exact h y J
   .grind
  .grind
theorem TM(todo:Z1):∀{free:List Nat} {d:Dir},(∀x∈todo,∃e,d.get x.1=some e/\e.size<=500)->8*todo.length<=free.length->∃C,Yn free todo d=some C:=by
 induction todo with
 |nil=>intro free d _ _;exact⟨d,rfl⟩
 |cons x r ih=>
  intro free d h hl;obtain⟨e,he,hs⟩:=h x (by simp);have U:ZJ e.size<=8:=by unfold ZJ;omega
  obtain⟨C,O⟩:=ih (free:=free.drop (ZJ e.size)) (d:=d.put x.1 {e with runs:=ZZ (free.take (ZJ e.size))}) (λy Z=>by
   obtain⟨e2,F,J⟩:=h y (by grind);rw[Dir.get_put];by_cases M:y.1=x.1
   .simp_all
   .rw[if_neg M];exact⟨e2,F,J⟩) (by grind)
  refine⟨C,?_⟩;rw[Yn,he];grind
theorem Bz{d:Dir}(h:Dir.Sm N d)(hs:d.Sorted):d.length<=N.length:=by
 have C:=(Dir.names_nodup hs).length_le_of_subset (l₂:=N) (λn F=>by
  obtain⟨x,hx,rfl⟩:=List.mem_map.1 F
  exact(h x hx).1)
 rwa[show d.names.length=d.length from Z5i ..] at C
theorem Oy(rs:List (Nat×Nat))(h:∀r∈rs,1<=r.2):rs.length<=(Zb rs).length:=by
 unfold Zb
 induction rs with
 |nil=>simp
 |cons x l ih=>grind
theorem Lz(h:Ent.Ok n half e)(hs:e.size<=500):e.secs.length<=8:=by rw[h.secs];unfold ZJ;omega
theorem LC(h:Ent.Ok n half e)(hs:e.size<=500):e.tail.length<=72:=by
 have J:=Lz h hs;have M:e.runs.length<=e.secs.length:=Oy e.runs (λr F=>(h.many r F).1);have C:∀l:List (Nat×Nat),(Qr l).length=8*l.length:=λl=>by
  induction l with
  |nil=>rfl
  |cons x l ih=>unfold Qr at ih⊢;rw[Z5s,Z5d,ih,Z5d,Zw,Zw,Z5h];omega
 unfold Ent.tail;rw[Z5d,Z5d,Zw,Zw,C];omega
theorem UW{d:Dir}(h:∀x∈d,Ent.Ok n half x.2/\x.2.size<=500):d.secs.length<=8*d.length:=by
 unfold Dir.secs
 induction d with
 |nil=>simp
 |cons x r ih=>have C:=Lz (h x (by simp)).1 (h x (by simp)).2;have F:=ih (λy J=>h y (by grind));grind
theorem Le(l:List Bs)(b:Nat)(h:∀x∈l,x.length<=b):Zy l<=(4+b)*l.length:=by
 induction l with
 |nil=>simp[Zy]
 |cons x r ih=>have C:=h x (by simp);have F:=ih (λy J=>h y (by grind));rw[Zc,Z5h,Nat.mul_succ];omega
theorem Ny{a b:Bs}(ha:a.length<=12)(h:b.length<=72):(Zz [a,b]).length<=96:=by rw[ZN,Zc,Zc];simp[Zy];omega
theorem Rx{d:Dir}(F:∀m∈N,m.length<=12)(M:N.length<=40)(h:Dir.Sm N d)(ok:d.Ok n half):(Ya d).length<=4100:=by
 have O:=Bz h ok.sorted;unfold Ya;rw[ZN,Zc]
 have C:=Le (d.map λx=>Zz [x.1,x.2.tail]) 96 (λt J=>by
  obtain⟨x,hx,rfl⟩:=List.mem_map.1 J
  exact Ny (F _ (h x hx).1) (LC (ok.ent x hx) (h x hx).2.1))
 rw[Z5i] at C;have U:XH.length=3:=rfl;omega
theorem Ud{was d:Dir}(hN:∀m∈N,m.length<=12)(af:N.length<=40)(hw:Dir.Sm N was)(h:Dir.Sm N d)(ae:was.Ok n half)(ok:d.Ok n half):(Jb (QM was d f)).length<=4100:=by
 have hb:=Dir.both_sorted ae.sorted d;have F:∀m∈(was.both d).names,m∈N:=λm hm=>by
  have C:=Qy.1 hm;rw[Dir.both_get _ ok.sorted] at C;cases M:d.get m with
  |some e=>exact(h _ (Dir.get_some_mem M)).1
  |none=>
   rw[M] at C;cases J:was.get m with
   |some e=>exact(hw _ (Dir.get_some_mem J)).1
   |none=>exact absurd J C
 have h1:=(Dir.names_nodup hb).length_le_of_subset (l₂:=N) F;have h4:(QM was d f).length<=(was.both d).names.length:=by unfold QM;exact List.length_filterMap_le _ _
 unfold Jb;rw[ZN,Zc]
 have h2:=Le ((QM was d f).map QT) 96 (λt ht=>by
  obtain⟨x,hx,rfl⟩:=List.mem_map.1 ht;obtain⟨m,hm,Z⟩:=List.mem_filterMap.1 hx;obtain⟨e1,e2⟩:=AT Z;have O:=hN _ (F m hm);rw[<-e1] at O;unfold QT;cases U:x.2 with
  |none=>simp only;rw[ZN,Zc];simp[Zy];omega
  |some e=>
   rw[U] at e2;have hm:=Dir.get_some_mem e2.symm
   exact Ny O (LC (ok.ent _ hm) (h _ hm).2.1))
 rw[Z5i] at h2;have h3:WS.length=4:=rfl;omega
theorem Z30{was d:Dir}(O:d.Sorted){m:Bs}(h:(d.get m≠none/\f.by m≠none)∨(was.get m≠none/\d.get m=none)):QM was d f≠[]:=by
 intro C;unfold QM at C;have hm:m∈(was.both d).names:=by rw[Qy,Dir.both_get _ O];grind
 rw[List.filterMap_eq_nil_iff] at C;have M:=C m hm;unfold chg at M;rcases h with ⟨F,J⟩|⟨F,J⟩
 .cases Z:d.get m with
  |none=>exact F Z
  |some e=>
   have hb:f.has m=true:=by rw[Z1.has_by];cases U:f.by m with
    |none=>exact absurd U J
    |some k=>rfl
   grind
 .simp_all
theorem Fs{R:Nat->ByteArray}{S:Sto}{recs:List Rec}{acts:List Ac}{d0:Dir}(h:YN 800 100 R S recs)(hN:∀m∈N,m.length<=12)(ag:N.length<=40)(M:Dir.Sm N S.dir)(hw:∀a∈acts,a.wrong=false)(ha:∀a∈acts,Ac.Sm N a)(hl:acts.length<=12)(U:Qi acts 0 S.dir []=some (d0,f))(ak:∃m,f.by m≠none∨(S.dir.get m≠none/\d0.get m=none))(af:d0≠[]):∃d,S.plan acts=some (d,f)/\Fi S d f/\Dir.Sm N d/\f.length<=12:=by
 have ok:=h.ok;have al:Fg 800 100 S.dir acts S.dir []:=⟨ok.sorted,ok.name,ok.apart,λi hi=>hi,by simp,by simp,λm e hm _=>ok.get hm⟩;obtain⟨p1, -⟩:=KG (R:=R) acts 0 rfl al hw U;obtain⟨s1,s2⟩:=UX ha M U;simp at s2;have aq:=Tm ok (by omega);have O:=UW (n:=800) (half:=100) (d:=S.dir) (λx hx=>⟨ok.ent x hx,(M x hx).2.1⟩);have au:=Bz M ok.sorted
 obtain⟨d,J⟩:=TM f (free:=Wu S.used) (d:=d0) (λx hx=>by
  obtain⟨e,he,_⟩:=p1.fresh x hx
  exact⟨e,he,(s1 _ (Dir.get_some_mem he)).2.1⟩) (by rw[h.used];omega)
 have ae:S.plan acts=some (d,f):=by unfold Sto.plan;rw[U];simp only;rw[J]
 have F:=YD R ok h.used hw ae;have hs:=Z1V f s1 J;have az:=Rx hN ag hs F.ok;have aw:=Ud (f:=f) hN ag M hs ok F.ok;have ah:∀{m:Bs},d0.get m=none->d.get m=none:=fun{m} hm=>by
  have ai:∀x∈f,x.1≠m:=λx hx e9=>by obtain⟨e,he,_⟩:=p1.fresh x hx;simp_all
  have h9:=Im (n:=800) (half:=100) f (Wu S.used) d0 d J p1.sorted p1.name p1.apart (Bd _)
   (λi hi hm=>by rw[h.used] at hi;exact(Xa.1 hi).2.2 (p1.sub i hm)) (λi hi=>by rw[h.used] at hi;have:=Xa.1 hi;exact⟨this.2.1,this.1⟩) p1.fr (λx hx=>by
     obtain⟨e,k1,Z,k3,k4,k5,k6⟩:=p1.fresh x hx
     exact⟨e,k1,Z,k5,by rw[k4];exact Gn _⟩)
  grind
 refine⟨d,ae,⟨by omega,by omega,?_,?_,?_,?_⟩,hs,by omega⟩
 .rw[h.jhalf];unfold Zf;omega
 .obtain⟨m,hm⟩:=ak;refine Z30 F.ok.sorted (m:=m) ?_;rcases hm with hm|⟨h1,h2⟩
  .left;cases C:f.by m with
   |none=>exact absurd C hm
   |some k=>obtain⟨e,he,_⟩:=F.fresh _ (Z1.mem_by C);simp_all
  .simp_all
 .intro e0;subst e0;cases aj:d0 with
  |nil=>exact af aj
  |cons x r=>
   have hx:x∈d0:=(by simp_all);have hg:=Dir.mem_get p1.sorted (n:=x.1) (e:=x.2) hx;cases C:f.by x.1 with
   |some k=>obtain⟨e,he,_⟩:=F.fresh _ (Z1.mem_by C);cases he
   |none=>
    have ai:∀y∈f,y.1≠x.1:=λy hy e9=>by rw[<-e9,Z1.by_mem p1.fr hy] at C;cases C
    have h9:=Im (n:=800) (half:=100) f (Wu S.used) d0 [] J p1.sorted p1.name p1.apart (Bd _)
     (λi hi hm=>by rw[h.used] at hi;exact(Xa.1 hi).2.2 (p1.sub i hm)) (λi hi=>by rw[h.used] at hi;have:=Xa.1 hi;exact⟨this.2.1,this.1⟩) p1.fr (λx hx=>by
      obtain⟨e,k1,Z,k3,k4,k5,k6⟩:=p1.fresh x hx
      exact⟨e,k1,Z,k5,by rw[k4];exact Gn _⟩)
    have O:=h9.2.2.2.2.1 x.1 ai;rw[hg] at O;cases O
 .have:=Bz hs F.ok.sorted;omega
end
section
open Go.RowKit
theorem Ib{a b:List ByteArray}(hl:a.length=b.length)(h:∀i,i<a.length->a.getD i ⟨#[]⟩=b.getD i ⟨#[]⟩):a=b:=by apply List.ext_getElem hl;simp_all
open Go.RowKit
def Je(ss:List ByteArray):ByteArray:=⟨(ss.map (·.data.toList)).flatten.toArray⟩
theorem UQ(ss:List ByteArray)(n:Nat)(h:∀i,i<ss.length->(ss.getD i ⟨#[]⟩).size=n):(Je ss).size=ss.length*n:=by
 induction ss with
 |nil=>simp;rfl
 |cons x xs ih=>
  have F:=h 0 (by simp);have C:=ih (λi hi=>by have:=h (i+1) (by simp_all);simpa using this);show(((x::xs).map (·.data.toList)).flatten.toArray).size=_;have J:(xs.map (·.data.toList)).flatten.length=xs.length*n:=by have:=C;unfold Je at this;have e:(ByteArray.mk (xs.map (·.data.toList)).flatten.toArray).size=(xs.map (·.data.toList)).flatten.length:=(by rfl);omega
  have M:x.data.toList.length=n:=by simp_all
  grind
theorem LP(L:List (List UInt8)):Lib.join L []=L.flatten:=by
 cases L with
 |nil=>rfl
 |cons x xs=>rw[Lib.join_cons];unfold Lib.joinTail;simp
def YP(k l:Int)(ss:List ByteArray):Int:=
 if Wp k 0 l=false then 1 else if(ss.length:Int)<k then 19 else if∀i,i<k.toNat->(ss.getD i ⟨#[]⟩).size=ZT k.toNat l.toNat then 0 else 19
def JX(k l:Int)(ss:List ByteArray):ByteArray:=
 if YP k l ss=0 then(Je (ss.take k.toNat)).extract 0 l.toNat else⟨#[]⟩
theorem Q9.iface{B:Nat}{w:World}{v:Value}{c:Int}(h:Q9 B w v c)(hc:c≠0):∃b,v=.iface 139 (.pointer (some ⟨b,0,none⟩))/\Q9 B w (.iface 139 (.pointer (some ⟨b,0,none⟩))) c:=by
 rcases h with ⟨_,F⟩|⟨_,b,hv,C⟩
 .omega
 .exact⟨b,hv,Or.inr ⟨hc,b,rfl,C⟩⟩
theorem FE{k l:Nat}{ss:List ByteArray}(h:1<=k)(C:k<=255)(F:k<=ss.length):YP k l ss=if∀i,i<k->(ss.getD i ⟨#[]⟩).size=ZT k l then 0 else 19:=by unfold YP;rw[if_neg (by rw[show Wp (k:Int) 0 (l:Int)=true from AW (b:=0) h (by omega)];simp),if_neg (by omega)];rfl
theorem Z1j(k l:Int)(sa:Option Addr)(sn sc:Nat)(ss:List ByteArray)(w:World)(hk: -9223372036854775808<=k/\k<=9223372036854775807)(hl:l<=9223372036854775807)(bq:Zx w sa ss)(hn:sn=ss.length)(dq:sn<=sc)(dt:sc<=9223372036854775807)(bu:∀i,i<ss.length->(ss.getD i ⟨#[]⟩).size<=100000):Calls prog 69 #[.int .i64 k,.int .i64 l,.slice sa sn sc] w λe w'=>∃ev,e=.returned (.tuple #[.string (JX k l ss),ev])/\Q9 w.heap.size w' ev (YP k l ss)/\Below w.heap.size w w':=by
 have bad:∀c:Int,YP k l ss=c->c≠0->JX k l ss=⟨#[]⟩:=λc h U=>by unfold JX;rw[if_neg (by omega)]
 cases h:Wp k 0 l
 .have hc:YP k l ss=1:=by unfold YP;rw[if_pos h]
  rw[hc,bad 1 hc (by omega)];have H:=Z5F h;clear h hc bad;go_enter func69,ntmps69;go_wp2_with (go_at_call 113;refine(Z2f k l _ H.out).mono ?_;rintro e w1 ⟨ev,rfl,he,C⟩;obtain⟨fb,rfl,bh⟩:=he.iface (by omega);have F:=Z5J bh C;clear he bh C);go_ret2;exact⟨_,rfl,F.out.1,F.out.2⟩
 .obtain⟨a,b,c,rfl,cr,rfl,a1,a2⟩:=Z1x h;clear cr;by_cases al:(ss.length:Int)<(a:Int)
  .have hc:YP (a:Int) (c:Int) ss=19:=by unfold YP;rw[if_neg (by simp_all),if_pos al]
   rw[hc,bad 19 hc (by omega)];have ct:(sn:Int)<(a:Int):=by rw[hn];exact al
   obtain⟨n,M⟩:=Z5I (ZT a c);have HN:=Z5F M;clear h hc bad al M hn;go_enter func69,ntmps69;go_wp2_with (first|(go_at_call 113;refine(B4 a c _ a1 (by omega) (by omega)).mono ?_;rintro e w1 ⟨rfl,rfl⟩;rw[<-HN.out])|(go_at_call 114;refine(X8 19 (by omega) _).mono ?_;rintro e w2 ⟨ev,rfl,he,C⟩;have F:=Z5J he C;clear he C));go_ret2;exact⟨_,rfl,F.out.1,F.out.2⟩
  .have ha:a<=ss.length:=(by omega);have hc:=FE (l:=c) a1 (by omega) ha;obtain⟨cd,O⟩:=Z5I (YP (a:Int) (c:Int) ss);obtain⟨tx,aq⟩:=Z5I (JX (a:Int) (c:Int) ss);have aj:cd≠0->tx=⟨#[]⟩:=λU=>by rw[aq];exact bad cd O.symm U
   have ak:cd=0->tx=(Je (ss.take a)).extract 0 c:=λU=>by rw[aq];unfold JX;rw[<-O,if_pos U];simp only[Int.toNat_natCast]
   rw[hc] at O;rw[<-aq,show YP (a:Int) (c:Int) ss=cd from by rw[hc,O]];obtain⟨g,o,rfl,gl,ag⟩:=bq.open (by omega);obtain⟨n,M⟩:=Z5I (ZT a c);have bm:c<=a*n:=by rw[M];exact Af a c a1
   rw[<-M] at O;have b9:=Z5F O;have aw:=Z5F aj;have az:=Z5F ak;have cz:¬ (sn:Int)<(a:Int):=(by omega);have dw:(a:Int)<=(sc:Int):=(by omega);have dc:0<=(a:Int):=(by omega);have de:a<=sc:=(by omega);have du:n<=9223372036854775807:=by rw[M];unfold ZT;have h4:=Nat.div_add_mod c a;have h5:c / a<=a*(c / a):=Nat.le_mul_of_pos_left _ (by omega);split<;>omega
   have HN:=Z5F M;have af:=Z5F ag;have HA:=Z5F ha;have bf:=Z5F bu;have cj:=Z5F bm;clear h hc bad al M hn ag ha bq bu bm O aq aj ak;go_enter func69,ntmps69;go_wp2_with (go_at_call 113;refine(B4 a c _ a1 (by omega) (by omega)).mono ?_;rintro e w1 ⟨rfl,rfl⟩;rw[<-HN.out]);go_loop [30] (λi=>∃j:Nat,j<=a/\i=.int .i64 j/\∀i,i<j->(ss.getD i ⟨#[]⟩).size=n) (λi=>a- (intOf i).toNat)
   case atStart=>exact⟨0,by omega,rfl,λi h=>by omega⟩
   case round=>
    obtain⟨j,Z,rfl,ai⟩:=hrel;have ae:=Z5F ai;clear ai;by_cases bj:j<a
    .obtain⟨t,ht⟩:=Z5I (ss.getD j ⟨#[]⟩);have cl:=af.out j (by have:=HA.out;omega);have dh:=bf.out j (by have:=HA.out;omega);rw[<-ht] at cl dh;have HT:=Z5F ht;clear ht;by_cases hs:t.size=n
     .have cw:((t.size:Int) !=(n:Int))=false:=(by simp[hs]);have HS:=Z5F hs;clear hs;go_wp2;go_round
      case measure=>simp[intOf];omega
      case rel=>
       refine⟨j+1,by omega,by go_num,λi hi=> ?_⟩;by_cases e:i=j
       .rw[e,<-HT.out];exact HS.out
       .exact ae.out i (by omega)
     .have cw:((t.size:Int) !=(n:Int))=true:=by simp;omega
      have HS:=Z5F hs;clear hs;go_wp2_with (go_at_call 114;refine(X8 19 (by omega) _).mono ?_;rintro e w2 ⟨ev,rfl,he,C⟩;have F:=Z5J he C;clear he C);go_ret2;have ec:cd=19:=(by rw[b9.out,if_neg (λh=>HS.out (by rw[HT.out];exact h j bj))]);exact⟨_,by rw[aw.out (by omega)];rfl,by rw[ec];exact F.out.1,F.out.2⟩
    .obtain rfl:a=j:=(by omega);clear bj Z;obtain⟨xs,au⟩:=Z5I (ss.take a);have b8:xs.length=a:=by rw[au,Z5j];have:=HA.out;omega
     have b7:∀i,i<a->xs.getD i ⟨#[]⟩=ss.getD i ⟨#[]⟩:=λi hi=>(by rw[au,Z59,Z59,List.getElem?_take,if_pos hi]);have ah:(Je xs).size=a*n:=by have:=UQ xs n (λi hi=>by rw[b7 i (by omega)];exact ae.out i (by omega));rw[b8] at this;exact this
     have cu:n<=100000:=by have U:=bf.out 0 (by grind);rw[ae.out 0 (by omega)] at U;exact U
     have df:a*n<=255*100000:=Nat.mul_le_mul (by omega) cu
     have Z:=Tryz.strings_Join g o sc xs ⟨#[]⟩ w (λj x hx=>by
      have dp:j<xs.length:=(List.getElem?_eq_some_iff.1 hx).1;have bg:=af.out j (by grind);rw[<-b7 j (by omega),Z59,hx,Option.getD_some] at bg
      exact bg) gl (by omega) (by omega) (by
       show(Lib.join (xs.map (·.data.toList)) []).length<=_;rw[LP];have e:(Je xs).size=((xs.map (·.data.toList)).flatten).length:=by show(((xs.map (·.data.toList)).flatten).toArray).size=_;rw[List.size_toArray]
       omega)
     rw[b8] at Z;rw[show(⟨(Lib.join (xs.map (·.data.toList)) (⟨#[]⟩:ByteArray).data.toList).toArray⟩:ByteArray)=Je xs from by show(⟨(Lib.join (xs.map (·.data.toList)) []).toArray⟩:ByteArray)=_;rw[LP];rfl] at Z;obtain⟨J,hJ⟩:=Z5I (Je xs);rw[<-hJ] at Z ah;have dj:(c:Int)<=(J.size:Int):=by have:=cj.out;omega
     have dm:0<=(c:Int):=(by omega);have HJ:=Z5F hJ;have cn:=Z5F au;have bz:=Z5F Z;clear hJ au b8 b7 ah Z;have e3:((c:Int)).toNat=c:=(by omega);go_wp2_with (go_at_call 115;refine(bz.out).mono ?_;rintro e w2 ⟨rfl,C⟩;have F:=Z5F C;clear C);go_ret2;have ec:cd=0:=(by rw[b9.out,if_pos ae.out]);exact⟨_,by rw[az.out ec,<-cn.out,<-HJ.out];rfl,by rw[ec];exact Q9.ok0 _ _,F.out⟩
open Go.RowKit
end
section
open Go.RowKit
variable{cols:List ByteArray}{k len m:Nat}{t:ByteArray}{x y:Nat->BitVec 8}
theorem F6:∀k,(∀j,j<k->x j=y j)->YT x cols len k=YT y cols len k
 |0,_=>rfl
 |k+1,h=>by rw[YT,YT,F6 k (λj C=>h j (by omega)),h k (by omega)]
theorem FW(h:∀j,j<k->x j=y j):Yy x cols len k=Yy y cols len k:=by unfold Yy;rw[F6 k h]
theorem F5{A B:Nat->Nat->BitVec 8}{r:Nat}(h:∀i j,i<r->j<k->A i j=B i j):Qn A cols len k r=Qn B cols len k r:=by exact List.map_congr_left λi hi=>FW λj C=>h i j (by simp_all) C
theorem Ki(h:∀i,i<cols.length->(cols.getD i ⟨#[]⟩).size=len)(F:k<=cols.length){i:Nat}(hi:i<k):Yy (idm i) cols len k=cols.getD i ⟨#[]⟩:=by refine(Kh h F (h i (by omega)) λp J=> ?_).symm;rw[Xu (k:=i) hi (λj _ C=>by unfold idm;rw[if_neg (λe=>C e.symm),Qg])];unfold idm;rw[if_pos rfl,Qj]
theorem PW(h:∀i,i<cols.length->(cols.getD i ⟨#[]⟩).size=len)(C:cols.length=k):Qn idm cols len k k=cols:=by refine Ib (by rw[QR,C]) λi hi=> ?_;rw[QR] at hi;rw[XY _ _ _ _ _ _ hi,Ki h (by omega) hi]
theorem My(A B:Nat->Nat->BitVec 8)(cols:List ByteArray)(len n m r:Nat)(h:∀i,i<cols.length->(cols.getD i ⟨#[]⟩).size=len)(hm:m<=cols.length):Qn A (Qn B cols len m n) len n r=Qn (Yq n A B) cols len m r:=by exact List.map_congr_left λi _=>(Oh A B cols len n m i h hm).symm
theorem Yi(k m:Nat)(t:ByteArray):(Zs k m t).length=k+m:=QR _ _ _ _ _
theorem Cf(k:Nat)(t:ByteArray)(h:1<=k):∀i,i<(Wo (Jl t (k*ZT k t.size)) (ZT k t.size) k).length->((Wo (Jl t (k*ZT k t.size)) (ZT k t.size) k).getD i ⟨#[]⟩).size=ZT k t.size:=Ft _ _ _ (FM t _ (Af k t.size h))
theorem WA(k m:Nat)(t:ByteArray)(h:1<=k)(i:Nat)(hi:i<k+m):((Zs k m t).getD i ⟨#[]⟩).size=ZT k t.size:=Cr _ _ _ _ _ (Cf k t h) (by rw[YW];exact Z5D) i (by rw[QR];exact hi)
theorem BX(k m:Nat)(t:ByteArray)(i:Nat)(hi:i<k+m):(Zs k m t).getD i ⟨#[]⟩=Yy (gen k i) (Wo (Jl t (k*ZT k t.size)) (ZT k t.size) k) (ZT k t.size) k:=XY _ _ _ _ _ _ hi
theorem Dq(k m:Nat)(t:ByteArray)(C:1<=k):(Zs k m t).take k=Wo (Jl t (k*ZT k t.size)) (ZT k t.size) k:=by
 refine Ib (by rw[Z5j,Yi,YW];omega) λi hi=> ?_;rw[Z5j,Yi] at hi;have h:i<k:=by omega
 have e1:((Zs k m t).take k).getD i ⟨#[]⟩=(Zs k m t).getD i ⟨#[]⟩:=by simp_all
 rw[e1,BX k m t i (by omega),FW (y:=idm i) (λj _=>by unfold gen;rw[if_pos h]),Ki (Cf k t C) (by rw[YW];exact Z5D) h]
theorem PV{L:List (Bool×ByteArray)}{c:Int}{T:List ByteArray}(h1:1<=k)(hK:k+m<=255)(hL:∀j,j<k+m->(QU L j).1=true->(QU L j).2=(Zs k m t).getD j ⟨#[]⟩)(hk:k<=(whF L (k+m)).length)(h:Dw k m (ZT k t.size) L c T):c=0/\T=Zs k m t:=by
 obtain⟨n,U⟩:=Z5I (ZT k t.size);rcases h with ⟨⟨j,C,h2,h3⟩,_⟩|⟨_,hb,_⟩|⟨ha,hb,rfl,B,hB,rfl⟩
 .exact absurd (by rw[hL j C h2,WA k m t h1 j C]) h3
 .omega
 .refine⟨rfl,?_⟩;have J:=Cf k t h1;have Z:=YW (Jl t (k*ZT k t.size)) (ZT k t.size) k;obtain⟨cols,F⟩:=Z5I (Wo (Jl t (k*ZT k t.size)) (ZT k t.size) k);rw[<-F,<-U] at J;rw[<-F] at Z;have ah:(hvF L (k+m)).take k=Qn (Gx k L (k+m)) cols n k k:=by
   refine Ib (by rw[QR,Z5j,BQ];omega) λi hi=> ?_;rw[Z5j,BQ] at hi;have af:i<k:=(by omega);have M:i<(whF L (k+m)).length:=(by omega);rw[XY _ _ _ _ _ _ af];have e1:((hvF L (k+m)).take k).getD i ⟨#[]⟩=(QU L ((whF L (k+m)).getD i 0)).2:=by rw[Z59,List.getElem?_take,if_pos af];unfold hvF;rw[List.getElem?_map,Z5a M,Z59,Z5a M];rfl
   have ae:(whF L (k+m)).getD i 0∈whF L (k+m):=by rw[Z59,Z5a M,Option.getD_some];exact Z5r _
   have O:=Gi ae;rw[e1,hL _ O.1 O.2,BX k m t _ O.1,<-F,<-U];rfl
  have hI:Inj k (Gx k L (k+m)):=by have h9:=Ip (L:=L) (k:=k) (m:=m) rfl hK hb;intro x hx c hc;refine h9 x (λi hi=> ?_) c hc;rw[<-hx i hi];refine Q4 λj C=> ?_;show gm (gen k (((whF L (k+m)).take k).getD i 0) j) (x j)=gm (gen k ((whF L (k+m)).getD i 0) j) (x j);rw[CV _ _ _ hi]
  have ag:=NG hI hB;rw[<-U,ah,My B (Gx k L (k+m)) cols n k k k J (by omega),F5 (B:=idm) (λi j hi C=>ag i j hi C),PW J Z];unfold Zs;simp_all
theorem Ni(l:List UInt8)(n:Nat):∀k,((List.range k).map λi=>(l.take ((i+1)*n)).drop (i*n)).flatten=l.take (k*n)
 |0=>by simp
 |k+1=>by
  rw[List.range_succ,Z5u,List.flatten_append,Ni l n k];have e:(k+1)*n=k*n+n:=by grind
  have h:l.take (k*n)=(l.take (k*n+n)).take (k*n):=by grind
  simp_all
theorem Z2W(T:ByteArray)(n k:Nat)(h:T.size=k*n):Je (Wo T n k)=T:=by
 have e:((Wo T n k).map (·.data.toList)).flatten=T.data.toList:=by
  unfold Wo;rw[List.map_map];have C:((λs:ByteArray=>s.data.toList)∘λi=>T.extract (i*n) ((i+1)*n))=λi=>(T.data.toList.take ((i+1)*n)).drop (i*n):=by
   funext i
   simp[List.drop_take]
  rw[C,Ni];exact Z5o (by simp_all)
 unfold Je;rw[e]
theorem Z3x(t:ByteArray)(N:Nat)(h:t.size<=N):(Jl t N).extract 0 t.size=t:=by exact ByteArray.extract_append_eq_left rfl
theorem PF(h:1<=k)(hK:k+m<=255):YP k t.size (Zs k m t)=0/\JX k t.size (Zs k m t)=t:=by
 have hc:YP k t.size (Zs k m t)=0:=by rw[FE h (by omega) (by rw[Yi];omega),if_pos (λi hi=>WA k m t h i (by omega))]
 refine⟨hc,?_⟩;unfold JX;rw[if_pos hc];simp;rw[Dq k m t h,Z2W _ _ _ (FM t _ (Af k t.size h)),Z3x t _ (Af k t.size h)]
theorem OC(k m:Nat)(t:ByteArray)(h:1<=k)(C:t.size<=50000)(i:Nat)(hi:i<(Zs k m t).length):((Zs k m t).getD i ⟨#[]⟩).size<=100000:=by rw[Yi] at hi;rw[WA k m t h i hi];have:=DN k t.size h;omega
open Go.RowKit
