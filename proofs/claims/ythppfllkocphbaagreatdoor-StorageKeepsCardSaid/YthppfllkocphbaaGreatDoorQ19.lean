/-
  Part 20 of the proof: lemmas about what the program computes.
-/
import Derived.Test.YthppfllkocphbaaGreatDoorQ36
namespace Go.Proofs.YthppfllkocphbaaGreatDoor
set_option linter.unusedVariables false
set_option linter.unusedSimpArgs false
set_option maxHeartbeats 25600000
set_option maxRecDepth 100000
open Tryz
section
open Go.RowKit Go.Maps Go.WideMaps
variable{b d g half j nm s:Nat}{dir:Dir}{ts:List Value}{uv:Value}{w w' wr:World}
theorem Z17(l:List Bs):ZT (l.map str)=l:=by
 unfold ZT;rw[List.map_map]
 have:((fun s:ByteArray=>s.data.toList)∘str)=id:=by funext x;rfl
 rw[this,List.map_id]
structure RpS(w:World)(s b g d j:Nat)(uv:Value)(half:Nat)(ts:List Value)(dir:Dir)(nm:Nat)(wr:World):Prop where
 row:Row wr s 157 [.pointer (some ⟨d,0,none⟩),.pointer (some ⟨j,0,none⟩),.int .i64 half,.map (some b),uv,.bool false]
 dir:Zy wr b nm dir
 txt:Row wr g 9 ts
 fr:Fr [b] w wr
theorem RpS.after(h:RpS w s b g d j uv half ts dir nm wr)(hb:Below wr.heap.size wr w'):RpS w s b g d j uv half ts dir nm w':=
 ⟨h.row.after hb,h.dir.after hb,h.txt.after hb,h.fr.trans (Fr.of_below (L:=[]) hb) (by simp)⟩
theorem RpS.step{ae:Dir}{af:Nat}(h:RpS w s b g d j uv half ts dir nm wr)(hf:Fr [b] wr w')(hd:Zy w' b af ae)(hs:s∉[b])(hg:g∉[b]):RpS w s b g d j uv half ts ae af w':=
 ⟨h.row.fr hf hs,hd,h.txt.fr hf hg,h.fr.trans hf (fun i hi _=>hi)⟩
def XL(dir:Dir)(its:List (Bs×Option Ent)):Dir:=its.foldl Z24 dir
theorem Z8b(dir:Dir)(ae:List (Bs×Option Ent))(k:Nat)(h:k<ae.length):XL dir (ae.take (k+1))=Z24 (XL dir (ae.take k)) (ae.getD k ([],none)):=by
 unfold XL
 rw[ZjK h,List.foldl_append,ZjE,ZjF h];rfl
def Z0o(its:List (Bs×Option Ent))(k:Nat):Bs:=if k=0 then[] else(its.getD (k-1) ([],none)).1
theorem Zb7(B p d n:Nat)(P:Pw)(D:Dk)(L:List Nat)(s half j b nm:Nat)(uv:Value)(dir:Dir)(ae:List (Bs×Option Ent))(w:World)(h:PD B w p d n P D L)
  (ak:Row w s 157 [.pointer (some ⟨d,0,none⟩),.pointer (some ⟨j,0,none⟩),.int .i64 half,.map (some b),uv,.bool false]) (hd:Zy w b nm dir) (iq:nm<=1000000) (im:1<=ae.length) (h2:2*half<=n)
  (ai:(ae.map (·.1)).Pairwise (·<·)) (bm:∀x∈ae,1<=x.1.length/\x.1.length<=220/\∀e:Ent,x.2=some e->Ent.Ok n half e) (bg:∀x∈ae,x.2≠none) (er:(XL [] ae).Ok n half) (dq:(Zv (W5::ae.map Qk)).length<=60000):
  Calls prog 109 #[.pointer (some ⟨s,0,none⟩),.string (str (Zv (W5::ae.map Qk)))] w fun r w'=>r=.returned (.bool true)/\(∃fc ay,Row w' s 157 [.pointer (some ⟨d,0,none⟩),.pointer (some ⟨j,0,none⟩),.int .i64 half,.map (some b),fc,.bool false]/\Zy w' b ay (XL [] ae)/\JA w' fc (ZV n half (XL [] ae)))/\Fr [s,b] w w':=by
 have hlen:ae.length<=20000:=by
  have:=Yv (W5::ae.map Qk)
  rw[ZF] at dq
  rw[ZjM,ZjN] at this;omega
 have bh:∀x∈ae,(Qk x).length<=60000:=fun x hx=>by
  have:=Z1S (l:=W5::ae.map Qk) (s:=Qk x) (ZjS _ (List.mem_map_of_mem hx))
  rw[ZF] at dq;omega
 obtain⟨ss,cu⟩:∃ss,(W5::ae.map Qk).map str=ss:=⟨_,rfl⟩
 have fq:ss.length=ae.length+1:=by rw[<-cu];simp
 have aq:=fun W=>Z0N (str (Zv (W5::ae.map Qk))) ss W (by rw[Ze,<-cu,Z17]) (by rw[Z5];omega)
 rw[fq] at aq
 obtain⟨T,hT⟩:∃T,str (Zv (W5::ae.map Qk))=T:=⟨_,rfl⟩
 rw[hT] at aq⊢
 obtain⟨fv,m1,m2,m3⟩:=hd
 have ax:∀W,Below w.heap.size w W->∀k e,dir.get k=some e->∃v,fv k=some v/\WF W v e:=fun W hW k e hk=>by
  obtain⟨v,h1,h2⟩:=m3 k e hk
  exact⟨v,h1,h2.fr (Fr.of_below (L:=[]) hW) (by simp)⟩
 have dz:s∉[b]/\∀{g:Nat},w.heap.size<=g->g∉[b]:=⟨fun hm=>by
  rw[ZjD] at hm;subst hm
  obtain⟨es,cl,hb⟩:=m1.block
  exact Y9 ak hb,fun hg hm=>by
  rw[ZjD] at hm;subst hm
  have:=m1.lt;omega⟩
 have au:=Zka dz
 have du:=Zka m1.block
 have H:=Zka h
 have HD:=Zka (Zkb ak (Zkb m1 (Zkb m2 ax)))
 have HI:=Zka (Zkb ai (Zkb bm (Zkb bg er)))
 have fe:=Zka bh
 have HS:=Zka (Zkb cu aq)
 have c2:=ak.cell (j:=3) rfl
 have ft:=ak.lt
 have iu:((ae.length:Int)+1==0)=false:=by simp;omega
 clear h ak m1 m2 m3 ax ai bm bg er cu aq hT dq bh dz
 go_enter func109,ntmps109
 go_wp2_with (first
  |(go_at_call 155;refine(HS.out.2 _).mono ?_;rintro r w1 ⟨a,cap,rfl,aj,b9⟩;obtain⟨g,fh,sp,hv,df,ie,ig,bq⟩:=Qs aj (by omega);simp only[Value.slice.injEq,true_and] at hv;obtain⟨rfl,rfl⟩:=hv;rw[<-HS.out.1] at bq;have c0:=bq.cell (j:=0) (v:=.string ⟨#[97,108,108]⟩) rfl;have S1:=Zka (Zkb bq (Zkb b9 df));have z1:1<=cap:=(by omega);have z3:¬cap=1:=(by omega);have z2:ae.length+1<=cap:=(by omega);have e3:w1.cell? ⟨s,3,none⟩=some (.map (some b)):=(HD.out.1.after b9).cell (j:=3) rfl;obtain⟨w2,bj,ef,cn⟩:=Zhn underlying155 (HD.out.2.1.after b9) 0;have R2:RpS w s b g d j uv half (Z6 ((W5::ae.map Qk).map str)++sp) [] 0 w2:=⟨(HD.out.1.after b9).fr cn au.out.1,⟨_,ef,fun _ _=>rfl,fun k e h=>by cases h⟩,bq.fr cn (au.out.2 df),(Fr.of_below (L:=[b]) b9).trans cn (fun i hi _=>hi)⟩;have dw:=Zka R2;clear ef cn R2;clear aj bq b9 df))
 obtain⟨ts,cw⟩:∃ts,Z6 ((W5::ae.map Qk).map str)++sp=ts:=⟨_,rfl⟩
 have fa:∀k,k<ae.length->ts[k+1]? =some (.string (str (Qk (ae.getD k ([],none))))):=fun k hk=>by
  rw[<-cw,ZjH (by simp[Z6];omega),ZjY,Z6,ZjY,List.getElem?_cons_succ,List.getElem?_map,List.getElem?_map,List.getElem?_map,ZjF hk,ZjE,ZjF hk];rfl
 have ez:ts[0]? =some (.string ⟨#[97,108,108]⟩):=by rw[<-cw];rfl
 rw[cw] at dw
 have fg:=Zka fa
 have fx:=Zka ez
 clear cw fa ez
 go_loopw [7,51] (fun lv kv wr=>∃ (k ay:Nat),k<=ae.length/\kv=.int .i64 k/\lv=.string (str (Z0o ae k))/\ay<=1000000+k/\RpS w s b g d j uv half ts (XL [] (ae.take k)) ay wr) (fun _ kv _=>ae.length- (intOf kv).toNat)
 case atStart=>exact⟨0,_,by omega,rfl,rfl,by omega,dw.out⟩
 case round=>
  obtain⟨k,ay,hk,rfl,rfl,fo,hR⟩:=hrel
  by_cases bf:k<ae.length
  ·obtain⟨x,hx⟩:∃x,ae.getD k ([],none)=x:=⟨_,rfl⟩
   have dt:x∈ae:=by rw[<-hx,ZjE,ZjF bf];exact ZjW bf
   have aw:=hR.txt.cell (fg.out k bf)
   have dr:=Z8b [] ae k bf
   rw[hx] at aw dr
   obtain⟨b1,b2,b3⟩:=HI.out.2.1 x dt
   have fi:=fe.out x dt
   have af:Z0o ae k<x.1:=by
    unfold Z0o
    by_cases h0:k=0
    ·rw[if_pos h0]
     cases fu:x.1 with
     |nil=>rw[fu] at b1;simp at b1
     |cons a r=>exact List.Lex.nil
    ·rw[if_neg h0]
     have:=HI.out.1
     rw[List.pairwise_iff_getElem] at this
     have h9:=this (k-1) k (by simp;omega) (by simpa using bf) (by omega)
     simp only[List.getElem_map] at h9
     have g1:ae.getD (k-1) ([],none)=ae[k-1]:=by rw[ZjE,ZjF (by omega)];rfl
     have g2:ae.getD k ([],none)=ae[k]:=by rw[ZjE,ZjF bf];rfl
     rw[<-hx,g1,g2]
     exact h9
   obtain⟨nx,o⟩:=x
   have de:wr.cell? ⟨g,1+k,none⟩=some (.string (str (Qk (nx,o)))):=by rw[Nat.add_comm];exact aw
   simp only at b1 b2 b3 af
   obtain⟨la,dh⟩:∃la,Z0o ae k=la:=⟨_,rfl⟩
   rw[dh] at af⊢
   have gj:wr.cell? ⟨s,3,none⟩=some (.map (some b)):=hR.row.cell (j:=3) rfl
   have ik:((k+1:Nat):Int)=(k:Int)+1:=by omega
   have HK:=Zka (Zkb hR (Zkb dr (Zkb hx dh)))
   have fw:=hR.fr.size
   clear hR dr hx dh bj
   cases o with
   |none=>exact absurd rfl (HI.out.2.2.1 _ dt)
   |some e=>
    have he:=b3 e rfl
    have ey:=fun W=>Z0N (str (Qk (nx,some e))) [str nx,str e.tail] W (by rw[Ze];rfl) (by rw[Z5];omega)
    have ff:=Zka ey
    have ir:(str nx).size<=220:=by rw[Z5];exact b2
    have l1:Op.bytesLess (str nx).toList (str la).toList=false:=by
     rw[ByteArray.toList_eq,ByteArray.toList_eq,bytesLess_eq]
     exact decide_eq_false (fun h9=>QI _ (JU (show nx<la from h9) af))
    have l2:((str nx).toList==(str la).toList)=false:=Z0y (fun h9=>by have:=Z2R h9;rw[this] at af;exact QI _ af)
    have eo:nx.length<=maxLen:=by unfold maxLen;omega
    clear ey b3 fi
    go_wp2_with (first
     |(go_at_call 155;refine(ff.out _).mono ?_;rintro r w3 ⟨a,cy,rfl,aj,dy⟩;obtain⟨g3,dx,iw,hv,az,fj,ij,bu⟩:=Qs aj (Nat.succ_pos _);simp only[Value.slice.injEq,true_and] at hv;obtain⟨rfl,rfl⟩:=hv;have y0:=bu.cell (j:=0) (v:=.string (str nx)) rfl;have y1:=bu.cell (j:=1) (v:=.string (str e.tail)) rfl;have R3:=HK.out.1.after dy;have gx:w3.cell? ⟨s,3,none⟩=some (.map (some b)):=R3.row.cell (j:=3) rfl;have S3:=Zka (Zkb R3 (Zkb bu az));have q1:2<=cy:=fj;obtain⟨ib,n1,n2,n3⟩:=R3.dir;obtain⟨w4,fm,eh,cr⟩:=Z2G underlying155 n1 nx eo 0;have R4:=R3.step cr (Zy.delW eh n2 (Z0G n1 n3 cr)) au.out.1 (au.out.2 S1.out.2.2);have dm:=bu.fr cr (au.out.2 (Zk1 fw az));have iy:=dm.cell (j:=0) (v:=.string (str nx)) rfl;have iz:=dm.cell (j:=1) (v:=.string (str e.tail)) rfl;have gy:w4.cell? ⟨s,3,none⟩=some (.map (some b)):=R4.row.cell (j:=3) rfl;have S4:=Zka R4;clear eh cr R4 dm n1 n2 n3 aj bu dy az R3)
     |(go_at_call 156;refine(Z8a B p d n P D L s half e _ (H.out.fr S4.out.fr (fun k hk=>by rw[ZjD] at hk;subst hk;obtain⟨es,cl,dc⟩:=du.out;exact H.out.map_ne dc)) (S4.out.row.cell (j:=0) rfl) (S4.out.row.cell (j:=2) rfl) he h2).mono ?_;rintro r w5 ⟨v5,rfl,⟨a5,ah,ag,rfl,bz⟩,hb5⟩;have R5:=S4.out.after hb5;have S5:=Zka (Zkb R5 bz);clear hb5 R5 bz))
    obtain⟨x,hx⟩:∃x,w5.heap.size=x:=⟨_,rfl⟩
    have dp:=Row.new w5 164 [.int .i64 (e.size:Int),.int .u32 (e.sum:Int),.slice a5 ah ag]
    have cz:=(Below.refl w5.heap.size w5).alloc Zk8 (.cells #[.int .i64 (e.size:Int),.int .u32 (e.sum:Int),.slice a5 ah ag] 164)
    have R6:=S5.out.1.after cz
    have E6:=S5.out.2.fr (Fr.of_below (L:=[]) cz) (by simp)
    rw[hx] at dp⊢
    generalize w5.alloc (.cells #[.int .i64 (e.size:Int),.int .u32 (e.sum:Int),.slice a5 ah ag] 164)=w6 at*
    have cj:Below w6.heap.size w6 w6.drew:=Zk9.drew
    have R7:=R6.after cj
    have al:=dp.after cj
    have x0:=al.cell (j:=0) rfl
    have x1:=al.cell (j:=1) rfl
    have x2:=al.cell (j:=2) rfl
    have ia:w6.drew.cell? ⟨s,3,none⟩=some (.map (some b)):=R7.row.cell (j:=3) rfl
    have E7:=E6.fr (Fr.of_below (L:=[]) cj) (by simp)
    obtain⟨ic,n1,n2,n3⟩:=R7.dir
    obtain⟨w8,fp,ek,ct⟩:=Z5e underlying155 n1 (by unfold maxLen;omega) nx eo (.agg #[.int .i64 (e.size:Int),.int .u32 (e.sum:Int),.slice a5 ah ag])
    have E8:WF w8 (.agg #[.int .i64 (e.size:Int),.int .u32 (e.sum:Int),.slice a5 ah ag]) e:=⟨a5,ah,ag,rfl,E7.fr ct (X9 n1)⟩
    have R8:=R7.step ct (Zy.putW ek n2 (Z0G n1 n3 ct) E8) au.out.1 (au.out.2 S1.out.2.2)
    have S8:=Zka R8
    clear R6 E6 R7 dp al E7 n1 n2 n3 ek ct E8 R8 cz cj hx
    go_region
    all_goals go_wp2_with fail
    all_goals go_roundw
    all_goals first
     |exact⟨k+1,ay+1,by omega,by go_num,by unfold Z0o;rw[if_neg (by omega),Nat.add_sub_cancel,HK.out.2.2.1],by omega,by rw[HK.out.2.1];exact S8.out⟩
     |(simp[intOf];omega)
  ·obtain rfl:k=ae.length:=by omega
   rw[Zk5] at hR
   have fy:=hR.row.cell (j:=3) rfl
   have HR:=Zka hR
   have eu:PD B wr p d n P D L:=H.out.fr hR.fr (fun k hk=>by rw[ZjD] at hk;subst hk;obtain⟨es,cl,dc⟩:=du.out;exact H.out.map_ne dc)
   have HP:=Zka eu
   clear hR eu bj
   go_wp2_with (go_at_call 94;refine(Z1b B p d n P D L s half b ay (XL [] ae) _ HP.out (HR.out.row.cell (j:=0) rfl) (HR.out.row.cell (j:=2) rfl) HR.out.dir HI.out.2.2.2 h2).mono ?_;rintro r w9 ⟨ix,rfl,⟨g9,rfl,ew⟩,hb9⟩;have R9:=HR.out.after hb9;have f49:=R9.row.free (j:=4) (by simp);have d49:=R9.row.cell (j:=4) rfl;have S9:=Zka (Zkb R9 ew);clear hb9 R9 ew)
   go_ret
   have dj:s≠g9:=fun e9=>by
    have:=Yf S9.out.1.row (by rw[e9];exact S9.out.2)
    revert this;decide
   have ee:Fr [s] w9 (w9.setCell ⟨s,4,none⟩ (.slice (some ⟨g9,0,none⟩) (ZV n half (XL [] ae)).length (ZV n half (XL [] ae)).length)):=(Fr.refl _ _).setCell (Or.inl (by simp)) _
   refine⟨rfl,⟨_,ay,S9.out.1.row.set 4 _,S9.out.1.dir.fr ee (fun hm=>au.out.1 (by rw[ZjD] at hm⊢;exact hm.symm)) (fun k hk l hl=>by
    rw[ZjD] at hk
    subst hk
    have:=Yf S9.out.1.row hl
    revert this;decide),g9,rfl,S9.out.2.other (fun e9=>dj e9.symm) _⟩,(S9.out.1.fr.mono (fun i hi _=>by simp at hi;simp[hi])).trans ee (fun i hi _=>by simp at hi;simp[hi])⟩
theorem Za2(B p d n:Nat)(P:Pw)(D:Dk)(L:List Nat)(s half j b nm:Nat)(uv:Value)(dir:Dir)(ae:List (Bs×Option Ent))(w:World)(h:PD B w p d n P D L)
  (al:Row w s 157 [.pointer (some ⟨d,0,none⟩),.pointer (some ⟨j,0,none⟩),.int .i64 half,.map (some b),uv,.bool false]) (hd:Zy w b nm dir) (iw:nm<=1000000) (iu:1<=ae.length) (h2:2*half<=n)
  (ak:(ae.map (·.1)).Pairwise (·<·)) (cn:∀x∈ae,1<=x.1.length/\x.1.length<=220/\∀e:Ent,x.2=some e->Ent.Ok n half e) (bq:True) (ez:(XL dir ae).Ok n half) (dy:(Zv (Yj::ae.map Qk)).length<=60000):
  Calls prog 109 #[.pointer (some ⟨s,0,none⟩),.string (str (Zv (Yj::ae.map Qk)))] w fun r w'=>r=.returned (.bool true)/\(∃fh aw,Row w' s 157 [.pointer (some ⟨d,0,none⟩),.pointer (some ⟨j,0,none⟩),.int .i64 half,.map (some b),fh,.bool false]/\Zy w' b aw (XL dir ae)/\JA w' fh (ZV n half (XL dir ae)))/\Fr [s,b] w w':=by
 have hlen:ae.length<=20000:=by
  have:=Yv (Yj::ae.map Qk)
  rw[ZF] at dy
  rw[ZjM,ZjN] at this;omega
 have bz:∀x∈ae,(Qk x).length<=60000:=fun x hx=>by
  have:=Z1S (l:=Yj::ae.map Qk) (s:=Qk x) (ZjS _ (List.mem_map_of_mem hx))
  rw[ZF] at dy;omega
 obtain⟨ss,de⟩:∃ss,(Yj::ae.map Qk).map str=ss:=⟨_,rfl⟩
 have fx:ss.length=ae.length+1:=by rw[<-de];simp
 have au:=fun W=>Z0N (str (Zv (Yj::ae.map Qk))) ss W (by rw[Ze,<-de,Z17]) (by rw[Z5];omega)
 rw[fx] at au
 obtain⟨T,hT⟩:∃T,str (Zv (Yj::ae.map Qk))=T:=⟨_,rfl⟩
 rw[hT] at au⊢
 obtain⟨fv,m1,m2,m3⟩:=hd
 have az:∀W,Below w.heap.size w W->∀k e,dir.get k=some e->∃v,fv k=some v/\WF W v e:=fun W hW k e hk=>by
  obtain⟨v,h1,h2⟩:=m3 k e hk
  exact⟨v,h1,h2.fr (Fr.of_below (L:=[]) hW) (by simp)⟩
 have eo:s∉[b]/\∀{g:Nat},w.heap.size<=g->g∉[b]:=⟨fun hm=>by
  rw[ZjD] at hm;subst hm
  obtain⟨es,cl,hb⟩:=m1.block
  exact Y9 al hb,fun hg hm=>by
  rw[ZjD] at hm;subst hm
  have:=m1.lt;omega⟩
 have ax:=Zka eo
 have ee:=Zka m1.block
 have H:=Zka h
 have HD:=Zka (Zkb al (Zkb m1 (Zkb m2 az)))
 have HI:=Zka (Zkb ak (Zkb cn (Zkb bq ez)))
 have fi:=Zka bz
 have HS:=Zka (Zkb de au)
 have c2:=al.cell (j:=3) rfl
 have fy:=al.lt
 have ix:((ae.length:Int)+1==0)=false:=by simp;omega
 clear h al m1 m2 m3 az ak cn bq ez de au hT dy bz eo
 go_enter func109,ntmps109
 go_wp2_with (first
  |(go_at_call 155;refine(HS.out.2 _).mono ?_;rintro r w1 ⟨a,cap,rfl,ag,bh⟩;obtain⟨g,fm,sp,hv,ew,im,iq,ct⟩:=Qs ag (by omega);simp only[Value.slice.injEq,true_and] at hv;obtain⟨rfl,rfl⟩:=hv;rw[<-HS.out.1] at ct;have c0:=ct.cell (j:=0) (v:=.string ⟨#[115,111,109,101]⟩) rfl;have S1:=Zka (Zkb ct (Zkb bh ew));have z1:1<=cap:=(by omega);have z3:¬cap=1:=(by omega);have z2:ae.length+1<=cap:=(by omega);have e3:w1.cell? ⟨s,3,none⟩=some (.map (some b)):=(HD.out.1.after bh).cell (j:=3) rfl;have cj:=True.intro;have R2:RpS w s b g d j uv half (Z6 ((Yj::ae.map Qk).map str)++sp) dir nm w1:=⟨HD.out.1.after bh,⟨fv,HD.out.2.1.after bh,HD.out.2.2.1,HD.out.2.2.2 _ bh⟩,ct,Fr.of_below bh⟩;have ef:=Zka R2;clear R2;clear ag ct bh ew))
 obtain⟨ts,df⟩:∃ts,Z6 ((Yj::ae.map Qk).map str)++sp=ts:=⟨_,rfl⟩
 have ff:∀k,k<ae.length->ts[k+1]? =some (.string (str (Qk (ae.getD k ([],none))))):=fun k hk=>by
  rw[<-df,ZjH (by simp[Z6];omega),ZjY,Z6,ZjY,List.getElem?_cons_succ,List.getElem?_map,List.getElem?_map,List.getElem?_map,ZjF hk,ZjE,ZjF hk];rfl
 have fe:ts[0]? =some (.string ⟨#[115,111,109,101]⟩):=by rw[<-df];rfl
 rw[df] at ef
 have fj:=Zka ff
 have eh:=Zka fe
 clear df ff fe
 go_loopw [7,51] (fun lv kv wr=>∃ (k aw:Nat),k<=ae.length/\kv=.int .i64 k/\lv=.string (str (Z0o ae k))/\aw<=1000000+k/\RpS w s b g d j uv half ts (XL dir (ae.take k)) aw wr) (fun _ kv _=>ae.length- (intOf kv).toNat)
 case atStart=>exact⟨0,_,by omega,rfl,rfl,by omega,ef.out⟩
 case round=>
  obtain⟨k,aw,hk,rfl,rfl,ft,hR⟩:=hrel
  by_cases bj:k<ae.length
  ·obtain⟨x,hx⟩:∃x,ae.getD k ([],none)=x:=⟨_,rfl⟩
   have fg:x∈ae:=by rw[<-hx,ZjE,ZjF bj];exact ZjW bj
   have ay:=hR.txt.cell (fj.out k bj)
   have dz:=Z8b dir ae k bj
   rw[hx] at ay dz
   obtain⟨b1,b2,b3⟩:=HI.out.2.1 x fg
   have er:=fi.out x fg
   have af:Z0o ae k<x.1:=by
    unfold Z0o
    by_cases h0:k=0
    ·rw[if_pos h0]
     cases gj:x.1 with
     |nil=>rw[gj] at b1;simp at b1
     |cons a r=>exact List.Lex.nil
    ·rw[if_neg h0]
     have:=HI.out.1
     rw[List.pairwise_iff_getElem] at this
     have h9:=this (k-1) k (by simp;omega) (by simpa using bj) (by omega)
     simp only[List.getElem_map] at h9
     have g1:ae.getD (k-1) ([],none)=ae[k-1]:=by rw[ZjE,ZjF (by omega)];rfl
     have g2:ae.getD k ([],none)=ae[k]:=by rw[ZjE,ZjF bj];rfl
     rw[<-hx,g1,g2]
     exact h9
   obtain⟨nx,o⟩:=x
   have dp:wr.cell? ⟨g,1+k,none⟩=some (.string (str (Qk (nx,o)))):=by rw[Nat.add_comm];exact ay
   simp only at b1 b2 b3 af
   obtain⟨la,dt⟩:∃la,Z0o ae k=la:=⟨_,rfl⟩
   rw[dt] at af⊢
   have ie:wr.cell? ⟨s,3,none⟩=some (.map (some b)):=hR.row.cell (j:=3) rfl
   have ir:((k+1:Nat):Int)=(k:Int)+1:=by omega
   have HK:=Zka (Zkb hR (Zkb dz (Zkb hx dt)))
   have gx:=hR.fr.size
   clear hR dz hx dt cj
   cases o with
   |none=>
    have cw:=fun W=>Z0N (str (Qk (nx,none))) [str nx] W (by rw[Ze];rfl) (by rw[Z5];omega)
    have dh:=Zka cw
    have fu:(str nx).size<=220:=by rw[Z5];exact b2
    have l1:Op.bytesLess (str nx).toList (str la).toList=false:=by
     rw[ByteArray.toList_eq,ByteArray.toList_eq,bytesLess_eq]
     exact decide_eq_false (fun h9=>QI _ (JU (show nx<la from h9) af))
    have l2:((str nx).toList==(str la).toList)=false:=Z0y (fun h9=>by have:=Z2R h9;rw[this] at af;exact QI _ af)
    have dc:nx.length<=maxLen:=by unfold maxLen;omega
    clear cw b3 er
    have ek:wr.cell? ⟨g,0,none⟩=some (.string ⟨#[115,111,109,101]⟩):=HK.out.1.txt.cell eh.out
    have ia:=Zka ek
    clear ek
    go_wp2_with (go_at_call 155;refine(dh.out _).mono ?_;rintro r w3 ⟨a,bg,rfl,ag,bu⟩;obtain⟨g3,bm,gy,hv,aj,dq,fq,bf⟩:=Qs ag (Nat.succ_pos _);simp only[Value.slice.injEq,true_and] at hv;obtain⟨rfl,rfl⟩:=hv;have y0:=bf.cell (j:=0) (v:=.string (str nx)) rfl;have R3:=HK.out.1.after bu;have ic:w3.cell? ⟨g,0,none⟩=some (.string ⟨#[115,111,109,101]⟩):=R3.txt.cell eh.out;have fo:w3.cell? ⟨s,3,none⟩=some (.map (some b)):=R3.row.cell (j:=3) rfl;have q1:1<=bg:=dq;obtain⟨fp,n1,n2,n3⟩:=R3.dir;obtain⟨w4,dr,cr,b9⟩:=Z2G underlying155 n1 nx dc 0;have R4:=R3.step b9 (Zy.delW cr n2 (Z0G n1 n3 b9)) ax.out.1 (ax.out.2 S1.out.2.2);have S4:=Zka R4;clear cr b9 R4 n1 n2 n3 ag bf bu aj R3)
    go_roundw
    all_goals first
     |exact⟨k+1,aw,by omega,by go_num,by unfold Z0o;rw[if_neg (by omega),Nat.add_sub_cancel,HK.out.2.2.1],by omega,by rw[HK.out.2.1];exact S4.out⟩
     |(simp[intOf];omega)
   |some e=>
    have he:=b3 e rfl
    have cw:=fun W=>Z0N (str (Qk (nx,some e))) [str nx,str e.tail] W (by rw[Ze];rfl) (by rw[Z5];omega)
    have dh:=Zka cw
    have fu:(str nx).size<=220:=by rw[Z5];exact b2
    have l1:Op.bytesLess (str nx).toList (str la).toList=false:=by
     rw[ByteArray.toList_eq,ByteArray.toList_eq,bytesLess_eq]
     exact decide_eq_false (fun h9=>QI _ (JU (show nx<la from h9) af))
    have l2:((str nx).toList==(str la).toList)=false:=Z0y (fun h9=>by have:=Z2R h9;rw[this] at af;exact QI _ af)
    have dc:nx.length<=maxLen:=by unfold maxLen;omega
    clear cw b3 er
    go_wp2_with (first
     |(go_at_call 155;refine(dh.out _).mono ?_;rintro r w3 ⟨a,bg,rfl,ag,bu⟩;obtain⟨g3,bm,gy,hv,aj,dq,fq,bf⟩:=Qs ag (Nat.succ_pos _);simp only[Value.slice.injEq,true_and] at hv;obtain⟨rfl,rfl⟩:=hv;have y0:=bf.cell (j:=0) (v:=.string (str nx)) rfl;have y1:=bf.cell (j:=1) (v:=.string (str e.tail)) rfl;have R3:=HK.out.1.after bu;have fo:w3.cell? ⟨s,3,none⟩=some (.map (some b)):=R3.row.cell (j:=3) rfl;have S3:=Zka (Zkb R3 (Zkb bf aj));have q1:2<=bg:=dq;obtain⟨fp,n1,n2,n3⟩:=R3.dir;obtain⟨w4,dr,cr,b9⟩:=Z2G underlying155 n1 nx dc 0;have R4:=R3.step b9 (Zy.delW cr n2 (Z0G n1 n3 b9)) ax.out.1 (ax.out.2 S1.out.2.2);have dw:=bf.fr b9 (ax.out.2 (Zk1 gx aj));have iz:=dw.cell (j:=0) (v:=.string (str nx)) rfl;have j7:=dw.cell (j:=1) (v:=.string (str e.tail)) rfl;have ig:w4.cell? ⟨s,3,none⟩=some (.map (some b)):=R4.row.cell (j:=3) rfl;have S4:=Zka R4;clear cr b9 R4 dw n1 n2 n3 ag bf bu aj R3)
     |(go_at_call 156;refine(Z8a B p d n P D L s half e _ (H.out.fr S4.out.fr (fun k hk=>by rw[ZjD] at hk;subst hk;obtain⟨es,cl,dm⟩:=ee.out;exact H.out.map_ne dm)) (S4.out.row.cell (j:=0) rfl) (S4.out.row.cell (j:=2) rfl) he h2).mono ?_;rintro r w5 ⟨v5,rfl,⟨a5,ai,ah,rfl,cu⟩,hb5⟩;have R5:=S4.out.after hb5;have S5:=Zka (Zkb R5 cu);clear hb5 R5 cu))
    obtain⟨x,hx⟩:∃x,w5.heap.size=x:=⟨_,rfl⟩
    have dx:=Row.new w5 164 [.int .i64 (e.size:Int),.int .u32 (e.sum:Int),.slice a5 ai ah]
    have dj:=(Below.refl w5.heap.size w5).alloc Zk8 (.cells #[.int .i64 (e.size:Int),.int .u32 (e.sum:Int),.slice a5 ai ah] 164)
    have R6:=S5.out.1.after dj
    have E6:=S5.out.2.fr (Fr.of_below (L:=[]) dj) (by simp)
    rw[hx] at dx⊢
    generalize w5.alloc (.cells #[.int .i64 (e.size:Int),.int .u32 (e.sum:Int),.slice a5 ai ah] 164)=w6 at*
    have cy:Below w6.heap.size w6 w6.drew:=Zk9.drew
    have R7:=R6.after cy
    have aq:=dx.after cy
    have x0:=aq.cell (j:=0) rfl
    have x1:=aq.cell (j:=1) rfl
    have x2:=aq.cell (j:=2) rfl
    have ij:w6.drew.cell? ⟨s,3,none⟩=some (.map (some b)):=R7.row.cell (j:=3) rfl
    have E7:=E6.fr (Fr.of_below (L:=[]) cy) (by simp)
    obtain⟨ik,n1,n2,n3⟩:=R7.dir
    obtain⟨w8,fw,ey,cz⟩:=Z5e underlying155 n1 (by unfold maxLen;omega) nx dc (.agg #[.int .i64 (e.size:Int),.int .u32 (e.sum:Int),.slice a5 ai ah])
    have E8:WF w8 (.agg #[.int .i64 (e.size:Int),.int .u32 (e.sum:Int),.slice a5 ai ah]) e:=⟨a5,ai,ah,rfl,E7.fr cz (X9 n1)⟩
    have R8:=R7.step cz (Zy.putW ey n2 (Z0G n1 n3 cz) E8) ax.out.1 (ax.out.2 S1.out.2.2)
    have S8:=Zka R8
    clear R6 E6 R7 dx aq E7 n1 n2 n3 ey cz E8 R8 dj cy hx
    go_region
    all_goals go_wp2_with fail
    all_goals go_roundw
    all_goals first
     |exact⟨k+1,aw+1,by omega,by go_num,by unfold Z0o;rw[if_neg (by omega),Nat.add_sub_cancel,HK.out.2.2.1],by omega,by rw[HK.out.2.1];exact S8.out⟩
     |(simp[intOf];omega)
  ·obtain rfl:k=ae.length:=by omega
   rw[Zk5] at hR
   have ib:=hR.row.cell (j:=3) rfl
   have HR:=Zka hR
   have fa:PD B wr p d n P D L:=H.out.fr hR.fr (fun k hk=>by rw[ZjD] at hk;subst hk;obtain⟨es,cl,dm⟩:=ee.out;exact H.out.map_ne dm)
   have HP:=Zka fa
   clear hR fa cj
   go_wp2_with (go_at_call 94;refine(Z1b B p d n P D L s half b aw (XL dir ae) _ HP.out (HR.out.row.cell (j:=0) rfl) (HR.out.row.cell (j:=2) rfl) HR.out.dir HI.out.2.2.2 h2).mono ?_;rintro r w9 ⟨iy,rfl,⟨g9,rfl,fc⟩,hb9⟩;have R9:=HR.out.after hb9;have f49:=R9.row.free (j:=4) (by simp);have d49:=R9.row.cell (j:=4) rfl;have S9:=Zka (Zkb R9 fc);clear hb9 R9 fc)
   go_ret
   have du:s≠g9:=fun e9=>by
    have:=Yf S9.out.1.row (by rw[e9];exact S9.out.2)
    revert this;decide
   have eu:Fr [s] w9 (w9.setCell ⟨s,4,none⟩ (.slice (some ⟨g9,0,none⟩) (ZV n half (XL dir ae)).length (ZV n half (XL dir ae)).length)):=(Fr.refl _ _).setCell (Or.inl (by simp)) _
   refine⟨rfl,⟨_,aw,S9.out.1.row.set 4 _,S9.out.1.dir.fr eu (fun hm=>ax.out.1 (by rw[ZjD] at hm⊢;exact hm.symm)) (fun k hk l hl=>by
    rw[ZjD] at hk
    subst hk
    have:=Yf S9.out.1.row hl
    revert this;decide),g9,rfl,S9.out.2.other (fun e9=>du e9.symm) _⟩,(S9.out.1.fr.mono (fun i hi _=>by simp at hi;simp[hi])).trans eu (fun i hi _=>by simp at hi;simp[hi])⟩
end
section
open Go.RowKit Go.Maps Go.WideMaps
def Z1D(B:Nat)(w:World)(s d:Nat)(S:Sto):Prop:=B<=s/\∃j b uv,B<=j/\Row w s 157 [.pointer (some ⟨d,0,none⟩),.pointer (some ⟨j,0,none⟩),.int .i64 S.half,.map (some b),uv,.bool false]/\JAt w j d S.j/\Zy w b S.dir.length S.dir/\JA w uv S.used
theorem PD.no_ext{B:Nat}{w:World}{p d n:Nat}{P:Pw}{D:Dk}{L:List Nat}(h:PD B w p d n P D L):∀k,k∈p::L->∀l,¬Row w k 197 l:=fun k hk l hl=>h.row_ne hl (by decide) (by decide) (by decide) (by decide) hk
def Sto.first:Sto:=⟨800,100,Jn.first 100,[],ZV 800 100 []⟩
theorem Z62:Dir.Ok 800 100 []:=⟨List.Pairwise.nil,by simp,by simp,List.nodup_nil⟩
structure ZbL(B p d:Nat)(L:List Nat)(P:Pw)(D:Dk)(w:World)(sv ev:Value)(w':World):Prop where
 err:Zu w' w.heap.size (Z2 (Jn.format 100) P D).1 ev
 ran:Ran B p d 800 L [] (Jn.format 100) P D w w'
 sto:(Z2 (Jn.format 100) P D).1=0->∃s,sv=.pointer (some ⟨s,0,none⟩)/\w.heap.size<=s/\Z1D w.heap.size w' s d Sto.first
 none_:(Z2 (Jn.format 100) P D).1≠0->sv=.pointer none
theorem Z5L(B p d:Nat)(P:Pw)(D:Dk)(L:List Nat)(w:World)(h:PD B w p d 800 P D L)(hB:B<=w.heap.size)(ht:Ty w)(hg:0<B)(b9:D.wait.length<=100000):
  Calls prog 101 #[.pointer (some ⟨d,0,none⟩)] w fun e w'=>∃sv ev,e=.returned (.tuple #[sv,ev])/\ZbL B p d L P D w sv ev w':=by
 have H:=Zka (Zkb h (Zkb hB (Zkb ht hg)))
 clear h hB ht hg
 go_enter func101,ntmps101
 go_wp2_with fail
 refine(Z1u B p d P D L w H.out.1).mono ?_
 rintro e w1 ⟨s,b,rfl,ax,bq,cu,cz,ai⟩
 have cn:=H.out.1.after ai
 have ak:Ty w1:=H.out.2.2.1.below ai
 have df:=ai.size
 have c2:=ax.cell (j:=2) rfl
 have f1:=ax.free (j:=1) (by simp)
 have S1:=Zka (Zkb ax (Zkb bq (Zkb cn (Zkb ak (Zkb cu ai)))))
 clear ax bq cn ak cu ai
 have bg:=ZaN B p d 800 P D L 100 w1 S1.out.2.2.1 (Zk1 H.out.2.1 df) S1.out.2.2.2.1 H.out.2.2.2 (by omega) (by omega) b9
 rw[show((2*100:Nat):Int)=200 from rfl] at bg
 have cw:=Zka bg
 clear bg
 go_wp2_with fail
 refine cw.out.mono ?_
 rintro e w2 ⟨jv,ev,rfl,hF⟩
 have dc:∃L2,Did B p d 800 L [] (Z2 (Jn.format 100) P D).2.1 (Z2 (Jn.format 100) P D).2.2 w1 w2 L2:=hF.ran
 obtain⟨L2,ae⟩:=dc
 have ag:Row w2 s 157 [.pointer (some ⟨d,0,none⟩),.pointer none,.int .i64 100,.map (some b),.slice none 0 0,.bool false]:=ae.row S1.out.2.2.1 S1.out.1 (by simp) (by decide) (by decide) (by decide) (by decide)
 have f12:=ag.free (j:=1) (by simp)
 have dj:=ag.cell (j:=1) rfl
 have cy:=ag.cell (j:=3) rfl
 have af:s∉p::L2:=ae.pd.row_ne ag (by decide) (by decide) (by decide) (by decide)
 have aq:Zy w2 b 0 []:=S1.out.2.1.fr ae.fr (by
  obtain⟨fv,m1,_⟩:=S1.out.2.1
  obtain⟨es,cl,hb⟩:=m1.block
  simpa using S1.out.2.2.1.map_ne hb) (by simpa using S1.out.2.2.1.no_ext)
 rcases hF.err.split with ⟨hc,rfl⟩|⟨hc,be,rfl⟩
 case inr=>
  obtain rfl:=hF.none_ hc
  have al:Ty (w2.setCell ⟨s,1,none⟩ (.pointer none)):=(Ty.did S1.out.2.2.2.1 ae H.out.2.2.2 S1.out.2.2.1.bp S1.out.2.2.1.bL (by simp)).set (by have:=Ty.lt H.out.2.2.1;have:=S1.out.2.2.2.2.1;simp;omega) _
  have hE:Zu (w2.setCell ⟨s,1,none⟩ (.pointer none)) w1.heap.size (Z2 (Jn.format 100) P D).1 (.iface 139 (.pointer (some ⟨be,0,none⟩))):=hF.err.fr ((Fr.refl [s] w2).setCell (Or.inl (by simp)) _) (fun k hk=>by rw[ZjD] at hk;subst hk;exact S1.out.1.lt)
  have HZ:=Zka (Zkb hF (Zkb ae (Zkb hc (Zkb hE af))))
  clear hF ae hc hE ag af aq cy
  go_wp2_with fail
  refine(Z1z _ _ _ _ HZ.out.2.2.2.1 al).mono ?_
  rintro e w3 ⟨v3,rfl,bu,bm⟩
  have H3:=Zka (Zkb bu bm)
  have dh:=HZ.out.2.1.fr.size
  clear bu bm al
  go_wp2
  go_ret2
  refine⟨_,_,rfl,H3.out.1.base (by have:(w2.setCell ⟨s,1,none⟩ (.pointer none)).heap.size=w2.heap.size:=by simp[World.setCell]
                                   omega),?_,fun h0=>absurd h0 HZ.out.2.2.1,fun _=>rfl⟩
  have au:Did B p d 800 L [] (Z2 (Jn.format 100) P D).2.1 (Z2 (Jn.format 100) P D).2.2 w w2 L2:=HZ.out.2.1.from S1.out.2.2.2.2.2
  exact⟨L2,(au.frame (Y:=[s]) ((Fr.refl _ _).setCell (Or.inl (by simp)) _) (by simpa using HZ.out.2.2.2.2) (by simp;exact S1.out.2.2.2.2.1)).after H3.out.2⟩
 obtain⟨j,rfl,bz,bf⟩:=hF.jn hc
 obtain⟨w3,ay⟩:∃w3,w3=w2.setCell ⟨s,1,none⟩ (.pointer (some ⟨j,0,none⟩)):=⟨_,rfl⟩
 have aj:Fr [s] w2 w3:=by rw[ay];exact(Fr.refl _ _).setCell (Or.inl (by simp)) _
 have cr:PD B w3 p d 800 _ _ L2:=ae.pd.fr aj (fun k hk=>by rw[ZjD] at hk;subst hk;exact af)
 have bh:Row w3 s 157 [.pointer (some ⟨d,0,none⟩),.pointer (some ⟨j,0,none⟩),.int .i64 100,.map (some b),.slice none 0 0,.bool false]:=by rw[ay];exact ag.set 1 _
 have cj:JAt w3 j d (Jn.first 100):=Row.fr bf aj (fun hm=>by
  rw[ZjD] at hm
  have:=Yf bf (by rw[hm];exact ag)
  revert this;decide)
 have au:Zy w3 b 0 []:=aq.fr aj (fun hm=>by
  rw[ZjD] at hm
  obtain⟨fv,m1,_⟩:=aq
  obtain⟨es,cl,hb⟩:=m1.block
  subst hm
  exact Y9 ag hb) (fun k hk l hl=>by
  rw[ZjD] at hk
  subst hk
  have:=Yf ag hl
  revert this;decide)
 have dm:=bh.cell (j:=3) rfl
 have dp:w3.heap.size=w2.heap.size:=by rw[ay];simp[World.setCell]
 have ah:Did B p d 800 L [] (Z2 (Jn.format 100) P D).2.1 (Z2 (Jn.format 100) P D).2.2 w w3 L2:=(ae.from S1.out.2.2.2.2.2).frame (Y:=[s]) aj (by simpa using af) (by simp;exact S1.out.2.2.2.2.1)
 have S3:=Zka (Zkb cr (Zkb bh (Zkb cj (Zkb au (Zkb ah (Zkb hc bz))))))
 have dh:=ae.fr.size
 have HW:=Zka ay
 clear cr bh cj au ah hc bz bf hF ae ag aq aj af
 go_wp2_with (go_at_call 94;rw[<-HW.out];refine(Z1b B p d 800 _ _ L2 s 100 b 0 [] _ S3.out.1 (S3.out.2.1.cell (j:=0) rfl) (S3.out.2.1.cell (j:=2) rfl) S3.out.2.2.2.1 Z62 (by omega)).mono ?_;rintro r w9 ⟨dq,rfl,⟨g9,rfl,ct⟩,az⟩;have R9:=S3.out.2.1.after az;have f49:=R9.free (j:=4) (by simp);have d49:=R9.cell (j:=4) rfl;have S9:=Zka (Zkb R9 (Zkb ct az));clear az R9 ct)
 go_ret2
 have aw:Fr [s] w9 (w9.setCell ⟨s,4,none⟩ (.slice (some ⟨g9,0,none⟩) (ZV 800 100 []).length (ZV 800 100 []).length)):=(Fr.refl _ _).setCell (Or.inl (by simp)) _
 have bj:∀{g:Nat} {et:TypeId} {l:List Value},et≠157->Row w9 g et l->g∉[s]:=fun het hl hm=>by
  rw[ZjD] at hm
  subst hm
  exact het (Yf hl S9.out.1)
 have de:PD B w9 p d 800 _ _ L2:=S3.out.1.after S9.out.2.2
 refine⟨_,_,rfl,by rw[S3.out.2.2.2.2.2.1];exact Zu.nil _ _,⟨L2,(S3.out.2.2.2.2.1.after S9.out.2.2).frame (Y:=[s]) aw (fun k hk=>by rw[ZjD] at hk;subst hk;exact de.row_ne S9.out.1 (by decide) (by decide) (by decide) (by decide)) (by simp;exact S1.out.2.2.2.2.1)⟩,fun _=>⟨s,rfl,S1.out.2.2.2.2.1,S1.out.2.2.2.2.1,j,b,_,?_,S9.out.1.set 4 _,?_,?_,g9,rfl,?_⟩,fun h0=>absurd S3.out.2.2.2.2.2.1 h0⟩
 ·have:=S3.out.2.2.2.2.2.2;omega
 ·exact Row.fr (S3.out.2.2.1.after S9.out.2.2) aw (bj (by decide) (S3.out.2.2.1.after S9.out.2.2))
 ·refine(S3.out.2.2.2.1.after S9.out.2.2).fr aw (fun hm=> ?_) (fun k hk l hl=>bj (by decide) hl hk)
  rw[ZjD] at hm
  obtain⟨fv,m1,_⟩:=S3.out.2.2.2.1.after S9.out.2.2
  obtain⟨es,cl,hb⟩:=m1.block
  subst hm
  exact Y9 S9.out.1 hb
 ·exact S9.out.2.1.fr aw (bj (by decide) S9.out.2.1)
end
section
open Go.RowKit Go.Maps Go.WideMaps
variable{acts:List Ac}{b ca db fb ga n n1 n1' n2 n2' na oa q x:Nat}{bx:List Value}{d d':Dir}{f f':Z1}{us:Value}{w w' wr:World}
def Z0f(w:World)(ga oa:Nat)(acts:List Ac):Prop:=ga<w.heap.size/\∀k,k<acts.length->w.cell? ⟨ga,oa+k*4,none⟩=some (.int .i64 ((acts.getD k ⟨0,[],[],[]⟩).kind:Int))/\w.cell? ⟨ga,oa+k*4+1,none⟩=some (.string (str (acts.getD k ⟨0,[],[],[]⟩).name))/\
 w.cell? ⟨ga,oa+k*4+2,none⟩=some (.string (str (acts.getD k ⟨0,[],[],[]⟩).to))/\w.cell? ⟨ga,oa+k*4+3,none⟩=some (.string (str (acts.getD k ⟨0,[],[],[]⟩).value))
theorem Z0f.fr{L:List Nat}(h:Z0f w ga oa acts)(hf:Fr L w w')(hL:ga∉L):Z0f w' ga oa acts:=by
 have hb:=hf.block ga h.1 hL
 have hc:∀i,w'.cell? ⟨ga,i,none⟩=w.cell? ⟨ga,i,none⟩:=fun i=>World.cell?_of_block (a:=⟨ga,i,none⟩) hb
 refine⟨Zk0 h.1 hf.size,fun k hk=> ?_⟩
 rw[hc,hc,hc,hc];exact h.2 k hk
theorem Z0f.after(h:Z0f w ga oa acts)(hb:Below w.heap.size w w'):Z0f w' ga oa acts:=h.fr (Fr.of_below (L:=[]) hb) (by simp)
def QA(f:Z1):Bs->Option Value:=fun m=>(f.by m).map fun k=>.int .i64 (k:Int)
structure PlA(w:World)(q db fb ga oa na ca:Nat)(us:Value)(acts:List Ac)(d:Dir)(f:Z1)(n1 n2:Nat):Prop where
 row:Row w q 167 [.map (some db),.map (some fb),.slice (some ⟨ga,oa,none⟩) na ca,us]
 dir:Zy w db n1 d
 fsh:Zz w fb n2 (QA f)
 ard:Z0f w ga oa acts
 many:na=acts.length
 ne:db≠fb
 nag:ga≠db/\ga≠fb
theorem PlA.after(h:PlA w q db fb ga oa na ca us acts d f n1 n2)(hb:Below w.heap.size w w'):PlA w' q db fb ga oa na ca us acts d f n1 n2:=
 ⟨h.row.after hb,h.dir.after hb,h.fsh.after hb,h.ard.after hb,h.many,h.ne,h.nag⟩
theorem Zct(f:Z1)(n:Bs):(fun m=>if m=n then none else QA f m)=QA (f.del n):=by
 funext m
 unfold QA
 rw[Z1.by_del]
 split<;>rfl
theorem Zcu(f:Z1)(n:Bs)(k:Nat):(fun m=>if m=n then some (.int .i64 (k:Int)) else QA (f.del n) m)=QA (f.del n++[(n,k)]):=by
 funext m
 unfold QA
 rw[Z1.by_append,Z1.by_del]
 by_cases h:m=n
 ·rw[if_pos h,if_pos h];simp[Z1.by,h]
 ·rw[if_neg h,if_neg h]
  cases hb:f.by m with
  |some x=>rfl
  |none=>simp[Z1.by,Ne.symm h]
theorem Ww{g:Nat}{et:TypeId}{l:List Value}{f:Bs->Option Value}(hr:Row w g et l)(h:Zz w b n f):g∉[b]:=fun hm=>by
 rw[ZjD] at hm
 subst hm
 obtain⟨es,cl,hb⟩:=h.block
 exact Y9 hr hb
theorem PlA.dirTo(h:PlA w q db fb ga oa na ca us acts d f n1 n2)(hf:Fr [db] w w')(hd:Zy w' db n1' d'):PlA w' q db fb ga oa na ca us acts d' f n1' n2:=by
 obtain⟨fv,m1,_⟩:=h.dir
 exact⟨h.row.fr hf (Ww h.row m1),hd,h.fsh.fr hf (by simp;exact fun e=>h.ne e.symm),h.ard.fr hf (by simp;exact h.nag.1),h.many,h.ne,h.nag⟩
theorem PlA.freshTo(h:PlA w q db fb ga oa na ca us acts d f n1 n2)(hf:Fr [fb] w w')(hd:Zz w' fb n2' (QA f')):PlA w' q db fb ga oa na ca us acts d f' n1 n2':=
 ⟨h.row.fr hf (Ww h.row h.fsh),h.dir.fr hf (by simp;exact h.ne) (X9 h.fsh),hd,h.ard.fr hf (by simp;exact h.nag.2),h.many,h.ne,h.nag⟩
theorem Z77(h:Zy w b n d)(k:Bs)(hk:k.length<=maxLen)(ty:TypeId):∃w',(Builtin.delete_ #[155,9] ty #[.map (some b),.string (str k)]).run prog w=.ok (.tuple #[]) w'/\Zy w' b n (d.del k)/\Fr [b] w w':=by
 obtain⟨fv,m1,m2,m3⟩:=h
 obtain⟨w',r1,r2,r3⟩:=Z2G underlying155 m1 k hk ty
 exact⟨w',r1,Zy.delW r2 m2 (Z0G m1 m3 r3),r3⟩
theorem Z78(h:Zy w b n d)(hn:n<maxLen)(k:Bs)(hk:k.length<=maxLen)(v:Value)(e:Ent)(he:WF w v e):∃w',(Instr.mapUpdate 155 (.map (some b)) (.string (str k)) v).run prog w=.ok () w'/\Zy w' b (n+1) (d.put k e)/\Fr [b] w w':=by
 obtain⟨fv,m1,m2,m3⟩:=h
 obtain⟨w',r1,r2,r3⟩:=Z5e underlying155 m1 hn k hk v
 exact⟨w',r1,Zy.putW r2 m2 (Z0G m1 m3 r3) (he.fr r3 (X9 m1)),r3⟩
theorem Z2d(h:Zz w b n (QA f))(k:Bs)(hk:k.length<=maxLen)(ty:TypeId):∃w',(Builtin.delete_ #[165,9] ty #[.map (some b),.string (str k)]).run prog w=.ok (.tuple #[]) w'/\Zz w' b n (QA (f.del k))/\Fr [b] w w':=by
 obtain⟨w',r1,r2,r3⟩:=Z2G underlying165 h k hk ty
 exact⟨w',r1,by rw[Zct] at r2;exact r2,r3⟩
theorem Ze2{k:Bs}(h:Zz w b n (QA (f.del k)))(hn:n<maxLen)(hk:k.length<=maxLen)(i:Nat):∃w',(Instr.mapUpdate 165 (.map (some b)) (.string (str k)) (.int .i64 (i:Int))).run prog w=.ok () w'/\Zz w' b (n+1) (QA (f.del k++[(k,i)]))/\Fr [b] w w':=by
 obtain⟨w',r1,r2,r3⟩:=Z5e underlying165 h hn k hk (.int .i64 (i:Int))
 exact⟨w',r1,by rw[Zcu] at r2;exact r2,r3⟩
theorem Z1N(h:Zy w b n d)(k:Bs)(hk:k.length<=maxLen):∃ (sz sm:Int) (a:Option Addr) (l c:Nat),(∀W,Below w.heap.size w W->(Instr.lookup 155 (.map (some b)) (.string (str k)) true).run prog W=.ok (.tuple #[.agg #[.int .i64 sz,.int .u32 sm,.slice a l c],.bool (d.get k).isSome]) W)/\
  (∀W,Below w.heap.size w W->(Instr.lookup 155 (.map (some b)) (.string (str k)) false).run prog W=.ok (.agg #[.int .i64 sz,.int .u32 sm,.slice a l c]) W∨d.get k=none)/\∀e,d.get k=some e->WF w (.agg #[.int .i64 sz,.int .u32 sm,.slice a l c]) e:=by
 obtain⟨fv,m1,m2,m3⟩:=h
 cases hg:d.get k with
 |none=>exact⟨0,0,none,0,0,fun W hW=>(m1.after hW).look_none underlying155 (Z07 W) hk (m2 k hg),fun W hW=>Or.inr rfl,fun e he=>by cases he⟩
 |some e=>
  obtain⟨v,hv,a,l,c,rfl,hr⟩:=m3 k e hg
  exact⟨_,_,a,l,c,fun W hW=>(m1.after hW).look_some underlying155 (Z07 W) hk hv,fun W hW=>Or.inl ((m1.after hW).at_some underlying155 (Z07 W) hk hv),fun e' he=>by cases he;exact⟨a,l,c,rfl,hr⟩⟩
theorem Z2I(w:World):(zeroValue 3).run prog w=.ok (.int .i64 0) w:=by kernel_rfl
theorem Z1n(h:Zz w b n (QA f))(k:Bs)(hk:k.length<=maxLen):(Instr.lookup 165 (.map (some b)) (.string (str k)) true).run prog w=.ok (.tuple #[.int .i64 (((f.by k).getD 0:Nat):Int),.bool (f.by k).isSome]) w:=by
 cases hb:f.by k with
 |none=>exact h.look_none underlying165 (Z2I w) hk (by unfold QA;rw[hb];rfl)
 |some i=>exact h.look_some underlying165 (Z2I w) hk (by unfold QA;rw[hb];rfl)
theorem ZgI(s:ByteArray)(w:World)(hs:s.size<=maxLen):
  Calls prog 130 #[.string s] w fun e w'=>e=.returned (.int .u32 (Wq s.data.toList:Int))/\w=w':=
 (Z2S s w hs).mono fun e w' h=>⟨by rw[h.1,QE];rfl,h.2⟩
structure PdS(w:World)(q db fb ga oa na ca:Nat)(us:Value)(acts:List Ac)(d:Dir)(f:Z1)(n1 n2 x:Nat)(bx:List Value)(wr:World):Prop where
 pl:PlA wr q db fb ga oa na ca us acts d f n1 n2
 box:Row wr x 151 bx
 fr:Fr [db,fb] w wr
theorem PdS.after(h:PdS w q db fb ga oa na ca us acts d f n1 n2 x bx wr)(hb:Below wr.heap.size wr w'):PdS w q db fb ga oa na ca us acts d f n1 n2 x bx w':=
 ⟨h.pl.after hb,h.box.after hb,h.fr.trans (Fr.of_below (L:=[]) hb) (by simp)⟩
theorem PdS.dirTo(h:PdS w q db fb ga oa na ca us acts d f n1 n2 x bx wr)(hf:Fr [db] wr w')(hd:Zy w' db n1' d'):PdS w q db fb ga oa na ca us acts d' f n1' n2 x bx w':=by
 obtain⟨fv,m1,_⟩:=h.pl.dir
 exact⟨h.pl.dirTo hf hd,h.box.fr hf (Ww h.box m1),h.fr.trans hf (fun i hi _=>by simp at hi;simp[hi])⟩
theorem PdS.freshTo(h:PdS w q db fb ga oa na ca us acts d f n1 n2 x bx wr)(hf:Fr [fb] wr w')(hd:Zz w' fb n2' (QA f')):PdS w q db fb ga oa na ca us acts d f' n1 n2' x bx w':=
 ⟨h.pl.freshTo hf hd,h.box.fr hf (Ww h.box h.pl.fsh),h.fr.trans hf (fun i hi _=>by simp at hi;simp[hi])⟩
theorem ZhR(q db fb ga oa na ca:Nat)(us:Value)(acts:List Ac)(d:Dir)(f:Z1)(n1 n2 k:Nat)(N V:Bs)(w:World)(h:PlA w q db fb ga oa na ca us acts d f n1 n2)(hk:k<acts.length)(hm:acts.length<=100000)(ha:acts.getD k ⟨0,[],[],[]⟩=⟨1,N,[],V⟩)(hN:N.length<=220)(hV:V.length<=12000)(dj:n1<=100000000)(dm:n2<=100000000)(df:na<=ca):
  Calls prog 86 #[.pointer (some ⟨q,0,none⟩),.int .i64 k] w fun e w'=>e=.returned .nilIface/\(∃n1' n2',n1'<=n1+1/\n2'<=n2+1/\PlA w' q db fb ga oa na ca us acts ((d.del N).put N ⟨V.length,Wq V,[]⟩) (f.del N++[(N,k)]) n1' n2')/\Fr [db,fb] w w':=by
 have ag:N.length<=maxLen:=by unfold maxLen;omega
 have c2:=h.row.cell (j:=2) rfl
 obtain⟨a0,a1,a2,a3⟩:=h.ard.2 k hk
 rw[ha] at a0 a1 a2 a3
 have dh:k<na:=by rw[h.many];exact hk
 have HP:=Zka h
 clear h ha
 go_enter func86,ntmps86
 go_wp2_with fail
 obtain⟨x,hx⟩:∃x,w.heap.size=x:=⟨_,rfl⟩
 have au:=Row.new w 151 [.int .i64 1,.string (str N),.string (str []),.string (str V)]
 have al:=(Below.refl w.heap.size w).alloc Zk8 (.cells #[.int .i64 1,.string (str N),.string (str []),.string (str V)] 151)
 have P1:=HP.out.after al
 have F1:Fr [db,fb] w _:=Fr.of_below al
 rw[hx] at au⊢
 generalize w.alloc (.cells #[.int .i64 1,.string (str N),.string (str []),.string (str V)] 151)=w1 at*
 have D1:PdS w q db fb ga oa na ca us acts d f n1 n2 x _ w1:=⟨P1,au,F1⟩
 have af:=Zka D1
 clear D1 P1 au F1 al hx c2 a0 a1 a2 a3
 obtain⟨sz,sm,a,l,c,aq,_,_⟩:=Z1N af.out.pl.dir N ag
 have k2:=fun o=>aq ((w1.alloc o).drew) (((Below.refl w1.heap.size w1).alloc Zk8 o).drew)
 have k1:=aq w1.drew Zk9.drew
 have dc:=af.out.pl.row.cell (j:=0) rfl
 have cu:=af.out.box.cell (j:=1) rfl
 have cz:=af.out.box.lt
 have ct:=af.out.pl.row.lt
 clear aq
 go_region
 have D2:=af.out.after (((Below.refl w1.heap.size w1).alloc Zk8 (.cells #[.int .i64 sz,.int .u32 sm,.slice a l c] 164)).drew)
 generalize (w1.alloc (.cells #[.int .i64 sz,.int .u32 sm,.slice a l c] 164)).drew=w2 at*
 clear k1 k2 dc cu cz ct
 have bq:=Zka D2
 have x0:=D2.box.cell (j:=0) rfl
 clear D2
 go_wp2_with fail
 have D3:=bq.out.after ((Below.refl _ w2).drew)
 have y1:=D3.pl.row.cell (j:=1) rfl
 have x1:=D3.box.cell (j:=1) rfl
 have cr:=Z1n D3.pl.fsh N ag
 clear x0
 have ax:=Zka D3
 clear D3
 go_region
 generalize w2.drew=w3 at*
 clear y1 x1 cr
 have x0:=ax.out.box.cell (j:=0) rfl
 go_wp2_with fail
 clear x0
 have D4:=ax.out.after ((Below.refl _ w3).drew)
 have y0:=D4.pl.row.cell (j:=0) rfl
 have x1:=D4.box.cell (j:=1) rfl
 obtain⟨w4,ae,ay,bf⟩:=Z77 D4.pl.dir N ag 0
 have D5:=D4.dirTo bf ay
 have bu:=Zka D5
 clear D4 D5 ay bf
 go_region
 clear y0 x1 ae
 go_wp2_with fail
 have D6:=bu.out.after ((Below.refl _ w4).drew)
 have y1:=D6.pl.row.cell (j:=1) rfl
 have x1:=D6.box.cell (j:=1) rfl
 obtain⟨w5,ae,az,bg⟩:=Z2d D6.pl.fsh N ag 0
 have D7:=D6.freshTo bg az
 have aj:=Zka D7
 clear D6 D7 az bg
 go_region
 clear y1 x1 ae
 have x0:=aj.out.box.cell (j:=0) rfl
 go_wp2_with fail
 clear x0
 have D8:=aj.out.after ((Below.refl _ w5).drew)
 have y0:=D8.pl.row.cell (j:=0) rfl
 have x1:=D8.box.cell (j:=1) rfl
 have x3:=D8.box.cell (j:=3) rfl
 have cn:(str V).size=V.length:=Z5 V
 obtain⟨w6,ak,b9,bh⟩:=Z78 D8.pl.dir (by unfold maxLen;omega) N ag (.agg #[.int .i64 (V.length:Int),.int .u32 (Wq (str V).data.toList:Int),.slice none 0 0]) ⟨V.length,Wq V,[]⟩ ⟨none,0,0,rfl,⟨rfl,Or.inl rfl⟩,fun _=>⟨rfl,rfl⟩⟩
 have D9:=D8.dirTo bh b9
 have bz:=Zka D9
 have cj:(str V).size<=maxLen:=by rw[cn];unfold maxLen;omega
 have de:=aj.out.pl.row.cell (j:=0) rfl
 have cw:=aj.out.box.cell (j:=1) rfl
 have cy:=aj.out.box.cell (j:=3) rfl
 clear D8 D9 b9 bh
 go_still_tail 13,(by kernel_rfl)
 still_call (XJ (ZgI (str V) _ cj))
 repeat still_step
 refine wpStill_nil ?_
 change wpList _ _ _ _ _ w5.drew
 go_wp2_with fail
 clear y0 x1 x3 ak de cw cy
 have ah:=bz.out.after ((Below.refl _ w6).drew)
 have y1:=ah.pl.row.cell (j:=1) rfl
 have x1:=ah.box.cell (j:=1) rfl
 obtain⟨w7,ak,bm,bj⟩:=Ze2 ah.pl.fsh (by unfold maxLen;omega) ag k
 have aw:=ah.freshTo bj bm
 have ai:=Zka aw
 clear ah aw bm bj
 go_region
 go_wp2_with fail
 go_ret
 exact⟨rfl,⟨_,_,Zk8,Zk8,ai.out.pl⟩,ai.out.fr⟩
end
section
open Go.RowKit Go.Maps Go.WideMaps
variable{a:Option Addr}{c l y:Nat}{e:Ent}{sm sz:Int}{w w':World}
structure EbS(y:Nat)(sz sm:Int)(a:Option Addr)(l c:Nat)(e:Ent)(w:World):Prop where
 row:Row w y 164 [.int .i64 sz,.int .u32 sm,.slice a l c]
 ent:WF w (.agg #[.int .i64 sz,.int .u32 sm,.slice a l c]) e
theorem EbS.after(h:EbS y sz sm a l c e w)(hb:Below w.heap.size w w'):EbS y sz sm a l c e w':=⟨h.row.after hb,h.ent.fr (Fr.of_below (L:=[]) hb) (by simp)⟩
theorem EbS.dirTo(h:EbS y sz sm a l c e w){b n:Nat}{d:Dir}(hd:Zy w b n d)(hf:Fr [b] w w'):EbS y sz sm a l c e w':=by
 obtain⟨fv,m1,_⟩:=hd
 exact⟨h.row.fr hf (Ww h.row m1),h.ent.fr hf (X9 m1)⟩
theorem EbS.freshTo(h:EbS y sz sm a l c e w){b n:Nat}{f:Bs->Option Value}(m1:Zz w b n f)(hf:Fr [b] w w'):EbS y sz sm a l c e w':=⟨h.row.fr hf (Ww h.row m1),h.ent.fr hf (X9 m1)⟩
theorem Zgg(q db fb ga oa na ca:Nat)(us:Value)(acts:List Ac)(d:Dir)(f:Z1)(n1 n2 k:Nat)(N:Bs)(e0:Ent)(w:World)(h:PlA w q db fb ga oa na ca us acts d f n1 n2)(hk:k<acts.length)(hm:acts.length<=100000)(ha:acts.getD k ⟨0,[],[],[]⟩=⟨2,N,[],[]⟩)(hN:N.length<=220)(hg:d.get N=some e0)(cj:n1<=100000000)(cn:n2<=100000000)(bu:na<=ca):
  Calls prog 86 #[.pointer (some ⟨q,0,none⟩),.int .i64 k] w fun e w'=>e=.returned .nilIface/\(∃ay az,ay<=n1+1/\az<=n2+1/\PlA w' q db fb ga oa na ca us acts (d.del N) (f.del N) ay az)/\Fr [db,fb] w w':=by
 have ag:N.length<=maxLen:=by unfold maxLen;omega
 have c2:=h.row.cell (j:=2) rfl
 obtain⟨a0,a1,a2,a3⟩:=h.ard.2 k hk
 rw[ha] at a0 a1 a2 a3
 have bz:k<na:=by rw[h.many];exact hk
 have cr:(d.get N).isSome=true:=by rw[hg];rfl
 have HP:=Zka h
 clear h ha
 go_enter func86,ntmps86
 go_wp2_with fail
 obtain⟨x,hx⟩:∃x,w.heap.size=x:=⟨_,rfl⟩
 have ak:=Row.new w 151 [.int .i64 2,.string (str N),.string (str []),.string (str [])]
 have ai:=(Below.refl w.heap.size w).alloc Zk8 (.cells #[.int .i64 2,.string (str N),.string (str []),.string (str [])] 151)
 have P1:=HP.out.after ai
 have F1:Fr [db,fb] w _:=Fr.of_below ai
 rw[hx] at ak⊢
 generalize w.alloc (.cells #[.int .i64 2,.string (str N),.string (str []),.string (str [])] 151)=w1 at*
 have D1:PdS w q db fb ga oa na ca us acts d f n1 n2 x _ w1:=⟨P1,ak,F1⟩
 have af:=Zka D1
 clear D1 P1 ak F1 ai hx c2 a0 a1 a2 a3
 obtain⟨sz,sm,a,l,c,aj,_,_⟩:=Z1N af.out.pl.dir N ag
 have k2:=fun o=>aj ((w1.alloc o).drew) (((Below.refl w1.heap.size w1).alloc Zk8 o).drew)
 have k1:=aj w1.drew Zk9.drew
 have bq:=af.out.pl.row.cell (j:=0) rfl
 have bj:=af.out.box.cell (j:=1) rfl
 have bm:=af.out.box.lt
 have bh:=af.out.pl.row.lt
 clear aj
 go_region
 have D2:=af.out.after (((Below.refl w1.heap.size w1).alloc Zk8 (.cells #[.int .i64 sz,.int .u32 sm,.slice a l c] 164)).drew)
 generalize (w1.alloc (.cells #[.int .i64 sz,.int .u32 sm,.slice a l c] 164)).drew=w2 at*
 clear k1 k2 bq bj bm bh
 have b9:=Zka D2
 have x0:=D2.box.cell (j:=0) rfl
 clear D2
 go_wp2_with fail
 have D3:=b9.out.after ((Below.refl _ w2).drew)
 have y1:=D3.pl.row.cell (j:=1) rfl
 have x1:=D3.box.cell (j:=1) rfl
 have bg:=Z1n D3.pl.fsh N ag
 clear x0
 have al:=Zka D3
 clear D3
 go_region
 generalize w2.drew=w3 at*
 clear y1 x1 bg
 have x0:=al.out.box.cell (j:=0) rfl
 go_wp2_with fail
 clear x0
 have D4:=al.out.after ((Below.refl _ w3).drew)
 have y0:=D4.pl.row.cell (j:=0) rfl
 have x1:=D4.box.cell (j:=1) rfl
 obtain⟨w4,ae,aq,aw⟩:=Z77 D4.pl.dir N ag 0
 have D5:=D4.dirTo aw aq
 have bf:=Zka D5
 clear D4 D5 aq aw
 go_region
 clear y0 x1 ae
 go_wp2_with fail
 have D6:=bf.out.after ((Below.refl _ w4).drew)
 have y1:=D6.pl.row.cell (j:=1) rfl
 have x1:=D6.box.cell (j:=1) rfl
 obtain⟨w5,ae,au,ax⟩:=Z2d D6.pl.fsh N ag 0
 have D7:=D6.freshTo ax au
 have ah:=Zka D7
 clear D6 D7 au ax
 go_region
 clear y1 x1 ae
 have x0:=ah.out.box.cell (j:=0) rfl
 go_wp2_with fail
 clear x0
 go_ret
 exact⟨rfl,⟨_,_,Nat.le_succ _,Nat.le_succ _,ah.out.pl⟩,ah.out.fr⟩
theorem Zgh(q db fb ga oa na ca:Nat)(us:Value)(acts:List Ac)(d:Dir)(f:Z1)(n1 n2 k:Nat)(N T:Bs)(e0:Ent)(w:World)(h:PlA w q db fb ga oa na ca us acts d f n1 n2)(hk:k<acts.length)(hm:acts.length<=100000)(ha:acts.getD k ⟨0,[],[],[]⟩=⟨3,N,T,[]⟩)(hN:N.length<=220)(hT:T.length<=220)(dj:T≠N)(hg:d.get N=some e0)(dp:f.by N=none)(dy:n1<=100000000)(dz:n2<=100000000)(dw:na<=ca):
  Calls prog 86 #[.pointer (some ⟨q,0,none⟩),.int .i64 k] w fun e w'=>e=.returned .nilIface/\(∃cj cn,cj<=n1+1/\cn<=n2+1/\PlA w' q db fb ga oa na ca us acts ((d.del N).put T e0) ((f.del N).del T) cj cn)/\Fr [db,fb] w w':=by
 have al:N.length<=maxLen:=by unfold maxLen;omega
 have c2:=h.row.cell (j:=2) rfl
 obtain⟨a0,a1,a2,a3⟩:=h.ard.2 k hk
 rw[ha] at a0 a1 a2 a3
 have dx:k<na:=by rw[h.many];exact hk
 have ee:(d.get N).isSome=true:=by rw[hg];rfl
 have dm:((str T).toList==(str N).toList)=false:=Z0y (fun e=>dj (Z2R e))
 have aj:T.length<=maxLen:=by unfold maxLen;omega
 have HP:=Zka h
 clear h ha
 go_enter func86,ntmps86
 go_wp2_with fail
 obtain⟨x,hx⟩:∃x,w.heap.size=x:=⟨_,rfl⟩
 have az:=Row.new w 151 [.int .i64 3,.string (str N),.string (str T),.string (str [])]
 have aq:=(Below.refl w.heap.size w).alloc Zk8 (.cells #[.int .i64 3,.string (str N),.string (str T),.string (str [])] 151)
 have P1:=HP.out.after aq
 have F1:Fr [db,fb] w _:=Fr.of_below aq
 rw[hx] at az⊢
 generalize w.alloc (.cells #[.int .i64 3,.string (str N),.string (str T),.string (str [])] 151)=w1 at*
 have D1:PdS w q db fb ga oa na ca us acts d f n1 n2 x _ w1:=⟨P1,az,F1⟩
 have ag:=Zka D1
 clear D1 P1 az F1 aq hx c2 a0 a1 a2 a3
 obtain⟨sz,sm,a,l,c,ax,_,af⟩:=Z1N ag.out.pl.dir N al
 have af:=af e0 hg
 have k2:=fun o=>ax ((w1.alloc o).drew) (((Below.refl w1.heap.size w1).alloc Zk8 o).drew)
 have k1:=ax w1.drew Zk9.drew
 have du:=ag.out.pl.row.cell (j:=0) rfl
 have dr:=ag.out.box.cell (j:=1) rfl
 have dt:=ag.out.box.lt
 have dq:=ag.out.pl.row.lt
 clear ax
 go_region
 obtain⟨y,hy⟩:∃y,w1.heap.size=y:=⟨_,rfl⟩
 have M2:EbS y sz sm a l c e0 ((w1.alloc (.cells #[.int .i64 sz,.int .u32 sm,.slice a l c] 164)).drew):=⟨by rw[<-hy];exact(Row.new w1 164 [.int .i64 sz,.int .u32 sm,.slice a l c]).after (Zk9.drew),af.fr (Fr.of_below (L:=[]) ((((Below.refl w1.heap.size w1).alloc Zk8 _)).drew)) (by simp)⟩
 rw[hy]
 have D2:=ag.out.after (((Below.refl w1.heap.size w1).alloc Zk8 (.cells #[.int .i64 sz,.int .u32 sm,.slice a l c] 164)).drew)
 generalize (w1.alloc (.cells #[.int .i64 sz,.int .u32 sm,.slice a l c] 164)).drew=w2 at*
 clear k1 k2 du dr dt dq
 have cw:=Zka M2
 clear M2 af hy
 have cr:=Zka D2
 have x0:=D2.box.cell (j:=0) rfl
 clear D2
 go_wp2_with fail
 have D3:=cr.out.after ((Below.refl _ w2).drew)
 have y1:=D3.pl.row.cell (j:=1) rfl
 have x1:=D3.box.cell (j:=1) rfl
 have bu:=Z1n D3.pl.fsh N al
 rw[dp] at bu
 have cy:=Zka (cw.out.after ((Below.refl _ w2).drew))
 clear x0
 have ak:=Zka D3
 clear D3
 go_region
 generalize w2.drew=w3 at*
 clear y1 x1 bu
 have x0:=ak.out.box.cell (j:=0) rfl
 have x1:=ak.out.box.cell (j:=1) rfl
 have x2:=ak.out.box.cell (j:=2) rfl
 go_wp2_with fail
 clear x0 x1 x2
 have D4:=ak.out.after ((Below.refl _ w3).drew)
 have y0:=D4.pl.row.cell (j:=0) rfl
 have x1:=D4.box.cell (j:=1) rfl
 obtain⟨w4,ae,bg,au⟩:=Z77 D4.pl.dir N al 0
 have D5:=D4.dirTo au bg
 have cz:=Zka ((cy.out.after ((Below.refl _ w3).drew)).dirTo D4.pl.dir au)
 have ct:=Zka D5
 clear D4 D5 bg au
 go_region
 clear y0 x1 ae
 go_wp2_with fail
 have D6:=ct.out.after ((Below.refl _ w4).drew)
 have y1:=D6.pl.row.cell (j:=1) rfl
 have x1:=D6.box.cell (j:=1) rfl
 obtain⟨w5,ae,bh,aw⟩:=Z2d D6.pl.fsh N al 0
 have D7:=D6.freshTo aw bh
 have dc:=Zka ((cz.out.after ((Below.refl _ w4).drew)).freshTo D6.pl.fsh aw)
 have bf:=Zka D7
 clear D6 D7 bh aw
 go_region
 clear y1 x1 ae
 have x0:=bf.out.box.cell (j:=0) rfl
 go_wp2_with fail
 clear x0
 have D8:=bf.out.after ((Below.refl _ w5).drew)
 have M8:=dc.out.after ((Below.refl _ w5).drew)
 have y0:=D8.pl.row.cell (j:=0) rfl
 have x2:=D8.box.cell (j:=2) rfl
 have de:=M8.row.cell (j:=0) rfl
 have df:=M8.row.cell (j:=1) rfl
 have dh:=M8.row.cell (j:=2) rfl
 obtain⟨w6,ay,bj,bm⟩:=Z78 D8.pl.dir (by unfold maxLen;omega) T aj (.agg #[.int .i64 sz,.int .u32 sm,.slice a l c]) e0 M8.ent
 have D9:=D8.dirTo bm bj
 have cu:=Zka D9
 clear D8 D9 M8 bj bm
 go_region
 clear y0 x2 de df dh ay
 go_wp2_with fail
 have ah:=cu.out.after ((Below.refl _ w6).drew)
 have y1:=ah.pl.row.cell (j:=1) rfl
 have x2:=ah.box.cell (j:=2) rfl
 obtain⟨w7,ae,bz,bq⟩:=Z2d ah.pl.fsh T aj 0
 have b9:=ah.freshTo bq bz
 have ai:=Zka b9
 clear ah b9 bz bq
 go_region
 go_wp2_with fail
 go_ret
 exact⟨rfl,⟨_,_,Zk8,Nat.le_succ _,ai.out.pl⟩,ai.out.fr⟩
end
end Go.Proofs.YthppfllkocphbaaGreatDoor
