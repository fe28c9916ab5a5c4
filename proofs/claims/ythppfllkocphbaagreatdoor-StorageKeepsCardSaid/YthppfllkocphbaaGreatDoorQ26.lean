/-
  Part 27 of the proof: lemmas about what the program computes.
-/
import Derived.Test.YthppfllkocphbaaGreatDoorQ38
namespace Go.Proofs.YthppfllkocphbaaGreatDoor
set_option linter.unusedVariables false
set_option linter.unusedSimpArgs false
set_option maxHeartbeats 25600000
set_option maxRecDepth 100000
open Tryz
section
open Go.RowKit Go.Maps Go.WideMaps
variable{a b ca db fb g ga gu n n1 n2 na oa q y:Nat}{acts:List Ac}{d d':Dir}{f:Z1}{rs:List (Nat×Nat)}{sm sz:Int}{ts:List Value}{used:List Bool}{v:Value}{w w' w4 wr:World}
def Y0(used:List Bool)(a:Nat):List Nat:=(List.range' a (used.length-a)).filter fun i=> !used.getD i true
theorem Z3R(used:List Bool):Y0 used 0=Wr used:=by
 unfold Y0 Wr
 rw[Nat.sub_zero,List.range_eq_range']
theorem Z8i(h:a<used.length):Y0 used a=if used.getD a true=true then Y0 used (a+1) else a::Y0 used (a+1):=by
 unfold Y0
 rw[show used.length-a=(used.length- (a+1))+1 from by omega,List.range'_succ,List.filter_cons]
 cases used.getD a true<;>simp
theorem Z8Z(h:used.length<=a):Y0 used a=[]:=by
 unfold Y0
 rw[Nat.sub_eq_zero_of_le h];rfl
theorem ZaF{i:Nat}(h:i∈Y0 used a):i<used.length:=by
 unfold Y0 at h
 have:=(List.mem_filter.1 h).1
 rw[List.mem_range'_1] at this;omega
theorem ZcR{R:List Nat}{x:Bs×Nat}{r:Z1}{e:Ent}(h:Yp R (x::r) d=some d')(he:d.get x.1=some e):ZH e.size<=R.length/\Yp (R.drop (ZH e.size)) r (d.put x.1 {e with runs:=ZY (R.take (ZH e.size))})=some d':=by
 unfold Yp at h
 rw[he] at h
 simp only at h
 split at h
 ·exact⟨by assumption,h⟩
 ·cases h
theorem Zau(l:List Nat)(a:Nat):ZY (l++[a])=YZ (ZY l) a:=by
 unfold ZY
 rw[List.foldl_append];rfl
theorem Zi7{l:List Nat}(h:∀i∈l,i<n){r:Nat×Nat}(hr:r∈ZY l):1<=r.2/\r.1+r.2<=n:=by
 have h1:=Z5t l r hr
 refine⟨h1,?_⟩
 have h2:r.1+r.2-1∈Z9 (ZY l):=by
  unfold Z9
  exact List.mem_flatMap.2 ⟨r,hr,by rw[List.mem_range'_1];omega⟩
 rw[Z1K] at h2
 have:=h _ h2
 omega
theorem ZfU(h:rs≠[]):∃init f m,rs=init++[(f,m)]:=⟨rs.dropLast,(rs.getLast h).1,(rs.getLast h).2,by rw[show((rs.getLast h).1,(rs.getLast h).2)=rs.getLast h from rfl,List.dropLast_concat_getLast]⟩
theorem Z5o(init:List (Nat×Nat))(f m a:Nat):YZ (init++[(f,m)]) a=if f+m=a then init++[(f,m+1)] else init++[(f,m)]++[(a,1)]:=by
 unfold YZ
 rw[List.getLast?_concat]
 simp only[List.dropLast_concat]
theorem Zho(h:Zy w b n d){k:Bs}{e:Ent}(hg:d.get k=some e)(hk:k.length<=maxLen)(hr:e.runs=[]):∀W,Below w.heap.size w W->(Instr.lookup 155 (.map (some b)) (.string (str k)) false).run prog W=.ok (.agg #[.int .i64 (e.size:Int),.int .u32 (e.sum:Int),.slice none 0 0]) W:=by
 obtain⟨a,l,c,h1,h2⟩:=Z8T h hg hk
 obtain⟨a',l',c',he,⟨h3,_⟩,h4⟩:=h2
 obtain⟨rfl,rfl⟩:=h4 hr
 rw[hr] at h3
 cases h3
 injection he with he
 simp at he
 obtain⟨rfl,rfl,rfl⟩:=he
 exact h1
structure Z46(w:World)(q db fb ga oa na ca gu g:Nat)(used:List Bool)(ts:List Value)(acts:List Ac)(d:Dir)(f:Z1)(n1 n2:Nat)(wr:World):Prop where
 pl:PlA wr q db fb ga oa na ca (.slice (some ⟨gu,0,none⟩) used.length used.length) acts d f n1 n2
 us:Row wr gu 4 (used.map .bool)
 txt:Row wr g 9 ts
 fr:Fr [db] w wr
theorem Z46.after(h:Z46 w q db fb ga oa na ca gu g used ts acts d f n1 n2 wr)(hb:Below wr.heap.size wr w'):Z46 w q db fb ga oa na ca gu g used ts acts d f n1 n2 w':=
 ⟨h.pl.after hb,h.us.after hb,h.txt.after hb,h.fr.trans (Fr.of_below (L:=[]) hb) (by simp)⟩
theorem Z46.dirTo{ae:Nat}(h:Z46 w q db fb ga oa na ca gu g used ts acts d f n1 n2 wr)(hf:Fr [db] wr w')(hd:Zy w' db ae d'):Z46 w q db fb ga oa na ca gu g used ts acts d' f ae n2 w':=by
 obtain⟨fv,m1,_⟩:=h.pl.dir
 exact⟨h.pl.dirTo hf hd,h.us.fr hf (Ww h.us m1),h.txt.fr hf (Ww h.txt m1),h.fr.trans hf (fun i hi _=>by simp at hi;simp[hi])⟩
structure JS(w4:World)(y:Nat)(sz sm:Int)(v:Value)(rs:List (Nat×Nat))(wr:World):Prop where
 bel:Below y w4 wr
 row:Row wr y 164 [.int .i64 sz,.int .u32 sm,v]
 own:wr.ownsRow (y+1) 197 2 v rs.length (Qt rs)
 ye:y=w4.heap.size
 nil:rs=[]->v=.slice none 0 0
theorem JS.after(h:JS w4 y sz sm v rs wr)(hb:Below wr.heap.size wr w'):JS w4 y sz sm v rs w':=
 ⟨h.bel.trans (hb.mono (Nat.le_of_lt h.row.lt)),h.row.after hb,Y3 h.own hb,h.ye,h.nil⟩
theorem JS.entv{sz sm:Nat}(h:JS w4 y sz sm v rs wr):∃a l c,v=.slice a l c/\WF wr (.agg #[.int .i64 (sz:Int),.int .u32 (sm:Int),.slice a l c]) ⟨sz,sm,rs⟩:=by
 rcases h.own.2 with ⟨hv,h0⟩|⟨g,cap,cur,hv,_⟩
 ·have h9:rs=[]:=List.length_eq_zero_iff.1 h0
  exact⟨none,0,0,hv,none,0,0,rfl,⟨h0.symm,Or.inl h9⟩,fun _=>⟨rfl,rfl⟩⟩
 ·obtain⟨g',ae,ah,ag,_,_,_,af⟩:=Z03 h.own (by rw[hv];simp)
  exact⟨_,_,_,ag,_,_,_,rfl,⟨rfl,Or.inr ⟨g',ah,rfl,af⟩⟩,fun h0=>by
   have h9:=h.nil h0
   rw[hv] at h9;cases h9⟩
theorem ZcV(init:List (Nat×Nat))(f m k:Nat):(Qt (init++[(f,m)])).set (2*init.length+1) (.int .i64 (k:Int))=Qt (init++[(f,k)]):=by
 rw[JQ,JQ,List.set_append_right _ _ (by rw[YE];omega),YE]
 rw[show 2*init.length+1-2*init.length=1 from by omega]
 rfl
theorem JS.grow{v':Value}{w6:World}{o:Obj}(h:JS w4 y sz sm v rs wr)(ae:w6.ownsRow (y+1) 197 2 v' (rs.length+1) (Qt rs++[.int .i64 (b:Int),.int .i64 1]))(hg:(wr.alloc o).grownBy w6 v.ownBlock):
  Row w6 y 164 [.int .i64 sz,.int .u32 sm,v]/\JS w4 y sz sm v' (rs++[(b,1)]) (w6.setCell ⟨y,2,none⟩ v'):=by
 have af:=Jk (h.row.alloc o) hg (Ws h.row h.own (by decide))
 have hf:Fr [] w4 w6∨True:=Or.inr trivial
 have ag:Below y w4 w6:=by
  have ah:Fr (ZE v) wr w6:=((Fr.refl (ZE v) wr).alloc o).grown hg (fun k hk=>Or.inl (ZG.2 hk))
  exact h.bel.trans (ah.below (Nat.le_of_lt h.row.lt) (fun i hi=>by have:=Xa h.own (ZG.1 hi);omega))
 refine⟨af,ag.setCell (p:=⟨y,2,none⟩) Zk8 _,af.set 2 v',?_,h.ye,fun h0=>by simp at h0⟩
 have h9:=ownsRow_setCell_below ae (a:=⟨y,2,none⟩) (Nat.lt_succ_self y) v'
 rw[ZjI,JQ]
 exact h9
theorem JS.more{cap:Nat}{init:List (Nat×Nat)}{f m:Nat}(h:JS w4 y sz sm (.slice (some ⟨g,0,none⟩) (init.length+1) cap) (init++[(f,m)]) wr)(k:Nat):
  JS w4 y sz sm (.slice (some ⟨g,0,none⟩) (init.length+1) cap) (init++[(f,k)]) (wr.setCell ⟨g,2*init.length+1,none⟩ (.int .i64 (k:Int))):=by
 have ah:y+1<=g:=Xa h.own rfl
 have ag:g≠y:=by omega
 have ho:=h.own
 rw[show(init++[(f,m)]).length=init.length+1 from by simp] at ho
 have h9:=(ho.stored (2*init.length+1) (.int .i64 (k:Int))).1
 have ae:=h.bel.setCell (p:=⟨g,2*init.length+1,none⟩) (by show y<=g;omega) (.int .i64 (k:Int))
 have af:Fr [g] wr (wr.setCell ⟨g,2*init.length+1,none⟩ (.int .i64 (k:Int))):=(Fr.refl _ _).setCell (Or.inl (by simp)) _
 refine⟨ae,h.row.fr af (by simp;exact fun e=>ag e.symm),?_,h.ye,fun h0=>by simp at h0⟩
 rw[show(init++[(f,k)]).length=init.length+1 from by simp,<-ZcV init f m k]
 exact h9
theorem JS.shape(h:JS w4 y sz sm v rs wr):(rs=[]/\v=.slice none 0 0)∨∃ (g cap:Nat) (init:List (Nat×Nat)) (f m:Nat),rs=init++[(f,m)]/\v=.slice (some ⟨g,0,none⟩) (init.length+1) cap/\y+1<=g/\
  wr.cell? ⟨g,2*init.length,none⟩=some (.int .i64 (f:Int))/\wr.cell? ⟨g,2*init.length+1,none⟩=some (.int .i64 (m:Int)):=by
 by_cases h0:rs=[]
 ·exact Or.inl ⟨h0,h.nil h0⟩
 ·obtain⟨init,f,m,rfl⟩:=ZfU h0
  obtain⟨g',ae,ah,ag,h1,_,_,af⟩:=Z03 h.own (fun e=>by
   rcases h.own.2 with ⟨_,h9⟩|⟨g,cap,cur,hv,_⟩
   ·simp at h9
   ·rw[e] at hv;cases hv)
  rw[ZjI] at ag
  have h2:=Z0s (init++[(f,m)]) init.length (by simp)
  have h3:(init++[(f,m)]).getD init.length (0,0)=(f,m):=by simp
  rw[h3] at h2
  have hl:=YE (init++[(f,m)])
  rw[ZjI,List.length_singleton] at hl
  exact Or.inr ⟨g',ae,init,f,m,rfl,ag,h1,af.cell (by rw[ZjH (by omega)];exact h2.1),af.cell (by rw[ZjH (by omega)];exact h2.2)⟩
theorem Za5(h:Strs w b v []):∃g cap,v=.slice g 0 cap:=by
 rcases h.2 with ⟨rfl,_⟩|⟨g,cap,cur,rfl,_⟩
 ·exact⟨_,_,rfl⟩
 ·exact⟨_,_,rfl⟩
theorem Zex(q db fb ga oa na ca gu:Nat)(used:List Bool)(acts:List Ac)(d d':Dir)(f:Z1)(n1 n2:Nat)(w:World)(h:PlA w q db fb ga oa na ca (.slice (some ⟨gu,0,none⟩) used.length used.length) acts d f n1 n2)(hu:Row w gu 4 (used.map .bool))(hp:Yp (Wr used) f d=some d')(hn:(f.map (·.1)).Nodup)(ha:(f.map (·.2)).Pairwise (·<·))(dz:f.length<=12)(hi:∀p∈f,p.2<=100000)(cz:∀p∈f,p.1.length<=220)
  (fj:∀x∈f,∃e,d.get x.1=some e/\e.runs=[]/\e.size<=12000/\e.sum<4294967296) (jo:used.length<=100000) (jk:n1<=100000000):
  Calls prog 87 #[.pointer (some ⟨q,0,none⟩),.int .i64 ((Wr used).length:Nat)] w fun e w'=>e=.returned (.bool true)/\(∃fx,fx<=n1+12/\PlA w' q db fb ga oa na ca (.slice (some ⟨gu,0,none⟩) used.length used.length) acts d' f fx n2)/\Fr [db] w w':=by
 obtain⟨i0,fc,ft,fu,fw⟩:=info_parts Z61
 have HP:=Zka h
 have HU:=Zka hu
 have HF:=Zka (Zkb hn (Zkb cz fj))
 have im:(f.map (·.1)).length=f.length:=ZjN ..
 have je:(Wr used).length<=used.length:=by
  unfold Wr
  exact Zk1 (List.length_filter_le _ _) (by simp)
 clear h hu
 go_enter func87,ntmps87
 by_cases er:f=[]
 ·subst er
  have hd:d=d':=by
   unfold Yp at hp
   exact Option.some.inj hp
  subst hd
  go_wp2_with (go_at_call 131;refine(Z3m q db fb ga oa na ca _ acts d [] n1 n2 _ HP.out hn ha dz hi cz).mono ?_;rintro e w1 ⟨v,rfl,hv,bu⟩;have S1:=Zka bu;obtain⟨g,cap,rfl⟩:=Za5 hv;clear hv bu)
  go_loopw [14] (fun iv wr=>iv=.int .i64 0/\Below w.heap.size w wr) (fun _ _=>0)
  case atStart=>exact⟨rfl,S1.out⟩
  case round=>
   obtain⟨rfl,hb⟩:=hrel
   go_wp2_with fail
   go_ret
   exact⟨rfl,⟨n1,by omega,HP.out.after hb⟩,Fr.of_below hb⟩
 have ic:0<f.length:=List.length_pos_iff.2 er
 go_wp2_with (go_at_call 131;refine(Z3m q db fb ga oa na ca _ acts d f n1 n2 _ HP.out hn ha dz hi cz).mono ?_;rintro e w1 ⟨v,rfl,hv,bu⟩;obtain⟨g,cap,sp,rfl,ey,jc,jd,fi⟩:=Qs hv (by rw[im];exact ic);have S1:=Zka (Zkb fi (Zkb bu ey));clear hv fi bu ey)
 obtain⟨ts,du⟩:∃ts,Z6 ((f.map (·.1)).map str)++sp=ts:=⟨_,rfl⟩
 have fm:∀k (hk:k<f.length),ts[k]? =some (.string (str (f[k]).1)):=fun k hk=>by
  rw[<-du,ZjH (by simp[Z6];omega)]
  simp[Z6,hk]
 have P1:Z46 w q db fb ga oa na ca gu g used ts acts d f n1 n2 w1:=⟨HP.out.after S1.out.2.1,HU.out.after S1.out.2.1,by rw[<-du];exact S1.out.1,Fr.of_below S1.out.2.1⟩
 have gj:=Zka P1
 have gx:=Zka fm
 clear du fm P1 hn ha hi cz fj
 go_loopw [1,5,14] (fun fv av iv wr=>∃ (i a:Nat) (di:Dir) (ni:Nat),i<=f.length/\a<=used.length/\fv=.int .i64 ((Y0 used a).length:Nat)/\av=.int .i64 a/\iv=.int .i64 i/\Yp (Y0 used a) (f.drop i) di=some d'/\ni<=n1+i/\(∀x∈f.drop i,di.get x.1=d.get x.1)/\Z46 w q db fb ga oa na ca gu g used ts acts di f ni n2 wr) (fun _ _ iv _=>f.length- (intOf iv).toNat)
 case atStart=>exact⟨0,0,d,n1,by omega,by omega,by rw[Z3R],rfl,rfl,by rw[Z3R];exact hp,by omega,fun _ _=>rfl,gj.out⟩
 case round=>
  obtain⟨i,a,di,ni,jh,ia,rfl,rfl,rfl,bh,jl,cj,hS⟩:=hrel
  have HS:=Zka hS
  by_cases dq:i<f.length
  ·have ay:=hS.txt.cell (gx.out i dq)
   have bg:f[i]∈f:=ZjW dq
   have ai:f.drop i=f[i]::f.drop (i+1):=List.drop_eq_getElem_cons dq
   rw[ai] at bh cj
   obtain⟨e,ek,dt,jm,iw⟩:=HF.out.2.2 _ bg
   have he:di.get (f[i]).1=some e:=by rw[cj _ List.mem_cons_self];exact ek
   have ix:=HF.out.2.1 _ bg
   have dr:∀x∈f.drop (i+1),x.1≠(f[i]).1:=fun x hx e9=>by
    have h9:=HF.out.1
    rw[<-Zk4 i f,ai,ZjZ,ZjY] at h9
    have h8:=(List.nodup_append.1 h9).2.1
    exact(List.nodup_cons.1 h8).1 (by rw[<-e9];exact List.mem_map_of_mem hx)
   obtain⟨x,hx⟩:∃x,f[i]=x:=⟨_,rfl⟩
   rw[hx] at ay bh cj he ix dr
   obtain⟨cr,aw⟩:=ZcR bh he
   have fq:x.1.length<=maxLen:=by unfold maxLen;omega
   have dw:=hS.pl.row.cell (j:=0) rfl
   have ig:=Zho hS.pl.dir he fq dt _ Zk9
   obtain⟨y,hy⟩:∃y,wr.heap.size=y:=⟨_,rfl⟩
   obtain⟨R,hR⟩:∃R,Y0 used a=R:=⟨_,rfl⟩
   obtain⟨sc,dc⟩:∃sc,ZH e.size=sc:=⟨_,rfl⟩
   rw[hR] at cr aw⊢
   rw[dc] at cr aw
   have iu:sc<=200:=by rw[<-dc];unfold ZH;omega
   have HB:Hid (JS wr y e.size e.sum (.slice none 0 0) [] (wr.alloc (.cells #[.int .i64 (e.size:Int),.int .u32 (e.sum:Int),.slice none 0 0] 164))):=Zka ⟨by rw[<-hy];exact(Below.refl _ wr).alloc Zk8 _,by rw[<-hy];exact Row.new wr _ [_,_,_],World.ownsRow_nil _ _ _ _,hy.symm,fun _=>rfl⟩
   have e0:=(Row.new wr 164 [.int .i64 (e.size:Int),.int .u32 (e.sum:Int),.slice none 0 0]).cell (j:=0) rfl
   have ja:R.length<=used.length:=by
    rw[<-hR];unfold Y0
    refine Zk1 (List.length_filter_le _ _) ?_
    simp
   have sb:IntKind.i64.wrap ((R.length:Int)- (sc:Int))=((R.length-sc:Nat):Int):=by rw[Zk2 _ (by omega)];omega
   have sd:decide (((R.length-sc:Nat):Int)<0)=false:=decide_eq_false (by omega)
   have HE:=Zka (Zkb aw (Zkb cj (Zkb dr (Zkb iw hR))))
   have HX:=Zka (Zkb hx (Zkb fq (Zkb hy dc)))
   have j7:=Zka (Zkb he dt)
   clear bh aw cj dr ek he dt hx hS ai bg hR hp dc
   go_wp2_with (go_at_call 90;refine(Z3A e.size (by omega) _).mono ?_;rw[HX.out.2.2.2];rintro r w9 ⟨rfl,rfl⟩)
   clear e0 ig dw sb sd ay
   go_loopw [5,9] (fun av lv wi=>∃ (b j:Nat) (v:Value),a<=b/\b<=used.length/\j<=sc/\av=.int .i64 b/\lv=.int .i64 ((sc-j:Nat):Int)/\Y0 used b=R.drop j/\JS wr y e.size e.sum v (ZY (R.take j)) wi) (fun av _ _=>used.length- (intOf av).toNat)
   case atStart=>exact⟨a,0,_,by omega,ia,by omega,rfl,rfl,by rw[HE.out.2.2.2.2];rfl,HB.out⟩
   case round=>
    obtain⟨b,j,v,jb,ib,ff,rfl,rfl,az,bm⟩:=hrel
    have ak:=Zka bm
    have cw:=Zka (HS.out.after (by rw[HX.out.2.2.1];exact bm.bel))
    have iy:=bm.row.lt
    by_cases hj:j<sc
    ·have dj:R.drop j≠[]:=fun e9=>by have:=List.drop_eq_nil_iff.1 e9;omega
     have dh:b<used.length:=by
      rcases Nat.lt_or_ge b used.length with h9|h9
      ·exact h9
      ·rw[Z8Z h9] at az;exact absurd az.symm dj
     have ax:=Z8i dh
     have cu:=cw.out.us.cell (j:=b) (v:=.bool (used.getD b true)) (by
      rw[List.getElem?_map,ZjF dh,ZjE,ZjF dh];rfl)
     have df:=cw.out.pl.row.cell (j:=3) rfl
     have g0:decide (0<((sc-j:Nat):Int))=true:=decide_eq_true (by omega)
     cases hu:used.getD b true
     case true=>
      rw[hu] at cu ax
      have bq:=Zka (Zkb az ax)
      clear az ax bm dj hu
      go_wp2_with fail
      go_roundw
      case measure=>simp[intOf];omega
      case rel=>exact⟨b+1,j,v,by omega,by omega,ff,by go_num,rfl,by rw[<-bq.out.1,bq.out.2];rfl,ak.out⟩
     case false=>
      rw[hu] at cu ax
      rw[if_neg (by decide)] at ax
      rw[az] at ax
      have ez:R[j]? =some b:=by
       have h9:(R.drop j)[0]? =some b:=by rw[ax];rfl
       rw[List.getElem?_drop] at h9
       exact h9
      have ct:R.take (j+1)=R.take j++[b]:=by rw[List.take_add_one,ez];rfl
      have cn:Y0 used (b+1)=R.drop (j+1):=by
       have h9:(R.drop j).drop 1=Y0 used (b+1):=by rw[ax];rfl
       rw[List.drop_drop] at h9;exact h9.symm
      have ef:ZY (R.take (j+1))=YZ (ZY (R.take j)) b:=by rw[ct,Zau]
      have ee:∀z∈R.take j,z<used.length:=fun z hz=>ZaF (a:=a) (by rw[HE.out.2.2.2.2];exact List.mem_of_mem_take hz)
      have HJ:=Zka (Zkb cn (Zkb ef ee))
      clear az ax bm dj hu ez ct cn ef ee
      have e2:=ak.out.row.cell (j:=2) rfl
      have sj:IntKind.i64.wrap (((sc-j:Nat):Int)-1)=((sc- (j+1):Nat):Int):=by rw[Zk2 _ (by omega)];omega
      rcases ak.out.shape with ⟨bj,rfl⟩|⟨gr,aq,init,fr,m,bj,rfl,jg,cf,cm⟩
      ·have al:=Zka bj
       clear bj
       go_wp2_with fail
       go_quiet (fail)
       have ag:=Zp (Below.refl wr.heap.size wr) nq
       have B3:=ak.out.after ag
       have S3:=cw.out.after ag
       generalize wr.drewN nq=w3 at*
       have dy:=B3.row.cell (j:=2) rfl
       have b9:=Zka B3
       have j8:=Zka S3
       clear ag B3 S3 e2 cu df g0 sj
       go_wp2_with (at_builtin;refine wpList_append_own _ rfl (.tmp 78) (.tmp 81) 162 rfl (y+1) 197 i0 _ 2 16 underlying162 fc ft fu fw rfl (by omega) (.slice none 0 0) 0 [] rfl (World.ownsRow_nil _ _ _ _) ⟨w3.heap.size,0,none⟩ 1 1 [.int .i64 (b:Int),.int .i64 1] rfl rfl (World.news_of_block (cs:= #[.int .i64 (b:Int),.int .i64 1]) (t:=197) (fr:=(0,0)) (heap_alloc_new w3 _)) (by simp[Value.oneCell']) (by unfold maxLen;omega) (by omega) (by have:=b9.out.row.lt;simp;omega) ?_;intro v' w6 ae aj af;obtain⟨g6,ah,iz,rfl,_,_,_,_⟩:=Z03 ae (fun e6=>by have:=af.1 e6;omega);clear af;have au:=b9.out.grow (v':=.slice (some ⟨g6,0,none⟩) (0+1) ah) (by rw[al.out];exact ae) aj;have f26:=au.1.free (j:=2) (by simp);have gy:=au.1.cell (j:=2) rfl;have de:=Zka au;clear au ae aj)
       go_roundw
       case measure=>simp[intOf];omega
       case rel=>
        refine⟨b+1,j+1,.slice (some ⟨g6,0,none⟩) 1 ah,by omega,by omega,by omega,by go_num,rfl,HJ.out.1,?_⟩
        rw[HJ.out.2.1,show YZ (ZY (R.take j)) b=ZY (R.take j)++[(b,1)] from by rw[al.out];rfl]
        exact de.out.2
      ·have fe:(fr,m)∈ZY (R.take j):=by rw[bj];simp
       obtain⟨fg,fh⟩:=Zi7 HJ.out.2.2 fe
       have bz:(ZY (R.take j)).length<=200:=by
        have:=Zav (R.take j)
        rw[ZjO] at this;omega
       rw[bj,ZjI,List.length_singleton] at bz
       have ik:fr+m<=used.length:=fh
       have ij:1<=m:=fg
       have al:=Zka bj
       have fa:gr<wr.heap.size:=(ak.out.own.lt gr rfl).2
       clear bj fe fg fh
       obtain⟨il,cy⟩:∃il,init.length=il:=⟨_,rfl⟩
       obtain⟨ln,dp⟩:∃ln,il+1=ln:=⟨_,rfl⟩
       rw[cy,Nat.mul_comm] at cf cm
       rw[cy,dp] at e2 ak bz
       have ie:il<ln:=by omega
       have ji:IntKind.i64.wrap ((ln:Int)-1)=(il:Int):=by rw[Zk2 _ (by omega)];omega
       have bf:=Zka (Zkb cy dp)
       clear cy dp
       go_wp2_with fail
       have g1:decide (0<=(il:Int))=true:=decide_eq_true (by omega)
       by_cases ew:fr+m=b
       ·have ir:decide ((fr:Int)+(m:Int)=(b:Int))=true:=decide_eq_true (by omega)
        go_quiet (fail)
        have ag:=Zp (Below.refl wr.heap.size wr) nq
        have B3:=ak.out.after ag
        have dx:(wr.drewN nq).cell? ⟨gr,il*2+1,none⟩=some (.int .i64 (m:Int)):=by rw[World.cell?_of_block (ag.block gr fa)];exact cm
        generalize wr.drewN nq=w3 at*
        have dy:=B3.row.cell (j:=2) rfl
        have ho:w3.ownsRow (y+1) 197 2 (.slice (some ⟨gr,0,none⟩) ln aq) ln (Qt (ZY (R.take j))):=by
         have h9:=B3.own
         rw[show(ZY (R.take j)).length=ln from by rw[al.out,ZjI,List.length_singleton,bf.out.1,bf.out.2]] at h9
         exact h9
        have j9:=ho.frozenAt (il*2+1)
        have HO:=Zka ho
        have b9:=Zka B3
        clear ag B3 e2 cu df g0 sj cm cf ho
        go_wp2_with fail
        go_roundw
        case measure=>simp[intOf];omega
        case rel=>
         refine⟨b+1,j+1,.slice (some ⟨gr,0,none⟩) ln aq,by omega,by omega,by omega,by go_num,rfl,HJ.out.1,?_⟩
         rw[HJ.out.2.1,al.out,Z5o,if_pos ew]
         have h9:=b9.out
         obtain⟨q1,q2⟩:=bf.out
         subst q2
         subst q1
         rw[al.out] at h9
         have h8:=h9.more (m+1)
         rw[Nat.mul_comm 2] at h8
         exact h8
       ·have ir:decide ((fr:Int)+(m:Int)=(b:Int))=false:=decide_eq_false (by omega)
        go_quiet (fail)
        have ag:=Zp (Below.refl wr.heap.size wr) nq
        have B3:=ak.out.after ag
        have dx:(wr.drewN nq).cell? ⟨gr,il*2+1,none⟩=some (.int .i64 (m:Int)):=by rw[World.cell?_of_block (ag.block gr fa)];exact cm
        generalize wr.drewN nq=w3 at*
        have dy:=B3.row.cell (j:=2) rfl
        have ho:w3.ownsRow (y+1) 197 2 (.slice (some ⟨gr,0,none⟩) ln aq) ln (Qt (ZY (R.take j))):=by
         have h9:=B3.own
         rw[show(ZY (R.take j)).length=ln from by rw[al.out,ZjI,List.length_singleton,bf.out.1,bf.out.2]] at h9
         exact h9
        have HO:=Zka ho
        have b9:=Zka B3
        clear ag B3 e2 cu df g0 sj cm cf ho
        clear dx
        go_wp2_with (at_builtin;refine wpList_append_own _ rfl (.tmp 78) (.tmp 81) 162 rfl (y+1) 197 i0 _ 2 16 underlying162 fc ft fu fw rfl (by omega) (.slice (some ⟨gr,0,none⟩) ln aq) ln (Qt (ZY (R.take j))) rfl (HO.out.alloc _) ⟨w3.heap.size,0,none⟩ 1 1 [.int .i64 (b:Int),.int .i64 1] rfl rfl (World.news_of_block (cs:= #[.int .i64 (b:Int),.int .i64 1]) (t:=197) (fr:=(0,0)) (heap_alloc_new w3 _)) (by simp[Value.oneCell']) (by unfold maxLen;omega) (by omega) (by have:=b9.out.row.lt;simp;omega) ?_;intro v' w6 ae aj af;obtain⟨g6,ah,iz,rfl,_,_,_,_⟩:=Z03 ae (fun e6=>by have:=af.1 e6;omega);clear af;have au:=b9.out.grow (v':=.slice (some ⟨g6,0,none⟩) (ln+1) ah) (by rw[show(ZY (R.take j)).length=ln from by rw[al.out,ZjI,List.length_singleton,bf.out.1,bf.out.2]];exact ae) aj;have f26:=au.1.free (j:=2) (by simp);have gy:=au.1.cell (j:=2) rfl;have de:=Zka au;clear au ae aj)
        go_roundw
        case measure=>simp[intOf];omega
        case rel=>
         refine⟨b+1,j+1,.slice (some ⟨g6,0,none⟩) (ln+1) ah,by omega,by omega,by omega,by go_num,rfl,HJ.out.1,?_⟩
         have h9:YZ (ZY (R.take j)) b=ZY (R.take j)++[(b,1)]:=by rw[al.out,Z5o,if_neg ew]
         rw[HJ.out.2.1,h9]
         exact de.out.2
    ·have dm:j=sc:=by omega
     clear hj ff
     subst dm
     have g0:decide (0<((j-j:Nat):Int))=false:=decide_eq_false (by omega)
     obtain⟨a',l',c',rfl,eo⟩:=ak.out.entv
     have ag:=(Below.refl wr.heap.size wr).drew
     have D:=cw.out.after ag
     have dw:=D.pl.row.cell (j:=0) rfl
     have B3:=ak.out.after ag
     have e0:=B3.row.cell (j:=0) rfl
     have e1:=B3.row.cell (j:=1) rfl
     have e2:=B3.row.cell (j:=2) rfl
     obtain⟨w6,iq,eh,eu⟩:=Z78 D.pl.dir (by unfold maxLen;omega) x.1 HX.out.2.1 _ ⟨e.size,e.sum,ZY (R.take j)⟩ (eo.fr (Fr.of_below (L:=[]) ag) (by simp))
     have D6:=D.dirTo eu eh
     have fy:=Zka D6
     have bq:=Zka az
     have fp:=HX.out.2.1
     clear D B3 eo ag eh eu bm D6 az
     go_wp2_with fail
     go_region
     go_wp2_with fail
     go_roundw
     case measure=>simp[intOf];omega
     case rel=>
      refine⟨i+1,b,_,ni+1,by omega,ib,?_,rfl,by go_num,?_,by omega,?_,fy.out⟩
      ·rw[bq.out,List.length_drop]
      ·rw[bq.out];exact HE.out.1
      ·intro x' fo
       rw[Dir.get_put,if_neg (HE.out.2.2.1 x' fo)]
       exact HE.out.2.1 x' (ZjS _ fo)
  ·obtain rfl:i=f.length:=by omega
   rw[List.drop_length] at bh
   have hd:di=d':=by
    unfold Yp at bh
    exact Option.some.inj bh
   subst hd
   clear hS
   go_wp2_with fail
   go_ret
   exact⟨rfl,⟨ni,by omega,HS.out.pl⟩,HS.out.fr⟩
end
section
open Go.RowKit Go.Maps Go.WideMaps
variable{N T V:Bs}{a:Ac}{acts:List Ac}{d:Dir}{f:Z1}{k:Nat}
theorem Zf2(h:Ac.wrong ⟨1,N,T,V⟩=false):T=[]/\1<=N.length/\N.length<=220/\V.length<=12000:=by
 unfold Ac.wrong at h
 simp at h
 obtain⟨⟨h1,h2⟩,h3⟩:=h
 exact⟨by simpa using h2,by omega,by omega,by omega⟩
theorem Zdo(h:Ac.wrong ⟨2,N,T,V⟩=false):T=[]/\V=[]/\1<=N.length/\N.length<=220:=by
 unfold Ac.wrong at h
 simp at h
 obtain⟨⟨h1,h2⟩,h3⟩:=h
 exact⟨by simpa using h3,by simpa using h1,by omega,by omega⟩
theorem Zdp(h:Ac.wrong ⟨3,N,T,V⟩=false):V=[]/\1<=T.length/\T.length<=220/\1<=N.length/\N.length<=220:=by
 unfold Ac.wrong at h
 simp at h
 obtain⟨⟨h1,h2⟩,h3⟩:=h
 exact⟨by simpa using h2,by omega,by omega,by omega,by omega⟩
theorem ZhQ(q db fb ga oa na ca:Nat)(us:Value)(acts:List Ac)(d d':Dir)(f f':Z1)(n1 n2 k:Nat)(a:Ac)(w:World)(h:PlA w q db fb ga oa na ca us acts d f n1 n2)(hk:acts[k]? =some a)(hm:acts.length<=100000)(hw:a.wrong=false)(hd:YU k a d f=some (d',f'))(ai:n1<=100000000)(aj:n2<=100000000)(af:na<=ca):
  Calls prog 86 #[.pointer (some ⟨q,0,none⟩),.int .i64 k] w fun e w'=>e=.returned .nilIface/\(∃al aq,al<=n1+1/\aq<=n2+1/\PlA w' q db fb ga oa na ca us acts d' f' al aq)/\Fr [db,fb] w w':=by
 have ah:k<acts.length:=(List.getElem?_eq_some_iff.1 hk).1
 have hg:acts.getD k ⟨0,[],[],[]⟩=a:=by rw[ZjE,hk];rfl
 obtain⟨kd,N,T,V⟩:=a
 unfold YU at hd
 split at hd
 ·rename_i h1
  have ae:kd=1:=h1
  subst ae
  obtain⟨rfl,h2,h3,h4⟩:=Zf2 hw
  simp only[ZjJ,Prod.mk.injEq] at hd
  obtain⟨rfl,rfl⟩:=hd
  exact ZhR q db fb ga oa na ca us acts d f n1 n2 k N V w h ah hm hg h3 h4 ai aj af
 ·rename_i h1
  have ae:kd=2:=h1
  subst ae
  obtain⟨rfl,rfl,h2,h3⟩:=Zdo hw
  split at hd
  ·rename_i e0 ag
   simp only[ZjJ,Prod.mk.injEq] at hd
   obtain⟨rfl,rfl⟩:=hd
   exact Zgg q db fb ga oa na ca us acts d f n1 n2 k N e0 w h ah hm hg h3 ag ai aj af
  ·cases hd
 ·rename_i h1
  have ae:kd=3:=h1
  subst ae
  obtain⟨rfl,h2,h3,h4,h5⟩:=Zdp hw
  split at hd
  ·rename_i e0 ag
   split at hd
   ·cases hd
   ·rename_i ak
    simp only[not_or] at ak
    obtain⟨ax,aw⟩:=ak
    simp only[ZjJ,Prod.mk.injEq] at hd
    obtain⟨rfl,rfl⟩:=hd
    have au:f.by N=none:=by
     have h9:=Z1.has_by f N
     cases hb:f.by N with
     |none=>rfl
     |some x=>rw[hb] at h9;exact absurd h9 aw
    exact Zgh q db fb ga oa na ca us acts d f n1 n2 k N T e0 w h ah hm hg h5 h3 ax ag au ai aj af
  ·cases hd
 ·cases hd
theorem Zaz(hk:acts[k]? =some a){d d1:Dir}{f f1:Z1}(h:Ql (acts.drop k) k d f=some (d1,f1)):∃d' f',YU k a d f=some (d',f')/\Ql (acts.drop (k+1)) (k+1) d' f'=some (d1,f1):=by
 obtain⟨ae,he⟩:=List.getElem?_eq_some_iff.1 hk
 rw[List.drop_eq_getElem_cons ae,he,Ql] at h
 split at h
 ·rename_i d' f' h1;exact⟨d',f',h1,h⟩
 ·cases h
theorem Zax{d':Dir}{f':Z1}(h:YU k a d f=some (d',f'))(ho:(f.map (·.2)).Pairwise (·<·))(hk:∀x∈f,x.2<k)(hl:∀x∈f,x.1.length<=220)(hw:a.wrong=false):(f'.map (·.2)).Pairwise (·<·)/\(∀x∈f',x.2<k+1)/\∀x∈f',x.1.length<=220:=by
 have ae:∀n,((f.del n).map (·.2)).Pairwise (·<·):=fun n=>ho.sublist ((List.filter_sublist).map _)
 unfold YU at h
 split at h
 ·rename_i h1
  simp only[ZjJ,Prod.mk.injEq] at h
  obtain⟨rfl,rfl⟩:=h
  refine⟨?_,fun x hx=> ?_,fun x hx=> ?_⟩
  ·rw[ZjZ,List.pairwise_append]
   refine⟨ae _,by simp,fun x hx y hy=> ?_⟩
   obtain⟨z,hz,rfl⟩:=List.mem_map.1 hx
   simp only[ZjY,List.map_nil,ZjD] at hy
   subst hy
   exact hk z (Z1.mem_del.1 hz).1
  ·rcases ZjU.1 hx with hx|hx
   ·have:=hk x (Z1.mem_del.1 hx).1;omega
   ·rw[ZjD] at hx;subst hx;exact Nat.lt_succ_self _
  ·rcases ZjU.1 hx with hx|hx
   ·exact hl x (Z1.mem_del.1 hx).1
   ·rw[ZjD] at hx;subst hx;exact(Ac.put_ok hw h1).2.1
 ·split at h
  ·simp only[ZjJ,Prod.mk.injEq] at h
   obtain⟨rfl,rfl⟩:=h
   exact⟨ae _,fun x hx=>by have:=hk x (Z1.mem_del.1 hx).1;omega,fun x hx=>hl x (Z1.mem_del.1 hx).1⟩
  ·cases h
 ·split at h
  ·split at h
   ·cases h
   ·simp only[ZjJ,Prod.mk.injEq] at h
    obtain⟨rfl,rfl⟩:=h
    exact⟨(ae a.name).sublist ((List.filter_sublist).map _),fun x hx=>by have:=hk x (Z1.mem_del.1 (Z1.mem_del.1 hx).1).1;omega,fun x hx=>hl x (Z1.mem_del.1 (Z1.mem_del.1 hx).1).1⟩
  ·cases h
 ·cases h
theorem Z8U(hw:∀a∈acts,a.wrong=false):∀{k:Nat} {d d':Dir} {f f':Z1},Ql acts k d f=some (d',f')->(f.map (·.2)).Pairwise (·<·)->(∀x∈f,x.2<k)->(∀x∈f,x.1.length<=220)->(f'.map (·.2)).Pairwise (·<·)/\(∀x∈f',x.2<k+acts.length)/\∀x∈f',x.1.length<=220:=by
 induction acts with
 |nil=>intro k d d' f f' h ho hk hl;simp only[Ql,ZjJ,Prod.mk.injEq] at h;obtain⟨rfl,rfl⟩:=h;exact⟨ho,hk,hl⟩
 |cons a r ih=>
  intro k d d' f f' h ho hk hl
  rw[Ql] at h
  split at h
  ·rename_i d1 f1 h1
   obtain⟨o1,o2,o3⟩:=Zax h1 ho hk hl (hw a (by simp))
   obtain⟨p1,p2,p3⟩:=ih (fun b hb=>hw b (by simp[hb])) h o1 o2 o3
   exact⟨p1,fun x hx=>by have:=p2 x hx;rw[ZjM];omega,p3⟩
  ·cases h
theorem Z41(a b:List Nat)(v:Bs):Q6 (a++b) v=Q6 a v++Q6 b (v.drop (64*a.length)):=by
 induction a generalizing v with
 |nil=>simp[Q6]
 |cons x a ih=>
  rw[List.cons_append,Q6,Q6,ih,List.drop_drop,List.cons_append,ZjM,show 64*(a.length+1)=64+64*a.length from by omega]
theorem Z42(l:List Nat)(v:Bs):(Q6 l v).length=l.length:=by
 induction l generalizing v with
 |nil=>rfl
 |cons x l ih=>rw[Q6,ZjM,ZjM,ih]
theorem Z2x(d:Dir)(acts:List Ac)(f g:Z1):Ya d acts (f++g)=Ya d acts f++Ya d acts g:=by
 unfold Ya;rw[List.flatMap_append]
theorem Za8(d:Dir)(acts:List Ac)(x:Bs×Nat){e:Ent}(h:d.get x.1=some e):Ya d acts [x]=Q6 e.secs (acts.getD x.2 ⟨0,[],[],[]⟩).value:=by
 unfold Ya;simp[h]
theorem Z6m(h:∀x∈f,∃e,d.get x.1=some e/\Ent.Ok 800 100 e):(Ya d acts f).length<=200*f.length:=by
 induction f with
 |nil=>simp[ZgR]
 |cons x r ih=>
  obtain⟨e,he,hk⟩:=h x (by simp)
  have h1:=ih (fun y hy=>h y (by simp[hy]))
  have h2:e.secs.length<=200:=by rw[hk.secs];have:=hk.size;unfold ZH;omega
  rw[show x::r=[x]++r from rfl,Z2x,ZjI,Za8 d acts x he,Z42,ZjI]
  simp only[List.length_singleton]
  omega
theorem Zaw{Y:List DOp}(h:∃r,Ya d acts f=Y++r)(hY:Y≠[]):∃r,Q5 d acts f=Y++r:=by
 obtain⟨r,h⟩:=h
 refine⟨r++[.fl],?_⟩
 unfold Q5
 rw[h,if_neg (by cases Y with|nil=>exact absurd rfl hY|cons a b=>simp),ZjL]
end
section
open Go.RowKit Go.Maps Go.WideMaps
structure WrS(B p d:Nat)(P:Pw)(D:Dk)(L:List Nat)(s q db fb ga oa na ca:Nat)(us:Value)(acts:List Ac)(dir:Dir)(f:Z1)(n1 n2:Nat)(l0:List Value)(g:Nat)(ts:List Value)(w:World)(A:List DOp)(wr:World):Prop where
 pl:PlA wr q db fb ga oa na ca us acts dir f n1 n2
 st:Row wr s 157 (.pointer (some ⟨d,0,none⟩)::l0)
 txt:Row wr g 9 ts
 stg:∃P1 D1 L1,Stg B p d 800 L [] A P D w P1 D1 L1 wr
section
variable{B p d:Nat}{P:Pw}{D:Dk}{L:List Nat}{s q db fb ga oa na ca:Nat}{us:Value}{acts:List Ac}{dir:Dir}{f:Z1}{n1 n2:Nat}{l0:List Value}{g:Nat}{ts:List Value}{w:World}{A:List DOp}{wr:World}
theorem WrS.after(h:WrS B p d P D L s q db fb ga oa na ca us acts dir f n1 n2 l0 g ts w A wr){w':World}(hb:Below wr.heap.size wr w'):WrS B p d P D L s q db fb ga oa na ca us acts dir f n1 n2 l0 g ts w A w':=by
 obtain⟨P1,D1,L1,h4⟩:=h.stg
 exact⟨h.pl.after hb,h.st.after hb,h.txt.after hb,P1,D1,L1,h4.after hb⟩
theorem PlA.did{L1:List Nat}{P1:Pw}{D1:Dk}{w':World}(h:PlA wr q db fb ga oa na ca us acts dir f n1 n2)(hp:PD B wr p d 800 P D L)(hd:Did B p d 800 L [] P1 D1 wr w' L1)(af:ga∉p::L):PlA w' q db fb ga oa na ca us acts dir f n1 n2:=by
 have ae:Fr (p::L) wr w':=by simpa using hd.fr
 refine⟨hd.row hp h.row (by simp) (by decide) (by decide) (by decide) (by decide),h.dir.fr ae ?_ hp.no_ext,h.fsh.fr ae ?_,h.ard.fr ae af,h.many,h.ne,h.nag⟩
 ·obtain⟨fv,m1,_⟩:=h.dir
  obtain⟨es,cl,hb⟩:=m1.block
  exact hp.map_ne hb
 ·obtain⟨es,cl,hb⟩:=h.fsh.block
  exact hp.map_ne hb
end
theorem ZeW(d:Dir)(acts:List Ac)(f:Z1)(i:Nat)(hi:i<f.length){e:Ent}(h:d.get (f[i]).1=some e):Ya d acts (f.take (i+1))=Ya d acts (f.take i)++Q6 e.secs (acts.getD (f[i]).2 ⟨0,[],[],[]⟩).value:=by
 rw[ZjK hi,Z2x,Za8 d acts _ h]
theorem Zbg(l:List Nat)(a:Nat)(v:Bs):Q6 (l++[a]) v=Q6 l v++[.wr a (XG (v.drop (64*l.length)))]:=by
 rw[Z41];rfl
theorem Zbh(d:Dir)(acts:List Ac)(f:Z1)(i:Nat):∃r,Ya d acts f=Ya d acts (f.take i)++r:=⟨Ya d acts (f.drop i),by rw[<-Z2x,Zk4]⟩
theorem Zew(v:ByteArray)(rl nn z:Nat)(h1:v.size=rl)(h2:nn=min rl 64)(h3:z=64-nn):v.extract 0 nn++Wv z=XG v.data.toList:=by
 apply Z8J
 have hl:v.data.toList.length=rl:=by rw[<-h1];simp
 rw[data_append]
 unfold XG
 rw[Ze]
 have e1:(v.extract 0 nn).data.toList=v.data.toList.take 64:=by
  rw[Lib.extract_data]
  rcases Nat.le_total rl 64 with h|h
  ·rw[h2,Nat.min_eq_left h,List.drop_zero,ZjT (by omega),ZjT (by omega)]
  ·rw[h2,Nat.min_eq_right h,List.drop_zero]
 rw[e1]
 congr 1
 show List.replicate z 0=_
 rw[ZjO,hl]
 congr 1
 omega
theorem Zft(sz sm:Int)(a:Option Addr)(l c:Nat)(W:World):(Instr.field 164 (.agg #[.int .i64 sz,.int .u32 sm,.slice a l c]) 2).run prog W=.ok (.slice a l c) W:=by kernel_rfl
theorem Z8p(B p d:Nat)(P:Pw)(D:Dk)(L:List Nat)(s q db fb ga oa na ca:Nat)(us:Value)(acts:List Ac)(dir:Dir)(f:Z1)(n1 n2:Nat)(l0:List Value)(w:World)(h:PD B w p d 800 P D L)(hB:B<=w.heap.size)(hs:Row w s 157 (.pointer (some ⟨d,0,none⟩)::l0))(hp:PlA w q db fb ga oa na ca us acts dir f n1 n2)(gj:ga∉p::L)
  (hf:∀x∈f,∃e,dir.get x.1=some e/\Ent.Ok 800 100 e/\e.size=(acV acts x.2).length/\x.2<acts.length) (hn:(f.map (·.1)).Nodup) (ha:(f.map (·.2)).Pairwise (·<·)) (fp:f.length<=12) (js:acts.length<=100000) (ib:∀x∈f,x.1.length<=220) (jw:na<=ca) (jb:D.wait.length<=100000):
  Calls prog 134 #[.pointer (some ⟨s,0,none⟩),.pointer (some ⟨q,0,none⟩)] w (Ans w.heap.size (Z2 (Q5 dir acts f) P D).1 (Ran B p d 800 L [] (Q5 dir acts f) P D w)):=by
 have hi:∀x∈f,x.2<=100000:=fun x hx=>by obtain⟨e,_,_,_,h9⟩:=hf x hx;omega
 have jg:(f.map (·.1)).length=f.length:=ZjN ..
 have HP:=Zka (Zkb h (Zkb hB (Zkb hs (Zkb hp gj))))
 have HF:=Zka (Zkb hf (Zkb hn (Zkb ha (Zkb hi ib))))
 have HM:=Zka jg
 clear h hB hs hp gj hf hn ha hi ib
 go_enter func134,ntmps134
 by_cases fx:f=[]
 ·subst fx
  have e0:Q5 dir acts []=[]:=rfl
  rw[e0]
  go_wp2_with (go_at_call 131;refine(Z3m q db fb ga oa na ca _ acts dir [] n1 n2 _ HP.out.2.2.2.1 HF.out.2.1 HF.out.2.2.1 fp HF.out.2.2.2.1 HF.out.2.2.2.2).mono ?_;rintro e w1 ⟨v,rfl,hv,bq⟩;have S1:=Zka bq;obtain⟨g,cap,rfl⟩:=Za5 hv;clear hv bq)
  go_loopw [5,17] (fun wv iv wr=>iv=.int .i64 0/\wv=.bool false/\Below w.heap.size w wr) (fun _ _ _=>0)
  case atStart=>exact⟨rfl,rfl,S1.out⟩
  case round=>
   obtain⟨rfl,rfl,hb⟩:=hrel
   go_wp2_with fail
   go_ret
   exact⟨_,rfl,Zu.nil _ _,L,Did.same HP.out.1 [] hb⟩
 have jc:0<f.length:=List.length_pos_iff.2 fx
 go_wp2_with (go_at_call 131;refine(Z3m q db fb ga oa na ca _ acts dir f n1 n2 _ HP.out.2.2.2.1 HF.out.2.1 HF.out.2.2.1 fp HF.out.2.2.2.1 HF.out.2.2.2.2).mono ?_;rintro e w1 ⟨v,rfl,hv,bq⟩;obtain⟨g,cap,sp,rfl,gx,jt,ju,ij⟩:=Qs hv (by rw[HM.out];exact jc);have S1:=Zka (Zkb ij (Zkb bq gx));clear hv ij bq gx)
 obtain⟨ts,fe⟩:∃ts,Z6 ((f.map (·.1)).map str)++sp=ts:=⟨_,rfl⟩
 have az:∀k (hk:k<f.length),ts[k]? =some (.string (str (f[k]).1)):=fun k hk=>by
  rw[<-fe,ZjH (by simp[Z6];omega)]
  simp[Z6,hk]
 have W0:WrS B p d P D L s q db fb ga oa na ca us acts dir f n1 n2 l0 g ts w [] w1:=⟨HP.out.2.2.2.1.after S1.out.2.1,HP.out.2.2.1.after S1.out.2.1,by rw[<-fe];exact S1.out.1,P,D,L,Stg.start HP.out.1 [] S1.out.2.1⟩
 have j7:=Zka W0
 have iz:=Zka az
 clear fe az W0
 go_loopw [5,17] (fun wv iv wr=>∃i:Nat,i<=f.length/\wv=.bool (!(Ya dir acts (f.take i)).isEmpty)/\iv=.int .i64 i/\WrS B p d P D L s q db fb ga oa na ca us acts dir f n1 n2 l0 g ts w (Ya dir acts (f.take i)) wr) (fun _ iv _=>f.length- (intOf iv).toNat)
 case atStart=>exact⟨0,by omega,rfl,rfl,j7.out⟩
 case round=>
  obtain⟨i,jx,rfl,rfl,hS⟩:=hrel
  have HS:=Zka hS
  by_cases eu:i<f.length
  ·have au:=hS.txt.cell (iz.out i eu)
   have al:f[i]∈f:=ZjW eu
   obtain⟨e,he,ef,cu,dh⟩:=HF.out.1 _ al
   have bg:=ZeW dir acts f i eu he
   have af:=Zbh dir acts f (i+1)
   have iu:=HF.out.2.2.2.2 _ al
   have bf:f.by (f[i]).1=some (f[i]).2:=Z1.by_mem HF.out.2.1 al
   obtain⟨x,hx⟩:∃x,f[i]=x:=⟨_,rfl⟩
   rw[hx] at au he cu dh bg iu bf
   have fo:=Z6m (d:=dir) (acts:=acts) (f:=f.take i) (fun x hx=>by obtain⟨e,he,k,_⟩:=HF.out.1 x (List.mem_of_mem_take hx);exact⟨e,he,k⟩)
   have iy:Hid ((Ya dir acts (f.take i)).length<=2400):=Zka (by rw[ZjO] at fo;omega)
   clear fo
   obtain⟨A0,bh⟩:∃A0,Ya dir acts (f.take i)=A0:=⟨_,rfl⟩
   rw[bg,bh] at af
   rw[bh] at bg HS⊢
   have iw:x.1.length<=maxLen:=by unfold maxLen;omega
   have dw:(acts.getD x.2 ⟨0,[],[],[]⟩).value=acV acts x.2:=rfl
   obtain⟨V,hV⟩:∃V,acV acts x.2=V:=⟨_,rfl⟩
   rw[dw] at bg af
   rw[hV] at bg cu af
   have jr:V.length<=12000:=by rw[<-cu];exact ef.size
   have D1:=HS.out.after ((Below.refl wr.heap.size wr).drew)
   have y2:=D1.pl.row.cell (j:=2) rfl
   have y1:=D1.pl.row.cell (j:=1) rfl
   have jd:(Instr.lookup 165 (.map (some fb)) (.string (str x.1)) false).run prog wr.drew=.ok (.int .i64 (x.2:Int)) wr.drew:=D1.pl.fsh.at_some underlying165 (Z2I _) iw (by unfold QA;rw[bf];rfl)
   have j9:wr.drew.cell? ⟨ga,oa+x.2*4+3,none⟩=some (.string (str V)):=by rw[<-hV,<-dw];exact(D1.pl.ard.2 x.2 dh).2.2.2
   have jq:x.2<na:=by rw[D1.pl.many];exact dh
   have fg:(x.2:Int)<(na:Int):=by omega
   have HE:=Zka (Zkb he (Zkb ef (Zkb cu (Zkb bg (Zkb af iw)))))
   have HX:=Zka (Zkb hx (Zkb bh hV))
   have dm:=Zka D1
   clear hx he ef cu bg bf af iu dw hV bh hS al D1 dh
   go_wp2_with fail
   go_region
   generalize wr.drew=w3 at*
   clear y2 y1 jd j9 jq fg au
   obtain⟨a2,l2,c2,gy,a',l',c',df,⟨hlen,ax⟩, -⟩:=Z8T dm.out.pl.dir HE.out.1 HE.out.2.2.2.2.2
   injection df with df
   simp at df
   obtain⟨rfl,rfl,rfl⟩:=df
   subst hlen
   have er:=gy _ Zk9
   have eh:=Zft (e.size:Int) (e.sum:Int) a2 e.runs.length c2
   have y0:=dm.out.pl.row.cell (j:=0) rfl
   have HR:=Zka ax
   clear gy ax
   go_wp2_with fail
   clear er y0 eh
   have ag:(Z9 e.runs).length=ZH V.length:=by rw[<-HE.out.2.2.1];exact HE.out.2.1.secs
   have aj:(Z9 e.runs).length<=200:=by rw[ag];unfold ZH;omega
   have fu:V.length<=64*(Z9 e.runs).length:=by rw[ag];unfold ZH;omega
   have ai:=HE.out.2.1.many
   have ez:e.runs.length<=200:=Zk1 (Z2M e.runs (fun r hr=>(ai r hr).1)) aj
   have dp:=Zka (Zkb ai (Zkb ag (Zkb aj fu)))
   clear ai ag aj fu
   go_loopw [5,8,42] (fun wv vv kv wj=>∃qq:Nat,qq<=e.runs.length/\wv=.bool (!(A0++Q6 (Z9 (e.runs.take qq)) V).isEmpty)/\vv=.string (str (V.drop (64*(Z9 (e.runs.take qq)).length)))/\kv=.int .i64 qq/\WrS B p d P D L s q db fb ga oa na ca us acts dir f n1 n2 l0 g ts w (A0++Q6 (Z9 (e.runs.take qq)) V) wj/\(e.runs=[]∨∃gr sp,a2=some ⟨gr,0,none⟩/\Row wj gr 197 (Qt e.runs++sp))) (fun _ _ kv _=>e.runs.length- (intOf kv).toNat)
   case atStart=>exact⟨0,by omega,by simp[Z9,Q6],by simp[Z9],rfl,by simpa[Z9,Q6] using dm.out,HR.out⟩
   case round=>
    obtain⟨qq,jz,rfl,rfl,rfl,dx,dc⟩:=hrel
    have cw:=Zka (Zkb dx dc)
    by_cases bj:qq<e.runs.length
    ·obtain⟨gr,fi,rfl,aq⟩:∃gr sp,a2=some ⟨gr,0,none⟩/\Row wr gr 197 (Qt e.runs++sp):=by
      rcases dc with h0|h0
      ·rw[h0] at bj;cases bj
      ·exact h0
     obtain⟨g1,g2⟩:=Z0s e.runs qq bj
     have hl:=YE e.runs
     have d1:=aq.cell (j:=qq*2) (by rw[ZjH (by omega),Nat.mul_comm];exact g1)
     have d2:=aq.cell (j:=qq*2+1) (by rw[ZjH (by omega),Nat.mul_comm];exact g2)
     have ia:=dp.out.1 (e.runs.getD qq (0,0)) (by rw[ZjE,ZjF bj];exact ZjW bj)
     have az:=JK e.runs qq bj
     have jl:=Z0l e.runs (qq+1)
     obtain⟨fr,ek⟩:∃fr,(e.runs.getD qq (0,0)).1=fr:=⟨_,rfl⟩
     obtain⟨m,hm⟩:∃m,(e.runs.getD qq (0,0)).2=m:=⟨_,rfl⟩
     rw[ek,hm] at az ia
     rw[ek] at d1
     rw[hm] at d2
     obtain⟨m1,m2,m3⟩:=ia
     obtain⟨F,hF⟩:∃F,Z9 (e.runs.take qq)=F:=⟨_,rfl⟩
     rw[hF] at az cw⊢
     obtain⟨zz,dj⟩:=jl
     rw[az] at dj
     have cj:F.length+m+zz.length=(Z9 e.runs).length:=by
      have:=congrArg List.length dj
      simp only[ZjI,List.length_range'] at this
      omega
     have HK:=Zka (Zkb az (Zkb dj (Zkb hF cj)))
     have dq:=Zka aq
     clear dx dc aq g1 g2 hl ek hm az hF dj cj
     go_wp2_with fail
     obtain⟨y,hy⟩:∃y,wr.heap.size=y:=⟨_,rfl⟩
     have fa:=Row.new wr 197 [.int .i64 (fr:Int),.int .i64 (m:Int)]
     have bf:=(Below.refl wr.heap.size wr).alloc Zk8 (.cells #[.int .i64 (fr:Int),.int .i64 (m:Int)] 197)
     have T5:=cw.out.1.after bf
     have R5:=dq.out.after bf
     rw[hy] at fa⊢
     generalize wr.alloc (.cells #[.int .i64 (fr:Int),.int .i64 (m:Int)] 197)=w6 at*
     have fm:=Zka (Zkb T5 (Zkb fa R5))
     clear T5 fa R5 hy d1 d2 bf
     go_loopw [5,8,11] (fun wv vv av wk=>∃tt:Nat,tt<=m/\wv=.bool (!(A0++Q6 (F++List.range' fr tt) V).isEmpty)/\vv=.string (str (V.drop (64*(F.length+tt))))/\av=.int .i64 ((fr+tt:Nat):Int)/\WrS B p d P D L s q db fb ga oa na ca us acts dir f n1 n2 l0 g ts w (A0++Q6 (F++List.range' fr tt) V) wk/\Row wk y 197 [.int .i64 (fr:Int),.int .i64 (m:Int)]/\Row wk gr 197 (Qt e.runs++fi)) (fun _ _ av _=>fr+m- (intOf av).toNat)
     case atStart=>exact⟨0,by omega,by simp,by simp,by simp,by simpa using fm.out.1,fm.out.2⟩
     case round=>
      obtain⟨tt,kg,rfl,rfl,rfl,du,ct,ey⟩:=hrel
      have x0:=ct.cell (j:=0) rfl
      have x1:=ct.cell (j:=1) rfl
      have b9:=Zka (Zkb du (Zkb ct ey))
      by_cases kf:tt<m
      ·obtain⟨kk,cz⟩:∃kk,fr+tt=kk:=⟨_,rfl⟩
       have k3:(kk:Int)<(fr:Int)+(m:Int):=by omega
       have ja:=HK.out.2.2.2
       have j8:64*(F.length+tt)<=64*200:=by have:=dp.out.2.2.1;omega
       obtain⟨dn,ee⟩:∃dn,64*(F.length+tt)=dn:=⟨_,rfl⟩
       obtain⟨v,hv⟩:∃v,str (V.drop dn)=v:=⟨_,rfl⟩
       have ff:v.size=V.length-dn:=by rw[<-hv,Z5,List.length_drop]
       obtain⟨rl,iq⟩:∃rl,V.length-dn=rl:=⟨_,rfl⟩
       rw[iq] at ff
       obtain⟨nn,ic⟩:∃nn,min rl 64=nn:=⟨_,rfl⟩
       obtain⟨z,hz⟩:∃z,64-nn=z:=⟨_,rfl⟩
       have jy:min (rl:Int) 64=(nn:Int):=by omega
       have ix:(64:Int)- (nn:Int)=(z:Int):=by omega
       have kh:z<=64:=by omega
       have ir:=Zk2 ((64:Int)- (nn:Int)) (by omega)
       rw[ix] at ir
       have jo:IntKind.i64.wrap ((64:Int)- (nn:Int))=(z:Int):=by rw[ix];exact ir
       have ie:nn<=v.size:=by omega
       have jh:(nn:Int)<=(rl:Int):=by omega
       have ji:nn<=rl:=by omega
       have jk:(nn:Int)<=(v.size:Int):=by omega
       have ke:∀W,(Instr.slice 9 (.string v) none (some (.int .i64 (nn:Int))) none).run prog W=.ok (.string (v.extract 0 nn)) W:=fun W=>Z1t (P:=prog) 9 underlying9 v nn ie W
       have jm:∀W,(Instr.slice 9 (.string v) (some (.int .i64 (nn:Int))) none none).run prog W=.ok (.string (v.extract nn v.size)) W:=fun W=>Y4 (P:=prog) 9 underlying9 v nn ie W
       have ig:v.extract 0 nn++Wv z=XG (V.drop dn):=by rw[Zew v rl nn z ff ic.symm hz.symm,<-hv,Ze]
       have fw:(v.extract 0 nn).size=nn:=by rw[ByteArray.size_extract];omega
       have dy:∀W,(Op.stringOp .add (v.extract 0 nn) (Wv z)).run prog W=.ok (.string (XG (V.drop dn))) W:=fun W=>by rw[<-ig];exact run_string_add_sum W _ _ (by rw[fw,XM];omega)
       obtain⟨ak,dt⟩:∃ak,XG (V.drop dn)=ak:=⟨_,rfl⟩
       rw[dt] at dy
       have aw:v.extract nn v.size=str (V.drop (64*(F.length+(tt+1)))):=by
        apply Yc
        rw[Lib.extract_to_end,<-hv,Ze,Ze,List.drop_drop]
        rcases Nat.lt_or_ge rl 64 with h9|h9
        ·rw[List.drop_of_length_le (by omega),List.drop_of_length_le (by omega)]
        ·congr 1;omega
       obtain⟨A,hA⟩:∃A,A0++Q6 (F++List.range' fr tt) V=A:=⟨_,rfl⟩
       have fq:A0++Q6 (F++List.range' fr (tt+1)) V=A++[.wr kk ak]:=by
        rw[List.range'_1_concat,<-ZjL,Zbg,<-ZjL,hA,ZjI,List.length_range',cz,ee,dt]
       rw[hA] at b9
       obtain⟨P1,D1,L1,ae⟩:=b9.out.1.stg
       have fy:D1.wait.length<1099511627776:=by
        have h9:=ae.few
        have h8:A.length<=12000:=by
         rw[<-hA,ZjI,Z42,ZjI,List.length_range']
         have h7:=iy.out
         rw[HX.out.2.1] at h7
         have h6:=dp.out.2.2.1
         omega
        omega
       have ft:B<=wr.heap.size:=Zk1 HP.out.2.1 ae.size
       have ah:ga∉p::L1:=fun hm=>by
        rcases ZjV.1 hm with rfl|hm
        ·exact HP.out.2.2.2.2 (by simp)
        ·rcases ae.did.grew ga hm with h9|h9
         ·exact HP.out.2.2.2.2 (ZjS _ h9)
         ·have:=HP.out.2.2.2.1.ard.1;omega
       have HQ:=Zka (Zkb cz (Zkb fq (Zkb aw (Zkb hA (Zkb ah (Zkb ft fy))))))
       have S0:=Zka (Zkb (b9.out.1.after ((Below.refl wr.heap.size wr).drew)) (Zkb (ae.after ((Below.refl wr.heap.size wr).drew)) (Zkb (b9.out.2.1.after ((Below.refl wr.heap.size wr).drew)) (b9.out.2.2.after ((Below.refl wr.heap.size wr).drew)))))
       have s0:wr.drew.cell? ⟨s,0,none⟩=some (.pointer (some ⟨d,0,none⟩)):=S0.out.1.st.cell (j:=0) rfl
       rw[cz,ee,hv]
       clear du ct ey cz ee hv iq ic hz ig fw dt aw hA fq ae fy ft ah ja j8
       go_wp2_with fail
       go_region_held3 (fun w'=>w'.cell? ⟨s,0,none⟩=some (.pointer (some ⟨d,0,none⟩))) (first|assumption|exact S1.out.1.st.cell (j:=0) rfl|exact S2.out.cell (j:=0) rfl)
        (first
         |(go_at_call 120;refine(Tryz.strings_Repeat ⟨#[0]⟩ z _ (by omega) (by show 1*z<=_;omega)).mono ?_;rw[Ji];rintro e w7 ⟨rfl,bu⟩;have S1:=Zka (Zkb (S0.out.1.after bu) (Zkb (S0.out.2.1.after bu) (Zkb (S0.out.2.2.1.after bu) (S0.out.2.2.2.after bu))));clear bu)
         |(go_at_call 190;refine(PD.write S1.out.2.1.did.pd (Zk1 HP.out.2.1 S1.out.2.1.size) (kk:Int) ak HQ.out.2.2.2.2.2.2).mono ?_;rintro e w8 ⟨ev,rfl,cr,L2,dz⟩;have S2:=Zka (dz.row S1.out.2.1.did.pd S1.out.1.st (by simp) (by decide) (by decide) (by decide) (by decide));have S3:=Zka (Zkb cr dz);clear cr dz))
       have ah:=HQ.out.2.2.2.2.1
       have ew:PlA w8 q db fb ga oa na ca us acts dir f n1 n2:=S1.out.1.pl.did S1.out.2.1.did.pd S3.out.2 ah
       have fc:Row w8 g 9 ts:=S3.out.2.row S1.out.2.1.did.pd S1.out.1.txt (by simp) (by decide) (by decide) (by decide) (by decide)
       have fh:Row w8 y 197 [.int .i64 (fr:Int),.int .i64 (m:Int)]:=S3.out.2.row S1.out.2.1.did.pd S1.out.2.2.1 (by simp) (by decide) (by decide) (by decide) (by decide)
       have eo:Row w8 gr 197 (Qt e.runs++fi):=S3.out.2.row S1.out.2.1.did.pd S1.out.2.2.2 (by simp) (by decide) (by decide) (by decide) (by decide)
       have cy:=S3.out.1
       have cn:(Z2 [DOp.wr kk ak] P1 D1).1=YC P1 D1 (kk:Int) ak:=by rw[Z0v];rfl
       have de:Ran B p d 800 L1 [] [DOp.wr kk ak] P1 D1 w7 w8:=Ran.one ⟨L2,S3.out.2⟩
       rcases cy.split with ⟨hc,rfl⟩|⟨hc,b,rfl⟩
       ·obtain⟨P2,D2,L3,ay⟩:=S1.out.2.1.next (by rw[cn];exact hc) de
        have S4:=Zka (Zkb (WrS.mk ew S2.out fc ⟨P2,D2,L3,ay⟩) (Zkb fh eo))
        clear ew fc fh eo cy cn de ay hc ah
        go_wp2_with fail
        go_roundw
        case measure=>have:=HQ.out.1;simp[intOf];omega
        case rel=>
         obtain⟨q1,q2,q3,q4, -⟩:=HQ.out
         exact⟨tt+1,by omega,by rw[q2];simp,by rw[<-q3,ff],by rw[<-q1];go_num,by rw[q2];exact S4.out.1,S4.out.2.1,S4.out.2.2⟩
       ·have bm:=S1.out.2.1.fail (by rw[cn];exact cy) de
        have bz:=S1.out.2.1.code_ne (b:=[DOp.wr kk ak]) (by rw[cn];exact hc)
        have af:∃r,Q5 dir acts f=(A++[DOp.wr kk ak])++r:=by
         refine Zaw ?_ (by simp)
         obtain⟨r,hr⟩:=HE.out.2.2.2.2.1
         obtain⟨q1,q2,q3,q4, -⟩:=HQ.out
         rw[hr,<-q2,show e.secs=Z9 e.runs from rfl,HK.out.2.1]
         have je:List.range' fr m=List.range' fr (tt+1)++List.range' (fr+(tt+1)) (m- (tt+1)):=by rw[List.range'_append_1];congr 1;omega
         rw[je,<-ZjL F,ZjL (F++_),Z41]
         exact⟨Q6 (List.range' (fr+(tt+1)) (m- (tt+1))++zz) (List.drop (64*(F++List.range' fr (tt+1)).length) V)++r,by simp only[ZjL]⟩
        obtain⟨r9,im⟩:=af
        have HN:=Zka (Zkb (Q9 (r:=r9) bz bm) im)
        clear bm bz im ew fc fh eo cy cn de hc ah
        go_wp2_with fail
        go_ret
        have h9:=HN.out.1
        rw[<-HN.out.2] at h9
        exact h9
      ·obtain rfl:tt=m:=by omega
       have k3:¬ ((fr+tt:Nat):Int)<(fr:Int)+(tt:Int):=by omega
       clear du ct ey
       go_wp2_with fail
       go_roundw
       case measure=>simp[intOf];omega
       case rel=>exact⟨qq+1,by omega,by rw[HK.out.1],by rw[HK.out.1,ZjI,List.length_range'],by go_num,by rw[HK.out.1];exact b9.out.1,Or.inr ⟨gr,fi,rfl,b9.out.2.2⟩⟩
    ·obtain rfl:qq=e.runs.length:=by omega
     rw[Zk5] at cw
     clear dx dc
     go_wp2_with fail
     go_roundw
     case measure=>simp[intOf];omega
     case rel=>
      have h9:Ya dir acts (f.take (i+1))=A0++Q6 (Z9 e.runs) V:=HE.out.2.2.2.1
      exact⟨i+1,by omega,by rw[h9,Zk5],by go_num,by rw[h9];exact cw.out.1⟩
  ·obtain rfl:i=f.length:=by omega
   rw[Zk5] at HS⊢
   obtain⟨P1,D1,L1,ae⟩:=HS.out.stg
   have HG:=Zka ae
   obtain⟨A,hA⟩:∃A,Ya dir acts f=A:=⟨_,rfl⟩
   have e9:Q5 dir acts f=if A.isEmpty then[] else A++[.fl]:=by unfold Q5;rw[hA]
   rw[hA] at HG⊢
   clear hS ae
   have fj:=Zka e9
   clear e9 hA
   cases dr:A.isEmpty
   case true=>
    have bh:=List.isEmpty_iff.1 dr
    subst bh
    clear dr
    go_wp2_with fail
    go_ret
    rw[show Q5 dir acts f=[] from fj.out]
    exact HG.out.ok w.heap.size
   case false=>
    have c0:=HS.out.st.cell (j:=0) rfl
    go_wp2_with (go_at_call 191;refine(PD.flush1 HG.out.did.pd (Zk1 HP.out.2.1 HG.out.size)).mono ?_;rintro e w8 ⟨ev,rfl,cr,ik⟩;have S3:=Zka (Zkb cr ik);clear cr ik)
    go_ret
    rw[show Q5 dir acts f=A++[.fl] from by rw[fj.out,if_neg (by rw[dr];decide)]]
    exact HG.out.fail S3.out.1 S3.out.2
end
section
open Go.RowKit Go.Maps Go.WideMaps
variable{a b:Dir}
theorem Zgp(P:Pw)(D:Dk)(a:Int):rdy P D a≠12:=by
 unfold rdy
 repeat' split
 all_goals omega
theorem DOp.code_ne12(P:Pw)(D:Dk)(o:DOp):o.code P D≠12:=by
 have h:=Zgp P D
 cases o with
 |wr a s=>
  show YC P D a s≠12
  unfold YC
  repeat' split
  all_goals first|omega|exact h _
 |fl=>
  show X0 P D≠12
  unfold X0
  repeat' split
  all_goals first|omega|exact h _
theorem Zb0(l:List DOp)(P:Pw)(D:Dk):(Z2 l P D).1≠12:=by
 induction l generalizing P D with
 |nil=>simp[Z2]
 |cons o l ih=>
  rw[Wy]
  split
  ·exact ih _ _
  ·exact DOp.code_ne12 P D o
theorem YL.fit{n half:Nat}{R:Nat->ByteArray}{S:Sto}{recs:List Rec}(h:YL n half R S recs)(h1:half<=1000)(he:S.j.epoch<=3000000000):S.j.Fit/\S.j.next<=S.j.half:=by
 have h2:=h.img.on.fits
 have h3:=Jt (recs.map Rec.enc)
 have h4:=h.jhalf
 have h5:=h.img.many
 have h6:=h.img.next
 exact⟨⟨by omega,he,by omega,by omega⟩,by omega⟩
def WW(w:World)(ga oa:Nat)(acts:List Ac):Prop:=Z0f w ga oa acts/\∃l,Row w ga 151 l
structure ZgY(B p d j:Nat)(L:List Nat)(ops:List DOp)(J1:Jn)(P:Pw)(D:Dk)(w w':World):Prop where
 ran:Ran B p d 800 L [j] ops P D w w'
 ok:(Z2 ops P D).1=0->JAt w' j d J1
theorem Zfc(ha:a.Sorted)(hb:b.Sorted):(a.both b).length<=a.length+b.length:=by
 have h1:=(Dir.names_nodup (Dir.both_sorted ha b)).length_le_of_subset (l₂:=a.names++b.names) (fun n hn=>by
  have hg:=QC.1 hn
  rw[Dir.both_get _ hb] at hg
  cases hd:b.get n with
  |some e=>exact List.mem_append_right _ (QC.2 (by rw[hd];simp))
  |none=>
   rw[hd] at hg
   exact List.mem_append_left _ (QC.2 hg))
 rw[ZjI] at h1
 simpa[Dir.names] using h1
theorem Zhf(hb:b.Sorted)(h:b≠[]):a.both b≠[]:=by
 intro h0
 cases b with
 |nil=>exact h rfl
 |cons x r=>
  have hg:=Dir.mem_get hb (n:=x.1) (e:=x.2) (by simp)
  have h1:=Dir.both_get (a:=a) x.1 hb
  rw[hg,h0] at h1
  cases h1
theorem ZfT(B p d:Nat)(P:Pw)(D:Dk)(L:List Nat)(s j q db fb ga oa na ca sb nb:Nat)(us bj:Value)(S:Sto)(recs:List Rec)(R:Nat->ByteArray)(acts:List Ac)(dir:Dir)(f:Z1)(n1 n2:Nat)(w:World)(h:PD B w p d 800 P D L)(hB:B<=w.heap.size)
  (hs:Row w s 157 [.pointer (some ⟨d,0,none⟩),.pointer (some ⟨j,0,none⟩),.int .i64 S.half,.map (some sb),us,.bool false]) (hj:JAt w j d S.j) (dz:B<=j) (er:Zy w sb nb S.dir) (fi:nb<=100000000) (hp:PlA w q db fb ga oa na ca bj acts dir f n1 n2) (bz:ga∉p::L) (hi:YL 800 100 R S recs) (ak:Z05 800 100 R S.dir acts dir f) (hr:Z47 S dir f) (ha:(f.map (·.2)).Pairwise (·<·)) (fc:f.length<=12) (fe:acts.length<=100000) (fj:∀x∈f,x.1.length<=220) (ff:na<=ca) (fh:D.wait.length<=1000) (ht:Ty w) (hg:0<B) (ft:S.j.epoch<=2000000000) (fw:S.dir.length<=10000):
  Calls prog 92 #[.pointer (some ⟨s,0,none⟩),.pointer (some ⟨q,0,none⟩),.string (str (Y5 dir))] w (Ans w.heap.size (Z2 (S.ops acts dir f) P D).1 (ZgY B p d j L (S.ops acts dir f) (S.jNew dir f) P D w)):=by
 have bu:∀x∈f,∃e,dir.get x.1=some e/\Ent.Ok 800 100 e/\e.size=(acV acts x.2).length/\x.2<acts.length:=fun x hx=>by
  obtain⟨e,he,k1,k2,k3,k4⟩:=ak.fresh x hx
  exact⟨e,he,ak.ok.get he,k1,k4⟩
 have cn:=hi.ok
 obtain⟨ay,eh⟩:=hi.fit (by omega) (by omega)
 have dq:=hi.open_
 have ee:=hi.jhalf
 have dj:=Zhf (a:=S.dir) ak.ok.sorted hr.ne2
 have dm:=Zfc cn.sorted ak.ok.sorted
 have fm:=Z6m (d:=dir) (acts:=acts) (f:=f) (fun x hx=>by obtain⟨e,he,k,_⟩:=bu x hx;exact⟨e,he,k⟩)
 obtain⟨A,hA⟩:∃A,Q5 dir acts f=A:=⟨_,rfl⟩
 have fq:A.length<=2401:=by
  rw[<-hA]
  unfold Q5
  split
  ·simp
  ·rw[ZjI,List.length_singleton];omega
 obtain⟨Jo,ah⟩:∃Jo,S.jOps dir f=Jo:=⟨_,rfl⟩
 have b9:S.ops acts dir f=A++Jo:=by unfold Sto.ops;rw[hA,ah]
 obtain⟨J1,ag⟩:∃J1,S.jNew dir f=J1:=⟨_,rfl⟩
 rw[b9,ag]
 have cz:=Z8p B p d P D L s q db fb ga oa na ca bj acts dir f n1 n2 _ w h hB hs hp bz bu ak.fr ha fc fe fj ff (by omega)
 rw[hA] at cz
 obtain⟨m,hm⟩:∃m,(QF S.dir dir f).length=m:=⟨_,rfl⟩
 have ef:m≠0:=by rw[<-hm];exact fun e=>hr.ne1 (List.length_eq_zero_iff.1 e)
 have fu:decide ((m:Int)=0)=false:=decide_eq_false (by omega)
 obtain⟨so,cw⟩:∃so,Ja (QF S.dir dir f)=so:=⟨_,rfl⟩
 have cy:=hr.some_
 rw[cw] at cy
 have fo:=hr.whole
 have HW:=Zka cz
 have HP:=Zka (Zkb h (Zkb hB (Zkb hs (Zkb hj (Zkb er (Zkb hp bz))))))
 have HI:=Zka (Zkb hi (Zkb ak (Zkb hr (Zkb cn (Zkb dj dm)))))
 have HA:=Zka (Zkb hA (Zkb ah (Zkb ag (Zkb hm cw))))
 have HJ:=Zka (Zkb dq (Zkb ay (Zkb eh (Zkb dz ee))))
 have HT:=Zka (Zkb ht hg)
 have HM:=Zka ef
 clear cz h hB hs hj er hp bz hi ak hr cn dj dm hA ah ag hm cw dq ay eh dz ee ht hg ef bu b9 fm
 go_enter func92,ntmps92
 go_wp2_with fail
 refine HW.out.mono ?_
 rintro e w1 ⟨ev,rfl,he,L1,af⟩
 rcases he.split with ⟨hc,rfl⟩|⟨hc,b,rfl⟩
 case inr=>
  have HE:=Zka (Zkb he (Zkb hc af))
  clear he hc af
  go_wp2_with fail
  go_ret
  exact⟨_,rfl,by rw[Z16 HE.out.2.1];exact HE.out.1,Ran.stop HE.out.2.1 ⟨L1,HE.out.2.2.wider (by simp)⟩,fun h0=>absurd h0 (ZN HE.out.2.1)⟩
 have al:=Z9A hc
 obtain⟨P1,dh⟩:∃P1,(Z2 A P D).2.1=P1:=⟨_,rfl⟩
 obtain⟨D1,df⟩:∃D1,(Z2 A P D).2.2=D1:=⟨_,rfl⟩
 rw[dh,df] at al af
 have T1:Stg B p d 800 L [j] A P D w P1 D1 L1 w1:=⟨al,af.wider (by simp)⟩
 have az:D1.wait.length<=100000:=by have:=T1.few;omega
 have ek:PlA w1 q db fb ga oa na ca bj acts dir f n1 n2:=HP.out.2.2.2.2.2.1.did HP.out.1 af HP.out.2.2.2.2.2.2
 have ct:=af.row HP.out.1 HP.out.2.2.1 (by simp) (by decide) (by decide) (by decide) (by decide)
 have du:JAt w1 j d S.j:=JAt.did af HP.out.1 HP.out.2.2.2.1 (by simp)
 have bf:Zy w1 sb nb S.dir:=HP.out.2.2.2.2.1.fr af.fr (by
  obtain⟨fv,m1,_⟩:=HP.out.2.2.2.2.1
  obtain⟨es,cl,hb⟩:=m1.block
  simpa using HP.out.1.map_ne hb) (by simpa using HP.out.1.no_ext)
 have eu:Ty w1:=Ty.did HT.out.1 af HT.out.2 HP.out.1.bp HP.out.1.bL (by simp)
 have bq:=Zas 800 100 q db fb ga oa na ca bj acts dir S.dir f n1 n2 sb nb w1 ek bf HI.out.2.1.ok HI.out.2.2.2.1 (by omega) HI.out.2.2.2.2.1 fi HI.out.2.2.1.many (by have:=HI.out.2.2.2.2.2;have:=HI.out.2.2.1.many;omega) HI.out.2.2.1.some_
 rw[HA.out.2.2.2.2,HA.out.2.2.2.1] at bq
 have HC:=Zka (Zkb T1 (Zkb ct (Zkb du (Zkb eu bq))))
 have c3:=ct.cell (j:=3) rfl
 clear he hc af al dh df T1 ek ct du bf eu bq
 go_wp2_with fail
 refine HC.out.2.2.2.2.mono ?_
 rintro e w2 ⟨rfl,aw⟩
 have T2:=HC.out.1.after aw
 have cu:=HC.out.2.1.after aw
 have dw:JAt w2 j d S.j:=JAt.after HC.out.2.2.1 aw
 have ew:Ty w2:=HC.out.2.2.2.1.below aw
 have c1:=cu.cell (j:=1) rfl
 have H2:=Zka (Zkb T2 (Zkb cu (Zkb dw ew)))
 have de:B<=w2.heap.size:=Zk1 HP.out.2.1 T2.size
 have HB:=Zka de
 clear c3 aw T2 cu dw ew de
 go_wp2_with fail
 by_cases ae:Z8 so.length / 64<=S.j.half-S.j.next
 ·have ah:S.j.appendOps so=Jo:=by
   have h9:=HA.out.2.1
   unfold Sto.jOps at h9
   rw[HA.out.2.2.2.2,if_pos ae] at h9;exact h9
  have ag:S.j.appended so=J1:=by
   have h9:=HA.out.2.2.1
   unfold Sto.jNew at h9
   rw[HA.out.2.2.2.2,if_pos ae] at h9;exact h9
  have aq:=ZaM B p d 800 j P1 D1 L1 S.j (str so) w2 H2.out.1.did.pd HB.out H2.out.2.2.1 HJ.out.2.2.2.1 H2.out.2.2.2 HT.out.2 HJ.out.1 HJ.out.2.1 (by rw[Z5];exact cy) HJ.out.2.2.1 (by rw[Z5];exact ae) (by have h1:=HJ.out.2.2.1;have h2:=HJ.out.2.2.2.2;omega) az
  rw[Ze,ah,ag] at aq
  have bm:=Zka aq
  clear aq ah ag ae
  refine bm.out.mono ?_
  rintro e w3 ⟨ev,rfl,ai,bh⟩
  have aj:∀w',w3=w'->Ans w.heap.size (Z2 (A++Jo) P D).1 (ZgY B p d j L (A++Jo) J1 P D w) (.returned ev) w':=fun w' e9=>by
   subst e9
   exact⟨ev,rfl,by rw[Z06 H2.out.1.run];exact ai.base H2.out.1.size,Ran.go H2.out.1.run H2.out.1.did bh.ran,fun h0=>bh.ok (by rw[Z06 H2.out.1.run] at h0;exact h0)⟩
  have cj:=Zb0 Jo P1 D1
  have au:=Zka (Zkb aj (Zkb ai cj))
  rcases ai.split with ⟨hc,rfl⟩|⟨hc,b,rfl⟩
  ·clear ai bh aj cj hc
   go_wp2_with fail
   go_ret
   exact au.out.1 _ rfl
  ·obtain⟨cd,dp⟩:∃cd,(Z2 Jo P1 D1).1=cd:=⟨_,rfl⟩
   rw[dp] at au
   have fg:(cd==12)=false:=by have:=au.out.2.2;simpa using this
   clear ai bh aj cj hc dp
   go_wp2_with (go_at_call 19;refine(QM _ cd 12 _ _ au.out.2.1 (by decide)).mono ?_;rw[fg];rintro e w4 ⟨rfl,rfl⟩)
   go_ret
   exact au.out.1 _ rfl
 ·have ah:S.j.resetOps (Y5 dir)=Jo:=by
   have h9:=HA.out.2.1
   unfold Sto.jOps at h9
   rw[HA.out.2.2.2.2,if_neg ae] at h9;exact h9
  have ag:S.j.reset (Y5 dir)=J1:=by
   have h9:=HA.out.2.2.1
   unfold Sto.jNew at h9
   rw[HA.out.2.2.2.2,if_neg ae] at h9;exact h9
  have aq:=Z9d d j S.j (str so) w2 H2.out.2.2.1 HJ.out.1 HJ.out.2.1 HJ.out.2.2.1 (by rw[Z5];exact cy) (by rw[Z5];omega)
  have bm:=Zka aq
  have dc:=Zka (Zkb ah ag)
  clear aq ah ag ae
  refine bm.out.mono ?_
  rintro e w3 ⟨b,rfl,ai,ax⟩
  have T3:=H2.out.1.after ax
  have eo:=H2.out.2.1.after ax
  have dx:JAt w3 j d S.j:=JAt.after H2.out.2.2.1 ax
  have ey:Ty w3:=H2.out.2.2.2.below ax
  have bg:Below w3.heap.size w3 (w3.alloc (.cells #[.string (str (Y5 dir))] 9)):=(Below.refl _ w3).alloc Zk8 _
  have fp:=eo.cell (j:=1) rfl
  have T4:=T3.after bg
  have dy:JAt _ j d S.j:=JAt.after dx bg
  have ez:Ty _:=ey.below bg
  have cr:=ZcC B p d 800 j P1 D1 L1 S.j (str (Y5 dir)) w3.heap.size 1 _ T4.did.pd (Zk1 HP.out.2.1 T4.size) dy HJ.out.2.2.2.1 ez HT.out.2 ((Row.new w3 9 [.string (str (Y5 dir))]).cell (j:=0) rfl) HJ.out.1 HJ.out.2.1 (by rw[Z5];exact fo) (by rw[Z5];exact HI.out.2.2.1.fits) az
  rw[Ze,dc.out.1,dc.out.2] at cr
  have HR:=Zka (Zkb T4 (Zkb ai cr))
  clear ai ax T3 eo dx ey bg T4 dy ez cr c1
  go_wp2_with (first
   |(go_at_call 19;refine(QM _ 12 12 _ _ HR.out.2.1 (by decide)).mono ?_;rw[show((12:Int)==12)=true from rfl];rintro e w4 ⟨rfl,rfl⟩)
   |(go_at_call 137;refine HR.out.2.2.mono ?_;rintro e w5 ⟨fa,rfl,dt,dr⟩;have H5:=Zka (Zkb dt dr);clear dt dr))
  go_ret
  exact⟨fa,rfl,by rw[Z06 HR.out.1.run];exact H5.out.1.base HR.out.1.size,Ran.go HR.out.1.run HR.out.1.did H5.out.2.ran,fun h0=>H5.out.2.ok (by rw[Z06 HR.out.1.run] at h0;exact h0)⟩
end
end Go.Proofs.YthppfllkocphbaaGreatDoor
