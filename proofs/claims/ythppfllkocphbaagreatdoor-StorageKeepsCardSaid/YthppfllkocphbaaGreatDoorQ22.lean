/-
  Part 23 of the proof: lemmas about what the program computes.
-/
import Derived.Test.YthppfllkocphbaaGreatDoorQ21
namespace Go.Proofs.YthppfllkocphbaaGreatDoor
set_option linter.unusedVariables false
set_option linter.unusedSimpArgs false
set_option maxHeartbeats 25600000
set_option maxRecDepth 100000
open Tryz
section
open Go.RowKit Go.Shelf
variable{e:TypeId}{g:Nat}{l:List Value}
attribute [local go_sem] Oper.semAt_some
structure YG(w:World)(bn bs b4 b5 b6:Nat)(name sealed n:ByteArray)(W:World):Prop where
 rn:Row W bn 9 [.string name]
 rs:Row W bs 9 [.string sealed]
 r4:Row W b4 9 [.string ⟨#[]⟩]
 r5:Row W b5 31 [.nilIface]
 r6:Row W b6 9 [.string n]
 bel:Below w.heap.size w W
 ge4:w.heap.size<=b4
 ge5:w.heap.size<=b5
section
variable{w:World}{bn bs b4 b5 b6:Nat}{name sealed n:ByteArray}{W:World}
theorem YG.after(h:YG w bn bs b4 b5 b6 name sealed n W){W':World}(hb:Below W.heap.size W W'):YG w bn bs b4 b5 b6 name sealed n W':=
 ⟨h.rn.after hb,h.rs.after hb,h.r4.after hb,h.r5.after hb,h.r6.after hb,h.bel.trans (hb.mono h.bel.size),h.ge4,h.ge5⟩
theorem YG.alloc(h:YG w bn bs b4 b5 b6 name sealed n W)(o:Obj):YG w bn bs b4 b5 b6 name sealed n (W.alloc o):=h.after ((Below.refl _ W).alloc Zk8 _)
theorem YG.drew(h:YG w bn bs b4 b5 b6 name sealed n W):YG w bn bs b4 b5 b6 name sealed n W.drew:=h.after ((Below.refl _ W).drew)
theorem YG.c2(h:YG w bn bs b4 b5 b6 name sealed n W):W.cell? ⟨bn,0,none⟩=some (.string name):=h.rn.cell (j:=0) rfl
theorem YG.c3(h:YG w bn bs b4 b5 b6 name sealed n W):W.cell? ⟨bs,0,none⟩=some (.string sealed):=h.rs.cell (j:=0) rfl
theorem YG.c6(h:YG w bn bs b4 b5 b6 name sealed n W):W.cell? ⟨b6,0,none⟩=some (.string n):=h.r6.cell (j:=0) rfl
theorem YG.wrote(h:YG w bn bs b4 b5 b6 name sealed n W){W':World}{bb:Nat}(ae:w.heap.size<=bb)(hb:Below bb W W')(hk:QG W W'):YG w bn bs b4 b5 b6 name sealed n W':=
 ⟨hk _ _ _ (by decide) (by decide) h.rn,hk _ _ _ (by decide) (by decide) h.rs,hk _ _ _ (by decide) (by decide) h.r4,hk _ _ _ (by decide) (by decide) h.r5,hk _ _ _ (by decide) (by decide) h.r6,h.bel.trans (hb.mono ae),h.ge4,h.ge5⟩
end
structure XE(w:World)(bn bs b4 b5 b6 bb:Nat)(name sealed n:ByteArray)(out:List UInt8)(W:World):Prop where
 op:YG w bn bs b4 b5 b6 name sealed n W
 bld:Bld W bb bb out
 lo:w.heap.size<=bb
 hi:bb<W.heap.size
section
variable{w:World}{bn bs b4 b5 b6 bb:Nat}{name sealed n:ByteArray}{out:List UInt8}{W:World}
theorem XE.after(h:XE w bn bs b4 b5 b6 bb name sealed n out W){W':World}(hb:Below W.heap.size W W'):XE w bn bs b4 b5 b6 bb name sealed n out W':=
 ⟨h.op.after hb,h.bld.after hb,h.lo,Zk0 h.hi hb.size⟩
theorem XE.alloc(h:XE w bn bs b4 b5 b6 bb name sealed n out W)(o:Obj):XE w bn bs b4 b5 b6 bb name sealed n out (W.alloc o):=h.after ((Below.refl _ W).alloc Zk8 _)
theorem XE.wrote(h:XE w bn bs b4 b5 b6 bb name sealed n out W){W':World}{ae:List UInt8}(hw:Bld W' bb bb ae)(hb:Below bb W W')(hk:QG W W'):XE w bn bs b4 b5 b6 bb name sealed n ae W':=
 ⟨h.op.wrote h.lo hb hk,hw,h.lo,Zk0 h.hi hb.size⟩
theorem XE.own{α:Type}{F:α->List UInt8}{B:Nat}(hB:w.heap.size<=B):OwnFrom B (fun(s:α) W=>XE w bn bs b4 b5 b6 bb name sealed n (F s) W):=fun s A C row hs hg hr=>by
 have hn:∀r,row=some r->∃o:Obj,A.heap[r]? =some o/\o.isCells=false:=fun r e=>(hr r e).2
 have hf:Fr row.toList A C:=⟨hg.os,hg.tape,hg.output,hg.size,fun k hk hm=>hg.block k hk (fun e=>hm (by rw[<-e];simp))⟩
 have ho:=hs.op
 refine⟨⟨ho.rn.nc hg hn,ho.rs.nc hg hn,ho.r4.nc hg hn,ho.r5.nc hg hn,ho.r6.nc hg hn,ho.bel.trans (hf.below ho.bel.size (fun i hi=> ?_)),ho.ge4,ho.ge5⟩,hs.bld.keepB hf (fun i hi cs e fr hh=> ?_),hs.lo,Zk0 hs.hi hg.size⟩
 ·cases row with
  |none=>simp at hi
  |some r=>
   simp only[Option.toList_some,ZjD] at hi
   subst hi
   exact Zk1 hB (hr i rfl).1
 ·cases row with
  |none=>simp at hi
  |some r=>
   simp only[Option.toList_some,ZjD] at hi
   subst hi
   obtain⟨o,ho,hc⟩:=hn i rfl
   rw[ho] at hh
   cases hh
   simp[Obj.isCells] at hc
theorem XE.abT{α:Type}{F:α->List UInt8}{B:Nat}(hB:w.heap.size<=B):AbT 278 B (fun(s:α) W=>XE w bn bs b4 b5 b6 bb name sealed n (F s) W):=fun s A c v l hs hc hr=>by
 have ae:∀{g:Nat} {e:TypeId} {l':List Value},e≠278->Row A g e l'->g≠c.block:=fun he h1 h2=>by
  subst h2;exact he (Yf h1 hr)
 have hf:Fr [c.block] A (A.setCell c v):=(Fr.refl _ _).setCell (Or.inl (by simp)) v
 have ho:=hs.op
 refine⟨⟨ho.rn.other (ae (by decide) ho.rn) v,ho.rs.other (ae (by decide) ho.rs) v,ho.r4.other (ae (by decide) ho.r4) v,ho.r5.other (ae (by decide) ho.r5) v,ho.r6.other (ae (by decide) ho.r6) v,ho.bel.setCell (Zk1 hB hc) v,ho.ge4,ho.ge5⟩,hs.bld.keepB hf (fun i hi cs e fr hh=> ?_),hs.lo,by simpa[World.setCell] using hs.hi⟩
 rw[ZjD] at hi
 subst hi
 obtain⟨f,af,_⟩:=hr
 rw[hh] at af
 simp only[ZjJ,Obj.cells.injEq] at af
 rw[af.2.1]
 exact⟨by decide,by decide⟩
end
structure Z70(w:World)(bn bs b4 b5 b6 bb:Nat)(name sealed n:ByteArray)(out:List UInt8)(W wr:World):Prop where
 sl:XE w bn bs b4 b5 b6 bb name sealed n out wr
 kp:QG W wr
 nc:NC W wr
 sz:W.heap.size<=wr.heap.size
theorem Z70.after{w:World}{bn bs b4 b5 b6 bb:Nat}{name sealed n:ByteArray}{out:List UInt8}{W wr:World}(h:Z70 w bn bs b4 b5 b6 bb name sealed n out W wr){w':World}(hb:Below wr.heap.size wr w'):Z70 w bn bs b4 b5 b6 bb name sealed n out W w':=
 ⟨h.sl.after hb,h.kp.trans (QG.below hb),h.nc.trans (NC.below hb),Zk1 h.sz hb.size⟩
theorem ZdZ(text:List UInt8)(k:Nat):(List.range k).flatMap (QL text)=text.take (200*k):=by
 induction k with
 |zero=>simp
 |succ k ih=>rw[List.range_succ,List.flatMap_append,ih,Zfb];simp
theorem Zfr(text:List UInt8):(List.range (QX text.length)).flatMap (QL text)=text:=by
 rw[ZdZ]
 exact ZjT (by unfold QX;omega)
theorem Z8h{n:Nat}(text:List UInt8)(pre:List (Bk n)):(pre.flatMap fun i=>QL text i.1).length<=200*pre.length:=by
 induction pre with
 |nil=>simp
 |cons x r ih=>
  rw[ZjX,ZjI,ZjM,Xe]
  omega
theorem Z58(a b c:List UInt8)(i j:Nat)(hi:a.length=i)(hj:i+b.length=j):(str (a++(b++c))).extract i j=str b:=by
 have h1:((str (a++(b++c))).extract i j).data.toList=b:=by
  rw[Lib.extract_data,Ze,<-hi,List.drop_left]
  have:j-a.length=b.length:=by omega
  rw[this]
  exact List.take_left
 have h2:=Z6N ((str (a++(b++c))).extract i j)
 rw[h1] at h2
 exact h2.symm
theorem Zja(name t:List UInt8):(str (Yq name t)).extract 0 4=s32 t.length:=by
 have e:Yq name t=[]++(Z4 t.length++(Z0O [name,Z4 t.length]++(List.range (QX t.length)).flatMap (Xd name t))):=by
  unfold Yq Xs Xn;simp[ZjL]
 rw[e];exact Z58 _ _ _ 0 4 rfl (by simp[Zq])
theorem Zgy(name t:List UInt8):(str (Yq name t)).extract 4 36=str (Z0O [name,Z4 t.length]):=by
 have e:Yq name t=Z4 t.length++(Z0O [name,Z4 t.length]++(List.range (QX t.length)).flatMap (Xd name t)):=by
  unfold Yq Xs Xn;simp[ZjL]
 rw[e];exact Z58 _ _ _ 4 36 rfl (by rw[Xj])
theorem Zgx(name t:List UInt8)(k:Nat)(h:k<QX t.length)(z:Nat)(hz:bSz t.length k=z):(str (Yq name t)).extract (bSe k) (bSe k+z)=str (QL t k)/\(str (Yq name t)).extract (bSe k+z) (bSe k+z+32)=str (Z0O [name,Z4 t.length,Z4 k,QL t k]):=by
 obtain⟨r,hr⟩:=Zia name t k h
 have hl:(Xs name t k).length=bSe k:=by
  rw[Z3X name t k (Nat.le_of_lt h)]
  have:=Z6o h
  unfold bSe;omega
 have hb:(QL t k).length=z:=by rw[Xe];exact hz
 refine⟨?_,?_⟩
 ·rw[hr];exact Z58 _ _ _ _ _ hl (by rw[hb])
 ·rw[hr,<-ZjL];exact Z58 _ _ _ _ _ (by rw[ZjI,hl,hb]) (by rw[Xj])
theorem Z9B(s:ByteArray)(hs:s.size=4):(YI s.data.toList:Int)=(s[0].toNat:Int)*16777216+(s[1].toNat:Int)*65536+(s[2].toNat:Int)*256+(s[3].toNat:Int):=by
 have g:∀i (h:i<s.size),s.data.toList.getD i 0=s[i]:=by
  intro i h
  have h2:i<s.data.toList.length:=by simpa using h
  rw[ZjE,ZjF h2]
  exact Xq s i h h2
 unfold YI
 rw[g 0 (by omega),g 1 (by omega),g 2 (by omega),g 3 (by omega)]
 omega
theorem Zit(n:Nat)(h:n<4294967296)(s:ByteArray)(he:s32 n=s)(hs:s.size=4):(n:Int)=(s[0].toNat:Int)*16777216+(s[1].toNat:Int)*65536+(s[2].toNat:Int)*256+(s[3].toNat:Int):=by
 rw[<-Z9B s hs,<-he,Z20]
 have g:=Yy n h []
 rw[Zk7] at g
 rw[g]
theorem YG.make(w:World)(N T n:ByteArray):YG w w.heap.size (w.heap.size+1) (w.heap.size+1+1) (w.heap.size+1+1+1) (w.heap.size+1+1+1+1) N T n (((((w.alloc (.cells #[.string N] 9)).alloc (.cells #[.string T] 9)).alloc (.cells #[.string ⟨#[]⟩] 9)).alloc (.cells #[.nilIface] 31)).alloc (.cells #[.string n] 9)):=by
 have r1:=((((Row.new w 9 [.string N]).alloc (.cells #[.string T] 9)).alloc (.cells #[.string ⟨#[]⟩] 9)).alloc (.cells #[.nilIface] 31)).alloc (.cells #[.string n] 9)
 have r2:=(((Row.new (w.alloc (.cells #[.string N] 9)) 9 [.string T]).alloc (.cells #[.string ⟨#[]⟩] 9)).alloc (.cells #[.nilIface] 31)).alloc (.cells #[.string n] 9)
 have r3:=((Row.new ((w.alloc (.cells #[.string N] 9)).alloc (.cells #[.string T] 9)) 9 [.string ⟨#[]⟩]).alloc (.cells #[.nilIface] 31)).alloc (.cells #[.string n] 9)
 have r4:=(Row.new (((w.alloc (.cells #[.string N] 9)).alloc (.cells #[.string T] 9)).alloc (.cells #[.string ⟨#[]⟩] 9)) 31 [.nilIface]).alloc (.cells #[.string n] 9)
 have r5:=Row.new ((((w.alloc (.cells #[.string N] 9)).alloc (.cells #[.string T] 9)).alloc (.cells #[.string ⟨#[]⟩] 9)).alloc (.cells #[.nilIface] 31)) 9 [.string n]
 have z:∀ (W:World) (o:Obj),(W.alloc o).heap.size=W.heap.size+1:=fun W o=>by simp
 simp only[z] at r2 r3 r4 r5
 refine⟨r1,r2,r3,r4,r5,(((((Below.refl _ w).alloc Zk8 _).alloc (by simp only[z];omega) _).alloc (by simp only[z];omega) _).alloc (by simp only[z];omega) _).alloc (by simp only[z];omega) _,by omega,by omega⟩
theorem ZiL{W:World}{p:Addr}{v:Value}(h:W.cell? p=some v)(o:Obj):(W.alloc o).cell? p=some v:=by
 rw[World.cell?_alloc_some W p o (by rw[h];rfl)];exact h
theorem Row.belowB{W W':World}{B:Nat}(h:Row W g e l)(hb:Below B W W')(hg:g<B):Row W' g e l:=by
 obtain⟨f,hh,hf⟩:=h
 exact⟨f,(hb.block g hg).trans hh,hf⟩
theorem Row.ncset{W:World}(h:Row W g e l)(j:Nat)(v:Value):NC W (W.setCell ⟨g,j,none⟩ v):=by
 obtain⟨f,hh,hf⟩:=h
 exact NC.set hh
theorem Zg8{Q:Exit->Act->World->Prop}{a:Act}{w:World}(h:Q .normal a w):Z8u Q .normal a w:=h
theorem Zga(name text:Bs)(w:World)(hn:name.length<=220)(ht:text.length<=9000):
  Calls prog 158 #[.string (str name),.string (str (Yq name text))] w fun e w'=>e=.returned (.tuple #[.string (str text),.nilIface])/\Below w.heap.size w w':=by
 have ia:(str name).size=name.length:=Z5 name
 have fp:(str (Yq name text)).size=36+text.length+32*QX text.length:=by rw[Z5,WP]
 have dm:=Zja name text
 have er:=Zgy name text
 obtain⟨N,hN⟩:∃N,str name=N:=⟨_,rfl⟩
 obtain⟨T,hT⟩:∃T,str (Yq name text)=T:=⟨_,rfl⟩
 obtain⟨len,hlen⟩:∃len,text.length=len:=⟨_,rfl⟩
 obtain⟨nl,df⟩:∃nl,name.length=nl:=⟨_,rfl⟩
 obtain⟨tl,bu⟩:∃tl,36+len+32*QX len=tl:=⟨_,rfl⟩
 obtain⟨sm,dh⟩:∃sm,Z0O [name,Z4 len]=sm:=⟨_,rfl⟩
 rw[hN,df] at ia
 rw[df] at hn
 rw[hlen] at dm er ht fp
 rw[dh] at er
 rw[hT,bu] at fp
 rw[hT] at dm er
 have de:QX len<=46:=by unfold QX;omega
 obtain⟨N4,bj⟩:∃N4,s32 len=N4:=⟨_,rfl⟩
 have dw:N4.size=4:=by rw[<-bj];exact Qa len
 have HR:=Zka (Zit len (by omega) N4 bj dw)
 obtain⟨e1,e2,e3,e4,e5,e6,e7,e8,e9,fw⟩:=Z3t N4[0].toNat N4[1].toNat N4[2].toNat N4[3].toNat N4[0].toNat_lt N4[1].toNat_lt N4[2].toNat_lt N4[3].toNat_lt
 have i0:0<N4.size:=by omega
 have i1:(1:Int)<(N4.size:Int):=by omega
 have i2:(2:Int)<(N4.size:Int):=by omega
 have i3:(3:Int)<(N4.size:Int):=by omega
 rw[bj] at dm
 have g1:decide ((220:Int)<(nl:Int))=false:=decide_eq_false (by omega)
 have g2:decide ((10000:Int)<(len:Int))=false:=decide_eq_false (by omega)
 have g3:decide ((tl:Int)<(36:Int))=false:=decide_eq_false (by omega)
 have g4:(4:Int)<=(tl:Int):=by omega
 have g5:(36:Int)<=(tl:Int):=by omega
 have fq:∀W,Calls prog 219 #[.int .i64 (len:Int)] W fun e w'=>e=.returned (.int .i64 (tl:Int))/\W=w':=fun W=>by
  have h9:=Ze9 len (by omega) W
  rw[bu] at h9
  exact h9
 have aw:∀W:World,Row (W.alloc (.cells #[.string N,.string N4] 9)) W.heap.size 9 (Z6 ([name,Z4 len].map str)++[]):=fun W=>by
  have h9:=Row.new W 9 [.string N,.string N4]
  rw[<-hN,<-bj] at h9⊢
  exact h9
 have ax:∀W:World,Calls prog 184 #[.slice (some ⟨W.heap.size,0,none⟩) 2 2] (W.alloc (.cells #[.string N,.string N4] 9)).drew fun e w'=>e=.returned (.string (str sm))/\Below (W.alloc (.cells #[.string N,.string N4] 9)).drew.heap.size (W.alloc (.cells #[.string N,.string N4] 9)).drew w':=fun W=>by
  have h9:=XI W.heap.size 2 [name,Z4 len] [] _ ((aw W).after Zk9.drew) (by rw[ZF,Zc,Zc];simp[Zt,Zq];omega)
  rw[dh] at h9
  exact h9
 have HZ:=Zka (Zkb fq ax)
 clear fq aw ax
 have HX:=Zka (Zkb hN (Zkb hT (Zkb hlen (Zkb df (Zkb bu (Zkb dh (Zkb bj de)))))))
 rw[hN,hT]
 clear hN hT hlen df bu dh de bj
 refine(callsIn_wide (n:=9)).1 ?_
 refine callsIn_of_wp_marks func158 rfl trivial ?_ rfl
 simp only[ntmps158,List.size_toArray,ZjM,List.length_nil,Nat.reduceAdd,Nat.reduceSub,Array.replicate_succ,Array.replicate_zero,List.push_toArray,List.append_toArray,List.nil_append,List.cons_append]
 refine wpIn_wide.2 ?_
 go_wp2
 have S5:=YG.make w N T N4
 obtain⟨bn,fj⟩:∃bn,w.heap.size=bn:=⟨_,rfl⟩
 rw[fj] at S5⊢
 generalize (((((w.alloc (.cells #[.string N] 9)).alloc (.cells #[.string T] 9)).alloc (.cells #[.string ⟨#[]⟩] 9)).alloc (.cells #[.nilIface] 31)).alloc (.cells #[.string N4] 9))=w5 at*
 obtain⟨b3,fe⟩:∃b3,bn+1=b3:=⟨_,rfl⟩
 obtain⟨b4,ff⟩:∃b4,b3+1=b4:=⟨_,rfl⟩
 obtain⟨b5,fg⟩:∃b5,b4+1=b5:=⟨_,rfl⟩
 obtain⟨b6,fh⟩:∃b6,b5+1=b6:=⟨_,rfl⟩
 rw[fe,ff,fg,fh] at S5⊢
 have c6:=S5.c6
 have eu:=Zka S5
 clear S5 fe ff fg fh fj
 refine Code.wp_mono Z4Y ?_
 go_quiet (fail)
 have ee:=HR.out
 simp only[Int.cast_ofNat_Int] at ee
 rw[<-ee]
 clear ee
 have dr:=Zka (eu.out.after (Zp Zk9 nq))
 clear eu c6
 generalize w5.drewN nq=w6 at*
 clear e1 e2 e3 e4 e5 e6 e7 e8 e9 fw i0 i1 i2 i3 dm HR
 go_wp2
 have o6:=dr.out.drew
 have k2:=o6.c2
 have k3:=o6.c3
 have k6:=o6.c6
 refine Code.wp_mono Z4Y ?_
 go_region_held3 (fun x=>YG w bn b3 b4 b5 b6 N T N4 x/\x.cell? ⟨bn,0,none⟩=some (.string N)/\x.cell? ⟨b3,0,none⟩=some (.string T)/\x.cell? ⟨b6,0,none⟩=some (.string N4)) (refine⟨?_,?_,?_,?_⟩<;>first|assumption|exact YG.alloc (by assumption) _|exact ZiL (by assumption) _)
  (first
   |(go_at_call 219;refine(HZ.out.1 _).mono ?_;rintro e w8 ⟨rfl,rfl⟩)
   |(go_at_call 184;refine(HZ.out.2 _).mono ?_;rintro e w8 ⟨rfl,cn⟩;have o8:=YG.after (YG.drew (YG.alloc dr.out _)) cn;have q2:=o8.c2;have q3:=o8.c3;have q6:=o8.c6;clear cn))
 rename_i hHeld
 have o9:YG w bn b3 b4 b5 b6 N T N4 w8:=o8
 have B8:XE w bn b3 b4 b5 b6 w8.heap.size N T N4 [] (w8.alloc (.cells #[.pointer none,.slice none 0 0] 258)):=⟨o9.alloc _,Bld.new w8,o9.bel.size,by simp⟩
 have dp:=Zka B8
 have HL:=Zka (Zkb o9.r4.lt o9.r5.lt)
 clear o6 k2 k3 k6 hHeld o8 q2 q3 q6 dr o9 B8 HZ
 generalize (N4[0].toNat:Int)=z0 at*
 generalize (N4[1].toNat:Int)=z1 at*
 generalize (N4[2].toNat:Int)=z2 at*
 generalize (N4[3].toNat:Int)=z3 at*
 go_wp2_with (go_at_call 185;refine(Z6p len _).mono ?_;rintro e wy ⟨rfl,ig⟩)
 have cz:=Zka (dp.out.alloc (.cells #[.int .i64 (len:Int)] 3))
 have ef:=Row.new (w8.alloc (.cells #[.pointer none,.slice none 0 0] 258)) 3 [.int .i64 (len:Int)]
 rw[show(w8.alloc (.cells #[.pointer none,.slice none 0 0] 258)).heap.size=w8.heap.size+1 from by simp] at ef
 obtain⟨bb,dc⟩:∃bb,w8.heap.size=bb:=⟨_,rfl⟩
 obtain⟨bl,fi⟩:∃bl,bb+1=bl:=⟨_,rfl⟩
 rw[dc,fi] at ef
 rw[dc] at cz dp HL
 rw[dc]
 simp only[fi]
 generalize ((w8.alloc (.cells #[.pointer none,.slice none 0 0] 258)).alloc (.cells #[.int .i64 (len:Int)] 3))=w7 at*
 clear dp dc
 have hle:w.heap.size<=w7.heap.size:=cz.out.op.bel.size
 refine wpIn_wide.1 (Z5D (T:=278) (n:=9) (by decide) (gf:=240) (lb:= #[.pointer (some ⟨bl,0,none⟩)]) rfl (enters_of func240 (by kernel_rfl) rfl)
  (encs:=Z79 len) (Kp:=QG) (Z5r 8 bl len w7 ef (by omega) (by decide)) (fun h k=>h.trans k) (fun W l o o' _ h1 h2 _=>QG.put W l o o' h1 h2) Zk9 (fun _=>rfl)
  (fun pre W=>XE w bn b3 b4 b5 b6 bb N T N4 (pre.flatMap fun i=>QL text i.1) W)
  (XE.own (F:=fun pre:List (Bk len)=>pre.flatMap fun i=>QL text i.1) hle) (XE.abT (F:=fun pre:List (Bk len)=>pre.flatMap fun i=>QL text i.1) hle) (by simpa using cz.out)
  (fun x a' W=>∃bx,Row W bx 278 [.int .i64 (bAt x.1:Int),.int .i64 (bSe x.1:Int),.int .i64 (bSz len x.1:Int)]/\a'={tmps:= #[.string N,.string T,.pointer (some ⟨bn,0,none⟩),.pointer (some ⟨b3,0,none⟩),.pointer (some ⟨b4,0,none⟩),.pointer (some ⟨b5,0,none⟩),.pointer (some ⟨b6,0,none⟩),.int .i64 (len:Int),.pointer (some ⟨bb,0,none⟩),.int .i64 (x.1:Int),.pointer (some ⟨bx,0,none⟩),undef,.string N,.int .i64 (nl:Int),.bool false,undef,.string T,.int .i64 (tl:Int),.bool false,undef,.string T,.string N4,.string N4,.int .u8 z0,.int .i64 z0,.int .i64 (z0*16777216),.string N4,.int .u8 z1,.int .i64 z1,.int .i64 (z1*65536),.int .i64 (z0*16777216+z1*65536),.string N4,.int .u8 z2,.int .i64 z2,.int .i64 (z2*256),.int .i64 (z0*16777216+z1*65536+z2*256),.string N4,.int .u8 z3,.int .i64 z3,.int .i64 (len:Int),.int .i64 (len:Int),.bool false,.bool false,.string T,.int .i64 (tl:Int),.int .i64 (len:Int),.int .i64 (tl:Int),.bool false,.bool false,.bool false,.string T,.string (str sm),.string N,.string N4,.slice (some ⟨w6.heap.size,0,none⟩) 2 2,.string (str sm),.bool false,.bool false,undef,.int .i64 (len:Int),.func (.func 240) #[] #[.pointer (some ⟨bl,0,none⟩)],.int .i64 (x.1:Int),.agg #[.int .i64 (bAt x.1:Int),.int .i64 (bSe x.1:Int),.int .i64 (bSz len x.1:Int)],undef,undef,undef,undef,undef,undef,undef,undef,undef,undef,undef,undef,undef,undef,undef,undef,undef,undef,undef,undef,undef,undef,undef,undef,undef,undef,undef,undef,undef,undef,undef,undef,undef,undef,undef,undef],defers:=[]})
  (fun x a' _ X Y row hs hg hr=>by obtain⟨bx,h1,h2⟩:=hs;exact⟨bx,h1.nc hg (fun r e=>(hr r e).2),h2⟩)
  ?assign ?body ?done)
 case assign=>
  rintro l pre x W K hi hK
  simp only[Z79]
  gi_wp2
  exact hK _ _ ((KeepsOthers.alloc _ _).from _) (QG.below ((Below.refl _ W).alloc Zk8 _)) (hi.after ((Below.refl _ W).alloc Zk8 _)) ⟨W.heap.size,Row.new W _ [_,_,_],rfl⟩
 case body=>
  rintro l pre x a' W hl hi ⟨bx,bm,rfl⟩ hlt
  obtain⟨i,dx⟩:=x
  have gx:=Z8h text pre
  have de:QX len<=46:=HX.out.2.2.2.2.2.2.2
  have bu:36+len+32*QX len=tl:=HX.out.2.2.2.2.1
  have eo:(pre++[(⟨i,dx⟩:Bk len)]).flatMap (fun i=>QL text i.1)=(pre.flatMap fun i=>QL text i.1)++QL text i:=by
   rw[List.flatMap_append];simp
  have dz:(pre.flatMap fun i=>QL text i.1).length<=20000:=by omega
  obtain⟨out,bf⟩:∃out,(pre.flatMap fun i=>QL text i.1)=out:=⟨_,rfl⟩
  rw[bf] at hi eo dz
  have gj:=Z6o dx
  obtain⟨at_,az⟩:∃at_,bAt i=at_:=⟨_,rfl⟩
  obtain⟨se,cu⟩:∃se,bSe i=se:=⟨_,rfl⟩
  obtain⟨z,hz⟩:∃z,bSz len i=z:=⟨_,rfl⟩
  obtain⟨e1,fm⟩:∃e1,se+z=e1:=⟨_,rfl⟩
  obtain⟨e2,fo⟩:∃e2,e1+32=e2:=⟨_,rfl⟩
  have ek:36+232*i=se:=cu
  have ib:min 200 (len-200*i)=z:=hz
  have q1:e2<=tl:=by omega
  have q3:(e2:Int)<=(tl:Int):=by omega
  have ij:(e1:Int)<=(tl:Int):=by omega
  have q4:(se:Int)<=(e1:Int):=by omega
  have ik:(e1:Int)<=(e2:Int):=by omega
  have q5:(se:Int)+(z:Int)=(e1:Int):=by omega
  have im:(e1:Int)+32=(e2:Int):=by omega
  have q6:se<=20000:=by omega
  have q7:z<=200:=by omega
  have q8:e1<=20200:=by omega
  have w1:=Zk2 (e1:Int) (by omega)
  have w2:=Zk2 (e2:Int) (by omega)
  have hx:=Zgx name text i (by rw[HX.out.2.2.1];exact dx) z (by rw[HX.out.2.2.1];exact hz)
  rw[HX.out.2.1,cu,fm,fo,HX.out.2.2.1] at hx
  obtain⟨Si,cj⟩:∃Si,str (QL text i)=Si:=⟨_,rfl⟩
  obtain⟨dj,bg⟩:∃dj,Z0O [name,Z4 len,Z4 i,QL text i]=dj:=⟨_,rfl⟩
  rw[cj,bg] at hx
  have x1:=hx.1
  have x2:=hx.2
  have fa:Si.data.toList=QL text i:=by rw[<-cj,Ze]
  have fc:Si.size<=200:=by rw[<-cj,Z5,Xe];omega
  have ie:i<=100:=by omega
  have ct:(Zv [name,Z4 len,Z4 i,QL text i]).length<=60000:=by
   rw[ZF,Zc,Zc,Zc,Zc,Xe]
   have:=HX.out.2.2.2.1
   simp[Zt,Zq]
   omega
  have ay:∀W:World,Calls prog 184 #[.slice (some ⟨W.heap.size,0,none⟩) 4 4] (W.alloc (.cells #[.string N,.string N4,.string (s32 i),.string Si] 9)) fun e w'=>e=.returned (.string (str dj))/\Below (W.alloc (.cells #[.string N,.string N4,.string (s32 i),.string Si] 9)).heap.size (W.alloc (.cells #[.string N,.string N4,.string (s32 i),.string Si] 9)) w':=fun W=>by
   have eh:Row (W.alloc (.cells #[.string N,.string N4,.string (s32 i),.string Si] 9)) W.heap.size 9 (Z6 ([name,Z4 len,Z4 i,QL text i].map str)++[]):=by
    have h9:=Row.new W 9 [.string N,.string N4,.string (s32 i),.string Si]
    rw[<-cj,<-HX.out.1,<-HX.out.2.2.2.2.2.2.1] at h9⊢
    exact h9
   have h9:=XI W.heap.size 4 [name,Z4 len,Z4 i,QL text i] [] _ eh ct
   rw[bg] at h9
   exact h9
  rw[az,cu,hz] at bm
  have bq:∀A C:World,(Z70 w bn b3 b4 b5 b6 bb N T N4 out W A/\A.cell? ⟨b3,0,none⟩=some (.string T)/\A.cell? ⟨bx,1,none⟩=some (.int .i64 (se:Int))/\A.cell? ⟨bx,2,none⟩=some (.int .i64 (z:Int))/\A.cell? ⟨bn,0,none⟩=some (.string N)/\A.cell? ⟨b6,0,none⟩=some (.string N4))->Below A.heap.size A C->
    (Z70 w bn b3 b4 b5 b6 bb N T N4 out W C/\C.cell? ⟨b3,0,none⟩=some (.string T)/\C.cell? ⟨bx,1,none⟩=some (.int .i64 (se:Int))/\C.cell? ⟨bx,2,none⟩=some (.int .i64 (z:Int))/\C.cell? ⟨bn,0,none⟩=some (.string N)/\C.cell? ⟨b6,0,none⟩=some (.string N4)):=by
   rintro A C ⟨h0,h1,h2,h3,h4,h5⟩ hb
   have k:∀ (p:Addr) (v:Value),A.cell? p=some v->C.cell? p=some v:=fun p v h=>(hb.cell (ZjG A p h)).trans h
   exact⟨h0.after hb,k _ _ h1,k _ _ h2,k _ _ h3,k _ _ h4,k _ _ h5⟩
  have hs0:=bq W W.drew ⟨⟨hi,QG.refl _,NC.below Zk9,Zk8⟩,hi.op.c3,bm.cell (j:=1) rfl,bm.cell (j:=2) rfl,hi.op.c2,hi.op.c6⟩ (Zk9.drew)
  have al:=Zka hs0
  have HK:=Zka bq
  have fu:=Zka ay
  have HO:=Zka (Zkb bf (Zkb eo (Zkb dz (Zkb fa fc))))
  have y3:=hi.op.c3
  have y1:=bm.cell (j:=1) rfl
  have y2:=bm.cell (j:=2) rfl
  have gy:prog.follows .mixedOrders=true:=by kernel_rfl
  rw[az,cu,hz]
  clear gx eo dz bf gj az cu hz fm fo ek ib hx cj bg fa fc ct ay bm bq hs0 hi de bu
  gi_wp2
  refine wpIn_mono (Q:=Z8u _) ?_ Z7Y
  refine Z5m (S:=fun x=>Z70 w bn b3 b4 b5 b6 bb N T N4 out W x/\x.cell? ⟨b3,0,none⟩=some (.string T)/\x.cell? ⟨bx,1,none⟩=some (.int .i64 (se:Int))/\x.cell? ⟨bx,2,none⟩=some (.int .i64 (z:Int))/\x.cell? ⟨bn,0,none⟩=some (.string N)/\x.cell? ⟨b6,0,none⟩=some (.string N4)) (fun⟨_,_,h⟩=>h) gy (by kernel_rfl) al.out (fun ic=> ?_)
  refine wpAnyH_take (i:=0) (v:=.string T) rfl (by kernel_rfl) (by kernel_rfl) (by kernel_rfl) (fun _ _ _ h=>h) (Or.inl ⟨by rfl,by intro W9 af;obtain⟨ae,ag,ah,ai,aj,ak⟩:=af;clear ae;go_simp;try with_reducible rfl⟩) al.out ?_
  try simp only[Act.put,ZjR,List.set_cons_zero,List.set_cons_succ]
  refine wpAnyH_take (i:=1) (v:=.pointer (some ⟨bx,1,none⟩)) rfl (by kernel_rfl) (by kernel_rfl) (by kernel_rfl) (fun _ _ _ h=>h) (Or.inl ⟨by rfl,by intro W9 af;obtain⟨ae,ag,ah,ai,aj,ak⟩:=af;clear ae;go_simp;try with_reducible rfl⟩) al.out ?_
  try simp only[Act.put,ZjR,List.set_cons_zero,List.set_cons_succ]
  refine wpAnyH_take (i:=2) (v:=.int .i64 (se:Int)) rfl (by kernel_rfl) (by kernel_rfl) (by kernel_rfl) (fun _ _ _ h=>h) (Or.inl ⟨by rfl,by intro W9 af;obtain⟨ae,ag,ah,ai,aj,ak⟩:=af;clear ae;go_simp;try with_reducible rfl⟩) al.out ?_
  try simp only[Act.put,ZjR,List.set_cons_zero,List.set_cons_succ]
  refine wpAnyH_take (i:=3) (v:=.pointer (some ⟨bx,2,none⟩)) rfl (by kernel_rfl) (by kernel_rfl) (by kernel_rfl) (fun _ _ _ h=>h) (Or.inl ⟨by rfl,by intro W9 af;obtain⟨ae,ag,ah,ai,aj,ak⟩:=af;clear ae;go_simp;try with_reducible rfl⟩) al.out ?_
  try simp only[Act.put,ZjR,List.set_cons_zero,List.set_cons_succ]
  refine wpAnyH_take (i:=4) (v:=.int .i64 (z:Int)) rfl (by kernel_rfl) (by kernel_rfl) (by kernel_rfl) (fun _ _ _ h=>h) (Or.inl ⟨by rfl,by intro W9 af;obtain⟨ae,ag,ah,ai,aj,ak⟩:=af;clear ae;go_simp;try with_reducible rfl⟩) al.out ?_
  try simp only[Act.put,ZjR,List.set_cons_zero,List.set_cons_succ]
  refine wpAnyH_take (i:=5) (v:=.int .i64 (e1:Int)) rfl (by kernel_rfl) (by kernel_rfl) (by kernel_rfl) (fun _ _ _ h=>h) (Or.inl ⟨by rfl,by intro W9 af;obtain⟨ae,ag,ah,ai,aj,ak⟩:=af;clear ae;go_simp;try with_reducible rfl⟩) al.out ?_
  try simp only[Act.put,ZjR,List.set_cons_zero,List.set_cons_succ]
  refine wpAnyH_take (i:=6) (v:=.pointer (some ⟨bx,1,none⟩)) rfl (by kernel_rfl) (by kernel_rfl) (by kernel_rfl) (fun _ _ _ h=>h) (Or.inl ⟨by rfl,by intro W9 af;obtain⟨ae,ag,ah,ai,aj,ak⟩:=af;clear ae;go_simp;try with_reducible rfl⟩) al.out ?_
  try simp only[Act.put,ZjR,List.set_cons_zero,List.set_cons_succ]
  refine wpAnyH_take (i:=7) (v:=.int .i64 (se:Int)) rfl (by kernel_rfl) (by kernel_rfl) (by kernel_rfl) (fun _ _ _ h=>h) (Or.inl ⟨by rfl,by intro W9 af;obtain⟨ae,ag,ah,ai,aj,ak⟩:=af;clear ae;go_simp;try with_reducible rfl⟩) al.out ?_
  try simp only[Act.put,ZjR,List.set_cons_zero,List.set_cons_succ]
  refine wpAnyH_take (i:=8) (v:=.pointer (some ⟨bx,2,none⟩)) rfl (by kernel_rfl) (by kernel_rfl) (by kernel_rfl) (fun _ _ _ h=>h) (Or.inl ⟨by rfl,by intro W9 af;obtain⟨ae,ag,ah,ai,aj,ak⟩:=af;clear ae;go_simp;try with_reducible rfl⟩) al.out ?_
  try simp only[Act.put,ZjR,List.set_cons_zero,List.set_cons_succ]
  refine wpAnyH_take (i:=9) (v:=.int .i64 (z:Int)) rfl (by kernel_rfl) (by kernel_rfl) (by kernel_rfl) (fun _ _ _ h=>h) (Or.inl ⟨by rfl,by intro W9 af;obtain⟨ae,ag,ah,ai,aj,ak⟩:=af;clear ae;go_simp;try with_reducible rfl⟩) al.out ?_
  try simp only[Act.put,ZjR,List.set_cons_zero,List.set_cons_succ]
  refine wpAnyH_take (i:=10) (v:=.int .i64 (e1:Int)) rfl (by kernel_rfl) (by kernel_rfl) (by kernel_rfl) (fun _ _ _ h=>h) (Or.inl ⟨by rfl,by intro W9 af;obtain⟨ae,ag,ah,ai,aj,ak⟩:=af;clear ae;go_simp;try with_reducible rfl⟩) al.out ?_
  try simp only[Act.put,ZjR,List.set_cons_zero,List.set_cons_succ]
  refine wpAnyH_take (i:=11) (v:=.int .i64 (e2:Int)) rfl (by kernel_rfl) (by kernel_rfl) (by kernel_rfl) (fun _ _ _ h=>h) (Or.inl ⟨by rfl,by intro W9 af;obtain⟨ae,ag,ah,ai,aj,ak⟩:=af;clear ae;go_simp;try with_reducible rfl⟩) al.out ?_
  try simp only[Act.put,ZjR,List.set_cons_zero,List.set_cons_succ]
  refine wpAnyH_take (i:=12) (v:=.string (str dj)) rfl (by kernel_rfl) (by kernel_rfl) (by kernel_rfl) (fun _ _ _ h=>h) (Or.inl ⟨by rfl,by intro W9 af;obtain⟨ae,ag,ah,ai,aj,ak⟩:=af;clear ae;go_simp;try with_reducible rfl⟩) al.out ?_
  try simp only[Act.put,ZjR,List.set_cons_zero,List.set_cons_succ]
  refine wpAnyH_take (i:=13) (v:=.string N) rfl (by kernel_rfl) (by kernel_rfl) (by kernel_rfl) (fun _ _ _ h=>h) (Or.inl ⟨by rfl,by intro W9 af;obtain⟨ae,ag,ah,ai,aj,ak⟩:=af;clear ae;go_simp;try with_reducible rfl⟩) al.out ?_
  try simp only[Act.put,ZjR,List.set_cons_zero,List.set_cons_succ]
  refine wpAnyH_take (i:=14) (v:=.string N4) rfl (by kernel_rfl) (by kernel_rfl) (by kernel_rfl) (fun _ _ _ h=>h) (Or.inl ⟨by rfl,by intro W9 af;obtain⟨ae,ag,ah,ai,aj,ak⟩:=af;clear ae;go_simp;try with_reducible rfl⟩) al.out ?_
  try simp only[Act.put,ZjR,List.set_cons_zero,List.set_cons_succ]
  refine wpAnyH_take (i:=15) (v:=.int .i64 (i:Int)) rfl (by kernel_rfl) (by kernel_rfl) (by kernel_rfl) (fun _ _ _ h=>h) (Or.inl ⟨by rfl,by intro W9 af;obtain⟨ae,ag,ah,ai,aj,ak⟩:=af;clear ae;go_simp;try with_reducible rfl⟩) al.out ?_
  try simp only[Act.put,ZjR,List.set_cons_zero,List.set_cons_succ]
  refine wpAnyH_take (i:=17) (v:=.string Si) rfl (by kernel_rfl) (by kernel_rfl) (by kernel_rfl) (fun _ _ _ h=>h) (Or.inl ⟨by rfl,by intro W9 af;obtain⟨ae,ag,ah,ai,aj,ak⟩:=af;clear ae;go_simp;try with_reducible rfl⟩) al.out ?_
  try simp only[Act.put,ZjR,List.set_cons_zero,List.set_cons_succ]
  refine wpAnyH_ready (rs:=[16]) (by kernel_rfl) (by simp) ?_
  refine AllReadyH.cons rfl (fun K hK=> ?_) AllReadyH.nil
  go_simp
  go_at_call 183
  refine(JY i (by omega) _).mono ?_
  rintro e w8 ⟨rfl,cn⟩
  have ew:=Zka (HK.out W.drew w8 al.out cn)
  clear cn
  refine hK.out _ _ ew.out (fun bh=> ?_)
  clear hK K bh
  try simp only[Act.put,ZjR,List.set_cons_zero,List.set_cons_succ]
  refine wpAnyH_ready (rs:=[18]) (by kernel_rfl) (by simp) ?_
  refine AllReadyH.cons rfl (fun K hK=> ?_) AllReadyH.nil
  go_simp
  have bz:=Zka (HK.out w8 _ ew.out ((Below.refl w8.heap.size w8).alloc Zk8 (.cells #[.string N,.string N4,.string (s32 i),.string Si] 9)))
  refine hK.out _ _ bz.out (fun bh=> ?_)
  clear hK K bh
  try simp only[Act.put,ZjR,List.set_cons_zero,List.set_cons_succ]
  refine wpAnyH_ready (rs:=[19]) (by kernel_rfl) (by simp) ?_
  refine AllReadyH.cons rfl (fun K hK=> ?_) AllReadyH.nil
  go_simp
  go_at_call 184
  refine(fu.out w8).mono ?_
  rintro e w9 ⟨rfl,b9⟩
  have dt:=Zka (HK.out _ w9 bz.out b9)
  clear b9
  refine hK.out _ _ dt.out (fun bh=> ?_)
  clear hK K bh
  try simp only[Act.put,ZjR,List.set_cons_zero,List.set_cons_succ]
  refine wpAnyH_ready (rs:=[20]) (by kernel_rfl) (by simp) ?_
  refine AllReadyH.cons rfl (fun K hK=> ?_) AllReadyH.nil
  go_simp
  refine hK.out _ _ dt.out (fun bh=> ?_)
  clear hK K bh
  try simp only[Act.put,ZjR,List.set_cons_zero,List.set_cons_succ]
  refine wpAnyH_done (by kernel_rfl) ?_ _
  refine Zg8 ?_
  have au:=Zka dt.out.1
  gi_wp2_with (refine⟨trivial,?_⟩;gi_at_call 164;refine(CallsIn.inRound l (callsIn_wide.2 (Xf bb bb out Si _ au.out.sl.bld (by have h1:=HO.out.2.2.1;have h2:=HO.out.2.2.2.2;omega) (Nat.le_of_lt au.out.sl.hi)))).mono ?_;rintro e iq ⟨rfl,hw,hb,hk,hn⟩;have cw:=Zka (Zkb (au.out.sl.wrote hw hb hk) (Zkb (au.out.kp.trans hk) (Zkb (au.out.nc.trans hn) (Zk1 au.out.sz hb.size))));clear hw hb hk hn)
  exact⟨⟨cw.out.2.2.2,fun k o _ hk ho=>cw.out.2.2.1 k o hk ho⟩,cw.out.2.1,by show XE _ _ _ _ _ _ _ _ _ _ _ _;rw[HO.out.2.1,<-HO.out.2.2.2.1];exact cw.out.1⟩
 case done=>
  rintro D xs W hD hS hi hK
  have cr:(xs.flatMap fun i=>QL text i.1)=text:=by
   have h9:=Zfr text
   rw[HX.out.2.2.1,<-hS,List.flatMap_map] at h9
   exact h9
  rw[cr] at hi
  have HI:=Zka hi
  have ey:D≠bb:=by have:=cz.out.hi;omega
  have dq:=Zka (Zkb ey (Zkb hD hle))
  clear hi cr ey hD
  go_wp2_with (go_at_call 165;refine(Z49 bb bb _ _ HI.out.bld (Nat.le_of_lt HI.out.hi)).mono ?_;rintro e w9 ⟨rfl,b9,bq⟩;have ez:=bq D _ hK dq.out.1 rfl;have au:=Zka (HI.out.op.bel.trans (b9.mono HI.out.lo));have R4:=HI.out.op.r4.belowB b9 HL.out.1;have R5:=HI.out.op.r5.belowB b9 HL.out.2;have v4:=R4.cell (j:=0) rfl;have f4:=R4.free (j:=0) (by simp);have v5:=R5.cell (j:=0) rfl;have f5:=R5.free (j:=0) (by simp);have dy:=Row.ne R4 R5 (by decide);have cy:=Zka (Zkb R4 R5);have ft:=Zka ez;clear b9 bq hK R4 R5 ez)
  have fx:=((cy.out.1.set 0 (.string ⟨text.toArray⟩)).other (p:=⟨b5,0,none⟩) (fun h=>dy h) .nilIface)
  have fy:=(cy.out.2.other (p:=⟨b4,0,none⟩) (fun h=>dy h.symm) (.string ⟨text.toArray⟩)).set 0 .nilIface
  have aq:=(cy.out.2.other (p:=⟨b4,0,none⟩) (fun h=>dy h.symm) (.string ⟨text.toArray⟩)).ncset 0 .nilIface D _ (cy.out.1.ncset 0 (.string ⟨text.toArray⟩) D _ ft.out rfl) rfl
  have du:=(au.out.setCell (p:=⟨b4,0,none⟩) HI.out.op.ge4 (.string ⟨text.toArray⟩)).setCell (p:=⟨b5,0,none⟩) HI.out.op.ge5 .nilIface
  generalize ((w9.setCell ⟨b4,0,none⟩ (.string ⟨text.toArray⟩)).setCell ⟨b5,0,none⟩ .nilIface)=wE at*
  have y0:∀o,(wE.putObj D o).cell? ⟨b4,0,none⟩=some (.string ⟨text.toArray⟩):=fun o=>(QG.put wE D _ o aq rfl _ _ _ (by decide) (by decide) fx).cell (j:=0) rfl
  have y1:∀o,(wE.putObj D o).cell? ⟨b5,0,none⟩=some .nilIface:=fun o=>(QG.put wE D _ o aq rfl _ _ _ (by decide) (by decide) fy).cell (j:=0) rfl
  refine⟨by simp,.inl ⟨_,_,rfl,run_takeDeferred aq,?_⟩⟩
  refine⟨.tuple #[.string ⟨text.toArray⟩,.nilIface],?_,rfl,du.trans (belowK_b (w:=w) Zk8 _ D _ _ (Zk1 dq.out.2.2 dq.out.2.1) aq rfl rfl)⟩
  simp[results,Tryz.results158,go_sem,y0,y1]
end
end Go.Proofs.YthppfllkocphbaaGreatDoor
