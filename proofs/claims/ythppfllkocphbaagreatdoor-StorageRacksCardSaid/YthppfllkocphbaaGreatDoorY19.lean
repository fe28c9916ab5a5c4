/- Part 20: lemmas about what the program computes. -/
import Derived.Test.YthppfllkocphbaaGreatDoorY18
namespace Go.Proofs.YthppfllkocphbaaGreatDoor
set_option linter.unusedVariables false
set_option linter.unusedSimpArgs false
set_option maxHeartbeats 25600000
set_option maxRecDepth 100000
open Tryz Go.RowKit
section
open Go.Shelf
variable{e:TypeId}
attribute [local go_sem] Oper.semAt_some
structure YH(w:World)(bn bs b4 b5 b6:Nat)(name sealed n:ByteArray)(W:World):Prop where
 rn:Row W bn 9 [.string name]
 rs:Row W bs 9 [.string sealed]
 r4:Row W b4 9 [.string ⟨#[]⟩]
 r5:Row W b5 31 [.nilIface]
 r6:Row W b6 9 [.string n]
 bel:Below w.heap.size w W
 ge4:w.heap.size<=b4
 ge5:w.heap.size<=b5
section
variable{w:World}{bn bs b4 b5 b6:Nat}{name sealed n:ByteArray}{W:World}
theorem YH.after(h:YH w bn bs b4 b5 b6 name sealed n W){F:World}(C:Below W.heap.size W F):YH w bn bs b4 b5 b6 name sealed n F:=⟨h.rn.after C,h.rs.after C,h.r4.after C,h.r5.after C,h.r6.after C,h.bel.trans (C.mono h.bel.size),h.ge4,h.ge5⟩
theorem YH.alloc(h:YH w bn bs b4 b5 b6 name sealed n W)(o:Obj):YH w bn bs b4 b5 b6 name sealed n (W.alloc o):=h.after ((Below.refl _ W).alloc Z5D _)
theorem YH.drew(h:YH w bn bs b4 b5 b6 name sealed n W):YH w bn bs b4 b5 b6 name sealed n W.drew:=h.after ((Below.refl _ W).drew)
theorem YH.c2(h:YH w bn bs b4 b5 b6 name sealed n W):W.cell? ⟨bn,0,none⟩=some (.string name):=h.rn.cell (j:=0) rfl
theorem YH.c3(h:YH w bn bs b4 b5 b6 name sealed n W):W.cell? ⟨bs,0,none⟩=some (.string sealed):=h.rs.cell (j:=0) rfl
theorem YH.c6(h:YH w bn bs b4 b5 b6 name sealed n W):W.cell? ⟨b6,0,none⟩=some (.string n):=h.r6.cell (j:=0) rfl
theorem YH.wrote(h:YH w bn bs b4 b5 b6 name sealed n W){F:World}{bb:Nat}(J:w.heap.size<=bb)(M:Below bb W F)(C:QH W F):YH w bn bs b4 b5 b6 name sealed n F:=⟨C _ _ _ (by decide) (by decide) h.rn,C _ _ _ (by decide) (by decide) h.rs,C _ _ _ (by decide) (by decide) h.r4,C _ _ _ (by decide) (by decide) h.r5,C _ _ _ (by decide) (by decide) h.r6,h.bel.trans (M.mono J),h.ge4,h.ge5⟩
end
structure XA(w:World)(bn bs b4 b5 b6 bb:Nat)(name sealed n:ByteArray)(out:List UInt8)(W:World):Prop where
 op:YH w bn bs b4 b5 b6 name sealed n W
 bld:Bld W bb bb out
 lo:w.heap.size<=bb
 hi:bb<W.heap.size
section
variable{w:World}{bn bs b4 b5 b6 bb:Nat}{name sealed n:ByteArray}{out:List UInt8}{W:World}
theorem XA.after(h:XA w bn bs b4 b5 b6 bb name sealed n out W){F:World}(C:Below W.heap.size W F):XA w bn bs b4 b5 b6 bb name sealed n out F:=⟨h.op.after C,h.bld.after C,h.lo,Z5v h.hi C.size⟩
theorem XA.alloc(h:XA w bn bs b4 b5 b6 bb name sealed n out W)(o:Obj):XA w bn bs b4 b5 b6 bb name sealed n out (W.alloc o):=h.after ((Below.refl _ W).alloc Z5D _)
theorem XA.wrote(h:XA w bn bs b4 b5 b6 bb name sealed n out W){C:World}{F:List UInt8}(hw:Bld C bb bb F)(J:Below bb W C)(M:QH W C):XA w bn bs b4 b5 b6 bb name sealed n F C:=⟨h.op.wrote h.lo J M,hw,h.lo,Z5v h.hi J.size⟩
theorem XA.own{α:Type}{F:α->List UInt8}{B:Nat}(hB:w.heap.size<=B):OwnFrom B (λ(s:α) W=>XA w bn bs b4 b5 b6 bb name sealed n (F s) W):=λs A C row hs h U=>by
 have M:∀r,row=some r->∃o:Obj,A.heap[r]? =some o/\o.isCells=false:=λr e=>(U r e).2;have O:Fr row.toList A C:=⟨h.os,h.tape,h.output,h.size,λk Z hm=>h.block k Z (λe=>hm (by rw[<-e];simp))⟩;have J:=hs.op;refine⟨⟨J.rn.nc h M,J.rs.nc h M,J.r4.nc h M,J.r5.nc h M,J.r6.nc h M,J.bel.trans (O.below J.bel.size (λi hi=> ?_)),J.ge4,J.ge5⟩,hs.bld.keepB O (λi hi cs e fr hh=> ?_),hs.lo,Z5v hs.hi h.size⟩
 .cases row with
  |none=>simp at hi
  |some r=>simp only[Option.toList_some,Z58] at hi;subst hi;exact Z5w hB (U i rfl).1
 .cases row with
  |none=>simp at hi
  |some r=>simp only[Option.toList_some,Z58] at hi;subst hi;obtain⟨o,J,hc⟩:=M i rfl;rw[J] at hh;cases hh;simp[Obj.isCells] at hc
theorem XA.abT{α:Type}{F:α->List UInt8}{B:Nat}(hB:w.heap.size<=B):AbT 278 B (λ(s:α) W=>XA w bn bs b4 b5 b6 bb name sealed n (F s) W):=λs A c v l hs hc M=>by
 have C:∀{g:Nat} {e:TypeId} {l':List Value},e≠278->Row A g e l'->g≠c.block:=λhe O U=>by subst U;exact he (Yz O M)
 have Z:Fr [c.block] A (A.setCell c v):=(Fr.refl _ _).setCell (Or.inl (by simp)) v;have h:=hs.op;refine⟨⟨h.rn.other (C (by decide) h.rn) v,h.rs.other (C (by decide) h.rs) v,h.r4.other (C (by decide) h.r4) v,h.r5.other (C (by decide) h.r5) v,h.r6.other (C (by decide) h.r6) v,h.bel.setCell (Z5w hB hc) v,h.ge4,h.ge5⟩,hs.bld.keepB Z (λi hi cs e fr hh=> ?_),hs.lo,by simpa[World.setCell] using hs.hi⟩;rw[Z58] at hi;subst hi;obtain⟨f,J,_⟩:=M;rw[hh] at J;simp only[Z5e,Obj.cells.injEq] at J;rw[J.2.1];exact⟨by decide,by decide⟩
end
structure KF(w:World)(bn bs b4 b5 b6 bb:Nat)(name sealed n:ByteArray)(out:List UInt8)(W wr:World):Prop where
 sl:XA w bn bs b4 b5 b6 bb name sealed n out wr
 kp:QH W wr
 nc:NC W wr
 sz:W.heap.size<=wr.heap.size
theorem KF.after{w:World}{bn bs b4 b5 b6 bb:Nat}{name sealed n:ByteArray}{out:List UInt8}{W wr:World}(h:KF w bn bs b4 b5 b6 bb name sealed n out W wr){w':World}(C:Below wr.heap.size wr w'):KF w bn bs b4 b5 b6 bb name sealed n out W w':=⟨h.sl.after C,h.kp.trans (QH.below C),h.nc.trans (NC.below C),Z5w h.sz C.size⟩
theorem Vd(text:List UInt8)(k:Nat):(List.range k).flatMap (QX text)=text.take (200*k):=by
 induction k with
 |zero=>simp
 |succ k ih=>rw[List.range_succ,List.flatMap_append,ih,Z0E];simp
theorem Z0X(text:List UInt8):(List.range (Y0 text.length)).flatMap (QX text)=text:=by rw[Vd];exact Z5o (by unfold Y0;omega)
theorem Mu{n:Nat}(text:List UInt8)(pre:List (Bk n)):(pre.flatMap λi=>QX text i.1).length<=200*pre.length:=by
 induction pre with
 |nil=>simp
 |cons x r ih=>rw[Z5s,Z5d,Z5h,Xg];omega
theorem Gq(a b c:List UInt8)(i j:Nat)(hi:a.length=i)(F:i+b.length=j):(str (a++(b++c))).extract i j=str b:=by
 have C:((str (a++(b++c))).extract i j).data.toList=b:=by
  rw[Lib.extract_data,Zn,<-hi,List.drop_left];have:j-a.length=b.length:=by omega
  rw[this];exact List.take_left
 have h:=OI ((str (a++(b++c))).extract i j);rw[C] at h;exact h.symm
theorem Z4J(name t:List UInt8):(str (Yo name t)).extract 0 4=s32 t.length:=by
 have e:Yo name t=[]++(Z4 t.length++(B5 [name,Z4 t.length]++(List.range (Y0 t.length)).flatMap (Xf name t))):=by unfold Yo XQ Xm;simp[Z5g]
 rw[e];exact Gq _ _ _ 0 4 rfl (by simp[Zw])
theorem Z29(name t:List UInt8):(str (Yo name t)).extract 4 36=str (B5 [name,Z4 t.length]):=by
 have e:Yo name t=Z4 t.length++(B5 [name,Z4 t.length]++(List.range (Y0 t.length)).flatMap (Xf name t)):=by unfold Yo XQ Xm;simp[Z5g]
 rw[e];exact Gq _ _ _ 4 36 rfl (by rw[Xj])
theorem Z28(name t:List UInt8)(k:Nat)(h:k<Y0 t.length)(z:Nat)(J:bSz t.length k=z):(str (Yo name t)).extract (bSe k) (bSe k+z)=str (QX t k)/\(str (Yo name t)).extract (bSe k+z) (bSe k+z+32)=str (B5 [name,Z4 t.length,Z4 k,QX t k]):=by
 obtain⟨r,F⟩:=Z3P name t k h;have hl:(XQ name t k).length=bSe k:=by rw[F8 name t k (Nat.le_of_lt h)];have:=ID h;unfold bSe;omega
 have C:(QX t k).length=z:=by rw[Xg];exact J
 refine⟨?_,?_⟩
 .rw[F];exact Gq _ _ _ _ _ hl (by rw[C])
 .rw[F,<-Z5g];exact Gq _ _ _ _ _ (by rw[Z5d,hl,C]) (by rw[Xj])
theorem O8(s:ByteArray)(hs:s.size=4):(Yw s.data.toList:Int)=(s[0].toNat:Int)*16777216+(s[1].toNat:Int)*65536+(s[2].toNat:Int)*256+(s[3].toNat:Int):=by
 have g:∀i (h:i<s.size),s.data.toList.getD i 0=s[i]:=by
  intro i h;have C:i<s.data.toList.length:=by simpa using h
  rw[Z59,Z5a C];exact Aw s i h C
 unfold Yw;rw[g 0 (by omega),g 1 (by omega),g 2 (by omega),g 3 (by omega)];omega
theorem Z42(n:Nat)(h:n<4294967296)(s:ByteArray)(he:s32 n=s)(hs:s.size=4):(n:Int)=(s[0].toNat:Int)*16777216+(s[1].toNat:Int)*65536+(s[2].toNat:Int)*256+(s[3].toNat:Int):=by rw[<-O8 s hs,<-he,Ey];have g:=Yx n h [];rw[Z5C] at g;rw[g]
theorem YH.make(w:World)(N T n:ByteArray):YH w w.heap.size (w.heap.size+1) (w.heap.size+1+1) (w.heap.size+1+1+1) (w.heap.size+1+1+1+1) N T n (((((w.alloc (.cells #[.string N] 9)).alloc (.cells #[.string T] 9)).alloc (.cells #[.string ⟨#[]⟩] 9)).alloc (.cells #[.nilIface] 31)).alloc (.cells #[.string n] 9)):=by
 have F:=((((Row.new w 9 [.string N]).alloc (.cells #[.string T] 9)).alloc (.cells #[.string ⟨#[]⟩] 9)).alloc (.cells #[.nilIface] 31)).alloc (.cells #[.string n] 9);have h:=(((Row.new (w.alloc (.cells #[.string N] 9)) 9 [.string T]).alloc (.cells #[.string ⟨#[]⟩] 9)).alloc (.cells #[.nilIface] 31)).alloc (.cells #[.string n] 9);have C:=((Row.new ((w.alloc (.cells #[.string N] 9)).alloc (.cells #[.string T] 9)) 9 [.string ⟨#[]⟩]).alloc (.cells #[.nilIface] 31)).alloc (.cells #[.string n] 9);have r4:=(Row.new (((w.alloc (.cells #[.string N] 9)).alloc (.cells #[.string T] 9)).alloc (.cells #[.string ⟨#[]⟩] 9)) 31 [.nilIface]).alloc (.cells #[.string n] 9);have r5:=Row.new ((((w.alloc (.cells #[.string N] 9)).alloc (.cells #[.string T] 9)).alloc (.cells #[.string ⟨#[]⟩] 9)).alloc (.cells #[.nilIface] 31)) 9 [.string n];have z:∀ (W:World) (o:Obj),(W.alloc o).heap.size=W.heap.size+1:=λW o=>by simp
 simp only[z] at h C r4 r5;refine⟨F,h,C,r4,r5,(((((Below.refl _ w).alloc Z5D _).alloc (by simp only[z];omega) _).alloc (by simp only[z];omega) _).alloc (by simp only[z];omega) _).alloc (by simp only[z];omega) _,by omega,by omega⟩
theorem Z4n{W:World}{p:Addr}{v:Value}(h:W.cell? p=some v)(o:Obj):(W.alloc o).cell? p=some v:=by rw[World.cell?_alloc_some W p o (by rw[h];rfl)];exact h
theorem Row.belowB{W C:World}{g B:Nat}{l:List Value}(h:Row W g e l)(F:Below B W C)(M:g<B):Row C g e l:=by obtain⟨f,hh,J⟩:=h;exact⟨f,(F.block g M).trans hh,J⟩
theorem Row.ncset{W:World}{g:Nat}{l:List Value}(h:Row W g e l)(j:Nat)(v:Value):NC W (W.setCell ⟨g,j,none⟩ v):=by obtain⟨f,hh,C⟩:=h;exact NC.set hh
theorem Z1I{Q:Exit->Act->World->Prop}{a:Act}{w:World}(h:Q .normal a w):MF Q .normal a w:=h
theorem Z1K(name text:Bs)(w:World)(hn:name.length<=220)(ht:text.length<=9000):Calls prog 158 #[.string (str name),.string (str (Yo name text))] w λe w'=>e=.returned (.tuple #[.string (str text),.nilIface])/\Below w.heap.size w w':=by
 have ie:(str name).size=name.length:=Z5 name;have fo:(str (Yo name text)).size=36+text.length+32*Y0 text.length:=by rw[Z5,WO]
 have dh:=Z4J name text;have eo:=Z29 name text;obtain⟨N,hN⟩:=Z5H (str name);obtain⟨T,hT⟩:=Z5H (str (Yo name text));obtain⟨len,hlen⟩:=Z5H text.length;obtain⟨nl,dc⟩:=Z5H name.length;obtain⟨tl,bj⟩:=Z5H (36+len+32*Y0 len);obtain⟨sm,de⟩:=Z5H (B5 [name,Z4 len]);rw[hN,dc] at ie;rw[dc] at hn;rw[hlen] at dh eo ht fo;rw[de] at eo;rw[hT,bj] at fo;rw[hT] at dh eo;have cz:Y0 len<=46:=by unfold Y0;omega
 obtain⟨J,bf⟩:=Z5H (s32 len);have du:J.size=4:=by rw[<-bf];exact Y3 len
 have HR:=Z5F (Z42 len (by omega) J bf du);obtain⟨e1,e2,e3,e4,e5,e6,e7,e8,e9,fu⟩:=Er J[0].toNat J[1].toNat J[2].toNat J[3].toNat J[0].toNat_lt J[1].toNat_lt J[2].toNat_lt J[3].toNat_lt;have i0:0<J.size:=by omega
 have i1:(1:Int)<(J.size:Int):=by omega
 have i2:(2:Int)<(J.size:Int):=by omega
 have i3:(3:Int)<(J.size:Int):=by omega
 rw[bf] at dh;have g1:decide ((220:Int)<(nl:Int))=false:=decide_eq_false (by omega);have g2:decide ((10000:Int)<(len:Int))=false:=decide_eq_false (by omega);have g3:decide ((tl:Int)<(36:Int))=false:=decide_eq_false (by omega);have g4:(4:Int)<=(tl:Int):=by omega
 have g5:(36:Int)<=(tl:Int):=by omega
 have fp:∀W,Calls prog 219 #[.int .i64 (len:Int)] W λe w'=>e=.returned (.int .i64 (tl:Int))/\W=w':=λW=>by have Z:=Vo len (by omega) W;rw[bj] at Z;exact Z
 have al:∀W:World,Row (W.alloc (.cells #[.string N,.string J] 9)) W.heap.size 9 (Z7 ([name,Z4 len].map str)++[]):=λW=>by have Z:=Row.new W 9 [.string N,.string J];rw[<-hN,<-bf] at Z⊢;exact Z
 have aq:∀W:World,Calls prog 184 #[.slice (some ⟨W.heap.size,0,none⟩) 2 2] (W.alloc (.cells #[.string N,.string J] 9)).drew λe w'=>e=.returned (.string (str sm))/\Below (W.alloc (.cells #[.string N,.string J] 9)).drew.heap.size (W.alloc (.cells #[.string N,.string J] 9)).drew w':=λW=>by have Z:=EJ W.heap.size 2 [name,Z4 len] [] _ ((al W).after Z5E.drew) (by rw[ZN,Zc,Zc];simp[Zy,Zw];omega);rw[de] at Z;exact Z
 have HZ:=Z5J fp aq;clear fp al aq;have HX:=Z5P hN hT hlen dc bj de bf cz;rw[hN,hT];clear hN hT hlen dc bj de cz bf;refine(callsIn_wide (n:=9)).1 ?_;refine callsIn_of_wp_marks func158 rfl trivial ?_ rfl;simp only[ntmps158,List.size_toArray,Z5h,List.length_nil,Nat.reduceAdd,Nat.reduceSub,Array.replicate_succ,Array.replicate_zero,List.push_toArray,List.append_toArray,List.nil_append,List.cons_append];refine wpIn_wide.2 ?_;go_wp2;have S5:=YH.make w N T J;obtain⟨bn,fi⟩:=Z5H w.heap.size;rw[fi] at S5⊢;generalize (((((w.alloc (.cells #[.string N] 9)).alloc (.cells #[.string T] 9)).alloc (.cells #[.string ⟨#[]⟩] 9)).alloc (.cells #[.nilIface] 31)).alloc (.cells #[.string J] 9))=w5 at*
 obtain⟨b3,fc⟩:=Z5H (bn+1);obtain⟨b4,fe⟩:=Z5H (b3+1);obtain⟨b5,ff⟩:=Z5H (b4+1);obtain⟨b6,fg⟩:=Z5H (b5+1);rw[fc,fe,ff,fg] at S5⊢;have c6:=S5.c6;have er:=Z5F S5;clear S5 fc fe ff fg fi;refine Code.wp_mono G9 ?_;go_quiet (fail);have dz:=HR.out;simp only[Int.cast_ofNat_Int] at dz;rw[<-dz];clear dz;have dp:=Z5F (er.out.after (Zv Z5E nq));clear er c6;generalize w5.drewN nq=w6 at*
 clear e1 e2 e3 e4 e5 e6 e7 e8 e9 fu i0 i1 i2 i3 dh HR;go_wp2;have o6:=dp.out.drew;have k2:=o6.c2;have k3:=o6.c3;have k6:=o6.c6;refine Code.wp_mono G9 ?_;go_region_held3 (λx=>YH w bn b3 b4 b5 b6 N T J x/\x.cell? ⟨bn,0,none⟩=some (.string N)/\x.cell? ⟨b3,0,none⟩=some (.string T)/\x.cell? ⟨b6,0,none⟩=some (.string J)) (refine⟨?_,?_,?_,?_⟩<;>first|assumption|exact YH.alloc (by assumption) _|exact Z4n (by assumption) _)
  (first|(go_at_call 219;refine(HZ.out.1 _).mono ?_;rintro e w8 ⟨rfl,rfl⟩)|(go_at_call 184;refine(HZ.out.2 _).mono ?_;rintro e w8 ⟨rfl,bu⟩;have o8:=YH.after (YH.drew (YH.alloc dp.out _)) bu;have q2:=o8.c2;have q3:=o8.c3;have q6:=o8.c6;clear bu))
 rename_i hHeld;have o9:YH w bn b3 b4 b5 b6 N T J w8:=o8;have B8:XA w bn b3 b4 b5 b6 w8.heap.size N T J [] (w8.alloc (.cells #[.pointer none,.slice none 0 0] 258)):=⟨o9.alloc _,Bld.new w8,o9.bel.size,by simp⟩;have dj:=Z5F B8;have HL:=Z5J o9.r4.lt o9.r5.lt;clear o6 k2 k3 k6 hHeld o8 q2 q3 q6 dp o9 B8 HZ;generalize (J[0].toNat:Int)=z0 at*
 generalize (J[1].toNat:Int)=z1 at*
 generalize (J[2].toNat:Int)=z2 at*
 generalize (J[3].toNat:Int)=z3 at*
 go_wp2_with (go_at_call 185;refine(IE len _).mono ?_;rintro e wy ⟨rfl,im⟩);have cu:=Z5F (dj.out.alloc (.cells #[.int .i64 (len:Int)] 3));have ee:=Row.new (w8.alloc (.cells #[.pointer none,.slice none 0 0] 258)) 3 [.int .i64 (len:Int)];rw[show(w8.alloc (.cells #[.pointer none,.slice none 0 0] 258)).heap.size=w8.heap.size+1 from by simp] at ee;obtain⟨bb,cw⟩:=Z5H w8.heap.size;obtain⟨bl,fh⟩:=Z5H (bb+1);rw[cw,fh] at ee;rw[cw] at cu dj HL;rw[cw];simp only[fh];generalize ((w8.alloc (.cells #[.pointer none,.slice none 0 0] 258)).alloc (.cells #[.int .i64 (len:Int)] 3))=w7 at*
 clear dj cw;have hle:w.heap.size<=w7.heap.size:=cu.out.op.bel.size
 refine wpIn_wide.1 (Hd (T:=278) (n:=9) (by decide) (gf:=240) (lb:= #[.pointer (some ⟨bl,0,none⟩)]) rfl (enters_of func240 (by kernel_rfl) rfl)
  (encs:=KR len) (Kp:=QH) (GN 8 bl len w7 ee (by omega) (by decide)) (λh k=>h.trans k) (λW l o o' _ h1 h2 _=>QH.put W l o o' h1 h2) Z5E (λ_=>rfl)
  (λpre W=>XA w bn b3 b4 b5 b6 bb N T J (pre.flatMap λi=>QX text i.1) W)
  (XA.own (F:=λpre:List (Bk len)=>pre.flatMap λi=>QX text i.1) hle) (XA.abT (F:=λpre:List (Bk len)=>pre.flatMap λi=>QX text i.1) hle) (by simpa using cu.out)
  (λx a' W=>∃bx,Row W bx 278 [.int .i64 (bAt x.1:Int),.int .i64 (bSe x.1:Int),.int .i64 (bSz len x.1:Int)]/\a'={tmps:= #[.string N,.string T,.pointer (some ⟨bn,0,none⟩),.pointer (some ⟨b3,0,none⟩),.pointer (some ⟨b4,0,none⟩),.pointer (some ⟨b5,0,none⟩),.pointer (some ⟨b6,0,none⟩),.int .i64 (len:Int),.pointer (some ⟨bb,0,none⟩),.int .i64 (x.1:Int),.pointer (some ⟨bx,0,none⟩),undef,.string N,.int .i64 (nl:Int),.bool false,undef,.string T,.int .i64 (tl:Int),.bool false,undef,.string T,.string J,.string J,.int .u8 z0,.int .i64 z0,.int .i64 (z0*16777216),.string J,.int .u8 z1,.int .i64 z1,.int .i64 (z1*65536),.int .i64 (z0*16777216+z1*65536),.string J,.int .u8 z2,.int .i64 z2,.int .i64 (z2*256),.int .i64 (z0*16777216+z1*65536+z2*256),.string J,.int .u8 z3,.int .i64 z3,.int .i64 (len:Int),.int .i64 (len:Int),.bool false,.bool false,.string T,.int .i64 (tl:Int),.int .i64 (len:Int),.int .i64 (tl:Int),.bool false,.bool false,.bool false,.string T,.string (str sm),.string N,.string J,.slice (some ⟨w6.heap.size,0,none⟩) 2 2,.string (str sm),.bool false,.bool false,undef,.int .i64 (len:Int),.func (.func 240) #[] #[.pointer (some ⟨bl,0,none⟩)],.int .i64 (x.1:Int),.agg #[.int .i64 (bAt x.1:Int),.int .i64 (bSe x.1:Int),.int .i64 (bSz len x.1:Int)],undef,undef,undef,undef,undef,undef,undef,undef,undef,undef,undef,undef,undef,undef,undef,undef,undef,undef,undef,undef,undef,undef,undef,undef,undef,undef,undef,undef,undef,undef,undef,undef,undef,undef,undef,undef],defers:=[]})
  (λx a' _ X Y row hs hg hr=>by obtain⟨bx,h1,h2⟩:=hs;exact⟨bx,h1.nc hg (λr e=>(hr r e).2),h2⟩)
  ?assign ?body ?done)
 case assign=>rintro l pre x W K hi hK;simp only[KR];gi_wp2;exact hK _ _ ((KeepsOthers.alloc _ _).from _) (QH.below ((Below.refl _ W).alloc Z5D _)) (hi.after ((Below.refl _ W).alloc Z5D _)) ⟨W.heap.size,Row.new W _ [_,_,_],rfl⟩
 case body=>
  rintro l pre x a' W hl hi ⟨bx,bg,rfl⟩ hlt;obtain⟨i,dw⟩:=x;have ib:=Mu text pre;have cz:Y0 len<=46:=HX.out.2.2.2.2.2.2.2;have bj:36+len+32*Y0 len=tl:=HX.out.2.2.2.2.1;have ek:(pre++[(⟨i,dw⟩:Bk len)]).flatMap (λi=>QX text i.1)=(pre.flatMap λi=>QX text i.1)++QX text i:=by rw[List.flatMap_append];simp
  have dy:(pre.flatMap λi=>QX text i.1).length<=20000:=by omega
  obtain⟨out,b7⟩:=Z5H (pre.flatMap λi=>QX text i.1);rw[b7] at hi ek dy;have ia:=ID dw;obtain⟨at_,aw⟩:=Z5H (bAt i);obtain⟨se,cn⟩:=Z5H (bSe i);obtain⟨z,hz⟩:=Z5H (bSz len i);obtain⟨e1,fj⟩:=Z5H (se+z);obtain⟨e2,fm⟩:=Z5H (e1+32);have eh:36+232*i=se:=cn;have ig:min 200 (len-200*i)=z:=hz;have q1:e2<=tl:=by omega
  have q3:(e2:Int)<=(tl:Int):=by omega
  have iq:(e1:Int)<=(tl:Int):=by omega
  have q4:(se:Int)<=(e1:Int):=by omega
  have ir:(e1:Int)<=(e2:Int):=by omega
  have q5:(se:Int)+(z:Int)=(e1:Int):=by omega
  have iu:(e1:Int)+32=(e2:Int):=by omega
  have q6:se<=20000:=by omega
  have q7:z<=200:=by omega
  have q8:e1<=20200:=by omega
  have w1:=Z5x (e1:Int) (by omega);have w2:=Z5x (e2:Int) (by omega);have hx:=Z28 name text i (by rw[HX.out.2.2.1];exact dw) z (by rw[HX.out.2.2.1];exact hz);rw[HX.out.2.1,cn,fj,fm,HX.out.2.2.1] at hx;obtain⟨Si,bq⟩:=Z5H (str (QX text i));obtain⟨df,b8⟩:=Z5H (B5 [name,Z4 len,Z4 i,QX text i]);rw[bq,b8] at hx;have x1:=hx.1;have x2:=hx.2;have ez:Si.data.toList=QX text i:=by rw[<-bq,Zn]
  have fa:Si.size<=200:=by rw[<-bq,Z5,Xg];omega
  have ik:i<=100:=by omega
  have cj:(Zz [name,Z4 len,Z4 i,QX text i]).length<=60000:=by rw[ZN,Zc,Zc,Zc,Zc,Xg];have:=HX.out.2.2.2.1;simp[Zy,Zw];omega
  have au:∀W:World,Calls prog 184 #[.slice (some ⟨W.heap.size,0,none⟩) 4 4] (W.alloc (.cells #[.string N,.string J,.string (s32 i),.string Si] 9)) λe w'=>e=.returned (.string (str df))/\Below (W.alloc (.cells #[.string N,.string J,.string (s32 i),.string Si] 9)).heap.size (W.alloc (.cells #[.string N,.string J,.string (s32 i),.string Si] 9)) w':=λW=>by
   have ef:Row (W.alloc (.cells #[.string N,.string J,.string (s32 i),.string Si] 9)) W.heap.size 9 (Z7 ([name,Z4 len,Z4 i,QX text i].map str)++[]):=by have Z:=Row.new W 9 [.string N,.string J,.string (s32 i),.string Si];rw[<-bq,<-HX.out.1,<-HX.out.2.2.2.2.2.2.1] at Z⊢;exact Z
   have Z:=EJ W.heap.size 4 [name,Z4 len,Z4 i,QX text i] [] _ ef cj;rw[b8] at Z;exact Z
  rw[aw,cn,hz] at bg;have bh:∀A C:World,(KF w bn b3 b4 b5 b6 bb N T J out W A/\A.cell? ⟨b3,0,none⟩=some (.string T)/\A.cell? ⟨bx,1,none⟩=some (.int .i64 (se:Int))/\A.cell? ⟨bx,2,none⟩=some (.int .i64 (z:Int))/\A.cell? ⟨bn,0,none⟩=some (.string N)/\A.cell? ⟨b6,0,none⟩=some (.string J))->Below A.heap.size A C->
    (KF w bn b3 b4 b5 b6 bb N T J out W C/\C.cell? ⟨b3,0,none⟩=some (.string T)/\C.cell? ⟨bx,1,none⟩=some (.int .i64 (se:Int))/\C.cell? ⟨bx,2,none⟩=some (.int .i64 (z:Int))/\C.cell? ⟨bn,0,none⟩=some (.string N)/\C.cell? ⟨b6,0,none⟩=some (.string J)):=by
   rintro A C ⟨h0,h1,h2,h3,h4,h5⟩ hb;have k:∀ (p:Addr) (v:Value),A.cell? p=some v->C.cell? p=some v:=λp v h=>(hb.cell (Z5b A p h)).trans h;exact⟨h0.after hb,k _ _ h1,k _ _ h2,k _ _ h3,k _ _ h4,k _ _ h5⟩
  have hs0:=bh W W.drew ⟨⟨hi,QH.refl _,NC.below Z5E,Z5D⟩,hi.op.c3,bg.cell (j:=1) rfl,bg.cell (j:=2) rfl,hi.op.c2,hi.op.c6⟩ (Z5E.drew);have U:=Z5F hs0;have HK:=Z5F bh;have ft:=Z5F au;have HO:=Z5M b7 ek dy ez fa;have y3:=hi.op.c3;have y1:=bg.cell (j:=1) rfl;have y2:=bg.cell (j:=2) rfl;have ic:prog.follows .mixedOrders=true:=by kernel_rfl
  rw[aw,cn,hz];clear ib ek dy b7 ia aw cn hz fj fm eh ig hx bq b8 ez fa cj au bg bh hs0 hi cz bj;gi_wp2;refine wpIn_mono (Q:=MF _) ?_ M5;refine GH (S:=λx=>KF w bn b3 b4 b5 b6 bb N T J out W x/\x.cell? ⟨b3,0,none⟩=some (.string T)/\x.cell? ⟨bx,1,none⟩=some (.int .i64 (se:Int))/\x.cell? ⟨bx,2,none⟩=some (.int .i64 (z:Int))/\x.cell? ⟨bn,0,none⟩=some (.string N)/\x.cell? ⟨b6,0,none⟩=some (.string J)) (λ⟨_,_,h⟩=>h) ic (by kernel_rfl) U.out (λij=> ?_);refine wpAnyH_take (i:=0) (v:=.string T) rfl (by kernel_rfl) (by kernel_rfl) (by kernel_rfl) (λ_ _ _ h=>h) (Or.inl ⟨by rfl,by intro W9 O;obtain⟨M,ae,af,ag,ah,ai⟩:=O;clear M;go_simp;try with_reducible rfl⟩) U.out ?_
  try simp only[Act.put,Z5m,List.set_cons_zero,List.set_cons_succ]
  refine wpAnyH_take (i:=1) (v:=.pointer (some ⟨bx,1,none⟩)) rfl (by kernel_rfl) (by kernel_rfl) (by kernel_rfl) (λ_ _ _ h=>h) (Or.inl ⟨by rfl,by intro W9 O;obtain⟨M,ae,af,ag,ah,ai⟩:=O;clear M;go_simp;try with_reducible rfl⟩) U.out ?_
  try simp only[Act.put,Z5m,List.set_cons_zero,List.set_cons_succ]
  refine wpAnyH_take (i:=2) (v:=.int .i64 (se:Int)) rfl (by kernel_rfl) (by kernel_rfl) (by kernel_rfl) (λ_ _ _ h=>h) (Or.inl ⟨by rfl,by intro W9 O;obtain⟨M,ae,af,ag,ah,ai⟩:=O;clear M;go_simp;try with_reducible rfl⟩) U.out ?_
  try simp only[Act.put,Z5m,List.set_cons_zero,List.set_cons_succ]
  refine wpAnyH_take (i:=3) (v:=.pointer (some ⟨bx,2,none⟩)) rfl (by kernel_rfl) (by kernel_rfl) (by kernel_rfl) (λ_ _ _ h=>h) (Or.inl ⟨by rfl,by intro W9 O;obtain⟨M,ae,af,ag,ah,ai⟩:=O;clear M;go_simp;try with_reducible rfl⟩) U.out ?_
  try simp only[Act.put,Z5m,List.set_cons_zero,List.set_cons_succ]
  refine wpAnyH_take (i:=4) (v:=.int .i64 (z:Int)) rfl (by kernel_rfl) (by kernel_rfl) (by kernel_rfl) (λ_ _ _ h=>h) (Or.inl ⟨by rfl,by intro W9 O;obtain⟨M,ae,af,ag,ah,ai⟩:=O;clear M;go_simp;try with_reducible rfl⟩) U.out ?_
  try simp only[Act.put,Z5m,List.set_cons_zero,List.set_cons_succ]
  refine wpAnyH_take (i:=5) (v:=.int .i64 (e1:Int)) rfl (by kernel_rfl) (by kernel_rfl) (by kernel_rfl) (λ_ _ _ h=>h) (Or.inl ⟨by rfl,by intro W9 O;obtain⟨M,ae,af,ag,ah,ai⟩:=O;clear M;go_simp;try with_reducible rfl⟩) U.out ?_
  try simp only[Act.put,Z5m,List.set_cons_zero,List.set_cons_succ]
  refine wpAnyH_take (i:=6) (v:=.pointer (some ⟨bx,1,none⟩)) rfl (by kernel_rfl) (by kernel_rfl) (by kernel_rfl) (λ_ _ _ h=>h) (Or.inl ⟨by rfl,by intro W9 O;obtain⟨M,ae,af,ag,ah,ai⟩:=O;clear M;go_simp;try with_reducible rfl⟩) U.out ?_
  try simp only[Act.put,Z5m,List.set_cons_zero,List.set_cons_succ]
  refine wpAnyH_take (i:=7) (v:=.int .i64 (se:Int)) rfl (by kernel_rfl) (by kernel_rfl) (by kernel_rfl) (λ_ _ _ h=>h) (Or.inl ⟨by rfl,by intro W9 O;obtain⟨M,ae,af,ag,ah,ai⟩:=O;clear M;go_simp;try with_reducible rfl⟩) U.out ?_
  try simp only[Act.put,Z5m,List.set_cons_zero,List.set_cons_succ]
  refine wpAnyH_take (i:=8) (v:=.pointer (some ⟨bx,2,none⟩)) rfl (by kernel_rfl) (by kernel_rfl) (by kernel_rfl) (λ_ _ _ h=>h) (Or.inl ⟨by rfl,by intro W9 O;obtain⟨M,ae,af,ag,ah,ai⟩:=O;clear M;go_simp;try with_reducible rfl⟩) U.out ?_
  try simp only[Act.put,Z5m,List.set_cons_zero,List.set_cons_succ]
  refine wpAnyH_take (i:=9) (v:=.int .i64 (z:Int)) rfl (by kernel_rfl) (by kernel_rfl) (by kernel_rfl) (λ_ _ _ h=>h) (Or.inl ⟨by rfl,by intro W9 O;obtain⟨M,ae,af,ag,ah,ai⟩:=O;clear M;go_simp;try with_reducible rfl⟩) U.out ?_
  try simp only[Act.put,Z5m,List.set_cons_zero,List.set_cons_succ]
  refine wpAnyH_take (i:=10) (v:=.int .i64 (e1:Int)) rfl (by kernel_rfl) (by kernel_rfl) (by kernel_rfl) (λ_ _ _ h=>h) (Or.inl ⟨by rfl,by intro W9 O;obtain⟨M,ae,af,ag,ah,ai⟩:=O;clear M;go_simp;try with_reducible rfl⟩) U.out ?_
  try simp only[Act.put,Z5m,List.set_cons_zero,List.set_cons_succ]
  refine wpAnyH_take (i:=11) (v:=.int .i64 (e2:Int)) rfl (by kernel_rfl) (by kernel_rfl) (by kernel_rfl) (λ_ _ _ h=>h) (Or.inl ⟨by rfl,by intro W9 O;obtain⟨M,ae,af,ag,ah,ai⟩:=O;clear M;go_simp;try with_reducible rfl⟩) U.out ?_
  try simp only[Act.put,Z5m,List.set_cons_zero,List.set_cons_succ]
  refine wpAnyH_take (i:=12) (v:=.string (str df)) rfl (by kernel_rfl) (by kernel_rfl) (by kernel_rfl) (λ_ _ _ h=>h) (Or.inl ⟨by rfl,by intro W9 O;obtain⟨M,ae,af,ag,ah,ai⟩:=O;clear M;go_simp;try with_reducible rfl⟩) U.out ?_
  try simp only[Act.put,Z5m,List.set_cons_zero,List.set_cons_succ]
  refine wpAnyH_take (i:=13) (v:=.string N) rfl (by kernel_rfl) (by kernel_rfl) (by kernel_rfl) (λ_ _ _ h=>h) (Or.inl ⟨by rfl,by intro W9 O;obtain⟨M,ae,af,ag,ah,ai⟩:=O;clear M;go_simp;try with_reducible rfl⟩) U.out ?_
  try simp only[Act.put,Z5m,List.set_cons_zero,List.set_cons_succ]
  refine wpAnyH_take (i:=14) (v:=.string J) rfl (by kernel_rfl) (by kernel_rfl) (by kernel_rfl) (λ_ _ _ h=>h) (Or.inl ⟨by rfl,by intro W9 O;obtain⟨M,ae,af,ag,ah,ai⟩:=O;clear M;go_simp;try with_reducible rfl⟩) U.out ?_
  try simp only[Act.put,Z5m,List.set_cons_zero,List.set_cons_succ]
  refine wpAnyH_take (i:=15) (v:=.int .i64 (i:Int)) rfl (by kernel_rfl) (by kernel_rfl) (by kernel_rfl) (λ_ _ _ h=>h) (Or.inl ⟨by rfl,by intro W9 O;obtain⟨M,ae,af,ag,ah,ai⟩:=O;clear M;go_simp;try with_reducible rfl⟩) U.out ?_
  try simp only[Act.put,Z5m,List.set_cons_zero,List.set_cons_succ]
  refine wpAnyH_take (i:=17) (v:=.string Si) rfl (by kernel_rfl) (by kernel_rfl) (by kernel_rfl) (λ_ _ _ h=>h) (Or.inl ⟨by rfl,by intro W9 O;obtain⟨M,ae,af,ag,ah,ai⟩:=O;clear M;go_simp;try with_reducible rfl⟩) U.out ?_
  try simp only[Act.put,Z5m,List.set_cons_zero,List.set_cons_succ]
  refine wpAnyH_ready (rs:=[16]) (by kernel_rfl) (by simp) ?_;refine AllReadyH.cons rfl (λK hK=> ?_) AllReadyH.nil;go_simp;go_at_call 183;refine(Ic i (by omega) _).mono ?_;rintro e w8 ⟨rfl,bu⟩;have eu:=Z5F (HK.out W.drew w8 U.out bu);clear bu;refine hK.out _ _ eu.out (λb9=> ?_);clear hK K b9
  try simp only[Act.put,Z5m,List.set_cons_zero,List.set_cons_succ]
  refine wpAnyH_ready (rs:=[18]) (by kernel_rfl) (by simp) ?_;refine AllReadyH.cons rfl (λK hK=> ?_) AllReadyH.nil;go_simp;have bm:=Z5F (HK.out w8 _ eu.out ((Below.refl w8.heap.size w8).alloc Z5D (.cells #[.string N,.string J,.string (s32 i),.string Si] 9)));refine hK.out _ _ bm.out (λb9=> ?_);clear hK K b9
  try simp only[Act.put,Z5m,List.set_cons_zero,List.set_cons_succ]
  refine wpAnyH_ready (rs:=[19]) (by kernel_rfl) (by simp) ?_;refine AllReadyH.cons rfl (λK hK=> ?_) AllReadyH.nil;go_simp;go_at_call 184;refine(ft.out w8).mono ?_;rintro e w9 ⟨rfl,az⟩;have dq:=Z5F (HK.out _ w9 bm.out az);clear az;refine hK.out _ _ dq.out (λb9=> ?_);clear hK K b9
  try simp only[Act.put,Z5m,List.set_cons_zero,List.set_cons_succ]
  refine wpAnyH_ready (rs:=[20]) (by kernel_rfl) (by simp) ?_;refine AllReadyH.cons rfl (λK hK=> ?_) AllReadyH.nil;go_simp;refine hK.out _ _ dq.out (λb9=> ?_);clear hK K b9
  try simp only[Act.put,Z5m,List.set_cons_zero,List.set_cons_succ]
  refine wpAnyH_done (by kernel_rfl) ?_ _;refine Z1I ?_;have ak:=Z5F dq.out.1;gi_wp2_with (refine⟨trivial,?_⟩;gi_at_call 164;refine(CallsIn.inRound l (callsIn_wide.2 (GP bb bb out Si _ ak.out.sl.bld (by have h1:=HO.out.2.2.1;have h2:=HO.out.2.2.2.2;omega) (Nat.le_of_lt ak.out.sl.hi)))).mono ?_;rintro e iw ⟨rfl,hw,hb,hk,hn⟩;have cr:=Z5L (ak.out.sl.wrote hw hb hk) (ak.out.kp.trans hk) (ak.out.nc.trans hn) (Z5w ak.out.sz hb.size);clear hw hb hk hn);exact⟨⟨cr.out.2.2.2,λk o _ hk ho=>cr.out.2.2.1 k o hk ho⟩,cr.out.2.1,by show XA _ _ _ _ _ _ _ _ _ _ _ _;rw[HO.out.2.1,<-HO.out.2.2.2.1];exact cr.out.1⟩
 case done=>
  rintro D xs W hD hS hi hK;have bz:(xs.flatMap λi=>QX text i.1)=text:=by have Z:=Z0X text;rw[HX.out.2.2.1,<-hS,List.flatMap_map] at Z;exact Z
  rw[bz] at hi;have HI:=Z5F hi;have ew:D≠bb:=by have:=cu.out.hi;omega
  have dm:=Z5K ew hD hle;clear hi bz ew hD;go_wp2_with (go_at_call 165;refine(Fm bb bb _ _ HI.out.bld (Nat.le_of_lt HI.out.hi)).mono ?_;rintro e w9 ⟨rfl,az,bh⟩;have ey:=bh D _ hK dm.out.1 rfl;have ak:=Z5F (HI.out.op.bel.trans (az.mono HI.out.lo));have R4:=HI.out.op.r4.belowB az HL.out.1;have R5:=HI.out.op.r5.belowB az HL.out.2;have v4:=R4.cell (j:=0) rfl;have f4:=R4.free (j:=0) (by simp);have v5:=R5.cell (j:=0) rfl;have f5:=R5.free (j:=0) (by simp);have dx:=Row.ne R4 R5 (by decide);have ct:=Z5J R4 R5;have fq:=Z5F ey;clear az bh hK R4 R5 ey);have fw:=((ct.out.1.set 0 (.string ⟨text.toArray⟩)).other (p:=⟨b5,0,none⟩) (λh=>dx h) .nilIface);have gj:=(ct.out.2.other (p:=⟨b4,0,none⟩) (λh=>dx h.symm) (.string ⟨text.toArray⟩)).set 0 .nilIface;have aj:=(ct.out.2.other (p:=⟨b4,0,none⟩) (λh=>dx h.symm) (.string ⟨text.toArray⟩)).ncset 0 .nilIface D _ (ct.out.1.ncset 0 (.string ⟨text.toArray⟩) D _ fq.out rfl) rfl;have dt:=(ak.out.setCell (p:=⟨b4,0,none⟩) HI.out.op.ge4 (.string ⟨text.toArray⟩)).setCell (p:=⟨b5,0,none⟩) HI.out.op.ge5 .nilIface;generalize ((w9.setCell ⟨b4,0,none⟩ (.string ⟨text.toArray⟩)).setCell ⟨b5,0,none⟩ .nilIface)=wE at*
  have y0:∀o,(wE.putObj D o).cell? ⟨b4,0,none⟩=some (.string ⟨text.toArray⟩):=λo=>(QH.put wE D _ o aj rfl _ _ _ (by decide) (by decide) fw).cell (j:=0) rfl;have y1:∀o,(wE.putObj D o).cell? ⟨b5,0,none⟩=some .nilIface:=λo=>(QH.put wE D _ o aj rfl _ _ _ (by decide) (by decide) gj).cell (j:=0) rfl;refine⟨by simp,.inl ⟨_,_,rfl,run_takeDeferred aj,?_⟩⟩;refine⟨.tuple #[.string ⟨text.toArray⟩,.nilIface],?_,rfl,dt.trans (belowK_b (w:=w) Z5D _ D _ _ (Z5w dm.out.2.2 dm.out.2.1) aj rfl rfl)⟩;simp[results,Tryz.results158,go_sem,y0,y1]
