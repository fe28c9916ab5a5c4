/-
  Part 39 of the proof: lemmas about what the program computes.
-/
import Derived.Shelf.SlMaps.Clone
import Derived.Test.YthppfllkocphbaaGreatDoorQ37
namespace Go.Proofs.YthppfllkocphbaaGreatDoor
set_option linter.unusedVariables false
set_option linter.unusedSimpArgs false
set_option maxHeartbeats 25600000
set_option maxRecDepth 100000
open Tryz
section
open Go.RowKit
def XY(ss:List ByteArray):ByteArray:=⟨(ss.map (·.data.toList)).flatten.toArray⟩
theorem ZdL(ss:List ByteArray)(n:Nat)(h:∀i,i<ss.length->(ss.getD i ⟨#[]⟩).size=n):(XY ss).size=ss.length*n:=by
 induction ss with
 |nil=>simp[XY];rfl
 |cons x xs ih=>
  have h0:=h 0 (by simp)
  have h1:=ih (fun i hi=>by have:=h (i+1) (by simp;omega);simpa using this)
  show(((x::xs).map (·.data.toList)).flatten.toArray).size=_
  rw[List.size_toArray,ZjY,List.flatten_cons,ZjI]
  have h2:(xs.map (·.data.toList)).flatten.length=xs.length*n:=by
   have:=h1
   unfold XY at this
   have e:(ByteArray.mk (xs.map (·.data.toList)).flatten.toArray).size=(xs.map (·.data.toList)).flatten.length:=by
    show((xs.map (·.data.toList)).flatten.toArray).size=_
    rw[List.size_toArray]
   rw[e] at this
   exact this
  have h3:x.data.toList.length=n:=by rw[<-h0];simp
  rw[h2,h3,ZjM,Nat.add_mul,Nat.one_mul]
  omega
theorem Z7S(L:List (List UInt8)):Lib.join L []=L.flatten:=by
 cases L with
 |nil=>rfl
 |cons x xs=>
  rw[Lib.join_cons]
  unfold Lib.joinTail
  simp
def YM(k l:Int)(ss:List ByteArray):Int:=
 if Wl k 0 l=false then 1 else if(ss.length:Int)<k then 19 else if∀i,i<k.toNat->(ss.getD i ⟨#[]⟩).size=ZR k.toNat l.toNat then 0 else 19
def JZ(k l:Int)(ss:List ByteArray):ByteArray:=
 if YM k l ss=0 then(XY (ss.take k.toNat)).extract 0 l.toNat else⟨#[]⟩
theorem Qb.iface{B:Nat}{w:World}{v:Value}{c:Int}(h:Qb B w v c)(hc:c≠0):∃b,v=.iface 139 (.pointer (some ⟨b,0,none⟩))/\Qb B w (.iface 139 (.pointer (some ⟨b,0,none⟩))) c:=by
 rcases h with ⟨_,h0⟩|⟨_,b,hv,h1⟩
 ·exact absurd h0 hc
 ·exact⟨b,hv,Or.inr ⟨hc,b,rfl,h1⟩⟩
theorem Z4v{k l:Nat}{ss:List ByteArray}(h1:1<=k)(h2:k<=255)(hk:k<=ss.length):YM k l ss=if∀i,i<k->(ss.getD i ⟨#[]⟩).size=ZR k l then 0 else 19:=by
 unfold YM
 rw[if_neg (by rw[show Wl (k:Int) 0 (l:Int)=true from Z0I (b:=0) h1 (by omega)];simp),if_neg (by omega)]
 simp only[Int.toNat_natCast]
theorem ZfL(k l:Int)(sa:Option Addr)(sn sc:Nat)(ss:List ByteArray)(w:World)(hk: -9223372036854775808<=k/\k<=9223372036854775807)(hl:l<=9223372036854775807)(bz:Zw w sa ss)(hn:sn=ss.length)(dr:sn<=sc)(dt:sc<=9223372036854775807)(cj:∀i,i<ss.length->(ss.getD i ⟨#[]⟩).size<=100000):
  Calls prog 69 #[.int .i64 k,.int .i64 l,.slice sa sn sc] w fun e w'=>∃ev,e=.returned (.tuple #[.string (JZ k l ss),ev])/\Qb w.heap.size w' ev (YM k l ss)/\Below w.heap.size w w':=by
 have bad:∀c:Int,YM k l ss=c->c≠0->JZ k l ss=⟨#[]⟩:=fun c h h0=>by unfold JZ;rw[if_neg (by rw[h];exact h0)]
 cases h:Wl k 0 l
 ·have hc:YM k l ss=1:=by unfold YM;rw[if_pos h]
  rw[hc,bad 1 hc (by decide)]
  have H:=Zka h
  clear h hc bad
  go_enter func69,ntmps69
  go_wp2_with (go_at_call 113;refine(ZgC k l _ H.out).mono ?_;rintro e w1 ⟨ev,rfl,he,hb⟩;obtain⟨fb,rfl,bm⟩:=he.iface (by decide);have S2:=Zka (Zkb bm hb);clear he bm hb)
  go_ret2
  exact⟨_,rfl,S2.out.1,S2.out.2⟩
 ·obtain⟨a,b,c,rfl,cu,rfl,a1,a2⟩:=ZfY h
  clear cu
  by_cases au:(ss.length:Int)<(a:Int)
  ·have hc:YM (a:Int) (c:Int) ss=19:=by unfold YM;rw[if_neg (by rw[h];simp),if_pos au]
   rw[hc,bad 19 hc (by decide)]
   have cw:(sn:Int)<(a:Int):=by rw[hn];exact au
   obtain⟨n,ah⟩:∃n,n=ZR a c:=⟨_,rfl⟩
   have HN:=Zka ah
   clear h hc bad au ah hn
   go_enter func69,ntmps69
   go_wp2_with (first
    |(go_at_call 113;refine(Z0M a c _ a1 (by omega) (by omega)).mono ?_;rintro e w1 ⟨rfl,rfl⟩;rw[<-HN.out])
    |(go_at_call 114;refine(WY 19 (by decide) _).mono ?_;rintro e w2 ⟨ev,rfl,he,hb⟩;have S2:=Zka (Zkb he hb);clear he hb))
   go_ret2
   exact⟨_,rfl,S2.out.1,S2.out.2⟩
  ·have ha:a<=ss.length:=by omega
   have hc:=Z4v (l:=c) a1 (by omega) ha
   obtain⟨cd,aj⟩:∃cd,cd=YM (a:Int) (c:Int) ss:=⟨_,rfl⟩
   obtain⟨tx,aw⟩:∃tx,tx=JZ (a:Int) (c:Int) ss:=⟨_,rfl⟩
   have al:cd≠0->tx=⟨#[]⟩:=fun h0=>by rw[aw];exact bad cd aj.symm h0
   have aq:cd=0->tx=(XY (ss.take a)).extract 0 c:=fun h0=>by
    rw[aw];unfold JZ;rw[<-aj,if_pos h0];simp only[Int.toNat_natCast]
   rw[hc] at aj
   rw[<-aw,show YM (a:Int) (c:Int) ss=cd from by rw[hc,aj]]
   obtain⟨g,o,rfl,gl,ag⟩:=bz.open (by omega)
   obtain⟨n,ah⟩:∃n,n=ZR a c:=⟨_,rfl⟩
   have bu:c<=a*n:=by rw[ah];exact Z0c a c a1
   rw[<-ah] at aj
   have bg:=Zka aj
   have ay:=Zka al
   have az:=Zka aq
   have dc:¬ (sn:Int)<(a:Int):=by omega
   have dw:(a:Int)<=(sc:Int):=by omega
   have de:0<=(a:Int):=by omega
   have df:a<=sc:=by omega
   have du:n<=9223372036854775807:=by
    rw[ah]
    unfold ZR
    have h4:=Nat.div_add_mod c a
    have h5:c / a<=a*(c / a):=Nat.le_mul_of_pos_left _ (by omega)
    split<;>omega
   have HN:=Zka ah
   have af:=Zka ag
   have HA:=Zka ha
   have bh:=Zka cj
   have cr:=Zka bu
   clear h hc bad au ah hn ag ha bz cj bu aj aw al aq
   go_enter func69,ntmps69
   go_wp2_with (go_at_call 113;refine(Z0M a c _ a1 (by omega) (by omega)).mono ?_;rintro e w1 ⟨rfl,rfl⟩;rw[<-HN.out])
   go_loop [30] (fun i=>∃j:Nat,j<=a/\i=.int .i64 j/\∀i,i<j->(ss.getD i ⟨#[]⟩).size=n) (fun i=>a- (intOf i).toNat)
   case atStart=>exact⟨0,by omega,rfl,fun i h=>by omega⟩
   case round=>
    obtain⟨j,hj,rfl,ak⟩:=hrel
    have ae:=Zka ak
    clear ak
    by_cases bq:j<a
    ·obtain⟨t,ht⟩:∃t,t=ss.getD j ⟨#[]⟩:=⟨_,rfl⟩
     have cl:=af.out j (by have:=HA.out;omega)
     have dj:=bh.out j (by have:=HA.out;omega)
     rw[<-ht] at cl dj
     have HT:=Zka ht
     clear ht
     by_cases hs:t.size=n
     ·have cz:((t.size:Int) !=(n:Int))=false:=by simp[hs]
      have HS:=Zka hs
      clear hs
      go_wp2
      go_round
      case measure=>simp[intOf];omega
      case rel=>
       refine⟨j+1,by omega,by go_num,fun i hi=> ?_⟩
       by_cases e:i=j
       ·rw[e,<-HT.out];exact HS.out
       ·exact ae.out i (by omega)
     ·have cz:((t.size:Int) !=(n:Int))=true:=by simp;omega
      have HS:=Zka hs
      clear hs
      go_wp2_with (go_at_call 114;refine(WY 19 (by decide) _).mono ?_;rintro e w2 ⟨ev,rfl,he,hb⟩;have S2:=Zka (Zkb he hb);clear he hb)
      go_ret2
      have ec:cd=19:=by rw[bg.out,if_neg (fun h=>HS.out (by rw[HT.out];exact h j bq))]
      exact⟨_,by rw[ay.out (by rw[ec];decide)];rfl,by rw[ec];exact S2.out.1,S2.out.2⟩
    ·obtain rfl:a=j:=by omega
     clear bq hj
     obtain⟨xs,ax⟩:∃xs,xs=ss.take a:=⟨_,rfl⟩
     have bf:xs.length=a:=by rw[ax,ZjO];have:=HA.out;omega
     have b9:∀i,i<a->xs.getD i ⟨#[]⟩=ss.getD i ⟨#[]⟩:=fun i hi=>by rw[ax,ZjE,ZjE,List.getElem?_take,if_pos hi]
     have ai:(XY xs).size=a*n:=by
      have:=ZdL xs n (fun i hi=>by rw[b9 i (by omega)];exact ae.out i (by omega))
      rw[bf] at this;exact this
     have cy:n<=100000:=by
      have h0:=bh.out 0 (by have:=HA.out;omega)
      rw[ae.out 0 (by omega)] at h0
      exact h0
     have dh:a*n<=255*100000:=Nat.mul_le_mul (by omega) cy
     have hj:=Tryz.strings_Join g o sc xs ⟨#[]⟩ w (fun j x hx=>by
      have dq:j<xs.length:=(List.getElem?_eq_some_iff.1 hx).1
      have bj:=af.out j (by have:=HA.out;omega)
      rw[<-b9 j (by omega),ZjE,hx,Option.getD_some] at bj
      exact bj) gl (by omega) (by omega) (by
       show(Lib.join (xs.map (·.data.toList)) []).length<=_
       rw[Z7S]
       have e:(XY xs).size=((xs.map (·.data.toList)).flatten).length:=by
        show(((xs.map (·.data.toList)).flatten).toArray).size=_
        rw[List.size_toArray]
       omega)
     rw[bf] at hj
     rw[show(⟨(Lib.join (xs.map (·.data.toList)) (⟨#[]⟩:ByteArray).data.toList).toArray⟩:ByteArray)=XY xs from by show(⟨(Lib.join (xs.map (·.data.toList)) []).toArray⟩:ByteArray)=_;rw[Z7S];rfl] at hj
     obtain⟨J,hJ⟩:∃J,J=XY xs:=⟨_,rfl⟩
     rw[<-hJ] at hj ai
     have dm:(c:Int)<=(J.size:Int):=by have:=cr.out;omega
     have dp:0<=(c:Int):=by omega
     have HJ:=Zka hJ
     have ct:=Zka ax
     have cn:=Zka hj
     clear hJ ax bf b9 ai hj
     have e3:((c:Int)).toNat=c:=by omega
     go_wp2_with (go_at_call 115;refine(cn.out).mono ?_;rintro e w2 ⟨rfl,hb⟩;have S2:=Zka hb;clear hb)
     go_ret2
     have ec:cd=0:=by rw[bg.out,if_pos ae.out]
     exact⟨_,by rw[az.out ec,<-ct.out,<-HJ.out];rfl,by rw[ec];exact Qb.ok0 _ _,S2.out⟩
open Go.RowKit
end
section
open Go.RowKit
variable{cols:List ByteArray}{k len m:Nat}{t:ByteArray}{x y:Nat->BitVec 8}
theorem Z3W:∀k,(∀j,j<k->x j=y j)->YQ x cols len k=YQ y cols len k
 |0,_=>rfl
 |k+1,h=>by rw[YQ,YQ,Z3W k (fun j hj=>h j (by omega)),h k (by omega)]
theorem Z4N(h:∀j,j<k->x j=y j):YA x cols len k=YA y cols len k:=by
 unfold YA;rw[Z3W k h]
theorem Z3V{A B:Nat->Nat->BitVec 8}{r:Nat}(h:∀i j,i<r->j<k->A i j=B i j):Qn A cols len k r=Qn B cols len k r:=by
 unfold Qn
 exact List.map_congr_left fun i hi=>Z4N fun j hj=>h i j (by simpa using hi) hj
theorem Z6I(h:∀i,i<cols.length->(cols.getD i ⟨#[]⟩).size=len)(hk:k<=cols.length){i:Nat}(hi:i<k):YA (idm i) cols len k=cols.getD i ⟨#[]⟩:=by
 refine(Z6H h hk (h i (by omega)) fun p hp=> ?_).symm
 rw[Xu (k:=i) hi (fun j _ hj=>by unfold idm;rw[if_neg (fun e=>hj e.symm),Qm])]
 unfold idm;rw[if_pos rfl,Qp]
theorem ZaZ(h:∀i,i<cols.length->(cols.getD i ⟨#[]⟩).size=len)(hk:cols.length=k):Qn idm cols len k k=cols:=by
 refine Z63 (by rw[QS,hk]) fun i hi=> ?_
 rw[QS] at hi
 rw[XU _ _ _ _ _ _ hi,Z6I h (by omega) hi]
theorem Z8l(A B:Nat->Nat->BitVec 8)(cols:List ByteArray)(len n m r:Nat)(h:∀i,i<cols.length->(cols.getD i ⟨#[]⟩).size=len)(hm:m<=cols.length):Qn A (Qn B cols len m n) len n r=Qn (Ys n A B) cols len m r:=by
 unfold Qn
 exact List.map_congr_left fun i _=>(Z9I A B cols len n m i h hm).symm
theorem QR(k m:Nat)(t:ByteArray):(Zl k m t).length=k+m:=QS _ _ _ _ _
theorem Z1M(k:Nat)(t:ByteArray)(h1:1<=k):∀i,i<(Wj (XZ t (k*ZR k t.size)) (ZR k t.size) k).length->((Wj (XZ t (k*ZR k t.size)) (ZR k t.size) k).getD i ⟨#[]⟩).size=ZR k t.size:=
 Z4e _ _ _ (Z4C t _ (Z0c k t.size h1))
theorem WA(k m:Nat)(t:ByteArray)(h1:1<=k)(i:Nat)(hi:i<k+m):((Zl k m t).getD i ⟨#[]⟩).size=ZR k t.size:=
 Z1Y _ _ _ _ _ (Z1M k t h1) (by rw[YT];exact Zk8) i (by rw[QS];exact hi)
theorem Z1v(k m:Nat)(t:ByteArray)(i:Nat)(hi:i<k+m):(Zl k m t).getD i ⟨#[]⟩=YA (gen k i) (Wj (XZ t (k*ZR k t.size)) (ZR k t.size) k) (ZR k t.size) k:=XU _ _ _ _ _ _ hi
theorem Z2w(k m:Nat)(t:ByteArray)(h1:1<=k):(Zl k m t).take k=Wj (XZ t (k*ZR k t.size)) (ZR k t.size) k:=by
 refine Z63 (by rw[ZjO,QR,YT];omega) fun i hi=> ?_
 rw[ZjO,QR] at hi
 have ae:i<k:=by omega
 have e1:((Zl k m t).take k).getD i ⟨#[]⟩=(Zl k m t).getD i ⟨#[]⟩:=by
  rw[ZjE,ZjE,List.getElem?_take,if_pos ae]
 rw[e1,Z1v k m t i (by omega),Z4N (y:=idm i) (fun j _=>by unfold gen;rw[if_pos ae]),Z6I (Z1M k t h1) (by rw[YT];exact Zk8) ae]
theorem ZaY{L:List (Bool×ByteArray)}{c:Int}{T:List ByteArray}(h1:1<=k)(hK:k+m<=255)(hL:∀j,j<k+m->(QU L j).1=true->(QU L j).2=(Zl k m t).getD j ⟨#[]⟩)(hk:k<=(whF L (k+m)).length)(h:Z2z k m (ZR k t.size) L c T):c=0/\T=Zl k m t:=by
 obtain⟨n,hn⟩:∃n,n=ZR k t.size:=⟨_,rfl⟩
 rcases h with ⟨⟨j,hj,h2,h3⟩,_⟩|⟨_,hb,_⟩|⟨ha,hb,rfl,B,hB,rfl⟩
 ·exact absurd (by rw[hL j hj h2,WA k m t h1 j hj]) h3
 ·omega
 ·refine⟨rfl,?_⟩
  have af:=Z1M k t h1
  have ai:=YT (XZ t (k*ZR k t.size)) (ZR k t.size) k
  obtain⟨cols,ae⟩:∃cols,cols=Wj (XZ t (k*ZR k t.size)) (ZR k t.size) k:=⟨_,rfl⟩
  rw[<-ae,<-hn] at af
  rw[<-ae] at ai
  have al:(hvF L (k+m)).take k=Qn (Z5f k L (k+m)) cols n k k:=by
   refine Z63 (by rw[QS,ZjO,Z1p];omega) fun i hi=> ?_
   rw[ZjO,Z1p] at hi
   have aj:i<k:=by omega
   have ag:i<(whF L (k+m)).length:=by omega
   rw[XU _ _ _ _ _ _ aj]
   have e1:((hvF L (k+m)).take k).getD i ⟨#[]⟩=(QU L ((whF L (k+m)).getD i 0)).2:=by
    rw[ZjE,List.getElem?_take,if_pos aj]
    unfold hvF
    rw[List.getElem?_map,ZjF ag,ZjE,ZjF ag]
    rfl
   have ah:(whF L (k+m)).getD i 0∈whF L (k+m):=by
    rw[ZjE,ZjF ag,Option.getD_some]
    exact ZjW _
   have h5:=Z52 ah
   rw[e1,hL _ h5.1 h5.2,Z1v k m t _ h5.1,<-ae,<-hn]
   rfl
  have hI:Inj k (Z5f k L (k+m)):=by
   have h9:=Z6f (L:=L) (k:=k) (m:=m) rfl hK hb
   intro x hx c hc
   refine h9 x (fun i hi=> ?_) c hc
   rw[<-hx i hi]
   refine ZQ fun j hj=> ?_
   show gm (gen k (((whF L (k+m)).take k).getD i 0) j) (x j)=gm (gen k ((whF L (k+m)).getD i 0) j) (x j)
   rw[Z2k _ _ _ hi]
  have ak:=Z9j hI hB
  rw[<-hn,al,Z8l B (Z5f k L (k+m)) cols n k k k af (by omega),Z3V (B:=idm) (fun i j hi hj=>ak i j hi hj),ZaZ af ai]
  unfold Zl
  rw[<-ae,<-hn]
theorem Z8Y(l:List UInt8)(n:Nat):∀k,((List.range k).map fun i=>(l.take ((i+1)*n)).drop (i*n)).flatten=l.take (k*n)
 |0=>by simp
 |k+1=>by
  rw[List.range_succ,ZjZ,List.flatten_append,Z8Y l n k]
  simp only[ZjY,List.map_nil,List.flatten_cons,List.flatten_nil,Zk7]
  have e:(k+1)*n=k*n+n:=by rw[Nat.add_mul,Nat.one_mul]
  rw[e]
  have h3:l.take (k*n)=(l.take (k*n+n)).take (k*n):=by rw[List.take_take,Nat.min_eq_left (by omega)]
  rw[h3]
  exact Zk4 _ _
theorem Zhh(T:ByteArray)(n k:Nat)(h:T.size=k*n):XY (Wj T n k)=T:=by
 have e:((Wj T n k).map (·.data.toList)).flatten=T.data.toList:=by
  unfold Wj
  rw[List.map_map]
  have h2:((fun s:ByteArray=>s.data.toList)∘fun i=>T.extract (i*n) ((i+1)*n))=fun i=>(T.data.toList.take ((i+1)*n)).drop (i*n):=by
   funext i
   simp[ByteArray.data_extract,List.drop_take]
  rw[h2,Z8Y]
  exact ZjT (by simp;omega)
 unfold XY
 rw[e]
theorem ZhO(t:ByteArray)(N:Nat)(h:t.size<=N):(XZ t N).extract 0 t.size=t:=by
 unfold XZ
 exact ByteArray.extract_append_eq_left rfl
theorem ZaO(h1:1<=k)(hK:k+m<=255):YM k t.size (Zl k m t)=0/\JZ k t.size (Zl k m t)=t:=by
 have hc:YM k t.size (Zl k m t)=0:=by
  rw[Z4v h1 (by omega) (by rw[QR];omega),if_pos (fun i hi=>WA k m t h1 i (by omega))]
 refine⟨hc,?_⟩
 unfold JZ
 rw[if_pos hc]
 simp only[Int.toNat_natCast]
 rw[Z2w k m t h1,Zhh _ _ _ (Z4C t _ (Z0c k t.size h1)),ZhO t _ (Z0c k t.size h1)]
theorem Z9Y(k m:Nat)(t:ByteArray)(h1:1<=k)(ht:t.size<=50000)(i:Nat)(hi:i<(Zl k m t).length):((Zl k m t).getD i ⟨#[]⟩).size<=100000:=by
 rw[QR] at hi
 rw[WA k m t h1 i hi]
 have:=Z2T k t.size h1
 omega
open Go.RowKit
end
section
open Go.RowKit Go.Maps Go.WideMaps
theorem Z6C(b n:Nat)(d:Dir)(w:World)(h:Zy w b n d):
  Calls prog 85 #[.map (some b)] w fun e w'=>e=.returned (.map (some w.heap.size))/\Zy w' w.heap.size n d/\Below w.heap.size w w':=by
 obtain⟨fv,⟨D,⟨es,cl,hb,F,hs,hD⟩,ht⟩,m2,m3⟩:=h
 have hq:=run_eql_map_nil_sl (P:=prog) w 155 _ _ (some b) underlying155
 go_enter func85,ntmps85
 go_wp2
 rw[run_callFunc_extern func129 (by kernel_rfl) (by kernel_rfl) (by kernel_rfl) (e:=Extern.MapsClone.clone) (by kernel_rfl),run_maps_clone_sl w 155 hb]
 simp only[Result.andThen]
 rw[Oper.upon_value]
 go_wp2
 rw[run_typeAssert_map_sl _ 155 20 _ _ _ underlying155]
 simp only[Result.andThen]
 rw[Oper.upon_value]
 go_wp2
 go_ret
 have hB:Below w.heap.size w (w.alloc (.map es cl)):=(Below.refl _ w).alloc Zk8 _
 refine⟨rfl,⟨fv,⟨D,⟨es,cl,(MapKept.heap_alloc w _).1,F,hs,hD⟩,ht⟩,m2,fun k e hk=> ?_⟩,hB⟩
 obtain⟨v,h1,h2⟩:=m3 k e hk
 exact⟨v,h1,h2.fr (Fr.of_below (L:=[]) hB) (by simp)⟩
structure CpS(w:World)(bd bs r n1 n2:Nat)(fd fs:Bs->Option Value)(todo:Bs->Bool)(cnt:Nat)(l:List Bs)(wr:World):Prop where
 rg:YJ wr bs r n2 fs todo cnt
 out:Zz wr bd (n1+l.length) (fun m=>if(fs m).isSome&& !todo m then fs m else fd m)
 fr:Fr [bd] w wr
 rge:w.heap.size<=r
 nodup:l.Nodup
 mem:∀k,k∈l↔(fs k).isSome=true/\todo k=false
theorem Zep(bd bs n1 n2:Nat)(da db:Dir)(w:World)(hd:Zy w bd n1 da)(hs:Zy w bs n2 db)(bz:bd≠bs)(ct:db.Sorted)(dm:n1<=100000000)(df:db.length<=100000):
  Calls prog 192 #[.map (some bd),.map (some bs)] w fun e w'=>e=.returned (.tuple #[])/\(∃n',Zy w' bd n' (da.both db))/\Fr [bd] w w':=by
 obtain⟨fd,d1,d2,d3⟩:=hd
 obtain⟨fs,s1,s2,s3⟩:=hs
 have ay:∀k,(fs k).isSome=true->k∈db.names:=fun k hk=>QC.2 (fun e=>by rw[s2 k e] at hk;cases hk)
 have cj:db.names.length=db.length:=ZjN ..
 have bu:=d1
 have cr:=s1
 have HD:=Zka (Zkb d1 (Zkb d2 d3))
 have HS:=Zka (Zkb s1 (Zkb s2 s3))
 have HB:=Zka (Zkb ay (Zkb cj ct))
 clear d1 d2 d3 s1 s2 s3 ay cj ct
 go_enter func192,ntmps192
 go_wp2_with (at_range;refine Z1y _ rfl _ 155 rfl 164 underlying155 bs n2 fs rfl cr ?_;intro w1 bf ai bh bm)
 have C0:CpS w bd bs w.heap.size n1 n2 fd fs (fun k=>(fs k).isSome) bf [] w1:=⟨ai,(bu.after bh).congr (fun k=>by cases fs k<;>simp),Fr.of_below bh,Zk8,by simp,fun k=>by cases fs k<;>simp⟩
 have bq:=Zka C0
 obtain⟨r,hr⟩:∃r,w.heap.size=r:=⟨_,rfl⟩
 rw[show CpS w bd bs w.heap.size n1 n2 fd fs (fun k=>(fs k).isSome) bf [] w1=CpS w bd bs r n1 n2 fd fs (fun k=>(fs k).isSome) bf [] w1 from by rw[hr]] at bq
 rw[show(Value.pointer (some ⟨w.heap.size,0,none⟩))=Value.pointer (some ⟨r,0,none⟩) from by rw[hr]]
 clear C0 ai bh bm hr bu cr
 go_frame
 go_loopw [8] (fun _ wq=>∃ (todo:Bs->Bool) (l:List Bs) (af:Nat),CpS w bd bs r n1 n2 fd fs todo af l wq) (fun _ wq=>wq.rangeLeft bs r)
 case atStart=>exact⟨_,_,_,bq.out⟩
 case round=>
  obtain⟨todo,l,af,hC⟩:=hrel
  have ag:=hC.rg
  have hlen:l.length<=100000:=by
   have:=hC.nodup.length_le_of_subset (fun k hk=>HB.out.1 k ((hC.mem k).1 hk).1)
   rw[HB.out.2.1] at this;omega
  have HC:=Zka hC
  have cu:Hid (World.rangeLeft _ bs r=af):=Zka ag.left_eq
  clear hC
  go_wp2_with (at_next;refine Z1x _ rfl _ rfl bs r n2 fs todo af rfl ag ?_ ?_)
  ·intro aq
   go_wp2
   go_end0
   refine⟨rfl,⟨_,_,HC.out.out,fun k hk=> ?_,fun k e hk=> ?_⟩,HC.out.fr⟩
   ·rw[Dir.both_get k HB.out.2.2] at hk
    cases hg:db.get k with
    |some e=>rw[hg] at hk;cases hk
    |none=>
     rw[hg] at hk
     simp only[HS.out.2.1 k hg,Option.isSome_none,Bool.false_and,Bool.false_eq_true,if_false]
     exact HD.out.2.1 k hk
   ·rw[Dir.both_get k HB.out.2.2] at hk
    have cn:=X9 HD.out.1
    cases hg:db.get k with
    |some e2=>
     rw[hg] at hk
     simp only[ZjJ] at hk
     subst hk
     obtain⟨v,h1,h2⟩:=HS.out.2.2 k e2 hg
     refine⟨v,?_,h2.fr HC.out.fr cn⟩
     rw[h1,aq k];rfl
    |none=>
     rw[hg] at hk
     obtain⟨v,h1,h2⟩:=HD.out.2.2 k e hk
     refine⟨v,?_,h2.fr HC.out.fr cn⟩
     simp only[HS.out.2.1 k hg,Option.isSome_none,Bool.false_and,Bool.false_eq_true,if_false]
     exact h1
  ·intro k x w2 bg cw az ah ai aw al de dh
   obtain⟨e,he⟩:∃e,db.get k=some e:=by
    cases hg:db.get k with
    |none=>rw[HS.out.2.1 k hg] at ah;cases ah
    |some e=>exact⟨e,rfl⟩
   obtain⟨v,hv,a,ln,c,rfl,dc⟩:=HS.out.2.2 k e he
   rw[ah] at hv
   obtain rfl:=Option.some.inj hv
   have aj:bd≠r:=fun e2=>by
    obtain⟨es,cl,hb⟩:=HC.out.out.block
    obtain⟨x1,x2,x3,x4,hi⟩:=ag.iter
    rw[<-e2,hb] at hi;cases hi
   have ae:=(HC.out.out.fr al (by simpa using aj))
   have b9:=fun o=>(Below.refl w2.heap.size w2).alloc Zk8 o
   have HN:=Zka (Zkb az (Zkb ah (Zkb ai (Zkb al (Zkb aw (Zkb ae aj))))))
   clear ag az ah ai al aw de he hv dc ae aj
   go_wp2_with (at_mapUpdate;refine Zdk _ rfl (.tmp 13) (.tmp 14) (.tmp 15) 155 rfl 164 underlying155 bd _ _ rfl (HN.out.2.2.2.2.2.1.after (b9 _)) (by unfold maxLen;omega) k cw _ rfl rfl ?_;intro w3 ax au;go_frame;have ak:=(Fr.refl [bd] _).grown au (fun k hk=>by cases hk;exact Or.inl (by simp));have S3:=Zka (Zkb ax ak);clear ax au ak)
   go_roundw
   case rel=>
    obtain⟨az,ah,ai,al,aw,ae,aj⟩:=HN.out
    obtain⟨ax,ak⟩:=S3.out
    have cz:k∉l:=fun hk=>by have:=((HC.out.mem k).1 hk).2;rw[az] at this;cases this
    have dj:((w2.alloc (.cells #[.int .i64 (e.size:Int),.int .u32 (e.sum:Int),.slice a ln c] 164))).heap.size=w2.heap.size+1:=by simp
    refine⟨_,l++[k],bg,⟨(ai.after (b9 _)).fr ak (by simpa using fun e2:bs=bd=>bz e2.symm) (by simpa using fun e2:r=bd=>aj e2.symm),?_,?_,HC.out.rge,?_,?_⟩⟩
    ·rw[ZjI]
     refine(show Zz w3 bd (n1+(l.length+1)) _ from ax).congr (fun m=> ?_)
     by_cases hm:m=k
     ·subst hm;simp[ah];rfl
     ·simp[hm]
    ·have h1:Fr [bd] w w2:=HC.out.fr.trans al (fun i hi cy=>by rw[ZjD] at hi;subst hi;have:=HC.out.rge;omega)
     exact(h1.trans (Fr.of_below (L:=[]) (b9 _)) (by simp)).trans ak (fun i hi _=>hi)
    ·exact List.nodup_append.2 ⟨HC.out.nodup,by simp,fun a ha c hc e2=>by rw[ZjD] at hc;subst hc;subst e2;exact cz ha⟩
    ·intro m
     rw[ZjU,ZjD,HC.out.mem m]
     by_cases hm:m=k
     ·subst hm;simp[ah]
     ·simp[hm]
   case measure=>
    obtain⟨az,ah,ai,al,aw,ae,aj⟩:=HN.out
    obtain⟨ax,ak⟩:=S3.out
    have bj:=(ai.after (b9 _)).fr ak (by simpa using fun e2:bs=bd=>bz e2.symm) (by simpa using fun e2:r=bd=>aj e2.symm)
    rw[bj.left_eq,cu.out];exact aw
end
section
open Go.RowKit Go.Maps Go.WideMaps
variable{a1 a2:Option Addr}{c1 c2 g k l1 l2 y1 y2:Nat}{d was:Dir}{f:Z1}{l lx:List Bs}{o1 o2:Option Ent}{sm1 sm2 sz1 sz2:Int}{ts:List Value}{v vx:Value}{w w' wr:World}{x:Bs}
def Z0x(was now:Dir)(f:Z1)(n:Bs):Bool:=match now.get n,was.get n with
 |some e,some o=> !(f.by n).isSome&&decide (e.tail=o.tail)
 |_,_=>false
theorem Z5V(was now:Dir)(f:Z1)(n:Bs):chg was now f n=if Z0x was now f n=true then none else some (n,now.get n):=by
 unfold chg Z0x
 cases h1:now.get n with
 |none=>simp
 |some e=>
  cases h2:was.get n with
  |none=>simp
  |some o=>
   simp only[Z1.has_by]
   by_cases h3:(f.by n).isSome=true
   ·simp[h3]
   ·have h4:(f.by n).isSome=false:=by simpa using h3
    by_cases h5:e.tail=o.tail
    ·simp[h4,h5]
    ·simp[h4,h5]
structure ChS(w:World)(g:Nat)(ts:List Value)(v:Value)(l:List Bs)(y1 y2:Nat)(sz1 sm1 sz2 sm2:Int)(a1 a2:Option Addr)(l1 c1 l2 c2:Nat)(o1 o2:Option Ent)(wr:World):Prop where
 wh:WhS w g ts v l wr
 b1:Row wr y1 164 [.int .i64 sz1,.int .u32 sm1,.slice a1 l1 c1]
 b2:Row wr y2 164 [.int .i64 sz2,.int .u32 sm2,.slice a2 l2 c2]
 e1:∀e,o1=some e->WF wr (.agg #[.int .i64 sz1,.int .u32 sm1,.slice a1 l1 c1]) e
 e2:∀e,o2=some e->WF wr (.agg #[.int .i64 sz2,.int .u32 sm2,.slice a2 l2 c2]) e
theorem ChS.after(h:ChS w g ts v l y1 y2 sz1 sm1 sz2 sm2 a1 a2 l1 c1 l2 c2 o1 o2 wr)(hb:Below wr.heap.size wr w'):ChS w g ts v l y1 y2 sz1 sm1 sz2 sm2 a1 a2 l1 c1 l2 c2 o1 o2 w':=
 ⟨h.wh.after hb,h.b1.after hb,h.b2.after hb,fun e he=>(h.e1 e he).fr (Fr.of_below (L:=[]) hb) (by simp),fun e he=>(h.e2 e he).fr (Fr.of_below (L:=[]) hb) (by simp)⟩
theorem ChS.cs(h:ChS w g ts v l y1 y2 sz1 sm1 sz2 sm2 a1 a2 l1 c1 l2 c2 o1 o2 wr):
  (wr.cell? ⟨y1,0,none⟩=some (.int .i64 sz1)/\wr.cell? ⟨y1,1,none⟩=some (.int .u32 sm1)/\wr.cell? ⟨y1,2,none⟩=some (.slice a1 l1 c1))/\
  (wr.cell? ⟨y2,0,none⟩=some (.int .i64 sz2)/\wr.cell? ⟨y2,1,none⟩=some (.int .u32 sm2)/\wr.cell? ⟨y2,2,none⟩=some (.slice a2 l2 c2)):=
 ⟨⟨h.b1.cell (j:=0) rfl,h.b1.cell (j:=1) rfl,h.b1.cell (j:=2) rfl⟩,h.b2.cell (j:=0) rfl,h.b2.cell (j:=1) rfl,h.b2.cell (j:=2) rfl⟩
def WR(was d:Dir)(f:Z1)(k:Nat):List Bs:=Yj::(((was.both d).names.take k).filterMap (chg was d f)).map Qk
theorem Zid(a b:Bs):((str a).toList==(str b).toList)=decide (a=b):=by
 by_cases h:a=b
 ·subst h;simp
 ·rw[Z0y (fun e=>h (Z2R e))];simp[h]
theorem Zg7(w:World)(t:Bs):Strs (w.alloc (.cells #[.string (str t)] 9)) w.heap.size (.slice (some ⟨w.heap.size,0,none⟩) 1 1) [t]:=
 ⟨rfl,Or.inr ⟨w.heap.size,1,#[.string (str t)],rfl,Zk8,heap_alloc_new w _,Zk8,by simp[maxLen],rfl,rfl⟩⟩
structure ChX(w:World)(g:Nat)(ts:List Value)(v:Value)(l:List Bs)(y1 y2:Nat)(sz1 sm1 sz2 sm2:Int)(a1 a2:Option Addr)(l1 c1 l2 c2:Nat)(o1 o2:Option Ent)(b:Nat)(vx:Value)(lx:List Bs)(wr:World):Prop where
 ch:ChS w g ts v l y1 y2 sz1 sm1 sz2 sm2 a1 a2 l1 c1 l2 c2 o1 o2 wr
 ox:Strs wr b vx lx
 be:b<=wr.heap.size
theorem ChX.after{b:Nat}(h:ChX w g ts v l y1 y2 sz1 sm1 sz2 sm2 a1 a2 l1 c1 l2 c2 o1 o2 b vx lx wr)(hb:Below wr.heap.size wr w'):ChX w g ts v l y1 y2 sz1 sm1 sz2 sm2 a1 a2 l1 c1 l2 c2 o1 o2 b vx lx w':=
 ⟨h.ch.after hb,h.ox.after hb,Zk1 h.be hb.size⟩
theorem ChS.xfr(h:ChS w g ts v l y1 y2 sz1 sm1 sz2 sm2 a1 a2 l1 c1 l2 c2 o1 o2 wr){w6:World}(ae:Below wr.heap.size wr w6)(ho:Strs w6 wr.heap.size vx lx)(hf:Fr (ZE vx) w6 w'):ChS w g ts v l y1 y2 sz1 sm1 sz2 sm2 a1 a2 l1 c1 l2 c2 o1 o2 w':=
 h.after (ae.trans (hf.below ae.size (fun i hi=>ho.ge i hi)))
theorem Zc7(hx:(was.both d).names[k]? =some x)(hs:Z0x was d f x=true):WR was d f (k+1)=WR was d f k:=by
 unfold WR
 rw[List.take_add_one,hx,List.filterMap_append]
 simp[Z5V,hs]
theorem Z7y(hx:(was.both d).names[k]? =some x)(hs:Z0x was d f x=false):WR was d f (k+1)=WR was d f k++[Qk (x,d.get x)]:=by
 unfold WR
 rw[List.take_add_one,hx,List.filterMap_append]
 simp[Z5V,hs]
theorem ZdN(hk:(was.both d).names.length<=k):WR was d f k=Yj::(QF was d f).map Qk:=by
 unfold WR QF
 rw[ZjT hk]
theorem ZdO(k:Nat):(WR was d f k).length<=k+1:=by
 unfold WR
 rw[ZjM,ZjN]
 have h1:=List.length_filterMap_le (chg was d f) ((was.both d).names.take k)
 have h2:((was.both d).names.take k).length<=k:=by rw[ZjO];omega
 omega
theorem Zhk(hx:(was.both d).names[k]? =some x)(hs:Z0x was d f x=false):Qk (x,d.get x)∈(QF was d f).map Qk:=by
 refine List.mem_map_of_mem ?_
 unfold QF
 refine List.mem_filterMap.2 ⟨x,List.mem_of_getElem? hx,?_⟩
 rw[Z5V,hs];rfl
theorem Zas(n half q db fb ga oa na ca:Nat)(us:Value)(acts:List Ac)(d was:Dir)(f:Z1)(n1 n2 wb nw:Nat)(w:World)(h:PlA w q db fb ga oa na ca us acts d f n1 n2)(hw:Zy w wb nw was)(er:d.Ok n half)(ay:was.Ok n half)(cz:n<=8192)(dc:(was.both d)≠[])(fu:nw<=100000000)(ig:d.length<=10000)(bq:(was.both d).length<=20000)(fa:(Ja (QF was d f)).length<=60000):
  Calls prog 135 #[.pointer (some ⟨q,0,none⟩),.map (some wb)] w fun e w'=>e=.returned (.tuple #[.string (str (Ja (QF was d f))),.int .i64 ((QF was d f).length:Int),.nilIface])/\Below w.heap.size w w':=by
 have c0:=h.row.cell (j:=0) rfl
 have ik:=h.row.lt
 obtain⟨bo,bu⟩:∃bo,was.both d=bo:=⟨_,rfl⟩
 have dw:bo.Sorted:=by rw[<-bu];exact Dir.both_sorted ay.sorted d
 have HP:=Zka h
 have HW:=Zka hw
 have HO:=Zka (Zkb er (Zkb ay (Zkb bu dw)))
 have HZ:=Zka fa
 rw[bu] at dc bq
 have fp:0<bo.length:=List.length_pos_iff.2 dc
 have eo:bo.names.length=bo.length:=ZjN ..
 have gx:wb<w.heap.size:=by
  obtain⟨fv,m1,_⟩:=hw;exact m1.lt
 have fq:db<w.heap.size:=by
  obtain⟨fv,m1,_⟩:=h.dir;exact m1.lt
 clear h hw er ay bu dw fa dc
 go_enter func135,ntmps135
 go_wp2_with (first
  |(go_at_call 85;refine(Z6C wb nw was _ HW.out).mono ?_;rintro e w1 ⟨rfl,bg,ae⟩;have P1:=HP.out.after ae;have ib:=P1.row.cell (j:=0) rfl;have S1:=Zka (Zkb bg (Zkb P1 ae));clear bg P1 ae)
  |(go_at_call 192;refine(Zep w.heap.size db nw n1 was d _ S1.out.1 S1.out.2.1.dir (by omega) HO.out.1.sorted fu (by omega)).mono ?_;rintro e w2 ⟨rfl,⟨n',cu⟩,hf2⟩;rw[HO.out.2.2.1] at cu;have aq:=S1.out.2.2.trans (hf2.below S1.out.2.2.size (fun i hi=>by rw[ZjD] at hi;subst hi;exact Zk8));have S2:=Zka (Zkb cu aq);clear cu hf2 aq)
  |(go_at_call 132;refine(Z3D w.heap.size n' bo _ (S2.out.1.after ((Below.refl w2.heap.size w2).alloc Zk8 (.cells #[.string (str Yj)] 9))) HO.out.2.2.2 (by omega)).mono ?_;rintro e w3 ⟨v,rfl,hv,ai⟩;obtain⟨g,cap,sp,rfl,ee,ic,ie,eu⟩:=Qs hv (by rw[eo];exact fp);have S3:=Zka (Zkb eu (Zkb ai ee));clear hv eu ai ee))
 obtain⟨ts,de⟩:∃ts,Z6 (bo.names.map str)++sp=ts:=⟨_,rfl⟩
 have fc:∀k (hk:k<bo.length),ts[k]? =some (.string (str (bo[k]).1)):=fun k hk=>by
  rw[<-de,ZjH (by simp[Z6,Dir.names];omega)]
  simp[Z6,Dir.names,hk]
 have bq:∀k (hk:k<bo.length),(bo[k]).1.length<=220:=fun k hk=>by
  have hm:bo[k]∈bo:=ZjW hk
  have ft:bo.get (bo[k]).1=some (bo[k]).2:=Dir.mem_get HO.out.2.2.2 hm
  have hg:(was.both d).get (bo[k]).1=some (bo[k]).2:=by rw[HO.out.2.2.1];exact ft
  rw[Dir.both_get _ HO.out.1.sorted] at hg
  cases hd:d.get (bo[k]).1 with
  |some e=>exact(HO.out.1.name _ (Dir.get_some_mem hd)).2
  |none=>
   rw[hd] at hg
   exact(HO.out.2.1.name _ (Dir.get_some_mem hg)).2
 have W0:WhS w g ts (.slice (some ⟨w2.heap.size,0,none⟩) 1 1) [Yj] w3:=by
  have ai:=S3.out.2.1
  have fo:Below w2.heap.size w2 (w2.alloc (.cells #[.string (str Yj)] 9)):=(Below.refl w2.heap.size w2).alloc Zk8 _
  have S0:Strs (w2.alloc (.cells #[.string (str Yj)] 9)) w.heap.size (.slice (some ⟨w2.heap.size,0,none⟩) 1 1) [Yj]:=⟨rfl,Or.inr ⟨w2.heap.size,1,#[.string (str Yj)],rfl,S2.out.2.size,heap_alloc_new w2 _,Zk8,by simp[maxLen],rfl,rfl⟩⟩
  refine⟨S0.after ai,by rw[<-de];exact S3.out.1,S2.out.2.trans ((fo.trans (ai.mono (by simp))).mono S2.out.2.size),fun e=> ?_⟩
  simp only[Value.ownBlock,ZjJ] at e
  have:=S3.out.2.2
  simp at this
  omega
 have fh:=Zka W0
 have dt:=Zka (Zkb fc bq)
 clear de fc W0 bq
 go_loopw [8,34] (fun l8 iv wr=>∃k:Nat,k<=bo.length/\iv=.int .i64 k/\WhS w g ts l8 (WR was d f k) wr) (fun _ iv _=>bo.length- (intOf iv).toNat)
 case atStart=>exact⟨0,by omega,rfl,fh.out⟩
 case round=>
  obtain⟨k,hk,rfl,hW⟩:=hrel
  have du:=Zka hW
  by_cases cy:k<bo.length
  ·have au:=hW.txt.cell (dt.out.1 k cy)
   have ak:(bo[k]).1.length<=maxLen:=by have:=dt.out.2 k cy;unfold maxLen;omega
   obtain⟨x,hx⟩:∃x,(bo[k]).1=x:=⟨_,rfl⟩
   rw[hx] at au ak
   have fi:=(HP.out.row.after hW.bel).cell (j:=0) rfl
   obtain⟨sz1,sm1,a1,l1,c1,eh, -,dx⟩:=Z1N (HP.out.dir.after hW.bel) x ak
   obtain⟨sz2,sm2,a2,l2,c2,ek, -,dy⟩:=Z1N (HW.out.after hW.bel) x ak
   have q1:=eh _ Zk9
   have cr:Below wr.heap.size wr (wr.alloc (.cells #[.int .i64 sz1,.int .u32 sm1,.slice a1 l1 c1] 164)):=(Below.refl _ wr).alloc Zk8 _
   have q2:=ek _ cr
   have az:Below wr.heap.size wr ((wr.alloc (.cells #[.int .i64 sz1,.int .u32 sm1,.slice a1 l1 c1] 164)).alloc (.cells #[.int .i64 sz2,.int .u32 sm2,.slice a2 l2 c2] 164)):=cr.alloc (by simp) _
   have q3:=Z1n (HP.out.fsh.after (hW.bel.trans (az.mono hW.bel.size))) x ak
   have fj:=(HP.out.row.after (hW.bel.trans (az.mono hW.bel.size))).cell (j:=1) rfl
   have dj:ChS w g ts u8 (WR was d f k) wr.heap.size (wr.heap.size+1) sz1 sm1 sz2 sm2 a1 a2 l1 c1 l2 c2 (d.get x) (was.get x) ((wr.alloc (.cells #[.int .i64 sz1,.int .u32 sm1,.slice a1 l1 c1] 164)).alloc (.cells #[.int .i64 sz2,.int .u32 sm2,.slice a2 l2 c2] 164)):=
    ⟨hW.after az,(Row.new wr _ _).after (Zk9.alloc Zk8 _),by have:=Row.new (wr.alloc (.cells #[.int .i64 sz1,.int .u32 sm1,.slice a1 l1 c1] 164)) 164 [.int .i64 sz2,.int .u32 sm2,.slice a2 l2 c2];simpa using this,fun e he=>(dx e he).fr (Fr.of_below (L:=[]) az) (by simp),fun e he=>(dy e he).fr (Fr.of_below (L:=[]) az) (by simp)⟩
   have HC:=Zka dj
   have HX:=Zka hx
   clear hW hx eh ek cr az dj dx dy
   go_wp2_with fail
   generalize (wr.alloc (.cells #[.int .i64 sz1,.int .u32 sm1,.slice a1 l1 c1] 164)).alloc (.cells #[.int .i64 sz2,.int .u32 sm2,.slice a2 l2 c2] 164)=w5 at*
   generalize wr.heap.size+1=y2 at*
   generalize wr.heap.size=y1 at*
   clear q1 q2 q3 fj fi au
   obtain⟨b1,ae⟩:∃b1,(d.get x).isSome=b1:=⟨_,rfl⟩
   obtain⟨b2,aq⟩:∃b2,(was.get x).isSome=b2:=⟨_,rfl⟩
   obtain⟨b3,ai⟩:∃b3,(f.by x).isSome=b3:=⟨_,rfl⟩
   rw[ae,aq,ai]
   go_cut [76] from 62 to 76 (fun v wx=>v=.bool (Z0x was d f x)/\ChS w g ts u8 (WR was d f k) y1 y2 sz1 sm1 sz2 sm2 a1 a2 l1 c1 l2 c2 (d.get x) (was.get x) wx)
   case first=>
    have aw:(b1&&b2&& !b3)=false->Z0x was d f x=false:=fun h=>by
     unfold Z0x
     cases h1:d.get x with
     |none=>rfl
     |some e=>
      cases h2:was.get x with
      |none=>rfl
      |some o=>
       rw[h1] at ae;rw[h2] at aq
       subst ae;subst aq;subst ai
       simp at h
       simp[h]
    have ez:(b1&&b2&& !b3)=true->∃e o,d.get x=some e/\was.get x=some o/\Z0x was d f x=decide (e.tail=o.tail):=fun h=>by
     cases h1:d.get x with
     |none=>rw[h1] at ae;subst ae;simp at h
     |some e=>
      cases h2:was.get x with
      |none=>rw[h2] at aq;subst aq;simp at h
      |some o=>
       refine⟨e,o,rfl,rfl,?_⟩
       have:b3=false:=by simp at h;exact h.2
       unfold Z0x;rw[h1,h2,ai,this];simp
    cases b1<;>cases b2<;>cases b3
    case true.true.false=>
     obtain⟨e,o,he,ho,fy⟩:=ez rfl
     obtain⟨p1,p2,p3,p4⟩:=(HO.out.1.ent _ (Dir.get_some_mem he)).tailb cz
     obtain⟨q1,q2,q3,q4⟩:=(HO.out.2.1.ent _ (Dir.get_some_mem ho)).tailb cz
     have D0:=HC.out.after ((Below.refl _ w5).drew)
     obtain⟨⟨d0,d1,d2⟩,d3,d4,d5⟩:=D0.cs
     have HQ:=Zka (Zkb p3 q3)
     have dr:=Zka (Zkb he ho)
     clear p3 q3 aw ez
     go_region_with (first
      |(go_at_call 133;refine(Z3G _ e _ (ChS.e1 (by assumption) e dr.out.1) p1 p2 HQ.out.1 p4).mono ?_;rintro r w6 ⟨rfl,af⟩;have D6:=ChS.after (w:=w) (by assumption) af;obtain⟨⟨f0,f1,f2⟩,f3,f4,f5⟩:=D6.cs;clear af)
      |(go_at_call 133;refine(Z3G _ o _ (ChS.e2 (by assumption) o dr.out.2) q1 q2 HQ.out.2 q4).mono ?_;rintro r w6 ⟨rfl,af⟩;have D6:=ChS.after (w:=w) (by assumption) af;obtain⟨⟨f0,f1,f2⟩,f3,f4,f5⟩:=D6.cs;clear af))
     all_goals go_wp2_with fail
     all_goals go_meet
     all_goals refine⟨?_,by assumption⟩
     all_goals rw[fy,Zid]
    all_goals go_region
    all_goals go_wp2_with fail
    all_goals go_meet
    all_goals exact⟨by rw[aw rfl],HC.out.after (Zk9.drew)⟩
   case rest=>
    have ct:=HC.out.wh.bel
    obtain⟨rfl,hC⟩:=hcut
    have bz:=Zka hC
    have fe:(was.both d).names[k]? =some x:=by
     rw[HO.out.2.2.1];unfold Dir.names;rw[List.getElem?_map,ZjF cy,Option.map_some,HX.out]
    have bj:=Zka fe
    obtain⟨sk,aw⟩:∃sk,Z0x was d f x=sk:=⟨_,rfl⟩
    rw[aw]
    clear hC fe ct HC du
    cases sk
    case true=>
     go_wp2_with fail
     go_roundw
     case measure=>simp[intOf];omega
     case rel=>exact⟨k+1,by omega,by go_num,by rw[Zc7 bj.out aw];exact bz.out.wh⟩
    case false=>
     have bg:(Qk (x,d.get x)).length<=60000:=Zk1 (Zbt (h:=Yj) (Zhk bj.out aw)) HZ.out
     have dm:=Zka bg
     have ef:(WR was d f k).length<=1000000:=by have:=ZdO (was:=was) (d:=d) (f:=f) k;omega
     have dp:=Zka ef
     clear bg ef
     have bm:Below wc.heap.size wc (wc.alloc (.cells #[.string (str x)] 9)):=(Below.refl _ wc).alloc Zk8 _
     have C6:=bz.out.after bm
     obtain⟨⟨d0,d1,d2⟩, -⟩:=C6.cs
     have X6:ChX w g ts u8 (WR was d f k) y1 y2 sz1 sm1 sz2 sm2 a1 a2 l1 c1 l2 c2 (d.get x) (was.get x) wc.heap.size (.slice (some ⟨wc.heap.size,0,none⟩) 1 1) [x] (wc.alloc (.cells #[.string (str x)] 9)):=⟨C6,Zg7 wc x,bm.size⟩
     have bh:=Zka X6
     have dh:=Zka bm
     clear C6 X6 bm
     cases b1
     case true=>
      obtain⟨e,he⟩:=Option.isSome_iff_exists.1 ae
      obtain⟨p1,p2,p3,p4⟩:=(HO.out.1.ent _ (Dir.get_some_mem he)).tailb cz
      have ff:=Zka p3
      have HE:=Zka he
      clear p3 he
      have ag:(Zv [x,e.tail]).length<=60000:=by have:=dm.out;rw[HE.out] at this;exact this
      have cj:=Zka ag
      clear ag
      go_wp2_with (first
       |(go_at_call 133;refine(Z3G _ e _ (bh.out.ch.e1 e HE.out) p1 p2 ff.out p4).mono ?_;rintro r w6 ⟨rfl,af⟩;have S6:=Zka (Zkb (bh.out.after af) (dh.out.trans (af.mono dh.out.size)));clear af)
       |(at_builtin;refine YW _ rfl (.tmp 80) (.tmp 83) rfl wc.heap.size (.slice (some ⟨wc.heap.size,0,none⟩) 1 1) [x] rfl (S6.out.1.ox.after (Zk9.alloc Zk8 _)) w6.heap.size e.tail rfl (heap_alloc_new w6 _) (by have:=S6.out.1.be;simp;omega) (by simp) ?_;intro g7 fm w7 ey dz fw;have S7:=Zka (Zkb ey (bz.out.xfr (S6.out.2.trans (((Below.refl w6.heap.size w6).alloc Zk8 _).mono S6.out.2.size)) (S6.out.1.ox.after (Zk9.alloc Zk8 _)) dz));clear ey dz fw)
       |(go_at_call 126;refine(Z4m wc.heap.size _ [x,e.tail] _ S7.out.1 (by simp) cj.out).mono ?_;rintro r w8 ⟨rfl,bf⟩;have S8:=Zka (S7.out.2.after bf);clear bf)
       |(at_builtin;refine YW _ rfl (.tmp 93) (.tmp 95) rfl w.heap.size u8 (WR was d f k) rfl (S8.out.wh.own.after (Zk9.alloc Zk8 _)) w8.heap.size (Zv [x,e.tail]) rfl (heap_alloc_new w8 _) (by have:=S8.out.wh.bel.size;simp;omega) dp.out ?_;intro g9 ax w9 ah aj al;have S9:=Zka (Zkb ah (Zkb aj al));clear ah aj al))
      go_roundw
      case measure=>simp[intOf];omega
      case rel=>
       refine⟨k+1,by omega,by go_num,?_⟩
       rw[Z7y bj.out aw]
       obtain⟨ah,aj,al⟩:=S9.out
       have W8:=S8.out.wh.after ((Below.refl w8.heap.size w8).alloc Zk8 (.cells #[.string (str (Zv [x,e.tail]))] 9))
       have cw:Qk (x,d.get x)=Zv [x,e.tail]:=by unfold Qk;rw[HE.out]
       refine W8.next (by rw[cw];obtain⟨g8,cn,gy,gj,_,_,_,fx⟩:=Qs ah (by simp);exact ah) aj (fun e=> ?_)
       simp only[Value.ownBlock,ZjJ] at e
       subst e
       rcases al with h1|h1
       ·exact W8.no h1
       ·have h9:g9=(w8.alloc (.cells #[.string (str (Zv [x,e.tail]))] 9)).heap.size:=h1
        have:=W8.txt.lt
        omega
     case false=>
      have he:d.get x=none:=by cases h9:d.get x with
       |none=>rfl
       |some e=>rw[h9] at ae;cases ae
      have HE:=Zka he
      clear he
      have ag:(Zv [x]).length<=60000:=by have:=dm.out;rw[HE.out] at this;exact this
      have cj:=Zka ag
      clear ag
      go_wp2_with (first
       |(go_at_call 126;refine(Z4m wc.heap.size _ [x] _ bh.out.ox (by simp) cj.out).mono ?_;rintro r w8 ⟨rfl,bf⟩;have S8:=Zka (bh.out.ch.after bf);clear bf)
       |(at_builtin;refine YW _ rfl (.tmp 93) (.tmp 95) rfl w.heap.size u8 (WR was d f k) rfl (S8.out.wh.own.after (Zk9.alloc Zk8 _)) w8.heap.size (Zv [x]) rfl (heap_alloc_new w8 _) (by have:=S8.out.wh.bel.size;simp;omega) dp.out ?_;intro g9 ax w9 ah aj al;have S9:=Zka (Zkb ah (Zkb aj al));clear ah aj al))
      go_roundw
      case measure=>simp[intOf];omega
      case rel=>
       refine⟨k+1,by omega,by go_num,?_⟩
       rw[Z7y bj.out aw]
       obtain⟨ah,aj,al⟩:=S9.out
       have W8:=S8.out.wh.after ((Below.refl w8.heap.size w8).alloc Zk8 (.cells #[.string (str (Zv [x]))] 9))
       have cw:Qk (x,d.get x)=Zv [x]:=by unfold Qk;rw[HE.out]
       refine W8.next (by rw[cw];obtain⟨g8,cn,gy,gj,_,_,_,fx⟩:=Qs ah (by simp);exact ah) aj (fun e=> ?_)
       simp only[Value.ownBlock,ZjJ] at e
       subst e
       rcases al with h1|h1
       ·exact W8.no h1
       ·have h9:g9=(w8.alloc (.cells #[.string (str (Zv [x]))] 9)).heap.size:=h1
        have:=W8.txt.lt
        omega
  ·obtain rfl:k=bo.length:=by omega
   have b9:WR was d f bo.length=Yj::(QF was d f).map Qk:=ZdN (by rw[HO.out.2.2.1,eo];exact Zk8)
   rw[b9] at hW
   obtain⟨g9,ax,ia,rfl,_,_,_,ew⟩:=Qs hW.own (by simp)
   have fg:=Zka ew
   have df:=Zka hW.bel
   obtain⟨m,hm⟩:∃m,(QF was d f).length=m:=⟨_,rfl⟩
   have hlen:(Yj::(QF was d f).map Qk).length=m+1:=by rw[ZjM,ZjN,hm]
   have dq:=Zka (Zkb hlen hm)
   have ij:m<=60000:=by
    have h1:=Yv (Yj::(QF was d f).map Qk)
    have h2:(Zv (Yj::(QF was d f).map Qk)).length<=60000:=HZ.out
    rw[ZF] at h2
    rw[hlen] at h1;omega
   rw[hlen]
   clear hlen b9 du hW ew hm
   go_wp2_with (go_at_call 126;have hq:=Z18 g9 ax (Yj::(QF was d f).map Qk) ia _ fg.out HZ.out;rw[dq.out.1] at hq;refine hq.mono ?_;rintro r w6 ⟨rfl,af⟩;have S6:=Zka af;clear af hq)
   go_ret3
   exact⟨by rw[dq.out.2];rfl,df.out.trans (S6.out.mono df.out.size)⟩
end
end Go.Proofs.YthppfllkocphbaaGreatDoor
