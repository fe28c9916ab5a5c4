/-
  Part 37 of the proof: lemmas about what the program computes.
-/
import Derived.Test.YthppfllkocphbaaGreatDoorQ13
namespace Go.Proofs.YthppfllkocphbaaGreatDoor
set_option linter.unusedVariables false
set_option linter.unusedSimpArgs false
set_option maxHeartbeats 25600000
set_option maxRecDepth 100000
open Tryz
section
open Go.RowKit Go.Maps Go.WideMaps
def Jy(D:Dk)(l:List Nat):Bs:=l.flatMap fun a=>(D.reads a).data.toList
theorem Zb3(D:Dk)(a b:List Nat):Jy D (a++b)=Jy D a++Jy D b:=by simp[Jy]
theorem Z5J{D:Dk}{n:Nat}(ok:D.ok n){l:List Nat}(h:∀a∈l,a<n):(Jy D l).length=64*l.length:=by
 unfold Jy
 induction l with
 |nil=>rfl
 |cons a l ih=>
  have:=Z0t ok (h a (by simp))
  rw[ZjX,ZjI,ih (fun b hb=>h b (by simp[hb])),ZjM]
  simp only[Array.length_toList,ByteArray.size_data]
  omega
theorem ZeI(s d:Nat)(S:Sto)(name:Bs)(w:World)(h:Yg w s d S)(hn:name.length<=1000000)(hg:S.dir.get name=none):
  Calls prog 157 #[.pointer (some ⟨s,0,none⟩),.string (str name)] w fun r w'=>∃b,r=.returned (.tuple #[.string ⟨#[]⟩,.iface 139 (.pointer (some ⟨b,0,none⟩))])/\Zu w' w.heap.size 13 (.iface 139 (.pointer (some ⟨b,0,none⟩)))/\Below w.heap.size w w':=by
 obtain⟨j,b,us,h1,h2,⟨fv,m1,m2,m3⟩,h4⟩:=h
 have ag:=m1.look_none (t:=155) (e:=164) underlying155 (Z07 w) (show name.length<=maxLen by unfold maxLen;omega) (m2 name hg)
 have c3:=h1.cell (j:=3) rfl
 have c5:=h1.cell (j:=5) rfl
 clear h1 h2 m1 m2 m3 h4 hg
 go_enter func157,ntmps157
 have af:Below w.heap.size w (w.alloc (.cells #[.int .i64 0,.int .u32 0,.slice none 0 0] 164)):=(Below.refl _ w).alloc Zk8 _
 have ae:=Zka af
 clear af
 go_wp2_with (go_at_call 83;refine(Z3B 13 0 (by decide) _).mono ?_;rintro r w' ⟨bb,rfl,hv,hb⟩)
 go_ret2
 exact⟨_,rfl,hv.base (by simp),ae.out.trans (hb.mono ae.out.size)⟩
theorem ZgA(T:ByteArray)(cd:Int)(B p d n:Nat)(P:Pw)(D:Dk)(L:List Nat)(s:Nat)(S:Sto)(name:Bs)(e:Ent)(half:Nat)(w:World)(h:PD B w p d n P D L)(ek:Yg w s d S)(hn:name.length<=1000000)(hg:S.dir.get name=some e)(he:Ent.Ok n half e)(hr:Xr P D=0)(hT:if Wq (D.value e)=e.sum then T=str (D.value e)/\cd=0 else T=⟨#[]⟩/\cd=14):
  Calls prog 157 #[.pointer (some ⟨s,0,none⟩),.string (str name)] w fun r w'=>∃ev,r=.returned (.tuple #[.string T,ev])/\Zu w' w.heap.size cd ev/\Below w.heap.size w w':=by
 have dz:=Zka hT
 clear hT
 obtain⟨j,b,us,h1,h2,⟨fv,m1,m2,m3⟩,h4⟩:=ek
 obtain⟨v,hv,a,len,cap,rfl,⟨hlen,ai⟩, -⟩:=m3 name e hg
 subst hlen
 have ay:=m1.look_some (t:=155) (e:=164) underlying155 (Z07 w) (show name.length<=maxLen by unfold maxLen;omega) hv
 have c3:=h1.cell (j:=3) rfl
 have c5:=h1.cell (j:=5) rfl
 have ew:=h1.lt
 have ae:=he.many
 have fa:=he.size
 have ag:=he.secs
 have cr:∀i∈Z9 e.runs,i<n:=fun i hi=>by
  obtain⟨r,hr,hi⟩:=List.mem_flatMap.1 hi
  have:=ae r hr
  rw[List.mem_range'_1] at hi;omega
 have ah:=Z5J h.ok cr
 have ez:e.runs.length<=100000:=by
  have h4:e.runs.length<=e.secs.length:=Z2M e.runs (fun r hr=>(ae r hr).1)
  unfold ZH at ag;omega
 have cn:(Z9 e.runs).length=ZH e.size:=ag
 have ef:(Z9 e.runs).length<=200:=by rw[cn];unfold ZH;omega
 have H:=Zka (Zkb h hr)
 have dx:=Zka h1
 have HR:=Zka ai
 have HM:=Zka (Zkb ae (Zkb cr (Zkb ah cn)))
 clear h h1 h2 m1 m2 m3 h4 ai hv hg he hr ae cr ah ag cn
 go_enter func157,ntmps157
 go_wp2_with fail
 obtain⟨w1,bq⟩:∃w1,w1=w.alloc (.cells #[.int .i64 e.size,.int .u32 e.sum,.slice a e.runs.length cap] 164):=⟨_,rfl⟩
 have er:w1.heap.size=w.heap.size+1:=by rw[bq];simp
 have T0:TlS w (w.heap.size+1) (w.heap.size+1) w.heap.size [] e.size e.sum (.slice a e.runs.length cap) (w1.alloc (.cells #[.pointer none,.slice none 0 0] 258)):=by
  have hr:=Row.new w 164 [.int .i64 e.size,.int .u32 e.sum,.slice a e.runs.length cap]
  have cw:=hr.after ((Below.refl _ (w.alloc _)).alloc Zk8 (.cells #[.pointer none,.slice none 0 0] 258))
  subst bq
  exact⟨by rw[<-er];exact Bld.new _,cw.cell (j:=0) rfl,cw.cell (j:=1) rfl,cw.cell (j:=2) rfl,by simp;omega,((Below.refl _ w).alloc Zk8 _).alloc (by simp) _,by omega,by simp,by omega⟩
 rw[<-bq]
 clear bq
 have dy:=Zka T0
 clear T0 ay c3 c5
 generalize w1.alloc (.cells #[.pointer none,.slice none 0 0] 258)=w2 at*
 go_loopw [35] (fun kk wr=>∃q:Nat,q<=e.runs.length/\kk=.int .i64 q/\TlS w (w.heap.size+1) (w.heap.size+1) w.heap.size (Jy D (Z9 (e.runs.take q))) e.size e.sum (.slice a e.runs.length cap) wr) (fun kk _=>e.runs.length- (intOf kk).toNat)
 case atStart=>exact⟨0,by omega,rfl,by simpa[Jy,Z9] using dy.out⟩
 case round=>
  obtain⟨q,hq,rfl,hS⟩:=hrel
  have HS:=Zka hS
  by_cases af:q<e.runs.length
  ·obtain⟨g,sp,rfl,b9⟩:∃g sp,a=some ⟨g,0,none⟩/\Row w g 197 (Qt e.runs++sp):=by
    rcases HR.out with h0|h0
    ·rw[h0] at af;cases af
    ·exact h0
   have cy:=b9.after hS.below
   obtain⟨g1,g2⟩:=Z0s e.runs q af
   have hl:=YE e.runs
   have d1:=cy.cell (j:=q*2) (by rw[ZjH (by omega),Nat.mul_comm];exact g1)
   have d2:=cy.cell (j:=q*2+1) (by rw[ZjH (by omega),Nat.mul_comm];exact g2)
   have dt:=HM.out.1 (e.runs.getD q (0,0)) (by rw[ZjE,ZjF af];exact ZjW af)
   have bm:=JK e.runs q af
   have az:=Z0l e.runs (q+1)
   obtain⟨f,hf⟩:∃f,(e.runs.getD q (0,0)).1=f:=⟨_,rfl⟩
   obtain⟨m,hm⟩:∃m,(e.runs.getD q (0,0)).2=m:=⟨_,rfl⟩
   rw[hf,hm] at bm dt
   rw[hf] at d1
   rw[hm] at d2
   obtain⟨m1,m2,m3⟩:=dt
   have ey:n<=8192:=H.out.1.ok.n2
   have ax:(Z9 (e.runs.take q)).length+m<=200:=by
    obtain⟨zz,hz⟩:=az
    rw[bm] at hz
    have:=congrArg List.length hz
    simp only[ZjI,List.length_range'] at this
    omega
   have HK:=Zka (Zkb bm ax)
   clear hS b9 cy g1 g2 hl hf hm bm az ax
   go_wp2_with fail
   obtain⟨x,hx⟩:∃x,wr.heap.size=x:=⟨_,rfl⟩
   have cz:=Row.new wr 197 [.int .i64 (f:Int),.int .i64 (m:Int)]
   have T5:=HS.out.after ((Below.refl wr.heap.size wr).alloc Zk8 (.cells #[.int .i64 (f:Int),.int .i64 (m:Int)] 197))
   rw[hx] at cz⊢
   have eo:w.heap.size+1<=x:=by rw[<-hx];exact HS.out.lo2
   generalize wr.alloc (.cells #[.int .i64 (f:Int),.int .i64 (m:Int)] 197)=w6 at*
   have de:=Zka (Zkb T5 cz)
   clear T5 cz hx d1 d2
   go_loopw [11] (fun kk wj=>∃t:Nat,t<=m/\kk=.int .i64 ((f+t:Nat):Int)/\TlS w (w.heap.size+1) (w.heap.size+1) w.heap.size (Jy D (Z9 (e.runs.take q)++List.range' f t)) e.size e.sum (.slice (some ⟨g,0,none⟩) e.runs.length cap) wj/\Row wj x 197 [.int .i64 (f:Int),.int .i64 (m:Int)]) (fun kk _=>f+m- (intOf kk).toNat)
   case atStart=>exact⟨0,by omega,by simp,by simpa using de.out.1,de.out.2⟩
   case round=>
    obtain⟨t,ht,rfl,aq,bf⟩:=hrel
    have x0:=bf.cell (j:=0) rfl
    have x1:=bf.cell (j:=1) rfl
    have al:=Zka (Zkb aq bf)
    by_cases fc:t<m
    ·obtain⟨kk,ct⟩:∃kk,f+t=kk:=⟨_,rfl⟩
     have dr:kk<n:=by omega
     have k3:(kk:Int)<(f:Int)+(m:Int):=by omega
     have s0:wr.cell? ⟨s,0,none⟩=some (.pointer (some ⟨d,0,none⟩)):=(dx.out.after aq.below).cell (j:=0) rfl
     have aj:rdy P D kk=0:=by rw[Z6e H.out.1.ok dr];exact H.out.2
     have ak:Z0u P D kk=D.reads kk:=by unfold Z0u;rw[if_pos aj,Int.toNat_natCast]
     have dc:=Z0t H.out.1.ok dr
     obtain⟨R,hR⟩:∃R,D.reads kk=R:=⟨_,rfl⟩
     rw[hR] at ak dc
     have eh:(Jy D (Z9 (e.runs.take q)++List.range' f t)).length<=64*400:=by
      rw[Z5J H.out.1.ok]
      ·rw[ZjI,List.length_range'];have:=HK.out.2;omega
      ·intro a ha
       obtain⟨zz,hz⟩:=Z0l e.runs (q+1)
       rcases ZjU.1 ha with ha|ha
       ·refine HM.out.2.1 a ?_
        rw[hz,HK.out.1];simp[ha]
       ·rw[List.mem_range'_1] at ha;omega
     obtain⟨Q,hQ⟩:∃Q,Jy D (Z9 (e.runs.take q)++List.range' f t)=Q:=⟨_,rfl⟩
     rw[hQ] at aq al eh
     have HQ:=Zka (Zkb hQ (Zkb hR (Zkb ct (Zkb aj ak))))
     rw[ct]
     clear aq bf hQ hR ct aj ak
     go_wp2_with (first
      |(go_at_call 73;refine((H.out.1.after al.out.1.below).read (kk:Int)).mono ?_;rw[HQ.out.2.2.2.1,HQ.out.2.2.2.2];rintro r w8 ⟨ev,rfl,dp,bz⟩;obtain rfl:=dp.zero;have T8:=Zka (Zkb (al.out.1.after bz) (al.out.2.after bz));clear bz dp)
      |(go_at_call 164;refine(Z5s (w.heap.size+1) (w.heap.size+1) Q R _ T8.out.1.bld (by omega) T8.out.1.lo2).mono ?_;rintro r w9 ⟨rfl,df,dj,dq⟩;have T9:=Zka (Zkb (T8.out.1.wrote df dj) (dq _ _ _ (by decide) (by decide) T8.out.2));clear df dj dq))
     go_roundw
     case measure=>have:=HQ.out.2.2.1;simp[intOf];omega
     case rel=>
      refine⟨t+1,by omega,by have:=HQ.out.2.2.1;rw[<-this];go_num,?_,T9.out.2⟩
      have h9:=T9.out.1
      rw[<-HQ.out.1,<-HQ.out.2.1,<-HQ.out.2.2.1] at h9
      have e9:Jy D (Z9 (e.runs.take q)++List.range' f (t+1))=Jy D (Z9 (e.runs.take q)++List.range' f t)++(D.reads (f+t)).data.toList:=by
       rw[List.range'_1_concat,<-ZjL,Zb3];simp[Jy]
      rw[e9];exact h9
    ·obtain rfl:t=m:=by omega
     have k3:¬ ((f+t:Nat):Int)<(f:Int)+(t:Int):=by omega
     clear aq bf
     go_wp2_with fail
     go_roundw
     case measure=>simp[intOf];omega
     case rel=>exact⟨q+1,by omega,by go_num,by rw[HK.out.1];exact al.out.1⟩
  ·obtain rfl:q=e.runs.length:=by omega
   rw[Zk5] at HS
   have aw:=HS.out.bld
   clear hS
   have bu:(Jy D (Z9 e.runs)).length=64*ZH e.size:=by rw[HM.out.2.2.1,HM.out.2.2.2]
   obtain⟨Q,hQ⟩:∃Q,Jy D (Z9 e.runs)=Q:=⟨_,rfl⟩
   have hV:D.value e=Q.take e.size:=by rw[<-hQ];rfl
   rw[hQ] at HS aw bu
   have cu:e.size<=Q.length/\Q.length<=100000:=by rw[bu];unfold ZH;omega
   have du:∀W,(Instr.slice 9 (.string ⟨Q.toArray⟩) none (some (.int .i64 (e.size:Int))) none).run prog W=.ok (.string (str (Q.take e.size))) W:=fun W=>by
    rw[Z1t (P:=prog) 9 underlying9 ⟨Q.toArray⟩ e.size (by show e.size<=Q.toArray.size;simp;exact cu.1) W]
    congr 2
    apply Yc
    rw[Ze];simp
   obtain⟨V,bh⟩:∃V,Q.take e.size=V:=⟨_,rfl⟩
   rw[bh] at du
   have eu:V.length<=100000:=by rw[<-bh,ZjO];omega
   have HQ:=Zka (Zkb hQ (Zkb bh (Zkb hV bu)))
   have HZ:=Zka cu
   clear hQ bh hV bu cu
   have e0:=HS.out.e0
   have e1:=HS.out.e1
   go_wp2_with fail
   go_cut [14] from 66 to 69 (fun v wx=>v=.string (str V)/\wx.cell? ⟨w.heap.size,1,none⟩=some (.int .u32 (e.sum:Int))/\Below w.heap.size w wx)
   case first=>
    have T1:=HS.out.after ((Below.refl _ wr).drew)
    have f0:=T1.e0
    clear e0 e1
    go_region_with (go_at_call 165;refine(Z2p (w.heap.size+1) (w.heap.size+1) _ _ T1.bld T1.lo2).mono ?_;rintro r w7 ⟨rfl,bj⟩;have g0:w7.cell? ⟨w.heap.size,0,none⟩=some (.int .i64 (e.size:Int)):=(bj.cell (p:=⟨w.heap.size,0,none⟩) T1.ebB).trans T1.e0)
    all_goals have g1:w7.cell? ⟨w.heap.size,1,none⟩=some (.int .u32 (e.sum:Int)):=(bj.cell (p:=⟨w.heap.size,1,none⟩) T1.ebB).trans T1.e1
    all_goals have g2:Below w.heap.size w w7:=T1.below.trans (bj.mono T1.lo)
    all_goals clear bj
    all_goals go_wp2_with fail
    all_goals go_meet
    all_goals exact⟨rfl,g1,g2⟩
   case rest=>
    obtain⟨rfl,c1,dh⟩:=hcut
    have bg:=Zka dh
    obtain⟨c,hc⟩:∃c,Wq V=c:=⟨_,rfl⟩
    have dm:uv (crc (str V).data.toList)=(c:Int):=by rw[<-hc,QE];rfl
    have dw:(str V).size<=maxLen:=by rw[Z5];unfold maxLen;omega
    have HC:=Zka (Zkb hc dm)
    clear du e0 e1 dh hc dm aw
    have au:=dz.out
    rw[HQ.out.2.2.1,HQ.out.2.1,HC.out.1] at au
    by_cases cj:c=e.sum
    ·rw[if_pos cj] at au
     obtain⟨rfl,rfl⟩:=au
     subst cj
     have ee:((e.sum:Int) !=(e.sum:Int))=false:=by simp
     go_wp2_with fail
     go_region_with (go_at_call 130;refine(Z2S (str V) _ dw).mono ?_;rw[HC.out.2];rintro r w8 ⟨rfl,rfl⟩)
     all_goals go_wp2_with fail
     all_goals go_ret2
     all_goals exact⟨_,rfl,Zu.nil _ _,bg.out.drew⟩
    ·rw[if_neg cj] at au
     obtain⟨rfl,rfl⟩:=au
     have ee:((c:Int) !=(e.sum:Int))=true:=by simp;omega
     go_wp2_with fail
     go_region_with (go_at_call 130;refine(Z2S (str V) _ dw).mono ?_;rw[HC.out.2];rintro r w8 ⟨rfl,rfl⟩)
     all_goals go_wp2_with (go_at_call 83;refine(Z3B 14 0 (by decide) _).mono ?_;rintro r w' ⟨bb,rfl,hv,hb⟩)
     all_goals go_ret2
     all_goals exact⟨_,rfl,hv.base (by have:=bg.out.size;exact this),bg.out.drew.trans (hb.mono (by have:=bg.out.size;exact this))⟩
theorem ZbD(B p d n:Nat)(P:Pw)(D:Dk)(L:List Nat)(s:Nat)(S:Sto)(name:Bs)(e:Ent)(half:Nat)(w:World)(h:PD B w p d n P D L)(ae:Yg w s d S)(hn:name.length<=1000000)(hg:S.dir.get name=some e)(he:Ent.Ok n half e)(hr:Xr P D=0):
  Calls prog 157 #[.pointer (some ⟨s,0,none⟩),.string (str name)] w fun r w'=>∃ev,r=.returned (.tuple #[.string (if Wq (D.value e)=e.sum then str (D.value e) else⟨#[]⟩),ev])/\Zu w' w.heap.size (if Wq (D.value e)=e.sum then 0 else 14) ev/\Below w.heap.size w w':=
 ZgA _ _ B p d n P D L s S name e half w h ae hn hg he hr (by split<;>exact⟨rfl,rfl⟩)
end
section
open Go.RowKit Go.Maps Go.WideMaps
variable{base:Nat}{l:List Bs}{v:Value}{w:World}
theorem ZbF(pb:Nat)(pre x:Bs)(W:World)(hc:W.cell? ⟨pb,0,none⟩=some (.string (str pre))):
  Calls prog 140 #[.string (str x),.pointer (some ⟨pb,0,none⟩)] W fun e w'=>e=.returned (.bool (!Lib.hasPrefix x pre))/\w'=W:=by
 go_enter func140,ntmps140
 go_wp2_with (go_at_call 141;refine(Tryz.strings_HasPrefix _ _ _).mono ?_;rintro e w' ⟨rfl,rfl⟩)
 go_ret
 exact⟨rfl,rfl⟩
theorem Strs.pre{g n cap:Nat}(h:Strs w base (.slice (some ⟨g,0,none⟩) n cap) l)(m:Nat)(hm:m<=l.length):Strs w base (.slice (some ⟨g,0,none⟩) m cap) (l.take m):=by
 rcases h.2 with ⟨hv,_⟩|⟨g',ae,cur,hv,af,hh,h1,h2,h3,h4⟩
 ·cases hv
 ·simp only[Value.slice.injEq,ZjJ,Addr.mk.injEq,and_true] at hv
  obtain⟨rfl,rfl,rfl⟩:=hv
  have hl:(l.take m).length=m:=by rw[ZjO];omega
  refine⟨by simp[Z6],Or.inr ⟨g,cap,cur,by rw[hl],af,hh,by omega,h2,h3,?_⟩⟩
  rw[hl,Nat.mul_one]
  have:=congrArg (List.take m) h4
  rw[List.take_take,Nat.mul_one,Nat.min_eq_left hm] at this
  rw[this]
  simp[Z6,List.map_take]
theorem Strs.mono{ae:Nat}(h:Strs w base v l)(hb:ae<=base):Strs w ae v l:=by
 refine⟨h.1,h.2.imp id ?_⟩
 rintro⟨g,cap,cur,hv,af,r⟩
 exact⟨g,cap,cur,hv,Zk1 hb af,r⟩
theorem Zgv(fv:Value)(w:World):Calls prog 139 #[.slice none 0 0,fv] w fun e w'=>e=.returned (.slice none 0 0)/\w'=w:=by
 go_enter func139,ntmps139
 go_wp2_with (go_at_call 198;refine(Tryz.slices_IndexFunc_empty (α:=Bs) none 0 fv _).mono ?_;rintro e w' ⟨rfl,rfl⟩)
 go_ret
 exact⟨rfl,rfl⟩
theorem Zgm{pb ae off q:Nat}{d:Array Bs}{os:Array Obj}(hc:w.cell? ⟨pb,0,none⟩=some v)(ag:pb≠ae):(Sort.grow (Sort.putRow encStr (Sort.ahead w q) ae off d) os).cell? ⟨pb,0,none⟩=some v:=by
 have af:=ZjG w ⟨pb,0,none⟩ hc
 rw[Sort.cell?_grow _ _ _ (by simpa[Sort.putRow,Sort.mapBlock,Sort.ahead] using af),Sort.cell?_putRow_other _ _ _ _ _ _ (Or.inl ag)]
 exact hc
theorem Z1w(s d:Nat)(S:Sto)(pre:Bs)(w:World)(h:Yg w s d S)(hs:S.dir.Sorted)(hn:S.dir.length<=100000):
  Calls prog 96 #[.pointer (some ⟨s,0,none⟩),.string (str pre)] w fun r w'=>∃v,r=.returned (.tuple #[v,.nilIface])/\Strs w' w.heap.size v (S.dir.names.filter fun n=>Lib.hasPrefix n pre)/\Below w.heap.size w w':=by
 obtain⟨j,b,us,h1,h2,hd,h4⟩:=h
 have c3:=h1.cell (j:=3) rfl
 have c5:=h1.cell (j:=5) rfl
 have bh:=h1.lt
 have HD:=Zka hd
 have al:=Zka hs
 have ak:S.dir.names.length=S.dir.length:=ZjN ..
 have HN:=Zka ak
 clear h1 h2 h4 hd hs ak
 go_enter func96,ntmps96
 have ai:=Row.new w 9 [.string (str pre)]
 have ah:Below w.heap.size w (w.alloc (.cells #[.string (str pre)] 9)):=(Below.refl _ w).alloc Zk8 _
 have HB:=Zka (Zkb ai ah)
 clear ai ah
 go_wp2_with (go_at_call 132;refine(Z3D b S.dir.length S.dir _ (HD.out.after HB.out.2) al.out hn).mono ?_;rintro r w2 ⟨v,rfl,hv,ae⟩;have S2:=Zka (Zkb (show Strs w2 (w.heap.size+1) v S.dir.names by simpa using hv) (Zkb (HB.out.1.after ae) (HB.out.2.trans (ae.mono HB.out.2.size))));clear ae hv)
 have eg:∀args w,(callFunc 140 args).run prog w=.ok (.enter 140 args) w:=enters_of func140 (by kernel_rfl) rfl
 have z9:∀w,(zeroValue 9).run prog w=.ok (encStr []) w:=fun w=>by kernel_rfl
 rcases S2.out.1.2 with ⟨hv,h0⟩|⟨g,cap,cur,hv,_⟩
 ·subst hv
  have aw:S.dir.names=[]:=List.length_eq_zero_iff.1 h0
  go_fit (Zgv _ _)
  rintro e w' ⟨rfl,rfl⟩
  go_wp2
  go_ret2
  exact⟨_,rfl,by rw[aw];exact Strs.nil _ _,S2.out.2.2⟩
 ·have ho:=S2.out.1
  rw[hv] at ho
  subst hv
  obtain⟨hH,bf,bg,af⟩:=ho.holds
  have ag:w2.cell? ⟨w.heap.size,0,none⟩=some (.string (str pre)):=S2.out.2.1.cell (j:=0) rfl
  have b9:w.heap.size+1<=g:=Xa ho rfl
  have ax:w.heap.size≠g:=by omega
  have ay:=ZjG w2 _ ag
  have hd:=Tryz.slices_DeleteFunc (α:=Bs) encStr (fun x=>rfl) (fun x=> !Lib.hasPrefix x pre) 140 #[.pointer (some ⟨w.heap.size,0,none⟩)] eg [] z9 g 0 cap S.dir.names.toArray w2
   (fun W x hb=>(ZbF w.heap.size pre x W ((hb.cell (p:=⟨w.heap.size,0,none⟩) ay).trans ag)).mono fun e w' h=>⟨h.1,0,h.2⟩)
   (fun q os dk x hd=>(ZbF w.heap.size pre x _ (Zgm ag ax)).mono fun e w' h=>⟨h.1,0,h.2⟩)
   hH (by have:=HN.out;simp;omega) (by simpa using af)
  have hz:S.dir.names.toArray.size=S.dir.names.length:=by simp
  rw[hz] at hd
  go_fit hd
  rintro e w' ⟨rfl,q,rfl⟩
  have aj:(S.dir.names.filter fun x=> !(!Lib.hasPrefix x pre))=S.dir.names.filter fun x=>Lib.hasPrefix x pre:=by simp
  rw[show S.dir.names.toArray.toList=S.dir.names from rfl,aj]
  obtain⟨F,hF⟩:∃F,(S.dir.names.filter fun x=>Lib.hasPrefix x pre)=F:=⟨_,rfl⟩
  have az:F.length<=S.dir.names.length:=by rw[<-hF];exact List.length_filter_le _ _
  rw[hF]
  have HF:=Zka hF
  clear hF aj hd
  obtain⟨s1,s2⟩:=ho.sorted (q:=q) (os:= #[]) (l':=F++List.replicate (S.dir.names.length-F.length) []) (by simp;omega)
  have aq:∀W:World,Sort.grow W #[]=W:=fun W=>by simp[Sort.grow]
  rw[aq] at s1 s2
  have s3:=(s1.pre F.length (by simp)).mono (Nat.le_succ w.heap.size)
  rw[List.take_left] at s3
  have au:Below w.heap.size w _:=S2.out.2.2.trans (s2.below S2.out.2.2.size (fun i hi=>by rw[ZjD] at hi;subst hi;omega))
  generalize Sort.putRow encStr (Sort.ahead w2 q) g 0 (F++List.replicate (S.dir.names.length-F.length) []).toArray=w3 at*
  go_wp2
  go_ret2
  exact⟨_,rfl,by rw[HF.out];exact s3,au⟩
end
section
open Go.RowKit Go.Maps Go.WideMaps
variable{eb:Nat}{rs:List (Nat×Nat)}{sm sz:Int}{v:Value}{w w' wr:World}
theorem Zbb(e:Ent):e.tail.length=8+8*e.runs.length:=by
 unfold Ent.tail;rw[ZjI,ZjI,Zq,Zq,Z0w]
structure RB(w:World)(g:Nat)(et:TypeId)(l:List Value)(wr:World):Prop where
 row:Row wr g et l
 bel:Below w.heap.size w wr
theorem RB.after{g:Nat}{et:TypeId}{l:List Value}(h:RB w g et l wr)(hb:Below wr.heap.size wr w'):RB w g et l w':=⟨h.row.after hb,h.bel.trans (hb.mono h.bel.size)⟩
structure UtS(w:World)(eb:Nat)(sz sm:Int)(v:Value)(rs:List (Nat×Nat))(wr:World):Prop where
 row:Row wr eb 164 [.int .i64 sz,.int .u32 sm,v]
 own:wr.ownsRow w.heap.size 197 2 v rs.length (Qt rs)
 bel:Below w.heap.size w wr
theorem UtS.after(h:UtS w eb sz sm v rs wr)(hb:Below wr.heap.size wr w'):UtS w eb sz sm v rs w':=⟨h.row.after hb,Y3 h.own hb,h.bel.trans (hb.mono h.bel.size)⟩
structure XtS(w:World)(v:Value)(x:Nat)(c0 c1:Value)(wr:World):Prop where
 row:Row wr x 197 [c0,c1]
 no:∀g,v.ownBlock=some g->g≠x
 lo:w.heap.size<=x
theorem XtS.new(h:UtS w eb sz sm v rs wr)(c0 c1:Value):XtS w v wr.heap.size c0 c1 (wr.alloc (.cells #[c0,c1] 197)):=
 ⟨Row.new wr _ [c0,c1],fun g hg e=>by have:=(h.own.lt g hg).2;omega,h.bel.size⟩
theorem UtS.set2(h:UtS w eb sz sm v rs wr){x:Nat}{c0 c1:Value}(hx:XtS w v x c0 c1 wr)(a b:Value):
  Row ((wr.setCell ⟨x,0,none⟩ a).setCell ⟨x,1,none⟩ b) x 197 [a,b]/\UtS w eb sz sm v rs ((wr.setCell ⟨x,0,none⟩ a).setCell ⟨x,1,none⟩ b):=by
 have hf:Fr [x] wr ((wr.setCell ⟨x,0,none⟩ a).setCell ⟨x,1,none⟩ b):=((Fr.refl _ _).setCell (Or.inl (by simp)) _).setCell (Or.inl (by simp)) _
 have ae:eb≠x:=fun e=>by
  have:=Yf h.row (by rw[e];exact hx.row)
  revert this;decide
 refine⟨(hx.row.set 0 a).set 1 b,h.row.fr hf (by simpa using ae),ZZ h.own hf (fun g hg hm=>hx.no g hg (by simpa using hm)),(h.bel.setCell (p:=⟨x,0,none⟩) hx.lo _).setCell (p:=⟨x,1,none⟩) hx.lo _⟩
theorem PD.sectors{B:Nat}{p d n:Nat}{P:Pw}{D:Dk}{L:List Nat}(h:PD B w p d n P D L):
  Calls prog 138 #[.pointer (some ⟨d,0,none⟩)] w fun e w'=>e=.returned (.int .i64 (n:Int))/\w=w':=by
 obtain⟨gh,v,_,hd⟩:=h.dk
 exact Yt p d gh v D n w hd h.ok.len h.ok.n2
def Zjb:Value->Nat
 |.string s=>s.size
 |_=>0
def Wg(l:List (Nat×Nat)):Nat:=(l.map (·.2)).sum
theorem Zfs(l:List (Nat×Nat)):(Z9 l).length=Wg l:=by
 unfold Z9 Wg
 induction l with
 |nil=>rfl
 |cons x l ih=>rw[ZjX,ZjI,ih,List.length_range'];simp
theorem Z9T(a b:List (Nat×Nat)):Wg (a++b)=Wg a+Wg b:=by simp[Wg]
theorem Zd0(x:Nat×Nat)(l:List (Nat×Nat)):Qi (x::l)=Z4 x.1++(Z4 x.2++Qi l):=by simp[Qi]
theorem Zd2(x:Nat×Nat)(l:List (Nat×Nat)):Wg (x::l)=x.2+Wg l:=by simp[Wg]
theorem ZeE(f m:Nat)(l:List (Nat×Nat))(hf:f<4294967296)(hm:m<4294967296)(hl:l.length<=1000):∃T T4:ByteArray,str (Qi ((f,m)::l))=T/\T.size=8+8*l.length/\YI T.data.toList=f/\YI T4.data.toList=m/\4<=T4.size/\
  (∀W,(Instr.slice 9 (.string T) (some (.int .i64 4)) none none).run prog W=.ok (.string T4) W)/\(∀W,(Instr.slice 9 (.string T) (some (.int .i64 8)) none none).run prog W=.ok (.string (str (Qi l))) W):=by
 obtain⟨T,hT⟩:∃T,str (Qi ((f,m)::l))=T:=⟨_,rfl⟩
 have ah:T.size=8+8*l.length:=by rw[<-hT,Z5,Z0w,ZjM];omega
 have ag:T.data.toList=Z4 f++(Z4 m++Qi l):=by rw[<-hT,Ze,Zd0]
 have ae:(T.extract 4 T.size).data.toList=Z4 m++Qi l:=by rw[Lib.extract_to_end,ag,<-Zq f,List.drop_left]
 have af:T.extract 8 T.size=str (Qi l):=by
  apply Yc
  rw[Ze,Lib.extract_to_end,ag,<-ZjL,show 8=(Z4 f++Z4 m).length from rfl,List.drop_left]
 refine⟨T,T.extract 4 T.size,hT,ah,by rw[ag,Yy _ hf],by rw[ae,Yy _ hm],by have:=W7 ae;simp[Zq] at this;rw[ByteArray.size_extract];omega,fun W=>Y4 9 underlying9 T 4 (by omega) W,fun W=>by rw[<-af];exact Y4 9 underlying9 T 8 (by omega) W⟩
theorem Zd3(l:List (Nat×Nat))(k:Nat)(h:k<l.length):l.drop k=l.getD k (0,0)::l.drop (k+1):=by
 rw[List.drop_eq_getElem_cons h,ZjE,ZjF h];rfl
theorem Z8a(B p d n:Nat)(P:Pw)(D:Dk)(L:List Nat)(s half:Nat)(e:Ent)(w:World)(h:PD B w p d n P D L)(hs0:w.cell? ⟨s,0,none⟩=some (.pointer (some ⟨d,0,none⟩)))(fq:w.cell? ⟨s,2,none⟩=some (.int .i64 half))(he:Ent.Ok n half e)(h2:2*half<=n):
  Calls prog 156 #[.pointer (some ⟨s,0,none⟩),.string (str e.tail)] w fun r w'=>∃v,r=.returned (.tuple #[v,.bool true])/\WF w' v e/\Below w.heap.size w w':=by
 have ae:=he.many
 have iu:=he.size
 have ft:=he.sum
 have ah:=he.secs
 have bm:=ZjG w _ hs0
 have iq:=h.ok.n2
 have dy:Wg e.runs=ZH e.size:=by rw[<-Zfs];exact ah
 have ir:e.runs.length<=200:=by
  have h4:e.runs.length<=e.secs.length:=Z2M e.runs (fun r hr=>(ae r hr).1)
  unfold ZH at ah;omega
 obtain⟨T,hT⟩:∃T,str e.tail=T:=⟨_,rfl⟩
 have b9:T.size=8+8*e.runs.length:=by rw[<-hT,Z5,Zbb]
 have bq:T.data.toList=Z4 e.size++(Z4 e.sum++Qi e.runs):=by rw[<-hT,Ze];unfold Ent.tail;rw[ZjL]
 have bg:YI T.data.toList=e.size:=by rw[bq,Yy _ (by omega)]
 obtain⟨T4,cw⟩:∃T4,T.extract 4 T.size=T4:=⟨_,rfl⟩
 obtain⟨T8,cy⟩:∃T8,T.extract 8 T.size=T8:=⟨_,rfl⟩
 have aq:T4.data.toList=Z4 e.sum++Qi e.runs:=by rw[<-cw,Lib.extract_to_end,bq,<-Zq e.size,List.drop_left]
 have fe:4<=T4.size:=by have:=W7 aq;simp[Zq] at this;omega
 have az:T8=str (Qi e.runs):=by
  apply Yc
  rw[Ze,<-cy,Lib.extract_to_end,bq,<-ZjL,show 8=(Z4 e.size++Z4 e.sum).length from rfl,List.drop_left]
 have bj:YI T4.data.toList=e.sum:=by rw[aq,Yy _ ft]
 have dp:∀W,(Instr.slice 9 (.string T) (some (.int .i64 4)) none none).run prog W=.ok (.string T4) W:=fun W=>by rw[<-cw];exact Y4 9 underlying9 T 4 (by omega) W
 have ek:∀W,(Instr.slice 9 (.string T) (some (.int .i64 8)) none none).run prog W=.ok (.string (str (Qi e.runs))) W:=fun W=>by rw[<-az,<-cy];exact Y4 9 underlying9 T 8 (by omega) W
 rw[hT]
 have H:=Zka h
 have HM:=Zka (Zkb ae dy)
 have HR:=Zka (Zkb bg bj)
 have z1:4<=T.size:=by omega
 have zm:(T.size:Int)%8=0:=by omega
 have zl:¬ (T.size:Int)<8:=by omega
 have HZ:=Zka b9
 clear h ae dy hT bq bg bj cw cy aq az ah b9
 go_enter func156,ntmps156
 go_wp2_with fail
 have ax:=Row.new w 164 [.int .i64 0,.int .u32 0,.slice none 0 0]
 have du:Below w.heap.size w (w.alloc (.cells #[.int .i64 0,.int .u32 0,.slice none 0 0] 164)):=(Below.refl _ w).alloc Zk8 _
 generalize (w.alloc (.cells #[.int .i64 0,.int .u32 0,.slice none 0 0] 164))=w1 at*
 obtain⟨eb,cj⟩:∃eb,w.heap.size=eb:=⟨_,rfl⟩
 have HE:=Zka cj
 rw[show(Value.pointer (some ⟨w.heap.size,0,none⟩))=Value.pointer (some ⟨eb,0,none⟩) from by rw[cj]]
 rw[cj] at ax
 clear cj
 have ib:IntKind.u32.wrap (e.sum:Int)=(e.sum:Int):=IntWalk.u32_in _ (by omega)
 have HB:=Zka (Zkb ax du)
 clear ax du
 go_cut [] from 18 to 25 (fun wx=>Row wx eb 164 [.int .i64 e.size,.int .u32 e.sum,.slice none 0 0]/\Below w.heap.size w wx)
 case first=>
  have r1:=(RB.mk HB.out.1 HB.out.2).after ((Below.refl _ w1).drew)
  have f0:=r1.row.free (j:=0) (by simp)
  have f1:=r1.row.free (j:=1) (by simp)
  have q0:=r1.row.cell (j:=0) rfl
  have q1:=r1.row.cell (j:=1) rfl
  go_region_with (go_at_call 218;refine(Z85 _ (by assumption) _).mono ?_;(first|rw[HR.out.1]|rw[HR.out.2]);rintro r w3 ⟨rfl,au⟩;have r3:=RB.after (w:=w) (g:=eb) (by assumption) au;have f0:=r3.row.free (j:=0) (by simp);have f1:=r3.row.free (j:=1) (by simp);have q0:=r3.row.cell (j:=0) rfl;have q1:=r3.row.cell (j:=1) rfl;clear au)
  all_goals go_wp2_with fail
  all_goals go_meet
  all_goals first
   |exact⟨(r3.row.set 0 (.int .i64 e.size)).set 1 (.int .u32 e.sum),(r3.bel.setCell (p:=⟨eb,0,none⟩) (Nat.le_of_eq HE.out) _).setCell (p:=⟨eb,1,none⟩) (Nat.le_of_eq HE.out) _⟩
   |exact⟨(r3.row.set 1 (.int .u32 e.sum)).set 0 (.int .i64 e.size),(r3.bel.setCell (p:=⟨eb,1,none⟩) (Nat.le_of_eq HE.out) _).setCell (p:=⟨eb,0,none⟩) (Nat.le_of_eq HE.out) _⟩
 case rest=>
  obtain⟨ag,aj⟩:=hcut
  have U0:UtS w eb e.size e.sum (.slice none 0 0) [] wc:=⟨ag,World.ownsRow_nil _ _ _ _,aj⟩
  have d0:=ag.cell (j:=0) rfl
  have ew:=Zka U0
  clear U0 ag aj ib dp
  go_wp2_with (go_at_call 90;refine(Z3A e.size (by omega) _).mono ?_;rintro r w' ⟨rfl,rfl⟩)
  have ic:=Zka d0
  obtain⟨i0,hi,fw,fx,fy⟩:=info_parts Z61
  rw[show((ZH e.size:Nat):Int)=((Wg e.runs:Nat):Int) from by rw[HM.out.2]]
  clear d0 ek z1 zm zl
  go_loopw [1,6] (fun tv lv wr=>∃ (k:Nat) (v:Value),k<=e.runs.length/\tv=.string (str (Qi (e.runs.drop k)))/\lv=.int .i64 (Wg (e.runs.drop k):Nat)/\UtS w eb e.size e.sum v (e.runs.take k) wr/\(k=0->v=.slice none 0 0)) (fun tv _ _=>Zjb tv)
  case atStart=>exact⟨0,_,by omega,rfl,rfl,ew.out,fun _=>rfl⟩
  case round=>
   obtain⟨k,v,hk,rfl,rfl,hU,dh⟩:=hrel
   by_cases bf:k<e.runs.length
   ·have ay:=Zd3 e.runs k bf
    have ef:=HM.out.1 (e.runs.getD k (0,0)) (by rw[ZjE,ZjF bf];exact ZjW bf)
    obtain⟨f,hf⟩:∃f,(e.runs.getD k (0,0)).1=f:=⟨_,rfl⟩
    obtain⟨m,hm⟩:∃m,(e.runs.getD k (0,0)).2=m:=⟨_,rfl⟩
    have cn:e.runs.getD k (0,0)=(f,m):=by rw[<-hf,<-hm]
    rw[hf,hm] at ef
    obtain⟨m1,m2,m3⟩:=ef
    rw[cn] at ay
    obtain⟨R,hR⟩:∃R,e.runs.drop (k+1)=R:=⟨_,rfl⟩
    rw[hR] at ay
    have fc:R.length<=200:=by rw[<-hR,List.length_drop];omega
    obtain⟨T,T4,hT,b9,bg,bj,ig,dp,ek⟩:=ZeE f m R (by omega) (by omega) (by omega)
    have hN:Wg ((f,m)::R)=m+Wg R:=Zd2 _ _
    rw[ay,hT,hN]
    have eo:e.runs.take (k+1)=e.runs.take k++[(f,m)]:=by
     rw[ZjK bf]
     have:e.runs[k]=(f,m):=by rw[<-cn,ZjE,ZjF bf];rfl
     rw[this]
    have ee:m+Wg R<=200:=by
     have h1:Wg e.runs=Wg (e.runs.take k)+Wg (e.runs.drop k):=by rw[<-Z9T,Zk4]
     rw[ay,hN,HM.out.2] at h1
     unfold ZH at h1;omega
    obtain⟨rn,dm⟩:∃rn,Wg R=rn:=⟨_,rfl⟩
    rw[dm] at ee⊢
    obtain⟨lf,de⟩:∃lf,m+rn=lf:=⟨_,rfl⟩
    have im:m<=lf:=by omega
    rw[de] at ee⊢
    have df:=Zka de
    clear de
    have bh:=Zka (Zkb bg bj)
    have HK:=Zka (Zkb eo (Zkb hR (Zkb dm (Zkb cn (Zkb hT ay)))))
    have z1:4<=T.size:=by omega
    have zp:0<T.size:=by omega
    have zT:T.size<=2000:=by omega
    have ey:=Zka hU
    have cz:=Zka b9
    clear hU dh ay hf hm cn hR hT hN eo bg bj dm b9 fc
    go_wp2_with fail
    go_cut [7] from 36 to 41 (fun v7 wx=>∃x,v7=.pointer (some ⟨x,0,none⟩)/\Row wx x 197 [.int .i64 (f:Int),.int .i64 (m:Int)]/\UtS w eb e.size e.sum v (e.runs.take k) wx)
    case first=>
     have U1:=ey.out.after ((Below.refl _ wr).drew)
     go_region_with (go_at_call 218;refine(Z85 _ (by assumption) _).mono ?_;(first|rw[bh.out.1]|rw[bh.out.2]);rintro r w3 ⟨rfl,au⟩;have U3:=UtS.after (w:=w) (eb:=eb) (by first|assumption|exact UtS.after (by assumption) (Zk9.alloc Zk8 _)) au;(try have X3:=Row.after (e:=197) (l:=[.int .i64 0,.int .i64 0]) (by first|assumption|exact Row.new _ _ _) au);(try have iz:=X3.free (j:=0) (by simp));(try have j7:=X3.free (j:=1) (by simp));(try have ix:=X3.cell (j:=0) rfl);(try have iy:=X3.cell (j:=1) rfl);have ij:=au.size;clear au)
     all_goals go_wp2_with fail
     all_goals go_meet
     all_goals first
      |exact⟨_,rfl,UtS.set2 (w:=w) U3 (XtS.mk X3 (fun g hg e2=>by have:=(U1.own.lt g hg).2;have hd:wr.drew.heap.size=wr.heap.size:=rfl;omega) (by have:=U1.bel.size;have hd:wr.drew.heap.size=wr.heap.size:=rfl;omega)) _ _⟩
      |exact⟨_,rfl,UtS.set2 (w:=w) (UtS.after U3 (Zk9.alloc Zk8 _)) (XtS.new U3 _ _) _ _⟩
      |exact⟨_,rfl,Row.new _ _ [.int .i64 (f:Int),.int .i64 (m:Int)],UtS.after (by assumption) (Zk9.alloc Zk8 _)⟩
    case rest=>
     obtain⟨x,rfl,cu,bu⟩:=hcut
     have x0:=cu.cell (j:=0) rfl
     have x1:=cu.cell (j:=1) rfl
     have y0:wc.cell? ⟨s,0,none⟩=some (.pointer (some ⟨d,0,none⟩)):=(bu.bel.cell (p:=⟨s,0,none⟩) bm).trans hs0
     have y2:wc.cell? ⟨s,2,none⟩=some (.int .i64 half):=(bu.bel.cell (p:=⟨s,2,none⟩) bm).trans fq
     have g1:decide ((m:Int)<1)=false:=by simp;omega
     have g2:decide ((lf:Int)<(m:Int))=false:=by simp;omega
     have g3:decide ((f:Int)<2*(half:Int))=false:=by simp;omega
     have g4:decide ((n:Int)<(f:Int))=false:=by simp;omega
     have fa:decide (n<f)=false:=by simp;omega
     have g5:decide ((n:Int)- (f:Int)<(m:Int))=false:=by simp;omega
     have gy:IntKind.i64.wrap (2*(half:Int))=2*(half:Int):=Zk2 _ (by omega)
     have ia:IntKind.i64.wrap ((n:Int)- (f:Int))=(n:Int)- (f:Int):=Zk2 _ (by omega)
     have HX:=Zka (Zkb cu bu)
     clear cu bu dp
     go_wp2_with fail
     have hq:∀k,Calls prog 138 #[.pointer (some ⟨d,0,none⟩)] (wc.drewN k) fun e w'=>e=.returned (.int .i64 (n:Int))/\w'=wc.drewN k:=fun k=>(PD.sectors (H.out.after (HX.out.2.bel.trans (Zp Zk9 k)))).mono fun e w' h=>⟨h.1,h.2.symm⟩
     have HQ:=Zka hq
     clear hq
     go_quiet ((go_at_call 138;exact Calls.quiet_of_same (HQ.out _)))
     obtain⟨w5,dq⟩:∃w5,w5=wc.drewN nq:=⟨_,rfl⟩
     rw[<-dq]
     have dc:Below wc.heap.size wc w5:=by rw[dq];exact Zp Zk9 nq
     have bz:=HX.out.2.after dc
     have ai:=HX.out.1.after dc
     have z0:=ai.cell (j:=0) rfl
     have j8:=ai.cell (j:=1) rfl
     have e2:=bz.row.cell (j:=2) rfl
     have f2:=bz.row.free (j:=2) (by simp)
     have H5:=Zka (Zkb ai bz)
     have fm:(lf:Int)- (m:Int)=(rn:Int):=by have:=df.out;omega
     have dz:k<=200:=by omega
     have cr:(e.runs.take k).length=k:=by rw[ZjO];omega
     clear dq dc bz ai x0 x1 y0 y2 g1 g2 g3 g4 fa g5 gy ia
     go_wp2_with (at_builtin;refine wpList_append_own _ rfl (.tmp 90) (.tmp 92) 162 rfl w.heap.size 197 i0 _ 2 16 underlying162 hi fw fx fy rfl (by omega) v (e.runs.take k).length (Qt (e.runs.take k)) rfl (H5.out.2.own.alloc _) ⟨w5.heap.size,0,none⟩ 1 1 [.int .i64 (f:Int),.int .i64 (m:Int)] rfl rfl (World.news_of_block (cs:= #[.int .i64 (f:Int),.int .i64 (m:Int)]) (t:=197) (fr:=(0,0)) (heap_alloc_new w5 _)) (by simp[Value.oneCell']) (by rw[cr];unfold maxLen;omega) (by rw[cr];omega) (by have:=H5.out.2.bel.size;simp;omega) ?_;intro v' w6 af aw ak;obtain⟨g6,al,iw,rfl,_,_,_,_⟩:=Z03 af (fun e6=>by have:=ak.1 e6;omega);clear ak;have ct:=Jk (H5.out.2.row.alloc (.cells #[.int .i64 (f:Int),.int .i64 (m:Int)] 197)) aw (Ws H5.out.2.row H5.out.2.own (by decide));have f26:=ct.free (j:=2) (by simp);have ie:=ct.cell (j:=2) rfl;have dw:Below w.heap.size w w6:=Fr.nil_below (((Fr.of_below (L:=[]) H5.out.2.bel).alloc _).grown aw (fun g hg=>Or.inr (Xa H5.out.2.own hg)));have S6:=Zka (Zkb ct (Zkb af dw));clear ct af aw dw)
     go_roundw
     case measure=>
      have h1:(str (Qi R)).size=8*R.length:=by rw[Z5,Z0w]
      have h3:=cz.out
      show(str (Qi R)).size<T.size
      omega
     case rel=>
      obtain⟨er,dt,gj⟩:=S6.out
      rw[cr] at dt
      refine⟨k+1,.slice (some ⟨g6,0,none⟩) (k+1) al,by omega,by rw[HK.out.2.1],by rw[HK.out.2.1,HK.out.2.2.1],?_⟩
      rw[HK.out.1]
      have fh:Fr [eb] w6 (w6.setCell ⟨eb,2,none⟩ (.slice (some ⟨g6,0,none⟩) (k+1) al)):=(Fr.refl _ _).setCell (Or.inl (by simp)) _
      refine⟨⟨er.set 2 (.slice (some ⟨g6,0,none⟩) (k+1) al),?_,gj.setCell (p:=⟨eb,2,none⟩) (Nat.le_of_eq HE.out) _⟩,fun h0=>by omega⟩
      have h9:=ZZ dt fh (fun g hg hm=>by
       rw[ZjD] at hm
       subst hm
       exact Ws er dt (by decide) hg)
      rw[ZjI,JQ,cr]
      exact h9
   ·obtain rfl:k=e.runs.length:=by omega
    rw[List.drop_length]
    have HU:=Zka hU
    rw[show str (Qi [])=⟨#[]⟩ from rfl,show Wg []=0 from rfl]
    obtain⟨a,ln,cap,rfl,eh⟩:∃a ln cap,v=.slice a ln cap/\Z8x wr a ln cap e.runs:=by
     have h1:=hU.own
     rw[Zk5] at h1
     rcases h1.2 with ⟨hv,h0⟩|⟨g,cap,cur,hv,_⟩
     ·exact⟨none,0,0,hv,⟨by rw[h0],Or.inl (List.length_eq_zero_iff.1 h0)⟩,fun _=>⟨rfl,rfl⟩⟩
     ·obtain⟨g',ez,gx,fu,_,_,_,fo⟩:=Z03 h1 (by rw[hv];simp)
      exact⟨_,_,_,fu,⟨rfl,Or.inr ⟨g',gx,rfl,fo⟩⟩,fun h0=>by
       have h9:=dh (by rw[h0];rfl)
       rw[hv] at h9;cases h9⟩
    have c0:=hU.row.cell (j:=0) rfl
    have c1:=hU.row.cell (j:=1) rfl
    have c2:=hU.row.cell (j:=2) rfl
    have ik:=hU.row.free (j:=0) (by simp)
    have fi:=hU.row.free (j:=1) (by simp)
    have fj:=hU.row.free (j:=2) (by simp)
    have fp:decide ((e.size:Int)<=12000)=true:=by simp;omega
    have eu:=Zka eh
    clear hU eh dh
    go_wp2_with fail
    obtain⟨w9,dr⟩:∃w9,w9=((wr.setCell ⟨eb,0,none⟩ (.int .i64 (e.size:Int))).setCell ⟨eb,1,none⟩ (.int .u32 (e.sum:Int))).setCell ⟨eb,2,none⟩ (.slice a ln cap):=⟨_,rfl⟩
    rw[<-dr]
    have dj:Row w9 eb 164 [.int .i64 (e.size:Int),.int .u32 (e.sum:Int),.slice a ln cap]:=by
     rw[dr];exact((HU.out.row.set 0 (.int .i64 (e.size:Int))).set 1 (.int .u32 (e.sum:Int))).set 2 (.slice a ln cap)
    have dx:Fr [eb] wr w9:=by rw[dr];exact(((Fr.refl _ _).setCell (Or.inl (by simp)) _).setCell (Or.inl (by simp)) _).setCell (Or.inl (by simp)) _
    have y0:=dj.cell (j:=0) rfl
    have y1:=dj.cell (j:=1) rfl
    have y2:=dj.cell (j:=2) rfl
    have ff:Below w.heap.size w w9:=HU.out.bel.trans (dx.below HU.out.bel.size (fun i hi=>by rw[ZjD] at hi;subst hi;exact Nat.le_of_eq HE.out))
    have fg:WF w9 (.agg #[.int .i64 (e.size:Int),.int .u32 (e.sum:Int),.slice a ln cap]) e:=⟨a,ln,cap,rfl,eu.out.fr dx (fun k hk l hl=>by
     rw[ZjD] at hk
     subst hk
     have:=Yf HU.out.row hl
     revert this;decide)⟩
    exact bodyPost_ret (v:=.tuple #[.agg #[.int .i64 (e.size:Int),.int .u32 (e.sum:Int),.slice a ln cap],.bool true]) (by simp[results,Tryz.results156,go_sem,y0,y1,y2]) rfl ⟨_,rfl,fg,ff⟩
end
section
open Go.RowKit Go.Maps Go.WideMaps
variable{b n:Nat}{d:Dir}{e t:TypeId}{f fv:Bs->Option Value}{k:Bs}{w w':World}
theorem Zhn(ht:prog.underlying t=some (.map 9 e))(h:Zz w b n f)(ty:TypeId):∃w',(Builtin.clear_ #[t] ty #[.map (some b)]).run prog w=.ok (.tuple #[]) w'/\Zz w' b 0 (fun _=>none)/\Fr [b] w w':=by
 obtain⟨D,⟨es,cl,hb,F,hs,hD⟩,ht2⟩:=h
 have ae:=MapKept.heap_set (o':=Obj.map #[] cl) hb
 refine⟨{w with heap:=w.heap.setIfInBounds b (.map #[] cl)},?_,⟨.map [],⟨#[],cl,ae.1,⟨by simp,MapKept.stamped_empty cl,by simp⟩,Zk8,rfl⟩,fun k=>⟨rfl,fun v h=>by cases h⟩⟩,⟨rfl,rfl,rfl,by simp,fun k hk af=>ae.2 k (by simpa using af)⟩⟩
 simp[Builtin.clear_,run_underlying ht,MapKept.run_getObj_map hb,MapKept.run_setObj_map _ hb,Result.andThen]
theorem Z2G(ht:prog.underlying t=some (.map 9 e))(h:Zz w b n f)(k:Bs)(hk:k.length<=maxLen)(ty:TypeId):∃w',(Builtin.delete_ #[t,9] ty #[.map (some b),.string (str k)]).run prog w=.ok (.tuple #[]) w'/\Zz w' b n (fun m=>if m=k then none else f m)/\Fr [b] w w':=by
 obtain⟨D,h1,h2⟩:=h
 obtain⟨w',r1,r2,r3⟩:=h1.drop JD ht (Z4w k hk) ty
 exact⟨w',r1,⟨_,r2,h2.del k⟩,(Fr.refl [b] w).grown r3.grown (fun k hk=>by cases hk;exact Or.inl (by simp))⟩
theorem Z5e(ht:prog.underlying t=some (.map 9 e))(h:Zz w b n f)(hn:n<maxLen)(k:Bs)(hk:k.length<=maxLen)(v:Value):∃w',(Instr.mapUpdate t (.map (some b)) (.string (str k)) v).run prog w=.ok () w'/\Zz w' b (n+1) (fun m=>if m=k then some v else f m)/\Fr [b] w w':=by
 obtain⟨D,h1,h2⟩:=h
 obtain⟨w',r1,r2,r3⟩:=h1.store JD ht hn (Z4w k hk) (val:=v) (d:=.held v) (ps:=[]) rfl
 exact⟨w',r1,⟨_,r2,h2.put h1.isMap k v⟩,(Fr.refl [b] w).grown r3.grown (fun k hk=>by cases hk;exact Or.inl (by simp))⟩
theorem Z0y{t u:ByteArray}(h:t≠u):(t.toList==u.toList)=false:=by
 rw[ByteArray.toList_eq,ByteArray.toList_eq,beq_eq_false_iff_ne]
 intro e
 exact h (Yc e)
theorem Zy.delW(hm:Zz w' b n (fun m=>if m=k then none else fv m))(h2:∀k,d.get k=none->fv k=none)(h3:∀k e,d.get k=some e->∃v,fv k=some v/\WF w' v e):Zy w' b n (d.del k):=by
 refine⟨_,hm,fun m af=> ?_,fun m e ae=> ?_⟩
 ·rw[Dir.get_del] at af
  by_cases e:m=k
  ·simp[e]
  ·simp only[if_neg e] at af⊢;exact h2 m af
 ·rw[Dir.get_del] at ae
  by_cases e:m=k
  ·simp[e] at ae
  ·simp only[if_neg e] at ae⊢;exact h3 m _ ae
theorem Zy.putW{v:Value}{x:Ent}(hm:Zz w' b n (fun m=>if m=k then some v else fv m))(h2:∀k,d.get k=none->fv k=none)(h3:∀k e,d.get k=some e->∃v,fv k=some v/\WF w' v e)(he:WF w' v x):Zy w' b n (d.put k x):=by
 refine⟨_,hm,fun m af=> ?_,fun m e ae=> ?_⟩
 ·rw[Dir.get_put] at af
  by_cases e:m=k
  ·simp[e] at af
  ·simp only[if_neg e] at af⊢;exact h2 m af
 ·rw[Dir.get_put] at ae
  by_cases e2:m=k
  ·simp only[if_pos e2,ZjJ] at ae⊢
   exact⟨v,rfl,by rw[<-ae];exact he⟩
  ·simp only[if_neg e2] at ae⊢;exact h3 m _ ae
theorem X9(h:Zz w b n f):∀k,k∈[b]->∀l,¬Row w k 197 l:=fun k hk l hl=>by
 rw[ZjD] at hk
 subst hk
 obtain⟨es,cl,hb⟩:=h.block
 exact Y9 hl hb
theorem Z0G(hm:Zz w b n f)(h:∀k e,d.get k=some e->∃v,f k=some v/\WF w v e)(hf:Fr [b] w w'):∀k e,d.get k=some e->∃v,f k=some v/\WF w' v e:=fun k e hk=>by
 obtain⟨v,h1,h2⟩:=h k e hk
 exact⟨v,h1,h2.fr hf (X9 hm)⟩
theorem Zbj(d:Dir):Y5 d=Zv (W5::(d.map fun x=>(x.1,some x.2)).map Qk):=by
 unfold Y5
 rw[List.map_map];rfl
end
end Go.Proofs.YthppfllkocphbaaGreatDoor
