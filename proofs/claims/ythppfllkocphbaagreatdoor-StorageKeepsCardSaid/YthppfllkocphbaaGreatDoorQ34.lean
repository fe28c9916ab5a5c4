/-
  Part 35 of the proof: lemmas about what the program computes.
-/
import Derived.Test.YthppfllkocphbaaGreatDoorQ27
namespace Go.Proofs.YthppfllkocphbaaGreatDoor
set_option linter.unusedVariables false
set_option linter.unusedSimpArgs false
set_option maxHeartbeats 25600000
set_option maxRecDepth 100000
open Tryz
section
open Go.RowKit Go.Shelf
variable{l:List En}{t:Nat}{v:Value}{w w' wr:World}
structure ChL(w:World)(l:List En)(t:Nat)(v:Value)(wr:World):Prop where
 own:wr.ownsRow w.heap.size 68 3 v t (((l.take t).map JJ).flatMap apC)
 bel:Below w.heap.size w wr
theorem ChL.after(h:ChL w l t v wr)(hb:Below wr.heap.size wr w'):ChL w l t v w':=⟨QK h.own hb,h.bel.trans (hb.mono h.bel.size)⟩
theorem ChL.put{w8:World}(h:ChL w l t v wr)(hb:Below wr.heap.size wr w')(ht:t<l.length){g2 c2:Nat}(ho:w8.ownsRow w.heap.size 68 3 (.slice (some ⟨g2,0,none⟩) (t+1) c2) (t+1) ((((l.take t).map JJ).flatMap apC)++apC (JJ l[t])))(hf:Fr (ZE v) w' w8):ChL w l (t+1) (.slice (some ⟨g2,0,none⟩) (t+1) c2) w8:=by
 have h1:=h.after hb
 refine⟨?_,h1.bel.trans (hf.below h1.bel.size (WC h1.own))⟩
 rw[List.take_add_one,ZjF ht]
 simp only[Option.toList_some,ZjZ,ZjY,List.map_nil,List.flatMap_append,ZjX,List.flatMap_nil,Zk7]
 exact ho
theorem ChL.own_lt(h:ChL w l t v wr):∀y∈ZE v,y<wr.heap.size:=fun y hy=>by
 obtain⟨l2,h2⟩:=Qw h.own y hy
 exact h2.lt
theorem Zgd{base k:Nat}{e:TypeId}{n:Nat}{xs:List Value}(h:w.ownsRow base e k v n xs):w.drew.ownsRow base e k v n xs:=h
theorem Ziw(s:ByteArray):s.extract 0 (min s.size 200)=str (s.data.toList.take 200):=by
 apply Yc
 rw[Ze]
 simp[ByteArray.data_extract]
 omega
theorem Z29{a:Addr}(h:w.cell? a=some v)(o:Obj):(w.alloc o).cell? a=some v:=
 (((Below.refl w.heap.size w).alloc Zk8 o).cell (ZjG w _ h)).trans h
theorem Zfd(wr:World)(o:Obj)(K:ByteArray)(g:Bool):Row ((wr.alloc o).alloc (.cells #[.string K,.string ⟨#[]⟩,.bool g] 68)).drew (wr.heap.size+1) 68 [.string K,.string ⟨#[]⟩,.bool g]/\wr.heap.size<=wr.heap.size+1/\Below wr.heap.size wr ((wr.alloc o).alloc (.cells #[.string K,.string ⟨#[]⟩,.bool g] 68)).drew:=by
 have h9:=Row.new (wr.alloc o) 68 [.string K,.string ⟨#[]⟩,.bool g]
 rw[show(wr.alloc o).heap.size=wr.heap.size+1 from by simp] at h9
 exact⟨h9,by omega,(((Below.refl wr.heap.size wr).alloc Zk8 o).alloc (by simp) _).drew⟩
theorem Zfe(wr:World)(o:Obj)(K:ByteArray)(g:Bool):Row ((wr.alloc (.cells #[.string K,.string ⟨#[]⟩,.bool g] 68)).alloc o).drew wr.heap.size 68 [.string K,.string ⟨#[]⟩,.bool g]/\wr.heap.size<=wr.heap.size/\Below wr.heap.size wr ((wr.alloc (.cells #[.string K,.string ⟨#[]⟩,.bool g] 68)).alloc o).drew:=
 ⟨(Row.new wr 68 [.string K,.string ⟨#[]⟩,.bool g]).alloc o,Zk8,(((Below.refl wr.heap.size wr).alloc Zk8 _).alloc (by simp) o).drew⟩
theorem Z9f(W:World)(nk:Nat)(h:nk<256):(convert 75 9 (.slice (some ⟨W.heap.size,0,none⟩) 1 1)).run prog (W.alloc (.cells #[.int .u8 (nk:Int)] 5))=.ok (.string (str [UInt8.ofNat nk])) (W.alloc (.cells #[.int .u8 (nk:Int)] 5)):=by
 have hr:=Row.new W 5 [.int .u8 (nk:Int)]
 refine Qv _ 75 9 5 underlying75 underlying5 underlying9 hr 0 1 1 [UInt8.ofNat nk] rfl ?_
 simp[Z3]
 omega
theorem Zed(W:World)(o:Obj)(nk:Nat)(h:nk<256):(convert 75 9 (.slice (some ⟨W.heap.size,0,none⟩) 1 1)).run prog ((W.alloc (.cells #[.int .u8 (nk:Int)] 5)).alloc o)=.ok (.string (str [UInt8.ofNat nk])) ((W.alloc (.cells #[.int .u8 (nk:Int)] 5)).alloc o):=by
 have hr:=(Row.new W 5 [.int .u8 (nk:Int)]).alloc o
 refine Qv _ 75 9 5 underlying75 underlying5 underlying9 hr 0 1 1 [UInt8.ofNat nk] rfl ?_
 simp[Z3]
 omega
theorem Zhg{z:Int}(h0:0<=z)(h1:z<=255):IntKind.u8.wrap z=z:=by
 unfold IntKind.wrap
 simp[IntKind.signed,IntKind.bits]
 omega
theorem Z9h(w:World)(a:Option Addr)(cp:Nat)(l:List En)(h:Z0S w a l)(hl:l.length<=9223372036854775807):
  Calls prog 10 #[.slice a l.length cp] w fun e w'=>∃v,e=.returned v/\w'.ownsRow w.heap.size 68 3 v (WI l).length ((WI l).flatMap apC)/\Below w.heap.size w w':=by
 obtain⟨N,hN⟩:∃N,l.length=N:=⟨_,rfl⟩
 have H:=Zka (Zkb h hN)
 have I0:=Zka (show ChL w l 0 (.slice none 0 0) w from⟨World.ownsRow_nil _ _ _ _,Zk9⟩)
 rw[hN] at hl⊢
 clear h hN
 go_enter func10,ntmps10
 go_wp2_with fail
 go_loopw [3,4] (fun v kv wr=>∃t:Nat,t<=N/\t<=4/\kv=.int .i64 t/\ChL w l t v wr) (fun _ kv _=>4- (intOf kv).toNat)
 case atStart=>exact⟨0,by omega,by omega,rfl,I0.out⟩
 case round=>
  obtain⟨t,ht,cu,rfl,hS⟩:=hrel
  have HS:=Zka hS
  clear hS
  by_cases ae:t<N/\t<4
  ·have ag:t<l.length:=by rw[H.out.2];exact ae.1
   obtain⟨bh,b,o,rfl,hb,ZK⟩:=H.out.1 t ag
   have q0:=ZK 0 _ rfl
   have q1:=ZK 1 _ rfl
   have q2:=ZK 2 _ rfl
   obtain⟨x,hx⟩:∃x,l[t]=x:=⟨_,rfl⟩
   rw[hx] at bh q0 q1 q2
   have d0:=(HS.out.bel.cell (p:=⟨b,o+t*3+0,none⟩) hb).trans q0
   have d1:=(HS.out.bel.cell (p:=⟨b,o+t*3+1,none⟩) hb).trans q1
   have d2:=(HS.out.bel.cell (p:=⟨b,o+t*3+2,none⟩) hb).trans q2
   have hz:=HS.out.bel.size
   have cw:(t:Int)<(N:Int):=by omega
   have cr:(t:Int)<4:=by omega
   have cz:=ae.1
   have cy:=ae.2
   have hk:=Z2D x.key (show 0<10 by omega)
   obtain⟨ck,bf⟩:∃ck,Z1J x.key 10=ck:=⟨_,rfl⟩
   rw[bf] at hk
   have HC:=Zka (Zkb bh (Zkb bf hx))
   rw[Nat.add_zero] at d0
   clear q0 q1 q2 bh bf hx ZK ae
   have bq:∀W,Calls prog 9 #[.int .i64 x.key,.int .i64 10] W fun e w'=>e=.returned (.int .i64 (ck:Int))/\W=w':=fun W=>by
    have h9:=Z38 x.key 10 W HC.out.1.k0 HC.out.1.k1 (by omega) (by omega)
    rw[HC.out.2.1] at h9
    exact h9
   have bz:=Zka bq
   clear bq
   obtain⟨nk,bu⟩:∃nk,48+ck=nk:=⟨_,rfl⟩
   have e0:∀o1,(wr.alloc o1).cell? ⟨b,o+t*3,none⟩=some (.int .i64 x.key):=fun o1=>Z29 d0 o1
   have e2:∀o1,(wr.alloc o1).cell? ⟨b,o+t*3+2,none⟩=some (.bool x.gone):=fun o1=>Z29 d2 o1
   have f2:∀o1 o2,((wr.alloc o1).alloc o2).cell? ⟨b,o+t*3+2,none⟩=some (.bool x.gone):=fun o1 o2=>Z29 (Z29 d2 o1) o2
   have w1:IntKind.i64.wrap (48+(ck:Int))=(nk:Int):=by rw[Zk2 _ (by omega)];omega
   have w2:IntKind.u8.wrap (nk:Int)=(nk:Int):=Zhg (by omega) (by omega)
   have kA:(convert 75 9 (.slice (some ⟨wr.heap.size,0,none⟩) 1 1)).run prog (wr.alloc (.cells #[.int .u8 (nk:Int)] 5)).drew=.ok (.string (str [UInt8.ofNat nk])) (wr.alloc (.cells #[.int .u8 (nk:Int)] 5)).drew:=Z9f wr.drew nk (by omega)
   have kB:(convert 75 9 (.slice (some ⟨wr.heap.size+1,0,none⟩) 1 1)).run prog ((wr.alloc (.cells #[.string ⟨#[]⟩,.string ⟨#[]⟩,.bool false] 68)).alloc (.cells #[.int .u8 (nk:Int)] 5)).drew=.ok (.string (str [UInt8.ofNat nk])) ((wr.alloc (.cells #[.string ⟨#[]⟩,.string ⟨#[]⟩,.bool false] 68)).alloc (.cells #[.int .u8 (nk:Int)] 5)).drew:=by
    have h9:=Z9f (wr.drew.alloc (.cells #[.string ⟨#[]⟩,.string ⟨#[]⟩,.bool false] 68)) nk (by omega)
    rw[show(wr.drew.alloc (.cells #[.string ⟨#[]⟩,.string ⟨#[]⟩,.bool false] 68)).heap.size=wr.heap.size+1 from by simp] at h9
    exact h9
   have kC:(convert 75 9 (.slice (some ⟨wr.heap.size,0,none⟩) 1 1)).run prog ((wr.alloc (.cells #[.int .u8 (nk:Int)] 5)).alloc (.cells #[.string ⟨#[]⟩,.string ⟨#[]⟩,.bool false] 68)).drew=.ok (.string (str [UInt8.ofNat nk])) ((wr.alloc (.cells #[.int .u8 (nk:Int)] 5)).alloc (.cells #[.string ⟨#[]⟩,.string ⟨#[]⟩,.bool false] 68)).drew:=Zed wr.drew _ nk (by omega)
   obtain⟨X,hX⟩:∃X,str [UInt8.ofNat nk]=X:=⟨_,rfl⟩
   rw[hX] at kA kB kC
   have kP:∀W,(Op.stringOp .add ⟨#[107,101,121]⟩ X).run prog W=.ok (.string (str (Z65 ck))) W:=fun W=>by
    have h9:(⟨#[107,101,121]⟩:ByteArray)++X=str (Z65 ck):=by
     rw[<-hX,Z7o,Ze]
     unfold Z65
     rw[bu]
     rfl
    rw[<-h9]
    exact run_string_add_sum W _ _ (by rw[<-hX,Z5];show 3+1<=9223372036854775807;omega)
   obtain⟨KY,ax⟩:∃KY,str (Z65 ck)=KY:=⟨_,rfl⟩
   rw[ax] at kP
   have bj:=Zka (Zkb ax hX)
   clear bu ax hX
   go_wp2_with fail
   go_cut [5] from 16 to 32 (fun v wx=>∃q,v=.pointer (some ⟨q,0,none⟩)/\Row wx q 68 [.string KY,.string ⟨#[]⟩,.bool x.gone]/\wr.heap.size<=q/\Below wr.heap.size wr wx)
   case first=>
    go_region_with (go_at_call 9;refine(bz.out _).mono ?_;rintro e w2 ⟨rfl,rfl⟩)
    all_goals go_wp2_with fail
    all_goals go_meet
    all_goals first
     |exact⟨_,rfl,Zfd _ _ _ _⟩
     |exact⟨_,rfl,Zfe _ _ _ _⟩
   case rest=>
    obtain⟨q,rfl,ah,hq,aq⟩:=hcut
    have g2:=ah.cell (j:=2) rfl
    have b9:b<wr.heap.size:=by omega
    have cj:=(aq.cell (p:=⟨b,o+t*3+1,none⟩) b9).trans d1
    have al:=QK HS.out.own aq
    have ai:∀y,y=x.gone->y=true->apC (JJ l[t])=[.string KY,.string ⟨#[]⟩,.bool true]:=fun y h1 h2=>by
     rw[HC.out.2.2]
     unfold JJ
     rw[HC.out.2.1,<-h1,h2,<-bj.out.1]
     rfl
    have aj:x.gone=false->apC (JJ l[t])=[.string KY,.string (x.val.extract 0 (min x.val.size 200)),.bool false]:=fun h1=>by
     rw[HC.out.2.2,Ziw]
     unfold JJ
     rw[HC.out.2.1,h1,<-bj.out.1]
     rfl
    have HR:=Zka (Zkb ah (Zkb hq (Zkb aq (Zkb al (Zkb ai aj)))))
    clear al ai aj hq aq kA kB kC kP e0 e2 f2 d0 d1 d2 ah
    by_cases ak:x.gone=true
    ·rw[ak] at g2
     have c0:=HR.out.1.cell (j:=0) rfl
     have c1:=HR.out.1.cell (j:=1) rfl
     have HG:=Zka ak
     clear ak
     go_wp2_with (at_builtin;refine Y6 _ rfl (.tmp 50) (.tmp 52) 27 68 rfl underlying27 Z8A rfl (by omega) (by omega) w.heap.size _ t (((l.take t).map JJ).flatMap apC) rfl (QK HR.out.2.2.2.1 ((Below.refl wc.heap.size wc).alloc Zk8 _)) wc.heap.size 1 [.string KY,.string ⟨#[]⟩,.bool true] rfl (by omega) (by omega) rfl (Row.new wc _ _) (by simp[Value.oneCell']) (by have:=HR.out.2.2.1.size;simp;omega) (by omega) ?_;intro g2 aw w8 ho hf _ _ _;have R8:=Zka (HS.out.put (HR.out.2.2.1.trans (((Below.refl wc.heap.size wc).alloc Zk8 _).mono HR.out.2.2.1.size)) ag (by rw[HR.out.2.2.2.2.1 _ rfl HG.out];exact ho) hf);clear ho hf)
     go_roundw
     case measure=>simp[intOf];omega
     case rel=>exact⟨t+1,by omega,by omega,by go_num,R8.out⟩
    ·have bg:x.gone=false:=by simpa using ak
     rw[bg] at g2
     have HG:=Zka bg
     clear ak
     have dc:x.val.size<=9223372036854775807:=HC.out.1.v
     have f1:=HR.out.1.free (j:=1) (by simp)
     have g1:=HR.out.1.cell (j:=1) rfl
     have m1:(min (x.val.size:Int) 200).toNat=min x.val.size 200:=by omega
     go_wp2_with fail
     have au:=HR.out.1.set 1 (.string (x.val.extract 0 (min x.val.size 200)))
     have az:Below wr.heap.size wr (wc.setCell ⟨q,1,none⟩ (.string (x.val.extract 0 (min x.val.size 200)))):=HR.out.2.2.1.setCell HR.out.2.1 _
     obtain⟨XV,bm⟩:∃XV,x.val.extract 0 (min x.val.size 200)=XV:=⟨_,rfl⟩
     have ay:=HR.out.2.2.2.2.2 HG.out
     rw[bg] at au
     rw[bm] at au az ay
     have af:=Wf HR.out.2.2.2.1 (L:=[q]) ((Fr.refl [q] wc).setCell (p:=⟨q,1,none⟩) (Or.inl (by simp)) (.string XV)) (fun y hy hm=>by
      rw[ZjD] at hm
      subst hm
      have:=(HS.out.own_lt y hy)
      have:=HR.out.2.1
      omega)
     have H9:=Zka (Zkb au.drew (Zkb az.drew (Zkb ay (Zgd af))))
     clear au az ay af
     go_region
     generalize (wc.setCell ⟨q,1,none⟩ (.string XV)).drew=wd at*
     have c0:wd.cell? ⟨q,0,none⟩=some (.string KY):=H9.out.1.cell (j:=0) rfl
     have c1:wd.cell? ⟨q,1,none⟩=some (.string XV):=H9.out.1.cell (j:=1) rfl
     have c2:wd.cell? ⟨q,2,none⟩=some (.bool false):=H9.out.1.cell (j:=2) rfl
     clear g1 g2 f1 cj m1 bm
     go_wp2_with (at_builtin;refine Y6 _ rfl (.tmp 50) (.tmp 52) 27 68 rfl underlying27 Z8A rfl (by omega) (by omega) w.heap.size _ t (((l.take t).map JJ).flatMap apC) rfl (QK H9.out.2.2.2 ((Below.refl wd.heap.size wd).alloc Zk8 _)) wd.heap.size 1 [.string KY,.string XV,.bool false] rfl (by omega) (by omega) rfl (Row.new wd _ _) (by simp[Value.oneCell']) (by have:=H9.out.2.1.size;simp;omega) (by omega) ?_;intro g2 aw w8 ho hf _ _ _;have R8:=Zka (HS.out.put (H9.out.2.1.trans (((Below.refl wd.heap.size wd).alloc Zk8 _).mono H9.out.2.1.size)) ag (by rw[H9.out.2.2.1];exact ho) hf);clear ho hf)
     go_roundw
     case measure=>simp[intOf];omega
     case rel=>exact⟨t+1,by omega,by omega,by go_num,R8.out⟩
  ·have e9:(WI l).length=t/\((l.take t).map JJ)=WI l:=by
    have hle:l.length=N:=H.out.2
    have e1:l.take t=l.take 4:=by
     rcases Nat.lt_or_ge t 4 with h4|h4
     ·have:t=N:=by
       rcases Nat.lt_or_ge t N with h5|h5
       ·exact absurd ⟨h5,h4⟩ ae
       ·omega
      rw[ZjT (by omega),ZjT (by omega)]
     ·rw[show t=4 from by omega]
    refine⟨?_,by unfold WI;rw[e1]⟩
    unfold WI
    rw[<-e1,ZjN,ZjO]
    omega
   have HE:=Zka e9
   clear e9
   rcases Nat.lt_or_ge t N with h5|h5
   ·have h4:¬t<4:=fun h=>ae ⟨h5,h⟩
    have ct:decide ((t:Int)<4)=false:=by simp;omega
    have cn:(t:Int)<(N:Int):=by omega
    clear ae
    go_wp2_with fail
    go_ret
    exact⟨_,rfl,by rw[HE.out.1,<-HE.out.2];exact HS.out.own,HS.out.bel⟩
   ·have cn:¬t<N:=by omega
    clear ae
    go_wp2_with fail
    go_ret
    exact⟨_,rfl,by rw[HE.out.1,<-HE.out.2];exact HS.out.own,HS.out.bel⟩
end
end Go.Proofs.YthppfllkocphbaaGreatDoor
