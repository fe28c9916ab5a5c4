/-
  Part 21 of the proof: lemmas about what the program computes.
-/
import Derived.WalkMore
import Derived.Test.YthppfllkocphbaaGreatDoorQ18
namespace Go.Proofs.YthppfllkocphbaaGreatDoor
set_option linter.unusedVariables false
set_option linter.unusedSimpArgs false
set_option maxHeartbeats 25600000
set_option maxRecDepth 100000
open Tryz
section
open Go.RowKit Go.Shelf
theorem Z3a(s:ByteArray)(w:World):
  Calls prog 66 #[.string s] w fun e w'=>e=.returned (.bool (decide (1<=s.size)&&decide (s.size<=200)))/\w=w':=by
 by_cases h:1<=s.size
 ·have d1:decide ((s.size:Int)≥1)=true:=by simp;omega
  go_enter func66,ntmps66
  go_wp2
  go_ret
  refine⟨?_,rfl⟩
  rw[decide_eq_true h]
  simp only[Bool.true_and]
  by_cases h2:s.size<=200
  ·rw[decide_eq_true h2,decide_eq_true (by omega)];rfl
  ·rw[decide_eq_false h2,decide_eq_false (by omega)];rfl
 ·have d1:decide ((s.size:Int)≥1)=false:=by simp;omega
  go_enter func66,ntmps66
  go_wp2
  go_ret
  exact⟨by rw[decide_eq_false h];rfl,rfl⟩
theorem ZdX(K V:ByteArray)(g:Bool)(h1:1<=K.size)(h2:K.size<=200)(h3:V.size<=8000)(h4:g=true->V=⟨#[]⟩)(w:World):
  Calls prog 33 #[.agg #[.string K,.string V,.bool g]] w fun e w'=>e=.returned (.bool false)/\Below w.heap.size w w':=by
 have d1:(decide (1<=K.size)&&decide (K.size<=200))=true:=by simp;omega
 have d3:decide ((V.size:Int)>8000)=false:=by simp;omega
 cases g with
 |false=>
  clear h4
  go_enter func33,ntmps33
  go_wp2_with (go_at_call 66;refine(Z3a K _).mono ?_;rw[d1];rintro e w' ⟨rfl,rfl⟩)
  go_ret
  exact⟨by first|rfl|simp[d3]|simp;omega,Zk9.alloc Zk8 _⟩
 |true=>
  obtain rfl:=h4 rfl
  go_enter func33,ntmps33
  go_wp2_with (go_at_call 66;refine(Z3a K _).mono ?_;rw[d1];rintro e w' ⟨rfl,rfl⟩)
  go_ret
  exact⟨by first|rfl|simp,Zk9.alloc Zk8 _⟩
theorem Z5X(s:Nat)(g:Int)(w:World)(h:w.cell? ⟨s,3,none⟩=some (.int .i64 g)):
  Calls prog 15 #[.pointer (some ⟨s,0,none⟩)] w fun e w'=>e=.returned (.int .i64 g)/\w=w':=by
 go_enter func15,ntmps15
 go_wp2
 go_ret
 exact⟨rfl,rfl⟩
theorem Zhp(B:Nat)(w:World)(G:Eg)(V:Ev)(bl:List Nat)(i:Nat)(h:EAt B w G V bl)(hi:i<G.n):
  Calls prog 44 #[.pointer (some ⟨G.s,0,none⟩),.int .i64 (i:Int)] w fun e w'=>e=.returned (.bool (V.Ms i).isSome)/\Zf B G bl V w w':=by
 have c2:=h.scell.cell (j:=2) rfl
 have ae:(i:Int)<(G.n:Int):=by omega
 have d1:decide ((i:Int)≥0)=true:=by simp
 have d2:decide ((i:Int)<(G.n:Int))=true:=by simp;omega
 have hh:=Zhx B w G V bl i h hi
 have H:=Zka hh
 clear h hh
 go_enter func44,ntmps44
 go_wp2_with (go_at_call 34;refine H.out.mono ?_;rintro e w' ⟨rfl,hr⟩)
 go_ret
 exact⟨rfl,hr⟩
theorem Z4i(B:Nat)(w:World)(G:Eg)(V:Ev)(bl:List Nat)(h:EAt B w G V bl)(hg:V.P.gone=false):
  Calls prog 35 #[.pointer (some ⟨G.s,0,none⟩)] w (Ans w.heap.size 0 fun w'=>Below w.heap.size w w'):=by
 have c2:=h.scell.cell (j:=2) rfl
 have cm:=h.mcell h.nle.1
 have hn:=h.nle.1
 obtain⟨x0,af⟩:w.cell? ⟨G.xs 0,0,none⟩=some (.pointer (some ⟨G.ds 0,0,none⟩))/\∃L,PD B w G.p (G.ds 0) 800 V.P (V.Ds 0) L:=by
  obtain⟨Ls,Os,rfl,h⟩:=h
  refine⟨?_,_,h.pd 0 h.n1⟩
  have ae:=h.at_ 0 h.n1
  cases hM:V.Ms 0 with
  |none=>rw[hM] at ae;obtain⟨sv,lf,inn,_,hr,_⟩:=ae;exact hr.cell (j:=0) rfl
  |some S=>rw[hM] at ae;obtain⟨s,j,_,hr,_⟩:=ae;exact hr.cell (j:=0) rfl
 obtain⟨L,af⟩:=af
 have aj:(0:Int)<(G.n:Int):=by omega
 have hr:=PD.read af 0
 have ah:(rdy V.P (V.Ds 0) 0==10)=V.P.gone:=by
  unfold rdy
  cases V.P.gone<;>cases (V.Ds 0).dead<;>simp
  split<;>simp
 obtain⟨rc,ag⟩:∃rc,rdy V.P (V.Ds 0) 0=rc:=⟨_,rfl⟩
 obtain⟨tx,ai⟩:∃tx,Z0u V.P (V.Ds 0) 0=tx:=⟨_,rfl⟩
 rw[ag,ai] at hr
 rw[ag] at ah
 have H:=Zka (Zkb hr True.intro)
 clear h af hr ag ai
 rw[hg] at ah
 clear hg
 go_enter func35,ntmps35
 go_wp2_with (first
  |(go_at_call 73;refine H.out.1.mono ?_;rintro e w1 ⟨ev,rfl,he,hb⟩;have S1:=Zka (Zkb he hb);clear he hb)
  |(go_at_call 19;refine(QM w.heap.size rc 10 _ _ S1.out.1 (by decide)).mono ?_;rw[ah];rintro e w2 ⟨rfl,rfl⟩))
 go_ret
 exact⟨_,rfl,Zu.nil _ _,S1.out.2⟩
theorem EAt.mem{B:Nat}{w:World}{G:Eg}{V:Ev}{bl:List Nat}(h:EAt B w G V bl){i:Nat}(hi:i<G.n){S:Sto}(hM:V.Ms i=some S):∃s,Row w (G.xs i) 91 [.pointer (some ⟨G.ds i,0,none⟩),.pointer (some ⟨s,0,none⟩),.int .i64 (V.Ds i).life,.bool true]/\Yg w s (G.ds i) S/\(V.Ds i).dead=false/\∃L,PD B w G.p (G.ds i) 800 V.P (V.Ds i) L:=by
 obtain⟨Ls,Os,rfl,h⟩:=h
 have ae:=h.at_ i hi
 rw[hM] at ae
 obtain⟨s,j,_,hr,hs,hd⟩:=ae
 exact⟨s,hr,hs.at_,hd,_,h.pd i hi⟩
theorem Z4H{P:Pw}{D:Dk}(hg:P.gone=false)(hd:D.dead=false):Xr P D=0:=by unfold Xr;rw[hg,hd];rfl
section
variable{B p d:Nat}{P:Pw}{D:Dk}{L:List Nat}{s:Nat}{S:Sto}{w:World}{K:List Bs}{E:Nat}
theorem ZgB(h:PD B w p d 800 P D L)(af:Yg w s d S)(hD:Q8 K E D S)(hg:P.gone=false)(hd:D.dead=false){name v:Bs}(hn:name.length<=1000000)(hT:stR D.reads S.dir name=some (some v)):
  Calls prog 157 #[.pointer (some ⟨s,0,none⟩),.string (str name)] w fun r w'=>r=.returned (.tuple #[.string (str v),.nilIface])/\Below w.heap.size w w':=by
 unfold stR at hT
 rw[Option.map_eq_some_iff] at hT
 obtain⟨e,he,hv⟩:=hT
 unfold Z4g at hv
 split at hv
 ·rename_i hc
  simp only[ZjJ] at hv
  refine(ZbD B p d 800 P D L s S name e 100 w h af hn he (hD.runs he).1 (Z4H hg hd)).mono ?_
  have hc':Wq (D.value e)=e.sum:=hc
  have ag:D.value e=v:=hv
  rw[if_pos hc',if_pos hc',ag]
  rintro r w' ⟨ev,rfl,ae,hb⟩
  rw[ae.zero]
  exact⟨rfl,hb⟩
 ·cases hv
theorem Zib(h:PD B w p d 800 P D L)(ag:Yg w s d S)(hD:Q8 K E D S)(hg:P.gone=false)(hd:D.dead=false){name:Bs}(hn:name.length<=1000000)(hT:stR D.reads S.dir name=none∨stR D.reads S.dir name=some none):
  Calls prog 157 #[.pointer (some ⟨s,0,none⟩),.string (str name)] w fun r w'=>∃b,r=.returned (.tuple #[.string ⟨#[]⟩,.iface 139 (.pointer (some ⟨b,0,none⟩))])/\Zu w' w.heap.size (if S.dir.get name=none then 13 else 14) (.iface 139 (.pointer (some ⟨b,0,none⟩)))/\Below w.heap.size w w':=by
 cases ae:S.dir.get name with
 |none=>rw[if_pos rfl];exact ZeI s d S name w ag hn ae
 |some e=>
  rw[if_neg (by simp)]
  have hc:¬Wq (D.value e)=e.sum:=by
   rcases hT with hT|hT
   ·rw[stR,ae] at hT;cases hT
   ·rw[stR,ae] at hT
    simp only[Option.map_some,ZjJ] at hT
    unfold Z4g at hT
    split at hT
    ·cases hT
    ·rename_i hc;exact hc
  refine(ZbD B p d 800 P D L s S name e 100 w h ag hn ae (hD.runs ae).1 (Z4H hg hd)).mono ?_
  rw[if_neg hc,if_neg hc]
  rintro r w' ⟨ev,rfl,af,hb⟩
  rcases af.split with ⟨h0,_⟩|⟨_,b,rfl⟩
  ·cases h0
  ·exact⟨b,rfl,af,hb⟩
theorem Z3s(h:PD B w p d 800 P D L)(ae:Yg w s d S)(hD:Q8 K E D S)(hg:P.gone=false)(hd:D.dead=false){under name:Bs}{l:List Bs}(hu:under.length<=1000000)(hn:name.length<=220)(af:(Zv l).length<=9000)(hT:stR D.reads S.dir under=some (some (Yq name (Zv l)))):
  Calls prog 110 #[.pointer (some ⟨s,0,none⟩),.string (str under),.string (str name)] w fun e w'=>∃a cap,e=.returned (.tuple #[.slice a l.length cap,.nilIface])/\w'.ownsRow w.heap.size 9 1 (.slice a l.length cap) l.length (Z6 (l.map str))/\Below w.heap.size w w':=
 Zes s under name l w (ZgB h ae hD hg hd hu hT) hn af
theorem Zer(h:PD B w p d 800 P D L)(ae:Yg w s d S)(hD:Q8 K E D S)(hg:P.gone=false)(hd:D.dead=false){under name:Bs}(hu:under.length<=1000000)(hT:stR D.reads S.dir under=none∨stR D.reads S.dir under=some none):
  Calls prog 110 #[.pointer (some ⟨s,0,none⟩),.string (str under),.string (str name)] w fun e w'=>∃b,e=.returned (.tuple #[.slice none 0 0,.iface 139 (.pointer (some ⟨b,0,none⟩))])/\Zu w' w.heap.size (if S.dir.get under=none then 13 else 14) (.iface 139 (.pointer (some ⟨b,0,none⟩)))/\Below w.heap.size w w':=
 ZcK s under name _ (by split<;>decide) w (Zib h ae hD hg hd hu hT)
end
theorem Ze3(b s k m i g:Nat)(name:Bs)(w:World)(hk:k<=4294967295)(hm:m<=4294967295)(hi:i<=4294967295)(hg:g<=4294967295)(c0:w.cell? ⟨b,0,none⟩=some (.int .i64 (k:Int)))(c1:w.cell? ⟨b,1,none⟩=some (.int .i64 (m:Int)))
  (ho:Calls prog 110 #[.pointer (some ⟨s,0,none⟩),.string (str name),.string (str nmC)] w fun e w'=>∃a cap,e=.returned (.tuple #[.slice a 5 cap,.nilIface])/\w'.ownsRow w.heap.size 9 1 (.slice a 5 cap) 5 (Z6 ([Z9V,Z4 k,Z4 m,Z4 i,Z4 g].map str))/\Below w.heap.size w w'):
  Calls prog 63 #[.pointer (some ⟨b,0,none⟩),.pointer (some ⟨s,0,none⟩),.string (str name),.int .i64 (i:Int)] w fun e w'=>e=.returned (.int .i64 (g:Int))/\Below w.heap.size w w':=by
 have ah:YI (s32 g).data.toList=g:=by
  have h9:=Z4F g []
  rw[Zk7] at h9
  have e9:(s32 g).data.toList=Z4 g:=rfl
  rw[e9,h9];omega
 have ak:(s32 g).size=4:=Qa g
 have HO:=Zka ho
 have HG:=Zka (Zkb ah ak)
 have ai:(str nmC)=⟨#[33]⟩:=rfl
 rw[ai] at HO
 clear ho ah ak ai
 go_enter func63,ntmps63
 go_wp2_with (go_at_call 110;refine HO.out.mono ?_;rintro e w1 ⟨a,cap,rfl,aj,af⟩;obtain⟨gl,al,sp,hv,ax,au,aw,hr⟩:=Qs aj (by omega);injection hv with hv1 hv2 hv3;subst hv1;have S1:=Zka (Zkb hr af);clear aj af hr hv3)
 have d0:w1.cell? ⟨gl,0,none⟩=some (.string ⟨#[115,101,116]⟩):=S1.out.1.cell (j:=0) rfl
 have d1:w1.cell? ⟨gl,1,none⟩=some (.string (s32 k)):=S1.out.1.cell (j:=1) rfl
 have d2:w1.cell? ⟨gl,2,none⟩=some (.string (s32 m)):=S1.out.1.cell (j:=2) rfl
 have d3:w1.cell? ⟨gl,3,none⟩=some (.string (s32 i)):=S1.out.1.cell (j:=3) rfl
 have d4:w1.cell? ⟨gl,4,none⟩=some (.string (s32 g)):=S1.out.1.cell (j:=4) rfl
 have e0:w1.cell? ⟨b,0,none⟩=some (.int .i64 (k:Int)):=(S1.out.2.cell (ZjG w _ c0)).trans c0
 have e1:w1.cell? ⟨b,1,none⟩=some (.int .i64 (m:Int)):=(S1.out.2.cell (ZjG w _ c1)).trans c1
 have ae:∀A C:World,(A.cell? ⟨gl,0,none⟩=some (.string ⟨#[115,101,116]⟩)/\A.cell? ⟨gl,1,none⟩=some (.string (s32 k))/\A.cell? ⟨gl,2,none⟩=some (.string (s32 m))/\A.cell? ⟨gl,3,none⟩=some (.string (s32 i))/\A.cell? ⟨gl,4,none⟩=some (.string (s32 g))/\A.cell? ⟨b,0,none⟩=some (.int .i64 (k:Int))/\A.cell? ⟨b,1,none⟩=some (.int .i64 (m:Int))/\Below w1.heap.size w1 A)->Below A.heap.size A C->(C.cell? ⟨gl,0,none⟩=some (.string ⟨#[115,101,116]⟩)/\C.cell? ⟨gl,1,none⟩=some (.string (s32 k))/\C.cell? ⟨gl,2,none⟩=some (.string (s32 m))/\C.cell? ⟨gl,3,none⟩=some (.string (s32 i))/\C.cell? ⟨gl,4,none⟩=some (.string (s32 g))/\C.cell? ⟨b,0,none⟩=some (.int .i64 (k:Int))/\C.cell? ⟨b,1,none⟩=some (.int .i64 (m:Int))/\Below w1.heap.size w1 C):=by
  rintro A C ⟨h0,h1,h2,h3,h4,h5,h6,h7⟩ hb
  have key:∀{p:Addr} {v:Value},A.cell? p=some v->C.cell? p=some v:=fun h=>(hb.cell (ZjG A _ h)).trans h
  exact⟨key h0,key h1,key h2,key h3,key h4,key h5,key h6,h7.trans (hb.mono h7.size)⟩
 have hs0:=ae w1 w1.drew ⟨d0,d1,d2,d3,d4,e0,e1,Zk9⟩ (Zk9.drew)
 have HK:=Zka ae
 clear ae c0 c1
 go_wp2
 go_region_held3 (fun x=>x.cell? ⟨gl,0,none⟩=some (.string ⟨#[115,101,116]⟩)/\x.cell? ⟨gl,1,none⟩=some (.string (s32 k))/\x.cell? ⟨gl,2,none⟩=some (.string (s32 m))/\x.cell? ⟨gl,3,none⟩=some (.string (s32 i))/\x.cell? ⟨gl,4,none⟩=some (.string (s32 g))/\x.cell? ⟨b,0,none⟩=some (.int .i64 (k:Int))/\x.cell? ⟨b,1,none⟩=some (.int .i64 (m:Int))/\Below w1.heap.size w1 x) (first|exact hs0|(exact HK.out _ _ (by assumption) (Zk9.alloc Zk8 _))|(exact HK.out _ _ (by assumption) (by assumption)))
  (first
   |(go_at_call 80;refine(Z1O _ (by assumption) _).mono ?_;rintro e w8 ⟨rfl,aq⟩))
 rename_i hHeld
 obtain⟨-, -, -, -,h4, -, -,h7⟩:=hHeld
 have hB:=Zka (S1.out.2.trans (h7.mono S1.out.2.size))
 clear h7
 go_wp2_with (go_at_call 111;refine(Z5w (s32 g) HG.out.2 _).mono ?_;rw[HG.out.1];rintro e w9 ⟨rfl,ag⟩;have S9:=Zka (hB.out.trans (ag.mono hB.out.size));clear ag)
 go_ret
 exact⟨rfl,S9.out⟩
theorem Zfz(n:Bs):Lib.hasPrefix n [115]=isS n:=by
 unfold Lib.hasPrefix isS
 cases n with
 |nil=>rfl
 |cons a r=>simp[List.isPrefixOf,eq_comm];exact BEq.comm
theorem Z7h(d:Dir):(d.names.filter fun n=>Lib.hasPrefix n [115])=d.names.filter isS:=List.filter_congr fun n _=>Zfz n
theorem Zju(n:Bs)(h:1<=n.length):(⟨#[100]⟩:ByteArray)++(str n).extract 1 (str n).size=str (100::n.drop 1):=by
 apply Yc
 rw[data_append,Lib.extract_to_end,Ze,Ze];rfl
theorem ZhF(key:Bs):(⟨#[100]⟩:ByteArray)++str key=str (nmD key):=by
 apply Yc
 rw[data_append,Ze,Ze];rfl
theorem Z37(key:Bs)(h:key.length<=1000000):∀W,(Op.stringOp .add ⟨#[100]⟩ (str key)).run prog W=.ok (.string (str (nmD key))) W:=fun W=>by
 rw[<-ZhF];exact run_string_add_sum _ ⟨#[100]⟩ (str key) (by have h1:(⟨#[100]⟩:ByteArray).size=1:=rfl;rw[Z5];omega)
structure SeS(s d:Nat)(S:Sto)(w:World)(lv gv:Value)(l gone:List Bs)(av:Value)(acts:List Ac)(wr:World):Prop where
 st:Yg wr s d S
 own:Z0e wr w.heap.size av acts
 ls:Strs wr w.heap.size lv l
 gs:∃a cap,gv=.slice a gone.length cap/\Zw w a (gone.map str)/\∀g o,a=some ⟨g,o,none⟩->g<w.heap.size
 bel:Below w.heap.size w wr
section
variable{s d:Nat}{S:Sto}{w wr:World}{lv gv av:Value}{l gone:List Bs}{acts:List Ac}
theorem SeS.after(h:SeS s d S w lv gv l gone av acts wr){w':World}(hb:Below wr.heap.size wr w'):SeS s d S w lv gv l gone av acts w':=
 ⟨h.st.after hb,QK h.own hb,h.ls.after hb,h.gs,h.bel.trans (hb.mono h.bel.size)⟩
theorem SeS.next(h:SeS s d S w lv gv l gone av acts wr){w':World}{ah:Value}{ae:List Ac}(ho:Z0e w' w.heap.size ah ae)(hf:Fr (ZE av) wr w'):SeS s d S w lv gv l gone ah ae w':=by
 have hb:Below w.heap.size w w':=h.bel.trans (hf.below h.bel.size (WC h.own))
 have ai:=Qw h.own
 have ag:∀{g:Nat} {e:TypeId} {x:List Value},Row wr g e x->e≠151->g∉ZE av:=fun hr he hm=>by
  obtain⟨x',af⟩:=ai _ hm
  exact Row.ne hr af he rfl
 obtain⟨j,b,uv,r1,r2,r3,g,hv,r4⟩:=h.st
 refine⟨⟨j,b,uv,r1.fr hf (ag r1 (by decide)),Row.fr r2 hf (ag r2 (by decide)),r3.fr hf ?_ (fun k hk x hx=>ag hx (by decide) hk),g,hv,r4.fr hf (ag r4 (by decide))⟩,ho,h.ls.fr hf (fun g hg hm=> ?_),h.gs,hb⟩
 ·obtain⟨fv,m1,_⟩:=r3
  obtain⟨es,cl,aj⟩:=m1.block
  intro hm
  obtain⟨x',f,af,_⟩:=ai _ hm
  rw[aj] at af;cases af
 ·obtain⟨x',af⟩:=Qw h.ls g (ZG.2 hg)
  exact ag af (by decide) hm
theorem SeS.gone_cell(h:SeS s d S w lv gv l gone av acts wr){k:Nat}(hk:k<gone.length):∃g o cap,gv=.slice (some ⟨g,o,none⟩) gone.length cap/\wr.cell? ⟨g,o+k,none⟩=some (.string (str gone[k])):=by
 obtain⟨a,cap,rfl,h1,h2⟩:=h.gs
 obtain⟨g,o,rfl,hc⟩:=h1 k (by simpa using hk)
 refine⟨g,o,cap,rfl,?_⟩
 rw[h.bel.cell (p:=⟨g,o+k,none⟩) (h2 g o rfl),hc]
 simp
theorem SeS.l_cell(h:SeS s d S w lv gv l gone av acts wr){k:Nat}(hk:k<l.length):∃g cap,lv=.slice (some ⟨g,0,none⟩) l.length cap/\wr.cell? ⟨g,k,none⟩=some (.string (str l[k])):=by
 obtain⟨g,cap,sp,hv,_,_,_,hr⟩:=Qs h.ls (by omega)
 refine⟨g,cap,hv,hr.cell ?_⟩
 rw[ZjH (by simp[Z6];omega)]
 simp[Z6,hk]
end
theorem Zd6(s d:Nat)(S:Sto)(gv:Value)(gone:List Bs)(w:World)(cw:Yg w s d S)(dm:S.dir.Sorted)(bh:S.dir.length<=100000)(dj:∀n∈S.dir.names,n.length<=1000)(bj:∃a cap,gv=.slice a gone.length cap/\Zw w a (gone.map str)/\∀g o,a=some ⟨g,o,none⟩->g<w.heap.size)(ef:gone.length<=1000)(dc:∀x∈gone,x.length<=1000)
  (bg:∀n e,S.dir.get n=some e->e.runs≠[]/\e.runs.length<=1000000)
  {R:Value->World->Prop} (hC:∀ga na ca w1,Below w.heap.size w w1->Yg w1 s d S->WW w1 ga 0 (Qc S.dir gone)->w.heap.size<=ga->na=(Qc S.dir gone).length->na<=ca->Calls prog 38 #[.pointer (some ⟨s,0,none⟩),.slice (some ⟨ga,0,none⟩) na ca] w1 fun e w'=>∃ev,e=.returned ev/\R ev w'):
  Calls prog 41 #[.pointer (some ⟨s,0,none⟩),gv] w fun e w'=>∃ev,e=.returned ev/\R ev w':=by
 have dx:(S.dir.names.filter isS).length<=100000:=by
  have h1:=List.length_filter_le isS S.dir.names
  have h2:S.dir.names.length=S.dir.length:=ZjN ..
  omega
 have cu:∀n∈S.dir.names.filter isS,1<=n.length/\n.length<=1000:=fun n hn=>by
  obtain⟨h1,h2⟩:=List.mem_filter.1 hn
  refine⟨?_,dj n h1⟩
  obtain⟨x,rfl⟩:=(Z09 n).1 h2
  simp[nmS]
 have ae:=Z1w s d S [115] w cw dm bh
 rw[Z7h] at ae
 have hA:Qc S.dir gone=(S.dir.names.filter isS).map mv1++((gone.filter fun key=>(S.dir.get (nmD key)).isSome).map fun key=>dr1 (nmD key))++[⟨3,nmN,nmC,[]⟩,dr1 nmT]:=rfl
 obtain⟨l,hl⟩:∃l,S.dir.names.filter isS=l:=⟨_,rfl⟩
 rw[hl] at dx cu ae hA
 obtain⟨ga,ai,rfl,de⟩:=bj
 have H:=Zka (Zkb cw (Zkb ae (Zkb de (Zkb hC hA))))
 have HS:=Zka (Zkb cu (Zkb dc bg))
 clear cw ae de hC hA cu dc bg dm bh dj hl
 go_enter func41,ntmps41
 go_wp2_with (go_at_call 96;refine H.out.2.1.mono ?_;rintro e w1 ⟨v,rfl,ct,cz⟩;obtain⟨la,lc,rfl⟩:=Wx ct;have S1:=Zka (Zkb ct cz);clear ct cz)
 have I0:SeS s d S w (.slice la l.length lc) (.slice ga gone.length ai) l gone (.slice none 0 0) [] w1:=⟨H.out.1.after S1.out.2,World.ownsRow_nil _ _ _ _,S1.out.1,⟨ga,ai,rfl,H.out.2.2.1⟩,S1.out.2⟩
 have dt:=Zka I0
 clear I0
 go_loopw [7,24] (fun av kv wr=>∃k:Nat,k<=l.length/\kv=.int .i64 k/\SeS s d S w (.slice la l.length lc) (.slice ga gone.length ai) l gone av ((l.take k).map mv1) wr) (fun _ kv _=>l.length- (intOf kv).toNat)
 case atStart=>exact⟨0,by omega,rfl,dt.out⟩
 case round=>
  obtain⟨k,hk,rfl,hS⟩:=hrel
  have ag:=Zka hS
  by_cases ax:k<l.length
  ·obtain⟨g,cap,hv,ah⟩:=hS.l_cell ax
   injection hv with hv1 hv2 az
   subst hv1 az
   clear hv2
   have hx:=HS.out.1 _ (ZjW ax)
   obtain⟨x,ay⟩:∃x,l[k]=x:=⟨_,rfl⟩
   have dp:(l.take (k+1)).map mv1=(l.take k).map mv1++[mv1 x]:=by rw[ZjK ax,ay];simp
   have dq:((l.take k).map mv1).length<=1000000:=by rw[ZjN,ZjO];omega
   rw[ay] at ah hx
   have ee:∀W,(Instr.slice 9 (.string (str x)) (some (.int .i64 1)) none none).run prog W=.ok (.string ((str x).extract 1 (str x).size)) W:=fun W=>Y4 9 underlying9 (str x) 1 (by rw[Z5];omega) W
   have dw:((str x).extract 1 (str x).size).size<=1000:=by rw[ByteArray.size_extract,Z5];omega
   have aj:∀W,(Op.stringOp .add ⟨#[100]⟩ ((str x).extract 1 (str x).size)).run prog W=.ok (.string (str (100::x.drop 1))) W:=fun W=>by rw[<-Zju x hx.1];exact run_string_add_sum _ ⟨#[100]⟩ _ (by have h1:(⟨#[100]⟩:ByteArray).size=1:=rfl;omega)
   obtain⟨X,hX⟩:∃X,(str x).extract 1 (str x).size=X:=⟨_,rfl⟩
   rw[hX] at ee aj dw
   obtain⟨TO,bu⟩:∃TO,str (100::x.drop 1)=TO:=⟨_,rfl⟩
   rw[bu] at aj
   have dr:((l.take k).map mv1).length=k:=by rw[ZjN,ZjO];omega
   have HT:=Zka (Zkb dp (Zkb dq (Zkb bu dr)))
   have au:Row (wr.alloc (.cells #[.int .i64 3,.string (str x),.string TO,.string ⟨#[]⟩] 151)) wr.heap.size 151 (AcC (mv1 x)):=by rw[<-bu];exact Row.new wr _ _
   have S2:=ag.out.after ((Below.refl wr.heap.size wr).alloc Zk8 (.cells #[.int .i64 3,.string (str x),.string TO,.string ⟨#[]⟩] 151))
   have af:=Zka (Zkb au S2)
   clear au S2 hS ay dp dq hX hx bu dr
   go_wp2_with (at_builtin;refine Z0B _ rfl (.tmp 28) (.tmp 34) rfl w.heap.size _ ((l.take k).map mv1) rfl af.out.2.own wr.heap.size (mv1 x) rfl af.out.1 af.out.2.bel.size HT.out.2.1 ?_;intro g2 aw w2 ho hf _ _ _;have S3:=Zka (af.out.2.next ho hf);clear ho hf)
   go_roundw
   case measure=>simp[intOf];omega
   case rel=>exact⟨k+1,by omega,by go_num,by rw[HT.out.1];have h9:=S3.out;rw[HT.out.2.2.2] at h9;exact h9⟩
  ·obtain rfl:k=l.length:=by omega
   rw[Zk5] at ag
   clear hS
   go_wp2_with fail
   go_loopw [7,39] (fun av kv wr=>∃k:Nat,k<=gone.length/\kv=.int .i64 k/\SeS s d S w (.slice la l.length lc) (.slice ga gone.length ai) l gone av (l.map mv1++(((gone.take k).filter fun key=>(S.dir.get (nmD key)).isSome).map fun key=>dr1 (nmD key))) wr) (fun _ kv _=>gone.length- (intOf kv).toNat)
   case atStart=>exact⟨0,by omega,rfl,by simpa using ag.out⟩
   case round=>
    obtain⟨k,hk,rfl,hS⟩:=hrel
    have ag:=Zka hS
    by_cases ax:k<gone.length
    ·obtain⟨g,o,cap,hv,ah⟩:=hS.gone_cell ax
     injection hv with hv1 hv2 az
     subst hv1 az
     clear hv2
     have hx:=HS.out.2.1 _ (ZjW ax)
     obtain⟨x,ay⟩:∃x,gone[k]=x:=⟨_,rfl⟩
     obtain⟨A0,ak⟩:∃A0,l.map mv1++(((gone.take k).filter fun key=>(S.dir.get (nmD key)).isSome).map fun key=>dr1 (nmD key))=A0:=⟨_,rfl⟩
     have cy:l.map mv1++(((gone.take (k+1)).filter fun key=>(S.dir.get (nmD key)).isSome).map fun key=>dr1 (nmD key))=A0++(if(S.dir.get (nmD x)).isSome then[dr1 (nmD x)] else[]):=by
      rw[<-ak,ZjK ax,ay,List.filter_append,ZjZ,ZjL]
      cases h:(S.dir.get (nmD x)).isSome<;>simp[h]
     have b9:A0.length<=1000000:=by
      rw[<-ak,ZjI,ZjN,ZjN]
      have:=List.length_filter_le (fun key=>(S.dir.get (nmD key)).isSome) (gone.take k)
      rw[ZjO] at this
      omega
     rw[ak] at ag
     rw[ay] at ah hx
     have aj:=Z37 x (by omega)
     have dh:(nmD x).length<=1000000:=by simp[nmD];omega
     have HT:=Zka (Zkb cy (Zkb b9 dh))
     clear hS ay ak cy b9 hx dh
     cases bm:S.dir.get (nmD x) with
     |none=>
      go_wp2_with (go_at_call 97;refine(Z11 s d S (nmD x) _ ag.out.st HT.out.2.2 bm).mono ?_;rintro e w3 ⟨b,rfl,cn,bf⟩;have R3:=Zka (ag.out.after bf);clear bf cn aj)
      go_roundw
      case measure=>simp[intOf];omega
      case rel=>exact⟨k+1,by omega,by go_num,by rw[HT.out.1,bm];simpa using R3.out⟩
     |some e=>
      obtain⟨dy,dz⟩:=HS.out.2.2 _ _ bm
      have HG:=Zka bm
      clear bm
      go_wp2_with (first
       |(go_at_call 97;refine(Z12 s d S (nmD x) e _ ag.out.st HT.out.2.2 HG.out dy dz).mono ?_;rintro e w3 ⟨v,rfl,cn,bf⟩;have R3:=Zka (ag.out.after bf);have au:Row (w3.alloc (.cells #[.int .i64 2,.string (str (nmD x)),.string ⟨#[]⟩,.string ⟨#[]⟩] 151)) w3.heap.size 151 (AcC (dr1 (nmD x))):=Row.new w3 _ _;have S2:=R3.out.after ((Below.refl w3.heap.size w3).alloc Zk8 (.cells #[.int .i64 2,.string (str (nmD x)),.string ⟨#[]⟩,.string ⟨#[]⟩] 151));have af:=Zka (Zkb au S2);clear au S2 bf cn)
       |(at_builtin;refine Z0B _ rfl (.tmp 52) (.tmp 56) rfl w.heap.size _ A0 rfl af.out.2.own w3.heap.size (dr1 (nmD x)) rfl af.out.1 af.out.2.bel.size HT.out.2.1 ?_;intro g2 aw w4 ho hf _ _ _;have S3:=Zka (af.out.2.next ho hf);clear ho hf))
      go_roundw
      case measure=>simp[intOf];omega
      case rel=>exact⟨k+1,by omega,by go_num,by rw[HT.out.1,HG.out];exact S3.out⟩
    ·obtain rfl:k=gone.length:=by omega
     rw[Zk5] at ag
     obtain⟨A0,ak⟩:∃A0,l.map mv1++((gone.filter fun key=>(S.dir.get (nmD key)).isSome).map fun key=>dr1 (nmD key))=A0:=⟨_,rfl⟩
     have b9:A0.length<=1000000:=by
      rw[<-ak,ZjI,ZjN,ZjN]
      have:=List.length_filter_le (fun key=>(S.dir.get (nmD key)).isSome) gone
      omega
     have bz:=H.out.2.2.2.2
     rw[ak] at ag bz
     have au:Row (wr.alloc (.cells #[.int .i64 3,.string ⟨#[110]⟩,.string ⟨#[33]⟩,.string ⟨#[]⟩,.int .i64 2,.string ⟨#[116]⟩,.string ⟨#[]⟩,.string ⟨#[]⟩] 151)) wr.heap.size 151 (AcC ⟨3,nmN,nmC,[]⟩++AcC (dr1 nmT)):=Row.new wr _ _
     have S2:=ag.out.after ((Below.refl wr.heap.size wr).alloc Zk8 (.cells #[.int .i64 3,.string ⟨#[110]⟩,.string ⟨#[33]⟩,.string ⟨#[]⟩,.int .i64 2,.string ⟨#[116]⟩,.string ⟨#[]⟩,.string ⟨#[]⟩] 151))
     have af:=Zka (Zkb au (Zkb S2 (Zkb b9 bz)))
     clear au S2 hS ak b9 bz
     go_wp2_with (at_builtin;refine Zab _ rfl (.tmp 59) (.tmp 62) rfl w.heap.size _ A0 rfl af.out.2.1.own wr.heap.size ⟨3,nmN,nmC,[]⟩ (dr1 nmT) rfl af.out.1 af.out.2.1.bel.size af.out.2.2.1 ?_;intro g2 aw w4 ho hf _ _ df;have S3:=af.out.2.1.next ho hf;have S4:=Zka (Zkb S3 df);clear ho hf S3 df)
     obtain⟨g3,du,az,cr,cj,aq⟩:=S4.out.1.own.row (by simp)
     have hlen:(A0++[(⟨3,nmN,nmC,[]⟩:Ac),dr1 nmT]).length=A0.length+2:=by simp
     rw[hlen] at az cj
     injection az with hv31 hv32 hv33
     have bq:=congrArg (fun(a:Option Addr)=>a.map Addr.block) hv31
     simp only[Option.map_some,ZjJ] at bq
     subst bq hv33
     have al:=H.out.2.2.2.1 g2 (A0.length+2) aw w4 S4.out.1.bel S4.out.1.st (by rw[af.out.2.2.2];exact aq) S4.out.2 (by rw[af.out.2.2.2,hlen]) cj
     have HC:=Zka al
     clear al aq cj cr hlen hv31 hv32
     refine HC.out.mono ?_
     rintro e w5 ⟨ev,rfl,hR⟩
     have HR:=Zka hR
     clear hR
     go_wp2
     go_ret
     exact⟨ev,rfl,HR.out⟩
theorem Z83(b ms q s k m i:Nat)(cap:Nat)(n:Nat)(key v:Bs)(w:World)(ah:1<=k)(cn:k+m<=16)(hi:i<n)(hn:n=k+m)(hv:v.length<=200)(cj:key.length<=200)(c0:w.cell? ⟨b,0,none⟩=some (.int .i64 (k:Int)))(c2:w.cell? ⟨b,2,none⟩=some (.slice (some ⟨ms,0,none⟩) n cap))(cm:w.cell? ⟨ms,i,none⟩=some (.pointer (some ⟨q,0,none⟩)))(c1:w.cell? ⟨q,1,none⟩=some (.pointer (some ⟨s,0,none⟩)))
  (ho:Calls prog 110 #[.pointer (some ⟨s,0,none⟩),.string (str (nmD key)),.string (str (nmD key))] w fun e w'=>∃a cap,e=.returned (.tuple #[.slice a 3 cap,.nilIface])/\w'.ownsRow w.heap.size 9 1 (.slice a 3 cap) 3 (Z6 ([Z4 i,Z4 v.length,shT k m v i].map str))/\Below w.heap.size w w'):
  Calls prog 100 #[.pointer (some ⟨b,0,none⟩),.int .i64 (i:Int),.string (str key)] w fun e w'=>e=.returned (.tuple #[.string (str (shT k m v i)),.int .i64 (v.length:Int),.nilIface])/\Below w.heap.size w w':=by
 have b9:=Z37 key (by omega)
 have bu:(i:Int)<(n:Int):=by omega
 have bz:i<=4294967295:=by omega
 have ag:YI (s32 v.length).data.toList=v.length:=by
  have h9:=Z4F v.length []
  rw[Zk7] at h9
  have e9:(s32 v.length).data.toList=Z4 v.length:=rfl
  rw[e9,h9];omega
 have aj:(s32 v.length).size=4:=Qa _
 have ax:str (shT k m v i)=(Zl k m (str v)).getD i ⟨#[]⟩:=rfl
 have bf:(str (shT k m v i)).size=ZR k v.length:=by
  rw[ax,WA k m (str v) ah i (by omega),Z5]
 have al:=Z2T k v.length ah
 obtain⟨X,hX⟩:∃X,str (shT k m v i)=X:=⟨_,rfl⟩
 obtain⟨z,hz⟩:∃z,ZR k v.length=z:=⟨_,rfl⟩
 obtain⟨vl,ae⟩:∃vl,v.length=vl:=⟨_,rfl⟩
 rw[ae] at hz
 rw[hX,ae,hz] at bf
 rw[ae,hz] at al
 have aw:Z6 ([Z4 i,Z4 v.length,shT k m v i].map str)=[.string (s32 i),.string (s32 vl),.string X]:=by rw[<-hX,<-ae];rfl
 rw[aw] at ho
 rw[ae] at ag aj hv⊢
 rw[hX]
 have ak:=Z0M k vl
 rw[hz] at ak
 have HO:=Zka ho
 have HG:=Zka (Zkb ag (Zkb aj ak))
 have c8:decide ((vl:Int)>8000)=false:=by simp;omega
 have cr:((z:Int) !=(X.size:Int))=false:=by simp;omega
 clear ho ag aj ak ax hX hz ae aw
 go_enter func100,ntmps100
 go_wp2_with (go_at_call 110;refine HO.out.mono ?_;rintro e w1 ⟨a,az,rfl,au,aq⟩;obtain⟨gl,ay,sp,bg,bq,bj,bm,hr⟩:=Qs au (by omega);injection bg with hv1 hv2 hv3;subst hv1;have S1:=Zka (Zkb hr aq);clear au aq hr hv3)
 have d0:w1.cell? ⟨gl,0,none⟩=some (.string (s32 i)):=S1.out.1.cell (j:=0) rfl
 have d1:w1.cell? ⟨gl,1,none⟩=some (.string (s32 vl)):=S1.out.1.cell (j:=1) rfl
 have d2:w1.cell? ⟨gl,2,none⟩=some (.string X):=S1.out.1.cell (j:=2) rfl
 have e0:w1.cell? ⟨b,0,none⟩=some (.int .i64 (k:Int)):=(S1.out.2.cell (ZjG w _ c0)).trans c0
 have ai:∀A C:World,(A.cell? ⟨gl,0,none⟩=some (.string (s32 i))/\A.cell? ⟨gl,1,none⟩=some (.string (s32 vl))/\A.cell? ⟨gl,2,none⟩=some (.string X)/\A.cell? ⟨b,0,none⟩=some (.int .i64 (k:Int))/\Below w1.heap.size w1 A)->Below A.heap.size A C->(C.cell? ⟨gl,0,none⟩=some (.string (s32 i))/\C.cell? ⟨gl,1,none⟩=some (.string (s32 vl))/\C.cell? ⟨gl,2,none⟩=some (.string X)/\C.cell? ⟨b,0,none⟩=some (.int .i64 (k:Int))/\Below w1.heap.size w1 C):=by
  rintro A C ⟨h0,h1,h2,h3,h7⟩ hb
  have key:∀{p:Addr} {v:Value},A.cell? p=some v->C.cell? p=some v:=fun h=>(hb.cell (ZjG A _ h)).trans h
  exact⟨key h0,key h1,key h2,key h3,h7.trans (hb.mono h7.size)⟩
 have hs0:=ai w1 w1.drew ⟨d0,d1,d2,e0,Zk9⟩ (Zk9.drew)
 have HK:=Zka ai
 clear ai c0 c1 c2 cm
 go_wp2
 go_region_held3 (fun x=>x.cell? ⟨gl,0,none⟩=some (.string (s32 i))/\x.cell? ⟨gl,1,none⟩=some (.string (s32 vl))/\x.cell? ⟨gl,2,none⟩=some (.string X)/\x.cell? ⟨b,0,none⟩=some (.int .i64 (k:Int))/\Below w1.heap.size w1 x) (first|exact hs0|(exact HK.out _ _ (by assumption) (Zk9.alloc Zk8 _))|(exact HK.out _ _ (by assumption) (by assumption)))
  (first
   |(go_at_call 80;refine(Z1O _ (by assumption) _).mono ?_;rintro e w8 ⟨rfl,bh⟩))
 rename_i hHeld
 clear d0 d1 d2 e0
 obtain⟨-,h1,h2,h3,h7⟩:=hHeld
 have hB:=Zka (S1.out.2.trans (h7.mono S1.out.2.size))
 clear h7 hs0
 go_wp2_with (first
  |(go_at_call 111;refine(Z5w (s32 vl) HG.out.2.1 _).mono ?_;rw[HG.out.1];rintro e w9 ⟨rfl,af⟩;have k0:=(af.cell (ZjG _ _ h2)).trans h2;have k3:=(af.cell (ZjG _ _ h3)).trans h3;have S9:=Zka (hB.out.trans (af.mono hB.out.size));clear af h1 h2 h3 hB)
  |(go_at_call 113;refine(HG.out.2.2 _ ah (by omega) (by omega)).mono ?_;rintro e ct ⟨rfl,rfl⟩))
 go_ret3
 exact⟨rfl,S9.out⟩
theorem ZeA(b ms q s i:Nat)(cap n:Nat)(key:Bs)(c:Int)(w:World)(hi:i<n)(ai:key.length<=200)(c2:w.cell? ⟨b,2,none⟩=some (.slice (some ⟨ms,0,none⟩) n cap))(cm:w.cell? ⟨ms,i,none⟩=some (.pointer (some ⟨q,0,none⟩)))(c1:w.cell? ⟨q,1,none⟩=some (.pointer (some ⟨s,0,none⟩)))
  (ho:Calls prog 110 #[.pointer (some ⟨s,0,none⟩),.string (str (nmD key)),.string (str (nmD key))] w fun e w'=>∃b,e=.returned (.tuple #[.slice none 0 0,.iface 139 (.pointer (some ⟨b,0,none⟩))])/\Zu w' w.heap.size c (.iface 139 (.pointer (some ⟨b,0,none⟩)))/\Below w.heap.size w w'):
  Calls prog 100 #[.pointer (some ⟨b,0,none⟩),.int .i64 (i:Int),.string (str key)] w fun e w'=>∃b,e=.returned (.tuple #[.string ⟨#[]⟩,.int .i64 0,.iface 139 (.pointer (some ⟨b,0,none⟩))])/\Zu w' w.heap.size c (.iface 139 (.pointer (some ⟨b,0,none⟩)))/\Below w.heap.size w w':=by
 have ag:=Z37 key (by omega)
 have ah:(i:Int)<(n:Int):=by omega
 have HO:=Zka ho
 clear ho
 go_enter func100,ntmps100
 go_wp2_with (go_at_call 110;refine HO.out.mono ?_;rintro e w1 ⟨q9,rfl,af,ae⟩;have S1:=Zka (Zkb af ae);clear ae af)
 go_ret3
 exact⟨q9,rfl,S1.out.1,S1.out.2⟩
def WE(V:Ev)(key:Bs)(i:Nat):Bool:=match V.Ms i with
 |some S=>(S.dir.get (nmD key)).isSome
 |none=>false
theorem Zf.refl{B:Nat}{w:World}{G:Eg}{V:Ev}{bl:List Nat}(h:EAt B w G V bl):Zf B G bl V w w:=Zf.same h Zk9
def Z8z(V:Ev)(n:Nat):Prop:=∀i,i<n->∀S,V.Ms i=some S->∀m e,S.dir.get m=some e->e.runs≠[]/\e.runs.length<=1000
theorem Z88(B:Nat)(w:World)(G:Eg)(V:Ev)(bl:List Nat)(key:Bs)(h:EAt B w G V bl)(bh:key.length<=200)(ag:Z8z V G.n):
  Calls prog 67 #[.pointer (some ⟨G.s,0,none⟩),.string (str key)] w fun e w'=>e=.returned (.bool ((List.range G.n).any (WE V key)))/\Zf B G bl V w w':=by
 have c2:=h.scell.cell (j:=2) rfl
 have hn:=h.nle
 have ae:=Z37 key (by omega)
 have HC:=Zka ae
 have HR:=Zka ag
 have H0:=Zka (Zf.refl h)
 have ax:(nmD key).length<=1000000:=by simp[nmD];omega
 clear h ae ag
 go_enter func67,ntmps67
 go_wp2
 go_loopw [14] (fun kv wr=>∃k:Nat,k<=G.n/\kv=.int .i64 k/\(∀i,i<k->WE V key i=false)/\Zf B G bl V w wr) (fun kv _=>G.n- (intOf kv).toNat)
 case atStart=>exact⟨0,by omega,rfl,fun i hi=>by omega,H0.out⟩
 case round=>
  obtain⟨k,hk,rfl,ak,hS⟩:=hrel
  by_cases ah:k<G.n
  ·obtain⟨aw,hE,hg,hf⟩:=hS
   have bj:(k:Int)<(G.n:Int):=by omega
   have cm:=hE.mcell ah
   have HE:=Zka (Zkb hE (Zkb hg hf))
   have HN:=Zka ak
   cases hM:V.Ms k with
   |none=>
    have az:WE V key k=false:=by unfold WE;rw[hM]
    have hh:=Z0H B wr G V aw k hE ah hM
    have HH:=Zka (Zkb hh az)
    clear hE hg hf ak hh hM az
    go_wp2_with (go_at_call 34;refine HH.out.1.mono ?_;rintro e w2 ⟨rfl,au⟩;have R2:=Zka (Zf.trans HE.out au);clear au)
    go_roundw
    case measure=>simp[intOf];omega
    case rel=>exact⟨k+1,by omega,by go_num,fun i hi=>by
     by_cases e:i=k
     ·rw[e];exact HH.out.2
     ·exact HN.out i (by omega),R2.out⟩
   |some S=>
    obtain⟨s,al,ay,hd,L,b9⟩:=hE.mem ah hM
    have hh:=JX B wr G V aw k hE ah S hM
    have HH:=Zka (Zkb hh (Zkb al ay))
    have HM:=Zka hM
    clear hE hg hf ak hh hM al ay b9 hd
    cases aj:S.dir.get (nmD key) with
    |none=>
     go_wp2_with (first
      |(go_at_call 34;refine HH.out.1.mono ?_;rintro e w2 ⟨rfl,af⟩;have x1:=(HH.out.2.1.after af).cell (j:=1) rfl;have q2:=af.cell (ZjG _ _ cm)|>.trans cm;have ae:=HC.out;have R2:=Zka af;clear af cm)
      |(go_at_call 97;refine(Z11 s (G.ds k) S (nmD key) _ (HH.out.2.2.after R2.out) ax aj).mono ?_;rintro e w3 ⟨b,rfl,aq,ai⟩;have R3:=Zka (R2.out.trans (ai.mono R2.out.size));clear ai aq x1 q2 ae))
     go_roundw
     case measure=>simp[intOf];omega
     case rel=>exact⟨k+1,by omega,by go_num,fun i hi=>by
      by_cases e:i=k
      ·rw[e];unfold WE;rw[HM.out];simp only;rw[aj];rfl
      ·exact HN.out i (by omega),Zf.trans HE.out (Zf.same HE.out.1 R3.out)⟩
    |some e=>
     obtain⟨bf,au⟩:=HR.out k ah S HM.out _ _ aj
     have bg:e.runs.length<=1000000:=by omega
     go_wp2_with (first
      |(go_at_call 34;refine HH.out.1.mono ?_;rintro e w2 ⟨rfl,af⟩;have x1:=(HH.out.2.1.after af).cell (j:=1) rfl;have q2:=af.cell (ZjG _ _ cm)|>.trans cm;have ae:=HC.out;have R2:=Zka af;clear af cm)
      |(go_at_call 97;refine(Z12 s (G.ds k) S (nmD key) e _ (HH.out.2.2.after R2.out) ax aj bf bg).mono ?_;rintro e w3 ⟨v,rfl,aq,ai⟩;have R3:=Zka (R2.out.trans (ai.mono R2.out.size));clear ai aq x1 q2 ae))
     go_ret
     refine⟨?_,Zf.trans HE.out (Zf.same HE.out.1 R3.out)⟩
     have:(List.range G.n).any (WE V key)=true:=List.any_eq_true.2 ⟨k,List.mem_range.2 ah,by unfold WE;rw[HM.out];simp only;rw[aj];rfl⟩
     rw[this];rfl
  ·obtain rfl:k=G.n:=by omega
   have HS:=Zka (Zkb ak hS)
   clear ak hS
   go_wp2
   go_ret
   refine⟨?_,HS.out.2⟩
   have:(List.range G.n).any (WE V key)=false:=by
    rw[List.any_eq_false]
    intro i hi
    rw[HS.out.1 i (List.mem_range.1 hi)]
    simp
   rw[this];rfl
end
section
open Go.RowKit Go.Shelf
variable{B k0 n pg:Nat}{G:Eg}{V:Ev}{bl bl1:List Nat}{key v:Bs}{w w' wr:World}
structure Z54(K:List Bs)(E:Nat)(V:Ev)(n:Nat)(key v:Bs):Prop where
 b:∀i,i<n->∀S,V.Ms i=some S->Q8 K E (V.Ds i) S
 t:∀i,i<n->∀S,V.Ms i=some S->stR (V.Ds i).reads S.dir (nmD key)=none∨stR (V.Ds i).reads S.dir (nmD key)=some none∨stR (V.Ds i).reads S.dir (nmD key)=some (some (shL V.k V.m i key v))
def QO(V:Ev)(key v:Bs)(i:Nat):Bool:=match V.Ms i with
 |some S=>decide (stR (V.Ds i).reads S.dir (nmD key)=some (some (shL V.k V.m i key v)))
 |none=>false
def pcL(V:Ev)(n:Nat)(key v:Bs)(k0:Nat):List (Bool×ByteArray):=(List.range n).map fun j=>if decide (j<k0)&&QO V key v j then(true,str (shT V.k V.m v j)) else(false,⟨#[]⟩)
def Yh(V:Ev)(key v:Bs)(k0:Nat):Nat:=((List.range k0).filter (QO V key v)).length
theorem Z3h(V:Ev)(key v:Bs)(k0:Nat):Yh V key v (k0+1)=Yh V key v k0+(if QO V key v k0=true then 1 else 0):=by
 unfold Yh
 rw[List.range_succ,List.filter_append,ZjI]
 cases h:QO V key v k0<;>simp[h]
theorem Z1A(V:Ev)(n:Nat)(key v:Bs)(k0:Nat):(pcL V n key v k0).length=n:=by simp[pcL]
theorem Z4D(V:Ev)(n:Nat)(key v:Bs)(k0 j:Nat)(hj:j<n):QU (pcL V n key v k0) j=if decide (j<k0)&&QO V key v j then(true,str (shT V.k V.m v j)) else(false,⟨#[]⟩):=by
 unfold QU pcL
 rw[ZjE,List.getElem?_map,List.getElem?_range hj]
 rfl
theorem Zgf(V:Ev)(n:Nat)(key v:Bs):pcL V n key v 0=List.replicate n (false,⟨#[]⟩):=by
 unfold pcL
 apply List.ext_getElem
 ·simp
 ·intro i h1 h2;simp
theorem Zj1(h:QO V key v k0=false):pcL V n key v (k0+1)=pcL V n key v k0:=by
 unfold pcL
 refine List.map_congr_left fun j hj=> ?_
 by_cases e:j=k0
 ·rw[e,h];simp
 ·have:decide (j<k0+1)=decide (j<k0):=by simp;omega
  rw[this]
theorem ZhP(h:QO V key v k0=true)(hk:k0<n):pcL V n key v (k0+1)=(pcL V n key v k0).set k0 (true,str (shT V.k V.m v k0)):=by
 apply List.ext_getElem
 ·simp[Z1A]
 ·intro i h1 h2
  rw[Z1A] at h1
  have e1:=Z4D V n key v (k0+1) i h1
  have e2:=Z4D V n key v k0 i h1
  unfold QU at e1 e2
  rw[ZjE,ZjF (by rw[Z1A];exact h1)] at e1 e2
  simp only[Option.getD_some] at e1 e2
  rw[e1,List.getElem_set]
  by_cases e:k0=i
  ·subst e;simp[h]
  ·rw[if_neg e,e2]
   have:decide (i<k0+1)=decide (i<k0):=by simp;omega
   rw[this]
theorem ZiB(V:Ev)(n:Nat)(key v:Bs)(k0:Nat)(hk:k0<=n):(whF (pcL V n key v k0) n).length=Yh V key v k0:=by
 have h0:∀k0,whF (pcL V n key v k0) n=(List.range n).filter fun j=>decide (j<k0)&&QO V key v j:=fun k0=>by
  unfold whF
  refine List.filter_congr fun j hj=> ?_
  rw[Z4D V n key v k0 j (List.mem_range.1 hj)]
  cases decide (j<k0)&&QO V key v j<;>rfl
 have h1:∀ (a b:Nat),((List.range (a+b)).filter fun j=>decide (j<a)&&QO V key v j)=(List.range a).filter (QO V key v):=fun a b=>by
  rw[List.range_add,List.filter_append]
  have e1:((List.range a).filter fun j=>decide (j<a)&&QO V key v j)=(List.range a).filter (QO V key v):=List.filter_congr fun j hj=>by
   rw[decide_eq_true (List.mem_range.1 hj)];rfl
  have e2:(((List.range b).map fun x=>a+x).filter fun j=>decide (j<a)&&QO V key v j)=[]:=by
   rw[List.filter_eq_nil_iff]
   intro j hj
   obtain⟨x,_,rfl⟩:=List.mem_map.1 hj
   simp
   intro h;omega
  rw[e1,e2,Zk7]
 rw[h0]
 have:=h1 k0 (n-k0)
 rw[show k0+(n-k0)=n from by omega] at this
 rw[this]
 rfl
structure ShS(B:Nat)(G:Eg)(V:Ev)(bl:List Nat)(w:World)(pg:Nat)(key v:Bs)(k0:Nat)(wr:World):Prop where
 ran:Zf B G bl V w wr
 row:Row wr pg 204 (QH (pcL V G.n key v k0))
 old:w.heap.size<=pg
theorem ShS.next(h:ShS B G V bl w pg key v k0 wr)(he:EAt B wr G V bl1/\(∀k∈bl1,k∈bl∨w.heap.size<=k)/\Fr (G.p::bl) w wr)(hr:Zf B G bl1 V wr w')(ae:QO V key v k0=false):ShS B G V bl w pg key v (k0+1) w':=by
 refine⟨Zf.trans he hr,?_,h.old⟩
 rw[Zj1 ae]
 exact hr.row he.1 h.row (by decide)
theorem ShS.put(h:ShS B G V bl w pg key v k0 wr)(he:EAt B wr G V bl1/\(∀k∈bl1,k∈bl∨w.heap.size<=k)/\Fr (G.p::bl) w wr)(hb:Below wr.heap.size wr w')(hg:QO V key v k0=true)(hk:k0<G.n):
  ShS B G V bl w pg key v (k0+1) ((w'.setCell ⟨pg,k0*2,none⟩ (.bool true)).setCell ⟨pg,k0*2+1,none⟩ (.string (str (shT V.k V.m v k0)))):=by
 have ae:=h.row.after hb
 have af:Row (w'.setCell ⟨pg,k0*2,none⟩ (.bool true)) pg 204 _:=ae.set (k0*2) (.bool true)
 have e1:=he.1.after hb
 have e2:=e1.setCell (a:=⟨pg,k0*2,none⟩) ae (by decide) (by decide) (by decide) (by decide) (.bool true)
 have e3:=e2.setCell (a:=⟨pg,k0*2+1,none⟩) af (by decide) (by decide) (by decide) (by decide) (.string (str (shT V.k V.m v k0)))
 have ag:=he.2.2.size
 refine⟨⟨bl1,e3,he.2.1,?_⟩,?_,h.old⟩
 ·have hf:Fr (G.p::bl) w w':=he.2.2.trans (Fr.of_below (L:=[]) hb) (by simp)
  exact(hf.setCell (Or.inr h.old) _).setCell (Or.inr h.old) _
 ·rw[ZhP hg hk]
  exact ae.setPc k0 true (str (shT V.k V.m v k0))
theorem Z5M(af:1<=V.k)(ai:V.k+V.m=n)(hn:n<=255)(hv:v.length<=200)(ah:k0<=n)(hg:Yh V key v k0=V.k)(hr:Row w pg 204 (QH (pcL V n key v k0))):
  Calls prog 112 #[.int .i64 (V.k:Int),.int .i64 (V.m:Int),.int .i64 (v.length:Int),.slice (some ⟨pg,0,none⟩) n n] w fun e w'=>∃a cap,e=.returned (.tuple #[.slice a (Zl V.k V.m (str v)).length cap,.nilIface])/\Zw w' a (Zl V.k V.m (str v))/\(Zl V.k V.m (str v)).length<=cap/\cap<=9223372036854775807/\Below w.heap.size w w':=by
 subst ai
 have aj:∀j,str (shT V.k V.m v j)=(Zl V.k V.m (str v)).getD j ⟨#[]⟩:=fun j=>rfl
 refine(Z9G V.k V.m v.length (some ⟨pg,0,none⟩) (V.k+V.m) (pcL V (V.k+V.m) key v k0) w af hn (by omega) (Z1A _ _ _ _ _) hr.pcs (fun j hj h1=> ?_)).mono ?_
 ·rw[Z4D V _ key v k0 j hj] at h1⊢
  split
  ·simp only
   rw[Z5]
   have:=Z84 (m:=V.m) af hv j
   omega
  ·exact Nat.zero_le _
 ·rintro e w' ⟨code,T,a',ae,ev,hR,rfl,ag,⟨h1,h2,h3⟩,hb⟩
  have hx:=ZaY (k:=V.k) (m:=V.m) (t:=str v) af hn (fun j hj h1=>by
   rw[Z4D V _ key v k0 j hj] at h1⊢
   split at h1
   ·rename_i h9;rw[if_pos h9];exact aj j
   ·cases h1) (by rw[ZiB V _ key v k0 ah,hg];exact Zk8) (by rw[Z5];exact hR)
  obtain⟨rfl,rfl⟩:=hx
  rcases ag with ⟨rfl,_⟩|⟨h9,_⟩
  ·exact⟨a',ae,rfl,h1,h2,h3,hb⟩
  ·exact absurd rfl h9
theorem ZaC(B:Nat)(w:World)(G:Eg)(V:Ev)(bl:List Nat)(K:List Bs)(E:Nat)(key v:Bs)(h:EAt B w G V bl)(ee:key.length<=200)(hv:v.length<=200)(de:1<=V.k)(df:V.k+V.m=G.n)(hg:V.P.gone=false)(ek:Z54 K E V G.n key v)(ax:V.k<=Yh V key v G.n):
  Calls prog 68 #[.pointer (some ⟨G.s,0,none⟩),.string (str key)] w fun e w'=>∃a cap,e=.returned (.tuple #[.slice a (Zl V.k V.m (str v)).length cap,.int .i64 (v.length:Int),.nilIface])/\Zw w' a (Zl V.k V.m (str v))/\(Zl V.k V.m (str v)).length<=cap/\cap<=9223372036854775807/\Zf B G bl V w w':=by
 have c0:=h.scell.cell (j:=0) rfl
 have c2:=h.scell.cell (j:=2) rfl
 have hn:=h.nle
 obtain⟨j1,eo,ew,ey,ez⟩:=info_parts ZcP
 have dt:=Z9S j1 eo ew ey ez G.n (by omega)
 rw[<-Zgf V G.n key v] at dt
 have I0:ShS B G V bl w w.heap.size key v 0 (w.alloc (.cells (QH (pcL V G.n key v 0)).toArray 204)):=⟨Zf.same h (Zk9.alloc Zk8 _),Row.new w _ _,Zk8⟩
 have HI:=Zka I0
 have H:=Zka (Zkb ek (Zkb ax df))
 have fe:(nmD key).length<=220:=by simp[nmD];omega
 have cu:(nmD key).length<=1000000:=by omega
 obtain⟨Z0,dp⟩:∃Z0,QH (pcL V G.n key v 0)=Z0:=⟨_,rfl⟩
 rw[dp] at dt
 have HZ:=Zka dp
 obtain⟨SH,dm⟩:∃SH,Zl V.k V.m (str v)=SH:=⟨_,rfl⟩
 have bj:=Zka dm
 rw[dm]
 clear I0 h ek ax eo ew ey ez dp dm
 go_enter func68,ntmps68
 go_wp2_with fail
 go_step3
 go_wp2_with fail
 rw[<-HZ.out]
 clear HZ dt
 obtain⟨pg,dw⟩:∃pg,w.heap.size=pg:=⟨_,rfl⟩
 have dx:=HI
 rw[dw] at dx
 rw[dw]
 clear dw
 have ff:(w.alloc (.cells (QH (pcL V G.n key v 0)).toArray 204)).cell? ⟨G.s,2,none⟩=some (.slice (some ⟨G.ms,0,none⟩) G.n G.cap):=by
  have hb:=(Below.refl w.heap.size w).alloc Zk8 (.cells (QH (pcL V G.n key v 0)).toArray 204)
  exact(hb.cell (ZjG w _ c2)).trans c2
 generalize w.alloc (.cells (QH (pcL V G.n key v 0)).toArray 204)=w1 at*
 go_step3
 go_wp2_with fail
 go_loopw [8,9,27] (fun lv mv kv wr=>∃k:Nat,k<=G.n/\kv=.int .i64 k/\mv=.int .i64 (Yh V key v k)/\Yh V key v k<V.k/\(0<Yh V key v k->lv=.int .i64 v.length)/\ShS B G V bl w pg key v k wr) (fun _ _ kv _=>G.n- (intOf kv).toNat)
 case atStart=>
  have g0:Yh V key v 0=0:=rfl
  refine⟨0,by omega,rfl,by rw[g0];rfl,by rw[g0];omega,fun h=> ?_,dx.out⟩
  rw[g0] at h;omega
 case round=>
  obtain⟨k,hk,rfl,rfl,ak,hlen,hS⟩:=hrel
  obtain⟨bl1,hE,dc,hf⟩:=hS.ran
  have HS:=Zka hS
  by_cases al:k<G.n
  ·have fh:(k:Int)<(G.n:Int):=by omega
   have HE:=Zka (Zkb hE (Zkb dc hf))
   have HL:=Zka hlen
   have HN:=Zka ak
   cases hM:V.Ms k with
   |none=>
    have bf:QO V key v k=false:=by unfold QO;rw[hM]
    have au:Yh V key v (k+1)=Yh V key v k:=by rw[Z3h,bf];rfl
    have hh:=Z0H B wr G V bl1 k hE al hM
    have HH:=Zka (Zkb hh (Zkb bf au))
    clear hE dc hf hS hlen ak hh hM bf au
    go_wp2_with (go_at_call 34;refine HH.out.1.mono ?_;rintro e w2 ⟨rfl,eu⟩;have R2:=Zka eu;clear eu)
    go_roundw
    case measure=>simp[intOf];omega
    case rel=>exact⟨k+1,by omega,by go_num,by rw[HH.out.2.2],by rw[HH.out.2.2];exact HN.out,by rw[HH.out.2.2];exact HL.out,HS.out.next HE.out R2.out HH.out.2.1⟩
   |some S=>
    obtain⟨s,aw,dj,hd,L,dh⟩:=hE.mem al hM
    have cz:=H.out.1.b k al S hM
    have hh:=JX B wr G V bl1 k hE al S hM
    have ay:=hE.scell
    have cm:=hE.mcell al
    by_cases af:stR (V.Ds k).reads S.dir (nmD key)=some (some (shL V.k V.m k key v))
    ·have bh:QO V key v k=true:=by unfold QO;rw[hM];simp only;exact decide_eq_true af
     have au:Yh V key v (k+1)=Yh V key v k+1:=by rw[Z3h,bh];rfl
     have ae:∀w2,Below wr.heap.size wr w2->Calls prog 100 #[.pointer (some ⟨G.s,0,none⟩),.int .i64 (k:Int),.string (str key)] w2 fun e w'=>e=.returned (.tuple #[.string (str (shT V.k V.m v k)),.int .i64 (v.length:Int),.nilIface])/\Below w2.heap.size w2 w':=fun w2 hb=>
      Z83 G.s G.ms (G.xs k) s V.k V.m k G.cap G.n key v w2 de (by omega) al df.symm hv ee ((ay.after hb).cell (j:=0) rfl) ((ay.after hb).cell (j:=2) rfl) ((hb.cell (ZjG wr _ cm)).trans cm) ((aw.after hb).cell (j:=1) rfl) (Z3s (dh.after hb) (dj.after hb) cz hg hd cu fe (Z3C (m:=V.m) (i:=k) (key:=key) de hv).2 af)
     have bg:=fun w2 (hb:Below wr.heap.size wr w2)=>hS.put HE.out hb bh al
     have er:∀w2,Below wr.heap.size wr w2->w2.cell? ⟨pg,k*2,none⟩≠none/\w2.frozen? ⟨pg,k*2,none⟩=false/\w2.cell? ⟨pg,k*2+1,none⟩≠none/\w2.frozen? ⟨pg,k*2+1,none⟩=false/\w2.cell? ⟨G.s,0,none⟩=some (.int .i64 (V.k:Int))/\w2.cell? ⟨G.s,1,none⟩=some (.int .i64 (V.m:Int)):=fun w2 hb=>by
      have hr:=hS.row.after hb
      have ef:(QH (pcL V G.n key v k)).length=G.n*2:=by rw[JP,Z1A]
      have eh:=Z1s (pcL V G.n key v k) k (by rw[Z1A];exact al)
      refine⟨by rw[hr.cell eh.1];simp,hr.free (by rw[ef];omega),by rw[hr.cell eh.2];simp,hr.free (by rw[ef];omega),(ay.after hb).cell (j:=0) rfl,(ay.after hb).cell (j:=1) rfl⟩
     have du:pg≠G.s:=Row.ne hS.row ay (by decide)
     have ct:G.s≠pg:=fun e=>du e.symm
     obtain⟨X,hX⟩:∃X,str (shT V.k V.m v k)=X:=⟨_,rfl⟩
     rw[hX] at ae bg
     obtain⟨gn,cr⟩:∃gn,Yh V key v k=gn:=⟨_,rfl⟩
     rw[cr] at au hlen ak HL HN⊢
     have HH:=Zka (Zkb hh (Zkb au (Zkb ae (Zkb bg er))))
     have fg:gn<=100:=by omega
     clear hE dc hf hS hh hM au ae bg er aw dj hd dh cz ay cm af hX cr ak bh
     by_cases fc:0<gn
     ·obtain rfl:=hlen fc
      clear hlen
      by_cases dq:gn+1=V.k
      ·have b9:(gn:Int)+1=(V.k:Int):=by omega
       go_wp2_with (first
        |(go_at_call 34;refine HH.out.1.mono ?_;rintro e w2 ⟨rfl,ah⟩;have R2:=Zka ah;clear ah)
        |(go_at_call 100;refine(HH.out.2.2.1 _ R2.out).mono ?_;rintro e w3 ⟨rfl,ai⟩;have R3:=Zka (R2.out.trans (ai.mono R2.out.size));clear ai;obtain⟨f1,f2,f3,f4,f5,f6⟩:=HH.out.2.2.2.2 _ R3.out;obtain⟨y1,cw⟩:=Option.ne_none_iff_exists'.1 f1;obtain⟨y2,cy⟩:=Option.ne_none_iff_exists'.1 f3;clear f1 f3)
        |(go_at_call 19;refine(QM 0 0 10 _ _ (Zu.nil _ _) (by decide)).mono ?_;rintro e w4 ⟨rfl,rfl⟩))
       clear cw cy f2 f4 du ct f5 f6
       have hT:=HH.out.2.2.2.1 w3 R3.out
       obtain⟨fa,aq,aj,cn⟩:=hT.ran
       have g0:=aq.scell.cell (j:=0) rfl
       have g1:=aq.scell.cell (j:=1) rfl
       have ag:=Z5M (w:=((w3.setCell ⟨pg,k*2,none⟩ (.bool true)).setCell ⟨pg,k*2+1,none⟩ (.string X)).drew) de df (by omega) hv (by omega:k+1<=G.n) (by rw[HH.out.2.1];exact dq) hT.row.drew
       have HR:=Zka (Zkb ag (Zkb aq (Zkb aj cn)))
       clear ag aq aj cn hT
       generalize (w3.setCell ⟨pg,k*2,none⟩ (.bool true)).setCell ⟨pg,k*2+1,none⟩ (.string X)=w5 at*
       go_wp2_with fail
       go_region_with (go_at_call 112;refine HR.out.1.mono ?_;rintro e w6 ⟨a6,az,rfl,bm,bq,bu,bz⟩;have R6:=Zka (Zkb bm (Zkb bq (Zkb bu bz)));clear bm bq bu bz)
       all_goals go_wp2_with fail
       all_goals rw[Exit.noGoto_ret]
       all_goals go_ret3
       all_goals exact⟨a6,az,by rw[<-bj.out];rfl,by rw[<-bj.out];exact R6.out.1,by rw[<-bj.out];exact R6.out.2.1,R6.out.2.2.1,Zf.trans HR.out.2 (Zf.same HR.out.2.1 ((Below.refl w5.heap.size w5).drew.trans R6.out.2.2.2))⟩
      ·have b9:¬ (gn:Int)+1=(V.k:Int):=by omega
       go_wp2_with (first
        |(go_at_call 34;refine HH.out.1.mono ?_;rintro e w2 ⟨rfl,ah⟩;have R2:=Zka ah;clear ah)
        |(go_at_call 100;refine(HH.out.2.2.1 _ R2.out).mono ?_;rintro e w3 ⟨rfl,ai⟩;have R3:=Zka (R2.out.trans (ai.mono R2.out.size));clear ai;obtain⟨f1,f2,f3,f4,f5,f6⟩:=HH.out.2.2.2.2 _ R3.out;obtain⟨y1,cw⟩:=Option.ne_none_iff_exists'.1 f1;obtain⟨y2,cy⟩:=Option.ne_none_iff_exists'.1 f3;clear f1 f3)
        |(go_at_call 19;refine(QM 0 0 10 _ _ (Zu.nil _ _) (by decide)).mono ?_;rintro e w4 ⟨rfl,rfl⟩))
       go_roundw
       case measure=>simp[intOf];omega
       case rel=>exact⟨k+1,by omega,by go_num,by rw[HH.out.2.1];go_num,by rw[HH.out.2.1];have h9:=HN.out;omega,fun _=>rfl,HH.out.2.2.2.1 w3 R3.out⟩
     ·clear hlen
      by_cases dq:gn+1=V.k
      ·have b9:(gn:Int)+1=(V.k:Int):=by omega
       go_wp2_with (first
        |(go_at_call 34;refine HH.out.1.mono ?_;rintro e w2 ⟨rfl,ah⟩;have R2:=Zka ah;clear ah)
        |(go_at_call 100;refine(HH.out.2.2.1 _ R2.out).mono ?_;rintro e w3 ⟨rfl,ai⟩;have R3:=Zka (R2.out.trans (ai.mono R2.out.size));clear ai;obtain⟨f1,f2,f3,f4,f5,f6⟩:=HH.out.2.2.2.2 _ R3.out;obtain⟨y1,cw⟩:=Option.ne_none_iff_exists'.1 f1;obtain⟨y2,cy⟩:=Option.ne_none_iff_exists'.1 f3;clear f1 f3)
        |(go_at_call 19;refine(QM 0 0 10 _ _ (Zu.nil _ _) (by decide)).mono ?_;rintro e w4 ⟨rfl,rfl⟩))
       clear cw cy f2 f4 du ct f5 f6
       have hT:=HH.out.2.2.2.1 w3 R3.out
       obtain⟨fa,aq,aj,cn⟩:=hT.ran
       have g0:=aq.scell.cell (j:=0) rfl
       have g1:=aq.scell.cell (j:=1) rfl
       have ag:=Z5M (w:=((w3.setCell ⟨pg,k*2,none⟩ (.bool true)).setCell ⟨pg,k*2+1,none⟩ (.string X)).drew) de df (by omega) hv (by omega:k+1<=G.n) (by rw[HH.out.2.1];exact dq) hT.row.drew
       have HR:=Zka (Zkb ag (Zkb aq (Zkb aj cn)))
       clear ag aq aj cn hT
       generalize (w3.setCell ⟨pg,k*2,none⟩ (.bool true)).setCell ⟨pg,k*2+1,none⟩ (.string X)=w5 at*
       go_wp2_with fail
       go_region_with (go_at_call 112;refine HR.out.1.mono ?_;rintro e w6 ⟨a6,az,rfl,bm,bq,bu,bz⟩;have R6:=Zka (Zkb bm (Zkb bq (Zkb bu bz)));clear bm bq bu bz)
       all_goals go_wp2_with fail
       all_goals rw[Exit.noGoto_ret]
       all_goals go_ret3
       all_goals exact⟨a6,az,by rw[<-bj.out];rfl,by rw[<-bj.out];exact R6.out.1,by rw[<-bj.out];exact R6.out.2.1,R6.out.2.2.1,Zf.trans HR.out.2 (Zf.same HR.out.2.1 ((Below.refl w5.heap.size w5).drew.trans R6.out.2.2.2))⟩
      ·have b9:¬ (gn:Int)+1=(V.k:Int):=by omega
       go_wp2_with (first
        |(go_at_call 34;refine HH.out.1.mono ?_;rintro e w2 ⟨rfl,ah⟩;have R2:=Zka ah;clear ah)
        |(go_at_call 100;refine(HH.out.2.2.1 _ R2.out).mono ?_;rintro e w3 ⟨rfl,ai⟩;have R3:=Zka (R2.out.trans (ai.mono R2.out.size));clear ai;obtain⟨f1,f2,f3,f4,f5,f6⟩:=HH.out.2.2.2.2 _ R3.out;obtain⟨y1,cw⟩:=Option.ne_none_iff_exists'.1 f1;obtain⟨y2,cy⟩:=Option.ne_none_iff_exists'.1 f3;clear f1 f3)
        |(go_at_call 19;refine(QM 0 0 10 _ _ (Zu.nil _ _) (by decide)).mono ?_;rintro e w4 ⟨rfl,rfl⟩))
       go_roundw
       case measure=>simp[intOf];omega
       case rel=>exact⟨k+1,by omega,by go_num,by rw[HH.out.2.1];go_num,by rw[HH.out.2.1];have h9:=HN.out;omega,fun _=>rfl,HH.out.2.2.2.1 w3 R3.out⟩
    ·have bf:QO V key v k=false:=by unfold QO;rw[hM];simp only;exact decide_eq_false af
     have cj:stR (V.Ds k).reads S.dir (nmD key)=none∨stR (V.Ds k).reads S.dir (nmD key)=some none:=by
      rcases H.out.1.t k al S hM with h9|h9|h9
      ·exact Or.inl h9
      ·exact Or.inr h9
      ·exact absurd h9 af
     have au:Yh V key v (k+1)=Yh V key v k:=by rw[Z3h,bf];rfl
     have ae:∀w2,Below wr.heap.size wr w2->Calls prog 100 #[.pointer (some ⟨G.s,0,none⟩),.int .i64 (k:Int),.string (str key)] w2 fun e w'=>∃b,e=.returned (.tuple #[.string ⟨#[]⟩,.int .i64 0,.iface 139 (.pointer (some ⟨b,0,none⟩))])/\Zu w' w2.heap.size (if S.dir.get (nmD key)=none then 13 else 14) (.iface 139 (.pointer (some ⟨b,0,none⟩)))/\Below w2.heap.size w2 w':=fun w2 hb=>
      ZeA G.s G.ms (G.xs k) s k G.cap G.n key _ w2 al ee ((ay.after hb).cell (j:=2) rfl) ((hb.cell (ZjG wr _ cm)).trans cm) ((aw.after hb).cell (j:=1) rfl) (Zer (dh.after hb) (dj.after hb) cz hg hd cu cj)
     obtain⟨cc,dy,dr⟩:∃cc:Int,(if S.dir.get (nmD key)=none then(13:Int) else 14)=cc/\(cc==10)=false:=⟨_,rfl,by split<;>rfl⟩
     rw[dy] at ae
     have HH:=Zka (Zkb hh (Zkb bf (Zkb au ae)))
     clear hE dc hf hS hlen ak hh hM bf au ae aw dj hd dh cz ay cm af cj dy
     go_wp2_with (first
      |(go_at_call 34;refine HH.out.1.mono ?_;rintro e w2 ⟨rfl,ah⟩;have R2:=Zka ah;clear ah)
      |(go_at_call 100;refine(HH.out.2.2.2 _ R2.out).mono ?_;rintro e w3 ⟨b,rfl,dz,ai⟩;have R3:=Zka (Zkb dz (R2.out.trans (ai.mono R2.out.size)));clear ai dz)
      |(go_at_call 19;refine(QM _ cc 10 _ _ R3.out.1 (by decide)).mono ?_;rw[dr];rintro e w4 ⟨rfl,rfl⟩))
     go_roundw
     case measure=>simp[intOf];omega
     case rel=>exact⟨k+1,by omega,by go_num,by rw[HH.out.2.2.1],by rw[HH.out.2.2.1];exact HN.out,by rw[HH.out.2.2.1];exact HL.out,HS.out.next HE.out (Zf.same HE.out.1 R3.out.2) HH.out.2.1⟩
  ·exfalso
   obtain rfl:k=G.n:=by omega
   have:=H.out.2.1
   omega
end
section
open Go.RowKit Go.Shelf
variable{V:Ev}{key v:Bs}{n:Nat}
theorem Zf.ty{B:Nat}{w w':World}{G:Eg}{V1:Ev}{bl:List Nat}(h:Zf B G bl V1 w w')(h0:EAt B w G V bl)(ht:Ty w)(hg:0<B:=by assumption):Ty w':=by
 have hb:=h.below h0
 unfold Ty at ht⊢
 rw[hb.cell (p:=⟨0,0,none⟩) hg]
 exact ht
theorem Zdf(h1:1<=Yh V key v n):(List.range n).any (WE V key)=true:=by
 unfold Yh at h1
 obtain⟨i,hi⟩:=List.exists_mem_of_length_pos h1
 obtain⟨af,ae⟩:=List.mem_filter.1 hi
 refine List.any_eq_true.2 ⟨i,af,?_⟩
 unfold QO at ae
 unfold WE
 cases hM:V.Ms i with
 |none=>rw[hM] at ae;cases ae
 |some S=>
  rw[hM] at ae
  simp only[decide_eq_true_eq] at ae
  simp only
  cases hg:S.dir.get (nmD key) with
  |none=>rw[stR,hg] at ae;cases ae
  |some e=>rfl
theorem Z54.runs{K:List Bs}{E:Nat}(h:Z54 K E V n key v):Z8z V n:=fun i hi S hM m e hm=>by
 obtain⟨_,h1,h2⟩:=(h.b i hi S hM).runs hm
 exact⟨h1,h2⟩
theorem Zbr(B:Nat)(w:World)(G:Eg)(V:Ev)(bl:List Nat)(K:List Bs)(E:Nat)(key v:Bs)(h:EAt B w G V bl)(ht:Ty w)(bz:0<B)(cj:1<=key.length)(ay:key.length<=200)(hv:v.length<=200)(ak:1<=V.k)(bq:V.k+V.m=G.n)(hg:V.P.gone=false)(al:Z54 K E V G.n key v)(ae:V.k<=Yh V key v G.n):
  Calls prog 28 #[.pointer (some ⟨G.s,0,none⟩),.string (str key)] w fun e w'=>e=.returned (.tuple #[.string (str v),.nilIface])/\Zf B G bl V w w':=by
 have hn:=h.nle
 have c4:=h.scell.cell (j:=4) rfl
 have bh:(List.range G.n).any (WE V key)=true:=Zdf (v:=v) (by omega)
 have hm:(decide (1<=(str key).size)&&decide ((str key).size<=200))=true:=by rw[Z5];simp;omega
 have af:=Z88 B w G V bl key h ay al.runs
 rw[bh] at af
 obtain⟨ah,aj⟩:=ZaO (k:=V.k) (m:=V.m) (t:=str v) ak (by omega)
 have bg:=Z9Y V.k V.m (str v) ak (by rw[Z5];omega)
 rw[Z5] at ah aj
 have ai:=fun(sa:Option Addr) (sc:Nat) (W:World) (h1:Zw W sa (Zl V.k V.m (str v))) (h2:(Zl V.k V.m (str v)).length<=sc) (h3:sc<=9223372036854775807)=>ZfL (V.k:Int) (v.length:Int) sa (Zl V.k V.m (str v)).length sc (Zl V.k V.m (str v)) W ⟨by omega,by omega⟩ (by omega) h1 rfl h2 h3 bg
 rw[ah,aj] at ai
 have H:=Zka (Zkb h (Zkb af (Zkb al (Zkb ae (Zkb ht ai)))))
 clear h af al ae ht bh ah aj bg ai
 go_enter func28,ntmps28
 go_wp2_with (first
  |(go_at_call 66;refine(Z3a _ _).mono ?_;rw[hm];rintro e w1 ⟨rfl,rfl⟩)
  |(go_at_call 67;refine H.out.2.1.mono ?_;rintro e w2 ⟨rfl,aq,e2,g2,f2⟩;have R2:=Zka (Zkb e2 (Zkb g2 f2));clear e2 g2 f2)
  |(go_at_call 35;refine(Z4i B _ G V aq R2.out.1 hg).mono ?_;rintro e w3 ⟨bu,rfl,aw,ag⟩;obtain rfl:=aw.zero;have R3:=Zka (Zkb (R2.out.1.after ag) (Zkb R2.out.2.1 (R2.out.2.2.trans (Fr.of_below (L:=[]) ag) (by simp))));clear aw ag)
  |(go_at_call 68;refine(ZaC B _ G V aq K E key v R3.out.1 ay hv ak bq hg H.out.2.2.1 H.out.2.2.2.1).mono ?_;rintro e w4 ⟨a,cap,rfl,az,b9,bf,bj,e4,g4,f4⟩;have c0:=e4.scell.cell (j:=0) rfl;have R4:=Zka (Zkb (Zf.trans R3.out ⟨bj,e4,g4,f4⟩) (Zkb az (Zkb b9 bf)));clear e4 g4 f4 az b9 bf)
  |(go_at_call 69;refine(H.out.2.2.2.2.2 a cap _ R4.out.2.1 R4.out.2.2.1 R4.out.2.2.2).mono ?_;rintro e w5 ⟨bm,rfl,ax,au⟩;obtain rfl:=(by rcases ax with ⟨h9,_⟩|⟨h9,_⟩;exact h9;exact absurd rfl h9:bm=.nilIface);have R5:=Zka (Zf.after R4.out.1 au);clear ax au))
 go_ret2
 exact⟨rfl,R5.out⟩
end
end Go.Proofs.YthppfllkocphbaaGreatDoor
