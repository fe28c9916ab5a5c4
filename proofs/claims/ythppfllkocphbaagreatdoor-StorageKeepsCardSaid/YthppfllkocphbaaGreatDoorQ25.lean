/-
  Part 26 of the proof: lemmas about what the program computes.
-/
import Derived.Lib.SlicesCompact
import Derived.Test.YthppfllkocphbaaGreatDoorQ24
namespace Go.Proofs.YthppfllkocphbaaGreatDoor
set_option linter.unusedVariables false
set_option linter.unusedSimpArgs false
set_option maxHeartbeats 25600000
set_option maxRecDepth 100000
open Tryz
section
open Go.RowKit Go.Shelf
theorem Zcf(B:Nat)(w:World)(G:Eg)(V:Ev)(bl:List Nat)(X:Zx)(gc n cap:Nat)(cs:List Chg)(h:EAt B w G V bl)(ht:Ty w)(ey:0<B)(hp:XA X G.n V cs)(hr:Z14 w gc cs)(hn:n=cs.length)(ff:n<=cap)(hz:∀l,l.Perm (Qq cs)->(ZB (W6 (X.chg l) (Q7 V G.n)) V).1=0):
  Calls prog 11 #[.pointer (some ⟨G.s,0,none⟩),.slice (some ⟨gc,0,none⟩) n cap] w fun e w'=>∃l,l.Perm (Qq cs)/\e=.returned .nilIface/\Zf B G bl {(ZB (W6 (X.chg l) (Q7 V G.n)) V).2 with gen:=V.gen+1} w w':=by
 have HZ:=Zka hz
 clear hz
 have jo:=h.nle
 have c4:=h.scell.cell (j:=4) rfl
 have c2:=h.scell.cell (j:=2) rfl
 have jh:=hp.few
 have kq:((n:Int)==0)=false:=by
  rw[beq_eq_false_iff_ne]
  have:=List.length_pos_iff.2 hp.ne
  omega
 have jm:decide ((n:Int)>32)=false:=by simp;omega
 have bu:∀c∈cs,1<=c.key.length/\c.key.length<=200/\(c.val.getD []).length<=8000:=fun c hc=>by
  have h1:=hp.hK.len _ (hp.key c hc)
  refine⟨h1.1,by omega,?_⟩
  cases hv:c.val with
  |none=>simp
  |some v=>have:=hp.val c hc v hv;simp;omega
 have iz:=Z6Y gc n cap cs w hr.rd hn (by omega) bu
 have H:=Zka (Zkb h (Zkb hp (Zkb hr (Zkb hn (Zkb ht iz)))))
 clear h hp hr hn ht bu iz jh
 go_enter func11,ntmps11
 go_wp2_with (go_at_call 32;refine H.out.2.2.2.2.2.mono ?_;rintro e w1 ⟨rfl,fc⟩;have jy:=(fc.cell (ZjG _ _ c2)).trans c2;have R1:=Zka fc;clear fc c4 c2)
 have gj:=Zf.same H.out.1 R1.out
 have I0:CoS B w G V bl gc cs (.slice none 0 0) (Q7 V 0) V w1:=⟨gj,World.ownsRow_nil _ _ _ _,by obtain⟨sp,hr⟩:=H.out.2.2.1;exact⟨sp,hr.after R1.out⟩⟩
 have j8:=Zka I0
 clear I0 gj
 go_loopw [5,43] (fun iv kv wr=>∃k:Nat,k<=G.n/\kv=.int .i64 k/\CoS B w G V bl gc cs iv (Q7 V k) V wr) (fun _ kv _=>G.n- (intOf kv).toNat)
 case atStart=>exact⟨0,by omega,rfl,j8.out⟩
 case round=>
  obtain⟨k,hk,rfl,hS⟩:=hrel
  have HS:=Zka hS
  obtain⟨bm,hE,ew,hf⟩:=hS.ran
  have HE:=Zka (Zkb hE (Zkb ew hf))
  by_cases ir:k<G.n
  ·have de:=Z7O V k
   cases hM:V.Ms k with
   |none=>
    rw[hM] at de
    have hh:=Z0H B wr G V bm k hE ir hM
    have HH:=Zka (Zkb hh de)
    clear hE ew hf hS hh de hM
    go_wp2_with (go_at_call 34;refine HH.out.1.mono ?_;rintro e w2 ⟨rfl,iw⟩;have R2:=Zka (HS.out.next HE.out iw);clear iw)
    go_roundw
    case measure=>simp[intOf];omega
    case rel=>exact⟨k+1,by omega,by go_num,by rw[HH.out.2];simpa using R2.out⟩
   |some S=>
    rw[hM] at de
    have hh:=JX B wr G V bm k hE ir S hM
    have ik:(Q7 V k).length<=1000000:=by
     have:(Q7 V k).length<=(List.range k).length:=List.length_filter_le _ _
     rw[List.length_range] at this;omega
    have HH:=Zka (Zkb hh (Zkb de ik))
    clear hE ew hf hS hh de hM ik
    go_wp2_with (first
     |(go_at_call 34;refine HH.out.1.mono ?_;rintro e w2 ⟨rfl,ay⟩;have s2:=(HS.out.after ay).after ((Below.refl w2.heap.size w2).alloc Zk8 (.cells #[.int .i64 (k:Int)] 3));have ix:Row (w2.alloc (.cells #[.int .i64 (k:Int)] 3)) w2.heap.size 3 [.int .i64 (k:Int)]:=Row.new w2 _ _;have ek:w.heap.size<=(w2.alloc (.cells #[.int .i64 (k:Int)] 3)).heap.size:=(by obtain⟨jc,e9,g9,f9⟩:=s2.ran;exact f9.size);have R2:=Zka (Zkb s2 (Zkb ix ek));clear ay s2 ix ek)
     |(at_builtin;refine Z6W _ rfl (.tmp 49) (.tmp 51) rfl w.heap.size _ (Q7 V k) rfl R2.out.1.ints w2.heap.size k rfl R2.out.2.1 R2.out.2.2 HH.out.2.2 ?_;intro g4 je w4 ho hf _ _ _;have R4:=Zka (R2.out.1.put ho hf);clear ho hf))
    go_roundw
    case measure=>simp[intOf];omega
    case rel=>exact⟨k+1,by omega,by go_num,by rw[HH.out.2.1];simpa using R4.out⟩
  ·obtain rfl:k=G.n:=by omega
   obtain⟨ins,bf⟩:∃ins,Q7 V G.n=ins:=⟨_,rfl⟩
   have ee:=H.out.2.1.many
   have jk:ins.length<=16:=by
    have:(Q7 V G.n).length<=(List.range G.n).length:=List.length_filter_le _ _
    rw[List.length_range] at this;rw[<-bf];omega
   rw[bf] at HS ee
   have im:=H.out.2.1.k1
   have iy:=H.out.2.1.vk
   obtain⟨gi,ci,sp,rfl,kh,ke,kf,fm⟩:=Xi HS.out.ints (by omega)
   have c0:=hE.scell.cell (j:=0) rfl
   have kj:¬ (ins.length:Int)<(V.k:Int):=by omega
   have js:Ty wr:=Zf.ty HS.out.ran H.out.1 H.out.2.2.2.2.1
   have iu:=Z4i B wr G V bm hE H.out.2.1.gone
   have HR:=Zka (Zkb iu bf)
   have er:=Zka iy
   clear hE ew hf hS iu bf js iy fm
   go_wp2_with (first
    |(go_at_call 35;refine HR.out.1.mono ?_;rintro e w2 ⟨jz,rfl,ic,ay⟩;obtain rfl:=ic.zero;have R2:=Zka (Zkb (HS.out.after ay) (Zkb (HE.out.1.after ay) (Zkb HE.out.2.1 (HE.out.2.2.trans (Fr.of_below (L:=[]) ay) (by simp)))));clear ic ay)
    |(go_at_call 36;refine(Z7C G.s V.k V.m gc cap n cs _ (by rw[er.out];exact im) (by have h8:=H.out.2.1.vm;have h9:=H.out.2.1.kn;have h7:=er.out;omega) (R2.out.2.1.scell.cell (j:=0) rfl) (R2.out.2.1.scell.cell (j:=1) rfl) R2.out.1.api.rd H.out.2.2.2.1 (by have h8:=H.out.2.1.few;have h9:=H.out.2.2.2.1;omega) H.out.2.1.ne ff H.out.2.1.val).mono ?_;rintro e w3 ⟨gl,cl,l,bz,rfl,dp,dz,dh⟩;have R3:=Zka (Zkb (R2.out.1.after dh) (Zkb (R2.out.2.1.after dh) (Zkb R2.out.2.2.1 (Zkb (R2.out.2.2.2.trans (Fr.of_below (L:=[]) dh) (by simp)) (Zkb bz (Zkb dp (Zkb dz (Zkb (R2.out.2.1.typed.lt) dh.size))))))));clear bz dp dz dh))
   have fe:w2.heap.size<=w3.heap.size:=R3.out.2.2.2.2.2.2.2.2
   have df:(X.chg l).Ok G.n:=H.out.2.1.ok R3.out.2.2.2.2.1
   have eo:Ty w3:=Zf.ty ⟨bm,R3.out.2.1,R3.out.2.2.1,R3.out.2.2.2.1⟩ H.out.1 H.out.2.2.2.2.1
   have dp:Wp w3 w2.heap.size X.k X.m gl l:=by
    have h9:=R3.out.2.2.2.2.2.1
    rw[er.out,H.out.2.1.vm] at h9
    exact h9
   have J0:C2S B w3 G bm gi ins V [] (X.chg l) (ph1 (X.chg l) []) V w3:=⟨Zf.refl R3.out.2.1,Z2W.row R3.out.1.ints (by omega),H.out.2.1.start R3.out.2.1,rfl⟩
   have HJ:=Zka (Zkb J0 (Zkb df (Zkb eo dp)))
   have bh:=Zka HR.out.2
   clear J0 df eo dp fe
   go_loopw [78] (fun kv wr=>∃ (t:Nat) (Vt:Ev),t<=ins.length/\kv=.int .i64 t/\C2S B w3 G bm gi ins V ((ins.take t).map (op1 (X.chg l))) (X.chg l) (ph1 (X.chg l) (ins.take t)) Vt wr) (fun kv _=>ins.length- (intOf kv).toNat)
   case atStart=>exact⟨0,V,by omega,rfl,HJ.out.1⟩
   case round=>
    obtain⟨t,Vt,ht,rfl,hS⟩:=hrel
    have bj:=Zka hS
    by_cases al:t<ins.length
    ·have ak:=hS.cell al
     have ag:ins[t]∈Q7 V G.n:=by rw[bh.out];exact ZjW al
     have af:ins[t]∉ins.take t:=by
      have fj:ins.Nodup:=by rw[<-bh.out];exact Z08
      have h9:(ins.take t++ins.drop t).Nodup:=by rw[Zk4];exact fj
      intro hm
      exact(List.nodup_append.1 h9).2.2 _ hm _ (by rw[List.drop_eq_getElem_cons al];exact List.mem_cons_self) rfl
     have cu:ins.take (t+1)=ins.take t++[ins[t]]:=ZjK al
     have ah:ins=ins.take t++ins[t]::ins.drop (t+1):=by rw[<-List.drop_eq_getElem_cons al,Zk4]
     obtain⟨i,dx⟩:∃i,ins[t]=i:=⟨_,rfl⟩
     rw[dx] at ak ag af cu ah
     have cn:=Zka ah
     clear ah
     obtain⟨hi,dy⟩:=mem_ins.1 ag
     obtain⟨S,blt,s,ae,ct,ie⟩:=hS.pre1 HJ.out.2.1 R3.out.2.1 HJ.out.2.2.1 ey HJ.out.2.2.2 R3.out.2.2.2.2.2.2.2.1 er.out H.out.2.1.vm H.out.2.1.vg hi dy af
     obtain⟨d,f,bq⟩:=ae.acts
     have dr:=Z6u X.K w2.heap.size G.s X.k X.m i X.g gl cl l wr H.out.2.1.hK HJ.out.2.1.hl im (by have h9:=H.out.2.1.kn;omega) (by have h9:=H.out.2.1.kn;omega) (by have h9:=H.out.2.1.gb;omega) (ae.set.cell (j:=0) rfl) (ae.set.cell (j:=1) rfl) (ae.set.cell (j:=3) rfl) ae.ch R3.out.2.2.2.2.2.2.1
     have jt:(t:Int)<(ins.length:Int):=by omega
     have fh:(i:Int)<(G.n:Int):=by omega
     have HP:=Zka (Zkb ae (Zkb ct (Zkb ie (Zkb bq (Zkb dr (Zkb af cu))))))
     clear hS ag ae ct ie bq dr af cu dx dy
     by_cases b9:ZP Vt (i,fun _=>Qz X.k X.m i X.g l)=0
     ·have az:=Zka b9
      clear b9
      go_wp2_with (first
       |(go_at_call 37;refine HP.out.2.2.2.2.1.mono ?_;rintro e w4 ⟨ga,ca,rfl,gy,ib,fg,dj⟩;have s2:=(HP.out.1.set.after dj).cell (j:=2) rfl;have cm:=(HP.out.1.e.after dj).mcell hi;have x1:=(HP.out.1.row.after dj).cell (j:=1) rfl;have R4:=Zka (Zkb gy (Zkb ib dj));clear gy ib dj fg)
       |(go_at_call 38;refine(Z8t (a:=fun _=>Qz X.k X.m i X.g l) (HP.out.1.e.after R4.out.2.2) hi HP.out.1.hM HP.out.1.hB H.out.2.1.hK (by have h9:=H.out.2.1.ep;exact Zk1 h9 (by omega)) HP.out.2.2.2.1 R4.out.1 rfl R4.out.2.1 (HP.out.1.ty.below R4.out.2.2) ey (HP.out.1.row.after R4.out.2.2)).mono ?_;rintro e w5 ⟨jg,rfl,cr,au,aj,ax⟩;rw[az.out] at cr;obtain rfl:=cr.zero;have R5:=Zka (au az.out);clear cr au aj ax s2 cm x1)
       |(go_at_call 19;refine(QM 0 0 12 _ _ (Zu.nil _ _) (by decide)).mono ?_;rintro e w6 ⟨rfl,rfl⟩))
      go_roundw
      case measure=>simp[intOf];omega
      case rel=>
       have h9:=bj.out.did (x:=op1 (X.chg l) i) az.out (Zx.step1 HJ.out.2.1 bj.out.at_ hi HP.out.1.hM HP.out.2.2.2.2.2.1 az.out) ⟨HP.out.1.e,HP.out.2.1,HP.out.2.2.1⟩ (R5.out.from R4.out.2.2)
       exact⟨t+1,_,by omega,by go_num,by rw[HP.out.2.2.2.2.2.2,ZjZ];exact h9⟩
     ·exfalso
      have aw:ZB (W6 (X.chg l) (Q7 V G.n)) V=(ZP Vt (op1 (X.chg l) i),ZX Vt (op1 (X.chg l) i)):=by
       rw[bh.out]
       unfold W6
       have e9:ins.map (op1 (X.chg l))++ins.map (op2 (X.chg l))=(ins.take t).map (op1 (X.chg l))++(op1 (X.chg l) i::((ins.drop (t+1)).map (op1 (X.chg l))++ins.map (op2 (X.chg l)))):=by
        have h9:ins.map (op1 (X.chg l))=(ins.take t).map (op1 (X.chg l))++(op1 (X.chg l) i::(ins.drop (t+1)).map (op1 (X.chg l))):=by
         rw[<-ZjY,<-ZjZ,<-cn.out]
        rw[h9,ZjL,List.cons_append]
       rw[e9]
       exact Z1m bj.out.run b9
      have h9:=HZ.out l R3.out.2.2.2.2.1
      rw[aw] at h9
      exact b9 h9
    ·obtain rfl:t=ins.length:=by omega
     rw[Zk5] at bj
     have dq:Wp wr w2.heap.size X.k X.m gl l:=by
      obtain⟨jc,e9,g9,f9⟩:=bj.out.ran
      exact HJ.out.2.2.2.fr f9 (fun k hk=>Or.inl (R3.out.2.2.2.2.2.2.2.1 k hk))
     have fx:(X.chg l).At (ph2 (X.chg l) []) G.n Vt:=Zx.all1 (ins:=ins) (fun i hi hM=>by
      rw[<-bh.out]
      exact mem_ins.2 ⟨hi,by rw[<-bj.out.same.2.2.2];exact hM⟩) bj.out.at_
     have fp:=Zka (Zkb dq fx)
     have iq:∀c∈l,c.key.length<=11:=fun c hc=>(H.out.2.1.hK.len _ (HJ.out.2.1.hl.key c hc)).2
     have fw:=Zka iq
     have km:l.length<=4:=HJ.out.2.1.hl.few
     clear hS dq fx iq
     obtain⟨wA,jw⟩:∃wA,wA=wr:=⟨_,rfl⟩
     subst jw
     go_wp2_with fail
     go_loopw [14,122] (fun gv kv wr=>∃q:Nat,q<=l.length/\kv=.int .i64 q/\Strs wr wA.heap.size gv (Zi (l.take q))/\Below wA.heap.size wA wr) (fun _ kv _=>l.length- (intOf kv).toNat)
     case atStart=>exact⟨0,by omega,rfl,World.ownsRow_nil _ _ _ _,Zk9⟩
     case round=>
      obtain⟨q,hq,rfl,dc,dm⟩:=hrel
      by_cases fi:q<l.length
      ·obtain⟨a1,a2,a3⟩:=(fp.out.1.after dm).at_ q fi
       have hx:=fw.out _ (ZjW fi)
       have ct:=Z3g l q fi
       have kg:(q:Int)<(l.length:Int):=by omega
       obtain⟨c,hc⟩:∃c,l[q]=c:=⟨_,rfl⟩
       rw[hc] at a1 a2 a3 hx ct
       obtain⟨key,val⟩:=c
       simp only at a1 a2 a3 hx ct
       have dt:(Zi (l.take q)).length<=1000000:=by
        have h1:(Zi (l.take q)).length<=(l.take q).length:=by unfold Zi;exact List.length_filterMap_le _ _
        rw[ZjO] at h1
        omega
       have HG:=Zka (Zkb dc (Zkb dm (Zkb ct dt)))
       clear dc dm ct dt hc
       cases val with
       |some v=>
        simp only[Option.getD_some] at a2
        obtain⟨sg,so,sc,s1, -, -⟩:=a3
        have jq:∀W,(binOp .eql 96 (.slice (some ⟨sg,so,none⟩) (X.k+X.m) sc) (.slice none 0 0)).run prog W=.ok (.bool false) W:=fun _=>by kernel_rfl
        go_wp2_with fail
        go_roundw
        case measure=>simp[intOf];omega
        case rel=>
         have cz:=(Below.refl wr.heap.size wr).alloc Zk8 (.cells #[.string (str key),.int .i64 (v.length:Int),.slice (some ⟨sg,so,none⟩) (X.k+X.m) sc] 98)
         exact⟨q+1,by omega,by go_num,by rw[HG.out.2.2.1];simpa using HG.out.1.after cz,HG.out.2.1.trans (cz.mono HG.out.2.1.size)⟩
       |none=>
        have jq:∀W,(binOp .eql 96 (.slice none 0 0) (.slice none 0 0)).run prog W=.ok (.bool true) W:=fun _=>by kernel_rfl
        simp only[Option.getD_none,List.length_nil] at a2
        have ef:((wr.alloc (.cells #[.string (str key),.int .i64 0,.slice none 0 0] 98)).alloc (.cells #[.string (str key)] 9)).heap[wr.heap.size+1]? =some (.cells #[.string (str key)] 9 (0,0)):=by
         have h9:=heap_alloc_new (wr.alloc (.cells #[.string (str key),.int .i64 0,.slice none 0 0] 98)) (.cells #[.string (str key)] 9)
         simpa using h9
        have cz:=((Below.refl wr.heap.size wr).alloc Zk8 (.cells #[.string (str key),.int .i64 0,.slice none 0 0] 98)).alloc (by simp) (.cells #[.string (str key)] 9)
        have ig:=HG.out.1.after cz
        have ay:=HG.out.2.1.trans (cz.mono HG.out.2.1.size)
        have cw:=Zka (Zkb ef (Zkb ig ay))
        clear ef cz ig ay
        go_wp2_with (at_builtin;refine YW _ rfl (.tmp 129) (.tmp 132) rfl wA.heap.size _ (Zi (l.take q)) rfl cw.out.2.1 (wr.heap.size+1) key rfl cw.out.1 cw.out.2.2.size HG.out.2.2.2 ?_;intro g2 jd w8 ho hf _;have ia:=cw.out.2.2.trans (hf.below cw.out.2.2.size cw.out.2.1.ge);have R8:=Zka (Zkb ho ia);clear ho hf ia)
        go_roundw
        case measure=>simp[intOf];omega
        case rel=>exact⟨q+1,by omega,by go_num,by rw[HG.out.2.2.1];exact R8.out.1,R8.out.2⟩
      ·obtain rfl:q=l.length:=by omega
       rw[Zk5] at dc
       have ft:=Zka dc
       obtain⟨fa,ggc,rfl⟩:=Wx dc
       have gx:C2S B w3 G bm gi ins V (ins.map (op1 (X.chg l))) (X.chg l) (ph2 (X.chg l) []) Vt wr:=by
        have h9:=bj.out.after dm
        exact⟨h9.ran,h9.ints,fp.out.2,h9.run⟩
       have dw:Zw wr fa ((Zi l).map str):=by
        have h9:=ft.out
        intro j hj
        have jl:j<(Zi l).length:=by simpa using hj
        obtain⟨g9,c9,kx,ju,_,_,_,jr⟩:=Qs h9 (by omega)
        injection ju with hv1 hv2 hv3
        refine⟨g9,0,hv1,?_⟩
        rw[Nat.zero_add]
        refine jr.cell ?_
        rw[ZjH (by simp[Z6];omega)]
        simp[Z6,jl]
       have fu:=Zka (Zkb gx dw)
       obtain⟨wB,jx⟩:∃wB,wB=wr:=⟨_,rfl⟩
       subst jx
       clear dc dm gx dw
       go_wp2_with fail
       go_loopw [137] (fun kv wr=>∃ (t:Nat) (V4:Ev),t<=ins.length/\kv=.int .i64 t/\C2S B w3 G bm gi ins V (ins.map (op1 (X.chg l))++(ins.take t).map (op2 (X.chg l))) (X.chg l) (ph2 (X.chg l) (ins.take t)) V4 wr/\Zw wr fa ((Zi l).map str)/\∀g o,fa=some ⟨g,o,none⟩->∃r,Row wr g 9 r) (fun kv _=>ins.length- (intOf kv).toNat)
       case atStart=>exact⟨0,Vt,by omega,rfl,by simpa using fu.out.1,fu.out.2,fun g o e=>by
        subst e
        exact Qw ft.out g (by rw[ZG];rfl)⟩
       case round=>
        obtain⟨t,V4,ht,rfl,hS,ez,eu⟩:=hrel
        have cj:=Zka hS
        have fq:=Zka (Zkb ez eu)
        by_cases aq:t<ins.length
        ·have ak:=hS.cell aq
         have ag:ins[t]∈Q7 V G.n:=by rw[bh.out];exact ZjW aq
         have af:ins[t]∉ins.take t:=by
          have fj:ins.Nodup:=by rw[<-bh.out];exact Z08
          have h9:(ins.take t++ins.drop t).Nodup:=by rw[Zk4];exact fj
          intro hm
          exact(List.nodup_append.1 h9).2.2 _ hm _ (by rw[List.drop_eq_getElem_cons aq];exact List.mem_cons_self) rfl
         have cu:ins.take (t+1)=ins.take t++[ins[t]]:=ZjK aq
         have ah:ins=ins.take t++ins[t]::ins.drop (t+1):=by rw[<-List.drop_eq_getElem_cons aq,Zk4]
         obtain⟨i,dx⟩:∃i,ins[t]=i:=⟨_,rfl⟩
         rw[dx] at ak ag af cu ah
         have cn:=Zka ah
         clear ah
         obtain⟨hi,dy⟩:=mem_ins.1 ag
         obtain⟨S,blt,s,d,ae⟩:=hS.pre2 HJ.out.2.1 R3.out.2.1 HJ.out.2.2.1 ey hi dy af
         have jt:(t:Int)<(ins.length:Int):=by omega
         have fh:(i:Int)<(G.n:Int):=by omega
         have ai:Yd X.K S (Qc S.dir (Zi l)) d []:=ae.acts
         have fy:Q8 X.K (X.E+1) (V4.Ds i) S:=ae.hB
         have ij:∀x∈Zi l,x.length<=1000:=fun x hx=>by
          obtain⟨c,hc,h9,_⟩:=XD.1 hx
          rw[<-h9];have:=fw.out c hc;omega
         have du:(Zi l).length<=1000:=by
          have h1:(Zi l).length<=l.length:=by unfold Zi;exact List.length_filterMap_le _ _
          omega
         have eh:=Z4k (gone:=Zi l) (K:=X.K) (E:=X.E+1) (ggc:=ggc) ae.e.1 hi ae.hM fy H.out.2.1.hK (by have h9:=H.out.2.1.ep;exact Zk1 (Nat.succ_le_succ h9) (by omega)) ai ae.ty ey ij du ez (fun g o e=>by obtain⟨r,hr⟩:=eu g o e;exact hr.lt) ae.row
         have s2:=ae.e.1.scell.cell (j:=2) rfl
         have cm:=ae.e.1.mcell hi
         have x1:=ae.row.cell (j:=1) rfl
         have cy:=Zka (Zkb ae (Zkb eh (Zkb af cu)))
         clear hS ag ae eh af cu dx dy ez eu ij du ai fy
         by_cases b9:ZP V4 (i,fun S=>Qc S.dir (Zi l))=0
         ·have az:=Zka b9
          clear b9
          go_wp2_with (go_at_call 41;refine cy.out.2.1.mono ?_;rintro e w5 ⟨jg,rfl,cr,au,aj,ax⟩;rw[az.out] at cr;obtain rfl:=cr.zero;have R5:=Zka (au az.out);clear cr au aj ax s2 cm x1)
          go_roundw
          case measure=>simp[intOf];omega
          case rel=>
           have h9:=cj.out.did (x:=op2 (X.chg l) i) az.out (Zx.step2 HJ.out.2.1 cj.out.at_ hi cy.out.1.hM cy.out.2.2.1 az.out) cy.out.1.e R5.out
           have h8:=Z6i fq.out.1 fq.out.2 cy.out.1.e.1 R5.out
           exact⟨t+1,_,by omega,by go_num,by rw[cy.out.2.2.2,ZjZ,<-ZjL];exact h9,h8.1,h8.2⟩
         ·exfalso
          have aw:ZB (W6 (X.chg l) (Q7 V G.n)) V=(ZP V4 (op2 (X.chg l) i),ZX V4 (op2 (X.chg l) i)):=by
           rw[bh.out]
           unfold W6
           have e9:ins.map (op1 (X.chg l))++ins.map (op2 (X.chg l))=(ins.map (op1 (X.chg l))++(ins.take t).map (op2 (X.chg l)))++(op2 (X.chg l) i::(ins.drop (t+1)).map (op2 (X.chg l))):=by
            have h9:ins.map (op2 (X.chg l))=(ins.take t).map (op2 (X.chg l))++(op2 (X.chg l) i::(ins.drop (t+1)).map (op2 (X.chg l))):=by
             rw[<-ZjY,<-ZjZ,<-cn.out]
            rw[ZjL,<-h9]
           rw[e9]
           exact Z1m cj.out.run b9
          have h9:=HZ.out l R3.out.2.2.2.2.1
          rw[aw] at h9
          exact b9 h9
        ·obtain rfl:t=ins.length:=by omega
         rw[Zk5] at cj
         obtain⟨ja,e4,g4,f4⟩:=cj.out.ran
         have fo:=cj.out.same
         have bg:=e4.scell
         rw[fo.2.2.1,H.out.2.1.vg] at bg
         have c3:=bg.cell (j:=3) rfl
         have f3:=bg.free (j:=3) (by simp)
         have ji:=H.out.2.1.gb
         have ku:=Zk2 ((X.g:Int)+1) (by omega)
         have j7:=Zka (Zkb e4 (Zkb g4 f4))
         have j9:=Zka fo
         clear hS ez eu e4 g4 f4 fo bg
         go_wp2_with fail
         go_ret
         have aw:ZB (W6 (X.chg l) (Q7 V G.n)) V=(0,V4):=by
          rw[bh.out]
          exact cj.out.run
         have kt:V4.gen=(X.g:Int):=by rw[j9.out.2.2.1,H.out.2.1.vg]
         refine⟨l,R3.out.2.2.2.2.1,rfl,?_⟩
         rw[aw]
         obtain⟨jb,e5,g5,f5⟩:=Zf.trans ⟨R3.out.2.1,R3.out.2.2.1,R3.out.2.2.2.1⟩ ⟨ja,j7.out⟩
         have h9:=e5.setGen (V.gen+1)
         rw[H.out.2.1.vg] at h9⊢
         exact⟨jb,h9,g5,f5.setCell (Or.inl (ZjS _ H.out.1.smem)) _⟩
end
section
open Go.RowKit Go.Shelf Go.Sort
variable{B base c g n:Nat}{G:Eg}{L L' l:List Bs}{V:Ev}{bl:List Nat}{la:Option Addr}{lv:Value}{w w' wr:World}
theorem Z4T{e:TypeId}(g:Nat):∀ (vs:List Value) (o:Nat) (w:World) (cur:Array Value),w.heap[g]? =some (.cells cur e (0,0))->o+vs.length<=cur.size->∃ae,(w.setCells g o vs).heap[g]? =some (.cells ae e (0,0))/\ae.size=cur.size/\ae.toList.take (o+vs.length)=cur.toList.take o++vs
 |[],o,w,cur,h,hl=>⟨cur,h,rfl,by simp⟩
 |v::r,o,w,cur,h,hl=>by
  simp only[ZjM] at hl
  have h1:(w.setCell ⟨g,o,none⟩ v).heap[g]? =some (.cells (cur.setIfInBounds o v) e (0,0)):=by
   rw[setCell_eq_setRow w g o _ e _ v h]
   exact setRow_heap w g _ _ e _ h
  obtain⟨ae,a,b,c⟩:=Z4T g r (o+1) _ _ h1 (by simp;omega)
  refine⟨ae,a,by rw[b];simp,?_⟩
  rw[show o+(v::r).length=o+1+r.length by simp;omega,c]
  have e1:(cur.setIfInBounds o v).toList.take (o+1)=cur.toList.take o++[v]:=by
   rw[Array.toList_setIfInBounds]
   have af:o<(cur.toList.set o v).length:=by simp;omega
   rw[ZjK af,List.take_set_of_le Zk8]
   simp
  rw[e1];simp
theorem Z5K(g:Nat):∀ (vs:List Value) (o:Nat) (w w0:World),Fr [g] w0 w->Fr [g] w0 (w.setCells g o vs)
 |[],o,w,w0,h=>h
 |v::r,o,w,w0,h=>Z5K g r (o+1) _ w0 (h.setCell (Or.inl (by simp)) v)
theorem Strs.compacted{cap q:Nat}{l':List Bs}(h:Strs w base (.slice (some ⟨g,0,none⟩) n cap) l)(hl:l'.length<=l.length):
  Strs ((w.drewN q).setCells g 0 ((l'++List.replicate (l.length-l'.length) []).map encStr)) base (.slice (some ⟨g,0,none⟩) l'.length cap) l'/\Fr [g] w ((w.drewN q).setCells g 0 ((l'++List.replicate (l.length-l'.length) []).map encStr)):=by
 rcases h.2 with ⟨hv,_⟩|⟨g',af,cur,hv,ag,hh,h1,h2,h3,h4⟩
 ·cases hv
 ·simp only[Value.slice.injEq,ZjJ,Addr.mk.injEq,and_true] at hv
  obtain⟨rfl,rfl,rfl⟩:=hv
  have hlen:((l'++List.replicate (l.length-l'.length) ([]:Bs)).map encStr).length=l.length:=by simp;omega
  obtain⟨ae,a,b,c⟩:=Z4T g ((l'++List.replicate (l.length-l'.length) []).map encStr) 0 (w.drewN q) cur hh (by rw[hlen];omega)
  refine⟨⟨by simp[Z6],Or.inr ⟨g,cap,ae,rfl,ag,a,by omega,h2,by rw[b,h3],?_⟩⟩,Z5K g _ 0 _ w (Fr.of_below ⟨rfl,rfl,rfl,Zk8,fun _ _=>rfl⟩)⟩
  have c2:=congrArg (List.take l'.length) c
  rw[List.take_take,hlen,Nat.min_eq_left (by omega)] at c2
  rw[Nat.mul_one,c2]
  simp[Z6,encStr,str]
theorem Zdc(l:List Bs):Lib.strsOf (fun i=>str (l.toArray[i]!)) l.length=l:=by
 unfold Lib.strsOf
 apply List.ext_getElem
 ·simp
 ·intro i h1 h2
  simp[str,List.getElem!_toArray,h2]
theorem ZeM(w:World)(base g n cap:Nat)(l:List Bs)(h:Strs w base (.slice (some ⟨g,0,none⟩) n cap) l)(hl:l.length<=1000000):
  Calls prog 98 #[.slice (some ⟨g,0,none⟩) n cap] w fun e w'=>e=.returned (.tuple #[])/\Strs w' base (.slice (some ⟨g,0,none⟩) n cap) (l.mergeSort fun x y=>decide (x<=y))/\Fr [g] w w':=by
 obtain⟨hH,af,rfl,ae⟩:=h.holds
 refine(Tryz.slices_Sort_string g 0 cap l w hH af (by omega)).mono ?_
 rintro e w' ⟨rfl,q,os,rfl⟩
 obtain⟨a,b⟩:=h.sorted (q:=q) (os:=os) (l':=l.mergeSort fun x y=>decide (x<=y)) (List.length_mergeSort ..)
 exact⟨rfl,a,b⟩
theorem Z9W(w:World)(base g n cap:Nat)(l:List Bs)(h:Strs w base (.slice (some ⟨g,0,none⟩) n cap) l)(hl:l.length<=1000000):
  Calls prog 99 #[.slice (some ⟨g,0,none⟩) n cap] w fun e w'=>∃v,e=.returned v/\Strs w' base v (Lib.compact l)/\Fr [g] w w':=by
 obtain⟨hH,af,rfl,ae⟩:=h.holds
 have hC:=Tryz.slices_Compact_string_cells g 0 l.length cap (fun i=>str (l.toArray[i]!)) w (by omega) ae (fun i hi=>(hH i (by simpa using hi)).1) (fun j hj=>(hH j (by simpa using hj)).2)
 rw[Zdc] at hC
 refine hC.mono ?_
 rintro e w' ⟨rfl,q,rfl⟩
 obtain⟨a,b⟩:=h.compacted (q:=q) (l':=Lib.compact l) (Lib.compact_length_le l)
 exact⟨_,rfl,a,b⟩
def tl1(x:Bs):Bs:=x.drop 1
theorem Zik(x:Bs):(str x).extract 1 (str x).size=str (tl1 x):=by
 apply Yc
 rw[Lib.extract_to_end,Ze,Ze];rfl
def kOf(V:Ev)(pre:Bs)(i:Nat):List Bs:=match V.Ms i with
 |some S=>(S.dir.names.filter fun n=>Lib.hasPrefix n (nmD pre)).map tl1
 |none=>[]
def Z01(V:Ev)(pre:Bs)(k:Nat):List Bs:=(List.range k).flatMap (kOf V pre)
theorem Z7T(V:Ev)(pre:Bs)(k:Nat):Z01 V pre (k+1)=Z01 V pre k++kOf V pre k:=by
 unfold Z01
 rw[List.range_succ,List.flatMap_append];simp
def ZbK(V:Ev)(n:Nat):Prop:=∀i,i<n->∀S,V.Ms i=some S->S.dir.Sorted/\S.dir.length<=10000/\∀x∈S.dir.names,x.length<=1000
theorem Zbu(h:ZbK V n)(pre:Bs){i:Nat}(hi:i<n):(kOf V pre i).length<=10000:=by
 unfold kOf
 cases hM:V.Ms i with
 |none=>simp
 |some S=>
  simp only
  rw[ZjN]
  have h1:=List.length_filter_le (fun n=>Lib.hasPrefix n (nmD pre)) S.dir.names
  have h2:S.dir.names.length=S.dir.length:=ZjN ..
  have h3:=(h i hi S hM).2.1
  omega
theorem Z64(h:ZbK V n)(pre:Bs):∀k,k<=n->(Z01 V pre k).length<=k*10000
 |0,_=>by simp[Z01]
 |k+1,hk=>by
  have h1:=Z64 h pre k (by omega)
  have h2:=Zbu h pre (i:=k) (by omega)
  rw[Z7T,ZjI];omega
structure KyS(B:Nat)(w:World)(G:Eg)(V:Ev)(bl:List Nat)(lv:Value)(L:List Bs)(wr:World):Prop where
 ran:Zf B G bl V w wr
 own:Strs wr w.heap.size lv L
theorem KyS.after(h:KyS B w G V bl lv L wr)(hb:Below wr.heap.size wr w'):KyS B w G V bl lv L w':=⟨h.ran.after hb,h.own.after hb⟩
theorem KyS.next{ae:List Nat}(h:KyS B w G V bl lv L wr)(he:EAt B wr G V ae/\(∀k∈ae,k∈bl∨w.heap.size<=k)/\Fr (G.p::bl) w wr)(hr:Zf B G ae V wr w'):KyS B w G V bl lv L w':=by
 obtain⟨af,e2,g2,f2⟩:=hr
 refine⟨Zf.trans he ⟨af,e2,g2,f2⟩,Wf h.own f2 (fun q hq=> ?_)⟩
 obtain⟨l,hl⟩:=Qw h.own q hq
 exact he.1.row_ne hl (by decide)
theorem KyS.put{af:Value}(h:KyS B w G V bl lv L wr)(ho:Strs w' w.heap.size af L')(hf:Fr (ZE lv) wr w'):KyS B w G V bl af L' w':=by
 obtain⟨ag,e1,g1,f1⟩:=h.ran
 have ae:Zs wr (ZE lv) [9]:=fun q hq=>by
  obtain⟨l,f,hl,_⟩:=Qw h.own q hq
  exact⟨_,_,_,hl,by simp⟩
 refine⟨⟨ag,e1.fr hf ae (by decide) (by decide) (by decide) (fun k hk hm=> ?_),g1,f1.trans hf (fun i hi ah=> ?_)⟩,ho⟩
 ·exact e1.typed.disj ae (by decide) k hk hm
 ·have:=WC h.own i hi;omega
structure KyN(B:Nat)(w:World)(G:Eg)(V:Ev)(bl:List Nat)(la:Option Addr)(l:List Bs)(lv:Value)(L:List Bs)(wr:World):Prop where
 s:KyS B w G V bl lv L wr
 nm:Zw wr la (l.map str)
 lt:∀g o,la=some ⟨g,o,none⟩->g<wr.heap.size/\g∉ZE lv
theorem KyN.after(h:KyN B w G V bl la l lv L wr)(hb:Below wr.heap.size wr w'):KyN B w G V bl la l lv L w':=⟨h.s.after hb,h.nm.after hb,fun g o e=>⟨by have:=(h.lt g o e).1;have:=hb.size;omega,(h.lt g o e).2⟩⟩
theorem Strs.rd{a:Option Addr}(h:Strs w base (.slice a n c) l):Zw w a (l.map str):=fun j hj=>by
 have ae:j<l.length:=by simpa using hj
 obtain⟨g9,c9,ah,ag,_,_,_,af⟩:=Qs h (by omega)
 injection ag with hv1 hv2 hv3
 refine⟨g9,0,hv1,?_⟩
 rw[Nat.zero_add]
 refine af.cell ?_
 rw[ZjH (by simp[Z6];omega)]
 simp[Z6,ae]
theorem KyN.start{w3:World}{b0:Nat}(h0:Strs wr b0 lv L)(hb:wr.heap.size<=base)(hs:Strs w3 base (.slice la n c) l)(h:KyS B w G V bl lv L w3):KyN B w G V bl la l lv L w3:=by
 refine⟨h,hs.rd,fun g o e=> ?_⟩
 subst e
 have hm:g∈ZE (.slice (some ⟨g,o,none⟩) n c):=by rw[ZG];rfl
 obtain⟨r,hr⟩:=Qw hs g hm
 have ag:=WC hs g hm
 refine⟨hr.lt,fun ae=> ?_⟩
 obtain⟨r2,af⟩:=Qw h0 g ae
 have:=af.lt
 omega
theorem KyN.put(h:KyN B w G V bl la l lv L wr)(ho:Strs w' w.heap.size (.slice (some ⟨g,0,none⟩) n c) L')(hf:Fr (ZE lv) wr w')(ae:lv.ownBlock=some g∨g=wr.heap.size):KyN B w G V bl la l (.slice (some ⟨g,0,none⟩) n c) L' w':=by
 refine⟨h.s.put ho hf,fun j hj=> ?_,fun g2 o e=> ?_⟩
 ·obtain⟨g2,o,e,hc⟩:=h.nm j hj
  have hb:=hf.block g2 (h.lt g2 o e).1 (h.lt g2 o e).2
  refine⟨g2,o,e,?_⟩
  unfold World.cell? at hc⊢
  rw[hb];exact hc
 ·obtain⟨h1,h2⟩:=h.lt g2 o e
  refine⟨by have:=hf.size;omega,fun hm=> ?_⟩
  rcases Z9y ae g2 hm with h9|h9
  ·exact h2 h9
  ·omega
theorem ZdU(B:Nat)(w:World)(G:Eg)(V:Ev)(bl:List Nat)(pre:Bs)(h:EAt B w G V bl)(ee:pre.length<=1000)(hd:ZbK V G.n):
  Calls prog 43 #[.pointer (some ⟨G.s,0,none⟩),.string (str pre)] w fun e w'=>∃v,e=.returned (.tuple #[v,.nilIface])/\Strs w' w.heap.size v (Lib.compact ((Z01 V pre G.n).mergeSort fun x y=>decide (x<=y)))/\Zf B G bl V w w':=by
 have c2:=h.scell.cell (j:=2) rfl
 have c4:=h.scell.cell (j:=4) rfl
 have hn:=h.nle
 have ag:=Z37 pre (by omega)
 have HC:=Zka ag
 have HR:=Zka hd
 have H0:KyS B w G V bl (.slice none 0 0) (Z01 V pre 0) w:=⟨Zf.refl h,Strs.nil _ _⟩
 have H0:=Zka H0
 clear h ag hd
 go_enter func43,ntmps43
 go_wp2
 go_loopw [6,23] (fun lv kv wr=>∃k:Nat,k<=G.n/\kv=.int .i64 k/\KyS B w G V bl lv (Z01 V pre k) wr) (fun _ kv _=>G.n- (intOf kv).toNat)
 case atStart=>exact⟨0,by omega,rfl,H0.out⟩
 case round=>
  obtain⟨k,hk,rfl,hS⟩:=hrel
  have af:=Zka hS
  by_cases au:k<G.n
  ·obtain⟨cj,hE,hg,hf⟩:=hS.ran
   have dz:(k:Int)<(G.n:Int):=by omega
   have cm:=hE.mcell au
   have al:=Z7T V pre k
   have HE:=Zka (Zkb hE (Zkb hg hf))
   cases hM:V.Ms k with
   |none=>
    have aq:kOf V pre k=[]:=by unfold kOf;rw[hM]
    rw[aq,Zk7] at al
    have hh:=Z0H B wr G V cj k hE au hM
    have HH:=Zka (Zkb hh al)
    clear hE hg hf hh hM aq al hS
    go_wp2_with (go_at_call 34;refine HH.out.1.mono ?_;rintro e w2 ⟨rfl,df⟩;have R2:=Zka (af.out.next HE.out df);clear df)
    go_roundw
    case measure=>simp[intOf];omega
    case rel=>exact⟨k+1,by omega,by go_num,by rw[HH.out.2];exact R2.out⟩
   |some S=>
    obtain⟨s,ay,dp,hd,L,dx⟩:=hE.mem au hM
    have hh:=JX B wr G V cj k hE au S hM
    obtain⟨dm,bg,dc⟩:=HR.out k au S hM
    have ae:=fun w2 (hs:Yg w2 s (G.ds k) S)=>Z1w s (G.ds k) S (nmD pre) w2 hs dm (by omega)
    have aq:kOf V pre k=(S.dir.names.filter fun n=>Lib.hasPrefix n (nmD pre)).map tl1:=by unfold kOf;rw[hM]
    have b9:=Z64 HR.out pre k hk
    have aj:=Zbu HR.out pre au
    obtain⟨l,hl⟩:∃l,(S.dir.names.filter fun n=>Lib.hasPrefix n (nmD pre))=l:=⟨_,rfl⟩
    have cz:∀x∈l,1<=x.length/\x.length<=1000:=fun x hx=>by
     rw[<-hl] at hx
     obtain⟨h1,h2⟩:=List.mem_filter.1 hx
     refine⟨?_,dc x h1⟩
     cases x with
     |nil=>simp[Lib.hasPrefix,nmD] at h2
     |cons a r=>simp
    rw[hl] at aq ae
    rw[aq] at al aj
    rw[ZjN] at aj
    have bf:(Z01 V pre k).length+l.length<=200000:=by
     have h9:k*10000<=160000:=by omega
     omega
    obtain⟨L0,cr⟩:∃L0,Z01 V pre k=L0:=⟨_,rfl⟩
    rw[cr] at af al bf
    have HH:=Zka (Zkb hh (Zkb ay (Zkb dp (Zkb ae (Zkb al (Zkb cz bf))))))
    clear hE hg hf hh hM ay dp dx hd hS ae al cz bf aq b9 aj hl cr dm bg dc
    go_wp2_with (first
     |(go_at_call 34;refine HH.out.1.mono ?_;rintro e w2 ⟨rfl,az⟩;have x1:=(HH.out.2.1.after az).cell (j:=1) rfl;have q2:=az.cell (ZjG _ _ cm)|>.trans cm;have ag:=HC.out;have R2:=Zka az;clear az cm)
     |(go_at_call 96;refine(HH.out.2.2.2.1 _ (HH.out.2.2.1.after R2.out)).mono ?_;rintro e w3 ⟨v,rfl,bm,ct⟩;obtain⟨la,lc,rfl⟩:=Wx bm;have S3:=Zka (Zkb bm (Zkb (af.out.after (R2.out.trans (ct.mono R2.out.size))) (Zk1 R2.out.size Zk8)));clear bm ct x1 q2 ag))
    obtain⟨wA,dy⟩:∃wA,wA=wr:=⟨_,rfl⟩
    subst dy
    go_loopw [6,48] (fun lv kv wr=>∃t:Nat,t<=l.length/\kv=.int .i64 t/\KyN B w G V bl la l lv (L0++(l.take t).map tl1) wr) (fun _ kv _=>l.length- (intOf kv).toNat)
    case atStart=>exact⟨0,by omega,rfl,by rw[List.take_zero,List.map_nil,Zk7];exact KyN.start af.out.own S3.out.2.2 S3.out.1 S3.out.2.1⟩
    case round=>
     obtain⟨t,ht,rfl,hT⟩:=hrel
     have HT:=Zka hT
     by_cases ak:t<l.length
     ·obtain⟨g,o,dw,ah⟩:=hT.nm t (by simpa using ak)
      subst dw
      rw[List.getElem_map] at ah
      have hx:=HH.out.2.2.2.2.2.1 _ (ZjW ak)
      obtain⟨x,bz⟩:∃x,l[t]=x:=⟨_,rfl⟩
      have bq:L0++(l.take (t+1)).map tl1=L0++(l.take t).map tl1++[tl1 x]:=by rw[ZjK ak,bz];simp
      have bu:(L0++(l.take t).map tl1).length<=1000000:=by
       have h9:=HH.out.2.2.2.2.2.2
       rw[ZjI,ZjN,ZjO];omega
      rw[bz] at ah hx
      have ef:∀W,(Instr.slice 9 (.string (str x)) (some (.int .i64 1)) none none).run prog W=.ok (.string (str (tl1 x))) W:=fun W=>by rw[<-Zik];exact Y4 9 underlying9 (str x) 1 (by rw[Z5];omega) W
      have aw:=heap_alloc_new wr (.cells #[.string (str (tl1 x))] 9)
      have S2:=HT.out.after ((Below.refl wr.heap.size wr).alloc Zk8 (.cells #[.string (str (tl1 x))] 9))
      have eh:(t:Int)<(l.length:Int):=by omega
      have bh:l.length<=200000:=by have h9:=HH.out.2.2.2.2.2.2;omega
      obtain⟨A0,cn⟩:∃A0,L0++(l.take t).map tl1=A0:=⟨_,rfl⟩
      rw[cn] at bq bu S2 hT
      have HX:=Zka (Zkb bq (Zkb bu (Zkb aw (Zkb S2 hT.s.ran))))
      have cu:w.heap.size<=(wr.alloc (.cells #[.string (str (tl1 x))] 9)).heap.size:=by
       obtain⟨_,_,_,f9⟩:=hT.s.ran
       have:=f9.size
       simp;omega
      have dr:=Zka cu
      clear bq bu aw S2 hT bz hx cu cn
      go_wp2_with (at_builtin;refine YW _ rfl (.tmp 52) (.tmp 55) rfl w.heap.size _ _ rfl HX.out.2.2.2.1.s.own wr.heap.size (tl1 x) rfl HX.out.2.2.1 dr.out HX.out.2.1 ?_;intro g2 dt w8 ho hf de;have R8:=Zka (HX.out.2.2.2.1.put ho hf de);clear ho hf de)
      go_roundw
      case measure=>simp[intOf];omega
      case rel=>exact⟨t+1,by omega,by go_num,by rw[HX.out.1];exact R8.out⟩
     ·obtain rfl:t=l.length:=by omega
      rw[Zk5] at HT
      have ai:=HT.out.s
      rw[<-HH.out.2.2.2.2.1] at ai
      have dq:=Zka ai
      clear ai hT
      go_wp2_with fail
      go_roundw
      case measure=>simp[intOf];omega
      case rel=>exact⟨k+1,by omega,by go_num,dq.out⟩
  ·obtain rfl:k=G.n:=by omega
   obtain⟨a,cap,rfl⟩:=Wx hS.own
   have b9:=Z64 HR.out pre G.n Zk8
   obtain⟨L,hL⟩:∃L,Z01 V pre G.n=L:=⟨_,rfl⟩
   rw[hL] at af b9
   clear hS
   rw[hL]
   by_cases bj:L=[]
   ·subst bj
    go_wp2_with (first
     |(go_at_call 98;refine(Tryz.slices_Sort_string_none a cap _).mono ?_;rintro e w' ⟨rfl,rfl⟩)
     |(go_at_call 99;refine(Tryz.slices_Compact_string_empty a cap _).mono ?_;rintro e w' ⟨rfl,rfl⟩))
    go_ret2
    have du:Lib.compact (([]:List Bs).mergeSort fun x y=>decide (x<=y))=[]:=by simp[Lib.compact,Lib.compactUpTo]
    exact⟨.slice a 0 cap,rfl,by rw[hL,du];exact af.out.own,af.out.ran⟩
   ·have ax:0<L.length:=by
     cases L with
     |nil=>exact absurd rfl bj
     |cons=>simp
    obtain⟨g,c',sp,hv, -, -, -, -⟩:=Qs af.out.own ax
    injection hv with hv1 hv2 hv3
    subst hv1 hv3
    have bh:L.length<=1000000:=by omega
    have HL:=Zka (Zkb hL bh)
    clear hL bj ax hv2 bh b9
    go_wp2_with (first
     |(go_at_call 98;refine(ZeM _ _ g _ cap L af.out.own HL.out.2).mono ?_;rintro e w8 ⟨rfl,dh,cw⟩;have S8:=Zka (af.out.put dh cw);clear dh cw)
     |(go_at_call 99;refine(Z9W _ _ g _ cap (L.mergeSort fun x y=>decide (x<=y)) S8.out.own (by rw[List.length_mergeSort];exact HL.out.2)).mono ?_;rintro e w9 ⟨v9,rfl,dj,cy⟩;have S9:=Zka (S8.out.put dj cy);clear dj cy))
    go_ret2
    exact⟨_,rfl,by rw[HL.out.1];exact S9.out.own,S9.out.ran⟩
end
section
open Go.RowKit Go.Shelf
variable{E g k m n:Nat}{H:Bs->Option Bs}{K:List Bs}{V:Ev}{cs:List Chg}
structure ZW(K:List Bs)(E k m n g:Nat)(H:Bs->Option Bs)(V:Ev):Prop where
 hK:KOk K
 k1:1<=k
 kn:k+m=n
 vk:V.k=k
 vm:V.m=m
 vg:V.gen=(g:Int)
 gone:V.P.gone=false
 fuse:V.P.fuse<0
 life:∀i,i<n->(V.Ds i).life<=1000
 all_:∀i,i<n->∃S,V.Ms i=some S/\Q8 K E (V.Ds i) S/\WT k m i g H (stR (V.Ds i).reads S.dir)/\Z30 k m i H (stR (V.Ds i).reads S.dir)
theorem FmS.set{P:Pw}{Ds:Nat->Dk}(h:FmS K ⟨k,m,0,P,Ds,fun _=>none⟩ n V)(hK:KOk K)(ae:1<=k)(af:k+m=n)(hl:∀i,i<n->(Ds i).life<=1000):ZW K 2 k m n 0 (fun _=>none) V where
 hK:=hK
 k1:=ae
 kn:=af
 vk:=h.k
 vm:=h.m
 vg:=h.gen
 gone:=h.gone
 fuse:=h.fuse
 life:=fun i hi=>by rw[h.life i];exact hl i hi
 all_:=fun i hi=>by
  obtain⟨S,h1,h2,h3⟩:=h.done i hi
  refine⟨S,h1,h2,?_,?_⟩
  ·rw[h3];exact Zc3 k m i 0
  ·exact Zap k m i _
def Z6j(V:Ev)(i:Nat):Tab:=match V.Ms i with
 |some S=>stR (V.Ds i).reads S.dir
 |none=>fun _=>none
def ZW.ph(K:List Bs)(E k m g:Nat)(H:Bs->Option Bs)(V:Ev):Zx:=⟨K,E,k,m,g,H,[],Z6j V⟩
theorem ZW.ins(h:ZW K E k m n g H V):Q7 V n=List.range n:=by
 unfold Q7
 rw[List.filter_eq_self]
 intro i hi
 obtain⟨S,h1,_⟩:=h.all_ i (List.mem_range.1 hi)
 rw[h1];rfl
theorem ZW.pre(h:ZW K E k m n g H V)(hE:E<=1900000000)(hg:g<=1000000000)(ah:cs≠[])(ae:cs.length<=4)(af:∀c∈cs,c.key∈K)(ag:∀c∈cs,∀v,c.val=some v->v.length<=200):XA (ZW.ph K E k m g H V) n V cs where
 hK:=h.hK
 k1:=h.k1
 rest:=fun i hi=>by
  obtain⟨S,h1,h2,h3,h4⟩:=h.all_ i hi
  show WT k m i g H (Z6j V i)
  unfold Z6j
  rw[h1];exact h3
 vk:=h.vk
 vm:=h.vm
 vg:=h.vg
 kn:=h.kn
 gone:=h.gone
 at_:=fun i hi S hM=>by
  obtain⟨S',h1,h2,h3,h4⟩:=h.all_ i hi
  rw[h1] at hM
  cases hM
  refine⟨h2,?_⟩
  show _=Z6j V i
  unfold Z6j
  rw[h1]
 many:=by
  rw[h.ins,List.length_range]
  show k<=n
  have:=h.kn
  omega
 ep:=hE
 gb:=hg
 ne:=ah
 few:=ae
 key:=af
 val:=ag
theorem Zck(l:List YX):∀ (V:Ev) (i:Nat),((ZB l V).2.Ds i).life=(V.Ds i).life:=by
 induction l with
 |nil=>intro V i;rfl
 |cons x r ih=>
  intro V i
  have h:((ZX V x).Ds i).life=(V.Ds i).life:=by
   unfold ZX
   split
   ·simp only
    by_cases e:i=x.1
    ·subst e;rw[Zn,(Wz _ _ _).1]
    ·rw[Z7 _ _ e]
   ·rfl
  unfold ZB
  split
  ·rw[ih,h]
  ·exact h
theorem ZW.commit{l:List Chg}{B:Nat}{w:World}{G:Eg}{bl:List Nat}(h:ZW K E k m n g H V)(hn:G.n=n)(he:EAt B w G V bl)(hp:XA (ZW.ph K E k m g H V) G.n V cs)(hl:l.Perm (Qq cs)):
  (ZB (W6 ((ZW.ph K E k m g H V).chg l) (Q7 V G.n)) V).1=0/\ZW K (E+2) k m n (g+1) (upH H l) {(ZB (W6 ((ZW.ph K E k m g H V).chg l) (Q7 V G.n)) V).2 with gen:=V.gen+1}:=by
 obtain⟨c1,c2⟩:=Zx.commit (hp.ok hl) (hp.start (l:=l) he)
 obtain⟨d1,d2⟩:=c2 h.fuse
 have ae:=c1 d1
 obtain⟨s1,s2,s3,s4⟩:=Z6w (W6 ((ZW.ph K E k m g H V).chg l) (Q7 V G.n)) V
 refine⟨d1,h.hK,h.k1,h.kn,s1.trans h.vk,s2.trans h.vm,by show V.gen+1=((g+1:Nat):Int);rw[h.vg];omega,ae.gone,d2,fun i hi=>by show((ZB _ V).2.Ds i).life<=1000;rw[Zck];exact h.life i hi,fun i hi=> ?_⟩
 obtain⟨S0,h1,h2,h3,h4⟩:=h.all_ i hi
 have hs:=s4 i
 rw[h1] at hs
 obtain⟨S,hM⟩:=Option.isSome_iff_exists.1 hs
 obtain⟨⟨g1,g2,g3⟩,_⟩:=ae.at_ i (by rw[hn];exact hi) S hM
 refine⟨S,hM,g1,g2,g3 ?_⟩
 show Z30 k m i H (Z6j V i)
 unfold Z6j
 rw[h1];exact h4
theorem ZW.shard(h:ZW K E k m n g H V){key v:Bs}(hH:H key=some v){i:Nat}(hi:i<n){S:Sto}(hM:V.Ms i=some S):Q8 K E (V.Ds i) S/\stR (V.Ds i).reads S.dir (nmD key)=some (some (shL V.k V.m i key v)):=by
 obtain⟨S',h1,h2,h3,h4⟩:=h.all_ i hi
 rw[h1] at hM
 cases hM
 refine⟨h2,?_⟩
 rw[h.vk,h.vm]
 exact h4 key v hH
theorem ZW.keyOk(h:ZW K E k m n g H V){key v:Bs}(hH:H key=some v):Z54 K E V n key v:=
 ⟨fun i hi S hM=>(h.shard hH hi hM).1,fun i hi S hM=>Or.inr (Or.inr (h.shard hH hi hM).2)⟩
theorem ZW.good(h:ZW K E k m n g H V){key v:Bs}(hH:H key=some v):V.k<=Yh V key v n:=by
 have e:Yh V key v n=n:=by
  unfold Yh
  rw[List.filter_eq_self.2,List.length_range]
  intro i hi
  obtain⟨S,h1,_⟩:=h.all_ i (List.mem_range.1 hi)
  unfold QO
  rw[h1]
  simp only
  exact decide_eq_true (h.shard hH (List.mem_range.1 hi) h1).2
 rw[e,h.vk]
 have:=h.kn
 omega
theorem ZW.get(h:ZW K E k m n g H V){B:Nat}{w:World}{G:Eg}{bl:List Nat}(he:EAt B w G V bl)(hn:G.n=n)(ht:Ty w)(ae:0<B){key v:Bs}(hH:H key=some v)(hk:key∈K)(hv:v.length<=200):
  Calls prog 28 #[.pointer (some ⟨G.s,0,none⟩),.string (str key)] w fun e w'=>e=.returned (.tuple #[.string (str v),.nilIface])/\Zf B G bl V w w':=by
 have h1:=h.hK.len key hk
 refine Zbr B w G V bl K E key v he ht ae h1.1 (by omega) hv (by rw[h.vk];exact h.k1) (by rw[h.vk,h.vm,hn];exact h.kn) h.gone (by rw[hn];exact h.keyOk hH) (by rw[hn];exact h.good hH)
theorem ZW.keyD(h:ZW K E k m n g H V):ZbK V n:=fun i hi S hM=>by
 obtain⟨S',h1,h2,h3,h4⟩:=h.all_ i hi
 rw[h1] at hM
 cases hM
 refine⟨h2.sorted,by have:=h2.few h.hK;omega,fun x hx=> ?_⟩
 obtain⟨y,hy,rfl⟩:=List.mem_map.1 hx
 have:=(Z0a h.hK _ (h2.sm y hy).1).2
 omega
theorem ZW.look(h:ZW K E k m n g H V){B:Nat}{w:World}{G:Eg}{bl:List Nat}(he:EAt B w G V bl)(hn:G.n=n)(ht:Ty w)(ae:0<B){key v:Bs}(hH:H key=some v)(hk:key∈K)(hv:v.length<=200){i:Nat}(hi:i<n):
  Calls prog 45 #[.pointer (some ⟨G.s,0,none⟩),.int .i64 (i:Int),.string (str key)] w fun e w'=>e=.returned .nilIface/\Zf B G bl V w w':=by
 have h1:=h.hK.len key hk
 obtain⟨S,hM,_⟩:=h.all_ i hi
 obtain⟨a,b⟩:=h.shard hH hi hM
 exact Zfk B w G V bl K E i S key v he ht ae (by rw[hn];exact hi) hM h1.1 (by omega) hv (by rw[h.vk];exact h.k1) (by rw[h.vk,h.vm,hn];exact h.kn) h.gone a (by rw[hn];exact(h.keyOk hH).runs) b
theorem ZW.commitW(h:ZW K E k m n g H V){B:Nat}{w:World}{G:Eg}{bl:List Nat}(he:EAt B w G V bl)(hn:G.n=n)(ht:Ty w)(aj:0<B)(hE:E<=1900000000)(hg:g<=1000000000)(al:cs≠[])(af:cs.length<=4)(ag:∀c∈cs,c.key∈K)(ai:∀c∈cs,∀v,c.val=some v->v.length<=200){gc nc cap:Nat}(hr:Z14 w gc cs)(ak:nc=cs.length)(ae:nc<=cap):
  Calls prog 11 #[.pointer (some ⟨G.s,0,none⟩),.slice (some ⟨gc,0,none⟩) nc cap] w fun e w'=>∃l V',l.Perm (Qq cs)/\e=.returned .nilIface/\Zf B G bl V' w w'/\ZW K (E+2) k m n (g+1) (upH H l) V':=by
 have hp:=h.pre hE hg al af ag ai
 rw[<-hn] at hp
 refine(Zcf B w G V bl (ZW.ph K E k m g H V) gc nc cap cs he ht aj hp hr ak ae (fun l hl=>(h.commit hn he hp hl).1)).mono ?_
 rintro e w' ⟨l,hl,rfl,ah⟩
 exact⟨l,_,hl,rfl,ah,(h.commit hn he hp hl).2⟩
end
section
open Go.RowKit
theorem ZdP(d:Array Bs)(x:Bs):∀m,x∈Lib.compactUpTo d m↔∃j,j<m/\d[j]! =x:=by
 intro m
 induction m with
 |zero=>simp[Lib.compactUpTo]
 |succ m ih=>
  rw[Lib.compactUpTo_succ,ZjU,ih]
  constructor
  ·rintro(⟨j,hj,e⟩|h)
   ·exact⟨j,by omega,e⟩
   ·split at h
    ·rw[ZjD] at h;exact⟨m,by omega,h.symm⟩
    ·cases h
  ·rintro⟨j,hj,e⟩
   by_cases ae:j<m
   ·exact Or.inl ⟨j,ae,e⟩
   ·obtain rfl:j=m:=by omega
    by_cases hk:Lib.keeps d j=true
    ·rw[if_pos hk];exact Or.inr (by rw[ZjD];exact e.symm)
    ·have h0:j≠0/\d[j]! =d[j-1]!:=by
      unfold Lib.keeps at hk
      simp only[decide_eq_true_eq,not_or,ne_eq,Decidable.not_not] at hk
      exact hk
     exact Or.inl ⟨j-1,by omega,by rw[<-h0.2];exact e⟩
theorem Zff(d:Array Bs)(hs:∀i j,i<=j->j<d.size->d[i]!<=d[j]!):∀m,m<=d.size->(Lib.compactUpTo d m).Nodup:=by
 intro m
 induction m with
 |zero=>intro _;simp[Lib.compactUpTo]
 |succ m ih=>
  intro hm
  rw[Lib.compactUpTo_succ]
  by_cases hk:Lib.keeps d m=true
  ·rw[if_pos hk]
   refine List.nodup_append.2 ⟨ih (by omega),by simp,fun a ha b hb e=> ?_⟩
   rw[ZjD] at hb
   obtain⟨j,hj,ae⟩:=(ZdP d a m).1 ha
   have h1:=hs j (m-1) (by omega) (by omega)
   have h2:=hs (m-1) m (by omega) (by omega)
   have h3:d[m]! =d[m-1]!:=by
    rw[ae,e,hb] at h1
    exact List.le_antisymm h1 h2
   unfold Lib.keeps at hk
   simp only[decide_eq_true_eq] at hk
   rcases hk with hk|hk
   ·omega
   ·exact hk h3
  ·rw[if_neg hk,Zk7];exact ih (by omega)
theorem Z76(l:List Bs)(hs:l.Pairwise (fun a b=>a<=b)):(Lib.compact l).Nodup/\∀x,x∈Lib.compact l↔x∈l:=by
 have ag:∀i j,i<=j->j<l.toArray.size->l.toArray[i]!<=l.toArray[j]!:=fun i j ah hj=>by
  have af:j<l.length:=by simpa using hj
  have ae:i<l.length:=by omega
  have e1:l.toArray[i]! =l[i]:=by simp[ae]
  have e2:l.toArray[j]! =l[j]:=by simp[af]
  rw[e1,e2]
  by_cases e:i=j
  ·subst e;exact List.le_refl _
  ·exact List.pairwise_iff_getElem.1 hs i j ae af (by omega)
 refine⟨Zff l.toArray ag l.length (by simp),fun x=> ?_⟩
 unfold Lib.compact
 rw[ZdP]
 constructor
 ·rintro⟨j,hj,e⟩
  rw[<-e]
  have:l.toArray[j]! =l[j]:=by simp[hj]
  rw[this];exact ZjW hj
 ·intro h
  obtain⟨j,hj,e⟩:=List.getElem_of_mem h
  exact⟨j,hj,by rw[<-e];simp[hj]⟩
theorem Z8Q(l:List Bs):(Lib.compact (l.mergeSort fun x y=>decide (x<=y))).Nodup/\∀x,x∈Lib.compact (l.mergeSort fun x y=>decide (x<=y))↔x∈l:=by
 have hs:(l.mergeSort fun x y=>decide (x<=y)).Pairwise (fun a b=>a<=b):=by
  have h9:=List.pairwise_mergeSort (le:=fun x y:Bs=>decide (x<=y)) (fun a b c h1 h2=>by
   simp only[decide_eq_true_eq] at*
   exact List.le_trans h1 h2) (fun a b=>by
   simp only[Bool.or_eq_true,decide_eq_true_eq]
   exact List.le_total a b) l
  exact h9.imp (fun h=>by simpa using h)
 obtain⟨a,b⟩:=Z76 _ hs
 exact⟨a,fun x=>(b x).trans (List.mem_mergeSort)⟩
end
section
open Go.RowKit Go.Shelf
variable{E g k m n:Nat}{H:Bs->Option Bs}{K:List Bs}{V:Ev}
theorem ZhI{i:Nat}{S:Sto}(hM:V.Ms i=some S)(x:Bs):x∈kOf V [] i↔nmD x∈S.dir.names:=by
 unfold kOf
 rw[hM]
 simp only
 rw[List.mem_map]
 constructor
 ·rintro⟨n,hn,rfl⟩
  obtain⟨h1,h2⟩:=List.mem_filter.1 hn
  cases n with
  |nil=>simp[Lib.hasPrefix,nmD] at h2
  |cons a r=>
   have ha:a=100:=by
    simp[Lib.hasPrefix,nmD,List.isPrefixOf] at h2
    first|exact h2|exact h2.symm
   subst ha
   exact h1
 ·intro h
  refine⟨nmD x,List.mem_filter.2 ⟨h,?_⟩,rfl⟩
  simp[Lib.hasPrefix,nmD,List.isPrefixOf]
theorem ZW.keys(h:ZW K E k m n g H V):(Lib.compact ((Z01 V [] n).mergeSort fun x y=>decide (x<=y))).Nodup/\∀x,x∈Lib.compact ((Z01 V [] n).mergeSort fun x y=>decide (x<=y))↔H x≠none:=by
 obtain⟨a,b⟩:=Z8Q (Z01 V [] n)
 refine⟨a,fun x=>(b x).trans ?_⟩
 have ae:∀i,i<n->(x∈kOf V [] i↔H x≠none):=fun i hi=>by
  obtain⟨S,h1,h2,h3,h4⟩:=h.all_ i hi
  rw[ZhI h1]
  have e1:nmD x∈S.dir.names↔stR (V.Ds i).reads S.dir (nmD x)≠none:=by
   rw[QC,ne_eq,ne_eq,YB]
  rw[e1]
  constructor
  ·intro h9 h8
   exact h9 (h3.none_ x h8)
  ·intro h9
   obtain⟨v,hv⟩:=Option.ne_none_iff_exists'.1 h9
   rw[h4 x v hv];simp
 unfold Z01
 rw[List.mem_flatMap]
 constructor
 ·rintro⟨i,hi,hx⟩
  exact(ae i (List.mem_range.1 hi)).1 hx
 ·intro h9
  have hn:0<n:=by have:=h.k1;have:=h.kn;omega
  exact⟨0,List.mem_range.2 hn,(ae 0 hn).2 h9⟩
theorem ZW.keysW(h:ZW K E k m n g H V){B:Nat}{w:World}{G:Eg}{bl:List Nat}(he:EAt B w G V bl)(hn:G.n=n):
  Calls prog 43 #[.pointer (some ⟨G.s,0,none⟩),.string (str [])] w fun e w'=>∃v L,e=.returned (.tuple #[v,.nilIface])/\Strs w' w.heap.size v L/\L.Nodup/\(∀x,x∈L↔H x≠none)/\Zf B G bl V w w':=by
 refine(ZdU B w G V bl [] he (by simp) (by rw[hn];exact h.keyD)).mono ?_
 rintro e w' ⟨v,rfl,hs,hr⟩
 rw[hn] at hs
 exact⟨v,_,rfl,hs,h.keys.1,h.keys.2,hr⟩
end
section
open Go.RowKit Go.Shelf
theorem ZdS(s d:Nat)(S:Sto)(w:World)(ak:Yg w s d S)(ax:S.dir.Sorted)(ag:S.dir.length<=100000)(hn:S.dir.get nmN=none)(ht:S.dir.get nmT=none)(hS:S.dir.names.filter isS=[]):
  Calls prog 95 #[.pointer (some ⟨s,0,none⟩)] w fun e w'=>e=.returned .nilIface/\Below w.heap.size w w':=by
 have ae:=Z1w s d S [115] w ak ax ag
 rw[Z7h,hS] at ae
 have ah:∀k,k<2->∃x,([.string ⟨#[110]⟩,.string ⟨#[116]⟩]:List Value)[k]? =some (.string (str x))/\x.length<=1000000/\S.dir.get x=none:=fun k hk=>by
  rcases(by omega:k=0∨k=1) with rfl|rfl
  ·exact⟨nmN,rfl,by decide,hn⟩
  ·exact⟨nmT,rfl,by decide,ht⟩
 have H:=Zka (Zkb ak (Zkb ae ah))
 clear ak ae ax ag hn ht hS ah
 go_enter func95,ntmps95
 go_wp2_with (go_at_call 96;refine H.out.2.1.mono ?_;rintro e w1 ⟨v,rfl,aw,al⟩;obtain⟨la,lc,rfl⟩:=Wx aw;have S1:=Zka al;clear aw al)
 have aj:Row (w1.alloc (.cells #[.string ⟨#[110]⟩,.string ⟨#[116]⟩] 9)) w1.heap.size 9 [.string ⟨#[110]⟩,.string ⟨#[116]⟩]:=Row.new w1 9 _
 have aq:=S1.out.trans (((Below.refl w1.heap.size w1).alloc Zk8 (.cells #[.string ⟨#[110]⟩,.string ⟨#[116]⟩] 9)).mono S1.out.size)
 obtain⟨y,hy⟩:∃y,w1.heap.size=y:=⟨_,rfl⟩
 rw[hy] at aj⊢
 have H2:=Zka (Zkb aj aq)
 clear aj aq hy
 go_loopw [3,22] (fun lv kv wr=>∃k:Nat,k<=2/\kv=.int .i64 k/\lv=.slice la 0 lc/\Row wr y 9 [.string ⟨#[110]⟩,.string ⟨#[116]⟩]/\Below w.heap.size w wr) (fun _ kv _=>2- (intOf kv).toNat)
 case atStart=>exact⟨0,by omega,rfl,rfl,H2.out.1,H2.out.2⟩
 case round=>
  obtain⟨k,hk,rfl,rfl,hr,hb⟩:=hrel
  have af:=Zka (Zkb hr hb)
  by_cases b9:k<2
  ·obtain⟨x,hx,ay,ah⟩:=H.out.2.2 k b9
   have au:=hr.cell hx
   have bf:(k:Int)<2:=by omega
   have HT:=Zka (Zkb ay ah)
   clear hr hb hx ay ah
   go_wp2_with (go_at_call 97;refine(Z11 s d S x _ (H.out.1.after af.out.2) HT.out.1 HT.out.2).mono ?_;rintro e w3 ⟨b,rfl,az,ai⟩;have R3:=Zka (Zkb (af.out.1.after ai) (af.out.2.trans (ai.mono af.out.2.size)));clear ai az)
   go_roundw
   case measure=>simp[intOf];omega
   case rel=>exact⟨k+1,by omega,by go_num,rfl,R3.out.1,R3.out.2⟩
  ·have bg:¬ (k:Int)<2:=by omega
   have hq:∀W,(binOp .eql 86 (.slice none 0 0) (.slice none 0 0)).run prog W=.ok (.bool true) W:=fun _=>by kernel_rfl
   clear hr hb
   go_wp2_with fail
   go_loopw [9,41] (fun av kv wr=>av=.slice none 0 0/\kv=.int .i64 0/\Below w.heap.size w wr) (fun _ kv _=>0)
   case atStart=>exact⟨rfl,rfl,af.out.2⟩
   case round=>
    obtain⟨rfl,rfl,hb⟩:=hrel
    have HB:=Zka hb
    clear hb
    go_wp2_with fail
    go_ret
    exact⟨rfl,HB.out⟩
end
section
open Go.RowKit Go.Shelf
variable{H:Bs->Option Bs}{g i k m:Nat}
theorem Z9E(b s i g:Nat)(w:World)(c3:w.cell? ⟨b,3,none⟩=some (.int .i64 (g:Int))){R:Value->World->Prop}(hd:Calls prog 95 #[.pointer (some ⟨s,0,none⟩)] w fun e w'=>∃ev,e=.returned ev/\R ev w'):
  Calls prog 64 #[.pointer (some ⟨b,0,none⟩),.int .i64 (i:Int),.pointer (some ⟨s,0,none⟩),.int .i64 (g:Int)] w fun e w'=>∃ev,e=.returned (.tuple #[.bool true,ev])/\R ev w':=by
 have d1:decide ((g:Int)≥0)=true:=by simp
 have H:=Zka hd
 clear hd
 go_enter func64,ntmps64
 go_wp2_with (go_at_call 95;refine H.out.mono ?_;rintro e w' ⟨ev,rfl,hR⟩;have HR:=Zka hR;clear hR)
 go_ret2
 exact⟨ev,rfl,HR.out⟩
theorem WT.none_under{R:Nat->ByteArray}{d:Dir}(h:WT k m i g H (stR R d)):d.get nmN=none/\d.get nmT=none/\∀x,d.get (nmS x)=none:=
 ⟨YB.2 h.next,YB.2 h.under,fun x=>YB.2 (h.staged x)⟩
theorem Z9D{K:List Bs}{E:Nat}{D:Dk}{S:Sto}(b s d:Nat)(w:World)(c3:w.cell? ⟨b,3,none⟩=some (.int .i64 (g:Int)))(ae:Yg w s d S)(hK:KOk K)(hD:Q8 K E D S)(h:WT k m i g H (stR D.reads S.dir)):
  Calls prog 64 #[.pointer (some ⟨b,0,none⟩),.int .i64 (i:Int),.pointer (some ⟨s,0,none⟩),.int .i64 (g:Int)] w fun e w'=>e=.returned (.tuple #[.bool true,.nilIface])/\Below w.heap.size w w':=by
 obtain⟨h1,h2,h3⟩:=h.none_under
 have e:S.dir.names.filter isS=[]:=by
  rw[List.filter_eq_nil_iff]
  intro n hn hs
  obtain⟨x,rfl⟩:=(Z09 n).1 hs
  exact QC.1 hn (h3 x)
 have hd:=(ZdS s d S w ae hD.sorted (by have:=hD.few hK;omega) h1 h2 e).mono fun e w' hx=>(⟨.nilIface,hx.1,rfl,hx.2⟩:∃ev,e=.returned ev/\ev=.nilIface/\Below w.heap.size w w')
 refine(Z9E b s i g w c3 hd).mono ?_
 rintro e w' ⟨ev,rfl,rfl,hb⟩
 exact⟨rfl,hb⟩
end
section
open Go.RowKit Go.Shelf
theorem Zcx{B p d:Nat}{P:Pw}{D:Dk}{L:List Nat}{K:List Bs}{E k m i g:Nat}{H:Bs->Option Bs}{S:Sto}(b s:Nat)(w:World)(ae:PD B w p d 800 P D L)(af:Yg w s d S)(hD:Q8 K E D S)(hg:P.gone=false)(hd:D.dead=false)(h:WT k m i g H (stR D.reads S.dir))(hk:k<=16)(hm:m<=16)(hi:i<=16)(ag:g<=1000000000)(c0:w.cell? ⟨b,0,none⟩=some (.int .i64 (k:Int)))(c1:w.cell? ⟨b,1,none⟩=some (.int .i64 (m:Int))):
  Calls prog 63 #[.pointer (some ⟨b,0,none⟩),.pointer (some ⟨s,0,none⟩),.string (str nmC),.int .i64 (i:Int)] w fun e w'=>e=.returned (.int .i64 (g:Int))/\Below w.heap.size w w':=by
 have hc:=h.card
 unfold QJ at hc
 refine Ze3 b s k m i g nmC w (by omega) (by omega) (by omega) (by omega) c0 c1 ?_
 exact Z3s ae af hD hg hd (by decide) (by decide) (by
  have h9:=Z0j k m i g
  unfold QJ at h9
  rw[WP] at h9
  omega) hc
end
end Go.Proofs.YthppfllkocphbaaGreatDoor
