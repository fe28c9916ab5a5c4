/-
  Part 25 of the proof: lemmas about what the program computes.
-/
import Derived.Test.YthppfllkocphbaaGreatDoorQ23
namespace Go.Proofs.YthppfllkocphbaaGreatDoor
set_option linter.unusedVariables false
set_option linter.unusedSimpArgs false
set_option maxHeartbeats 25600000
set_option maxRecDepth 100000
open Tryz
section
open Go.RowKit Go.Shelf
variable{acts:List Ac}{av tv:Value}{b bs g gl k m:Nat}{l:List Chg}{ts:List Bs}{w w' wr:World}
structure Wp(w:World)(bs k m:Nat)(gl:Nat)(l:List Chg):Prop where
 low:bs<=gl
 at_:∀q (h:q<l.length),w.cell? ⟨gl,q*3,none⟩=some (.string (str l[q].key))/\w.cell? ⟨gl,q*3+1,none⟩=some (.int .i64 ((l[q].val.getD []).length:Int))/\
  match l[q].val with
  |none=>w.cell? ⟨gl,q*3+2,none⟩=some (.slice none 0 0)
  |some v=>∃g o c,w.cell? ⟨gl,q*3+2,none⟩=some (.slice (some ⟨g,o,none⟩) (k+m) c)/\bs<=g/\∀i,i<k+m->w.cell? ⟨g,o+i,none⟩=some (.string (str (shT k m v i)))
theorem Wp.fr(h:Wp w bs k m gl l){X:List Nat}(hf:Fr X w w')(hX:∀k∈X,k<bs∨w.heap.size<=k):Wp w' bs k m gl l:=by
 have key:∀{g o:Nat} {v:Value},bs<=g->w.cell? ⟨g,o,none⟩=some v->w'.cell? ⟨g,o,none⟩=some v:=fun{g} {o} {v} hg hc=>by
  have ae:=ZjG w _ hc
  simp only at ae
  have hn:g∉X:=fun hm=>by rcases hX g hm with h9|h9<;>omega
  unfold World.cell? at hc⊢
  rw[hf.block _ ae hn];exact hc
 refine⟨h.low,fun q hq=> ?_⟩
 obtain⟨a1,a2,a3⟩:=h.at_ q hq
 refine⟨key h.low a1,key h.low a2,?_⟩
 split
 ·rename_i e;rw[e] at a3;exact key h.low a3
 ·rename_i v e
  rw[e] at a3
  obtain⟨g,o,c,b1,b2,b3⟩:=a3
  exact⟨g,o,c,key h.low b1,b2,fun i hi=>key b2 (b3 i hi)⟩
theorem Wp.after(h:Wp w bs k m gl l)(hb:Below w.heap.size w w'):Wp w' bs k m gl l:=h.fr (Fr.of_below (L:=[]) hb) (by simp)
structure FiS(w:World)(bs b k m g gl:Nat)(l:List Chg)(tv:Value)(ts:List Bs)(av:Value)(acts:List Ac)(wr:World):Prop where
 c0:wr.cell? ⟨b,0,none⟩=some (.int .i64 (k:Int))
 c1:wr.cell? ⟨b,1,none⟩=some (.int .i64 (m:Int))
 c3:wr.cell? ⟨b,3,none⟩=some (.int .i64 (g:Int))
 ch:Wp wr bs k m gl l
 ts:Strs wr w.heap.size tv ts
 own:Z0e wr w.heap.size av acts
 bel:Below w.heap.size w wr
theorem FiS.after(h:FiS w bs b k m g gl l tv ts av acts wr)(hb:Below wr.heap.size wr w'):FiS w bs b k m g gl l tv ts av acts w':=by
 have key:∀{p:Addr} {v:Value},wr.cell? p=some v->w'.cell? p=some v:=fun h=>(hb.cell (ZjG wr _ h)).trans h
 exact⟨key h.c0,key h.c1,key h.c3,h.ch.after hb,h.ts.after hb,QK h.own hb,h.bel.trans (hb.mono h.bel.size)⟩
theorem FiS.grow(h:FiS w bs b k m g gl l tv ts av acts wr)(hold:b<w.heap.size/\Wp w bs k m gl l){X:List Nat}(hf:Fr X wr w')(hX:∀q∈X,w.heap.size<=q){ah:Value}{ag:List Bs}{af:Value}{ae:List Ac}
  (ht:Strs w' w.heap.size ah ag) (ha:Z0e w' w.heap.size af ae):FiS w bs b k m g gl l ah ag af ae w':=by
 have hb:Below w.heap.size w w':=h.bel.trans (hf.below h.bel.size hX)
 have key:∀{o:Nat} {v:Value},wr.cell? ⟨b,o,none⟩=some v->w'.cell? ⟨b,o,none⟩=some v:=fun{o} {v} hc=>by
  have e1:=h.bel.cell (p:=⟨b,o,none⟩) hold.1
  have e2:=hb.cell (p:=⟨b,o,none⟩) hold.1
  rw[e2,<-e1];exact hc
 exact⟨key h.c0,key h.c1,key h.c3,hold.2.after hb,ht,ha,hb⟩
theorem FiS.nextT(h:FiS w bs b k m g gl l tv ts av acts wr)(hold:b<w.heap.size/\Wp w bs k m gl l){af:Value}{ae:List Bs}(ho:Strs w' w.heap.size af ae)(hf:Fr (ZE tv) wr w'):FiS w bs b k m g gl l af ae av acts w':=
 h.grow hold hf h.ts.ge ho (Wf h.own hf (fun q hq hm=>by
  obtain⟨x1,h1⟩:=Qw h.own q hq
  obtain⟨x2,h2⟩:=Qw h.ts q hm
  exact Row.ne h1 h2 (by decide) rfl))
theorem FiS.nextA(h:FiS w bs b k m g gl l tv ts av acts wr)(hold:b<w.heap.size/\Wp w bs k m gl l){af:Value}{ae:List Ac}(ho:Z0e w' w.heap.size af ae)(hf:Fr (ZE av) wr w'):FiS w bs b k m g gl l tv ts af ae w':=
 h.grow hold hf (WC h.own) (Wf h.ts hf (fun q hq hm=>by
  obtain⟨x1,h1⟩:=Qw h.ts q hq
  obtain⟨x2,h2⟩:=Qw h.own q hm
  exact Row.ne h1 h2 (by decide) rfl)) ho
theorem ZeN(key:Bs):(⟨#[115]⟩:ByteArray)++str key=str (nmS key):=by
 apply Yc
 rw[data_append,Ze,Ze];rfl
theorem Zjp(key:Bs)(h:key.length<=1000000):∀W,(Op.stringOp .add ⟨#[115]⟩ (str key)).run prog W=.ok (.string (str (nmS key))) W:=fun W=>by
 rw[<-ZeN];exact run_string_add_sum _ ⟨#[115]⟩ (str key) (by have h1:(⟨#[115]⟩:ByteArray).size=1:=rfl;rw[Z5];omega)
theorem Z3g(l:List Chg)(q:Nat)(h:q<l.length):Zi (l.take (q+1))=Zi (l.take q)++(match l[q].val with|none=>[l[q].key]|some _=>[]):=by
 rw[ZjK h]
 unfold Zi
 rw[List.filterMap_append,List.filterMap_cons,List.filterMap_nil]
 congr 1
 cases l[q].val<;>rfl
theorem Zdb(k m i:Nat)(l:List Chg)(q:Nat)(h:q<l.length):(l.take (q+1)).filterMap (Ym k m i)=(l.take q).filterMap (Ym k m i)++(match l[q].val with|none=>[]|some v=>[⟨1,nmS l[q].key,[],shL k m i l[q].key v⟩]):=by
 rw[ZjK h,List.filterMap_append,List.filterMap_cons,List.filterMap_nil]
 congr 1
 unfold Ym
 cases l[q].val<;>rfl
theorem Z6u(K:List Bs)(bs b k m i g gl cl:Nat)(l:List Chg)(w:World)(hK:KOk K)(hl:LOk K l)(ey:1<=k)(fi:k+m<=16)(hi:i<k+m)(hg:g<=4000000000)(c0:w.cell? ⟨b,0,none⟩=some (.int .i64 (k:Int)))(c1:w.cell? ⟨b,1,none⟩=some (.int .i64 (m:Int)))(c3:w.cell? ⟨b,3,none⟩=some (.int .i64 (g:Int)))(df:Wp w bs k m gl l)(ff:l.length<=cl):
  Calls prog 37 #[.pointer (some ⟨b,0,none⟩),.int .i64 (i:Int),.slice (some ⟨gl,0,none⟩) l.length cl] w fun e w'=>∃ga ca,e=.returned (.tuple #[.slice (some ⟨ga,0,none⟩) (Qz k m i g l).length ca,.nilIface])/\WW w' ga 0 (Qz k m i g l)/\(Qz k m i g l).length<=ca/\w.heap.size<=ga/\Below w.heap.size w w':=by
 have ae:=Z1k b k m i (g+1) w (by omega) (by omega) (by omega) (by omega) c0 c1
 rw[show(((g+1:Nat)):Int)=(g:Int)+1 from by omega] at ae
 have fp:=Zk2 ((g:Int)+1) (by omega)
 have cw:b<w.heap.size:=ZjG w _ c0
 have dj:∀c∈l,c.key.length<=11:=fun c hc=>(hK.len _ (hl.key c hc)).2
 have fj:=hl.few
 have bz:=Z89 hK (g:=g+1) hl
 have H:=Zka (Zkb ae (Zkb df (Zkb hl (Zkb cw (Zkb dj bz)))))
 clear ae df hl dj bz
 have bg:∀W,Calls prog 80 #[.int .i64 ((g:Int)+1)] W fun e w'=>e=.returned (.string (s32 (g+1)))/\Below W.heap.size W w':=fun W=>by
  have h9:=Z1O (g+1) (by omega) W
  rw[show(((g+1:Nat)):Int)=(g:Int)+1 from by omega] at h9
  exact h9
 have HN:=Zka bg
 clear bg
 go_enter func37,ntmps37
 go_wp2_with (first
  |(go_at_call 79;refine H.out.1.mono ?_;rintro e w1 ⟨rfl,ax⟩;have d0:=(ax.cell (ZjG _ _ c0)).trans c0;have d1:=(ax.cell (ZjG _ _ c1)).trans c1;have d3:=(ax.cell (ZjG _ _ c3)).trans c3;have R1:=Zka ax;clear ax c0 c1 c3)
  |(go_at_call 80;refine(HN.out _).mono ?_;rintro e w2 ⟨rfl,ay⟩;have R2:=Zka ay;clear ay)
  |(go_at_call 81;refine(Z60 _ _ _).mono ?_;rintro e w3 ⟨rfl,ag⟩;have R3:=Zka ag;clear ag))
 have dx:=R1.out.size
 have dy:=R2.out.size
 have dz:=R3.out.size
 have dp:Strs (w2.alloc (.cells #[.string (s32 (g+1))] 9)) w.heap.size (.slice (some ⟨w2.heap.size,0,none⟩) 1 1) [Z4 (g+1)]:=⟨rfl,Or.inr ⟨w2.heap.size,1,#[.string (s32 (g+1))],rfl,by omega,heap_alloc_new w2 _,Zk8,by simp[maxLen],rfl,rfl⟩⟩
 have dq:Z0e (w3.alloc (.cells #[.int .i64 1,.string ⟨#[110]⟩,.string ⟨#[]⟩,.string (str (QJ k m i (g+1)))] 151)) w.heap.size (.slice (some ⟨w3.heap.size,0,none⟩) 1 1) [⟨1,nmN,[],QJ k m i (g+1)⟩]:=⟨rfl,Or.inr ⟨w3.heap.size,1,#[.int .i64 1,.string ⟨#[110]⟩,.string ⟨#[]⟩,.string (str (QJ k m i (g+1)))],rfl,by simp at dz;omega,heap_alloc_new w3 _,Zk8,by simp[maxLen],rfl,rfl⟩⟩
 have cu:Below w.heap.size w (w3.alloc (.cells #[.int .i64 1,.string ⟨#[110]⟩,.string ⟨#[]⟩,.string (str (QJ k m i (g+1)))] 151)):=by
  have h2:=R1.out.trans (R2.out.mono dx)
  have h3:=h2.trans (((Below.refl w2.heap.size w2).alloc Zk8 (.cells #[.string (s32 (g+1))] 9)).mono h2.size)
  have h4:=h3.trans (R3.out.mono h3.size)
  exact h4.trans (((Below.refl w3.heap.size w3).alloc Zk8 _).mono h4.size)
 have I0:FiS w bs b k m g gl l (.slice (some ⟨w2.heap.size,0,none⟩) 1 1) [Z4 (g+1)] (.slice (some ⟨w3.heap.size,0,none⟩) 1 1) [⟨1,nmN,[],QJ k m i (g+1)⟩] (w3.alloc (.cells #[.int .i64 1,.string ⟨#[110]⟩,.string ⟨#[]⟩,.string (str (QJ k m i (g+1)))] 151)):=by
  have ct:Below w1.heap.size w1 (w3.alloc (.cells #[.int .i64 1,.string ⟨#[110]⟩,.string ⟨#[]⟩,.string (str (QJ k m i (g+1)))] 151)):=by
   have h3:=R2.out.trans (((Below.refl w2.heap.size w2).alloc Zk8 (.cells #[.string (s32 (g+1))] 9)).mono dy)
   have h4:=h3.trans (R3.out.mono h3.size)
   exact h4.trans (((Below.refl w3.heap.size w3).alloc Zk8 _).mono h4.size)
  have key:∀{p:Addr} {v:Value},w1.cell? p=some v->(w3.alloc (.cells #[.int .i64 1,.string ⟨#[110]⟩,.string ⟨#[]⟩,.string (str (QJ k m i (g+1)))] 151)).cell? p=some v:=fun h=>(ct.cell (ZjG w1 _ h)).trans h
  exact⟨key d0,key d1,key d3,H.out.2.1.after cu,(dp.after R3.out).after ((Below.refl w3.heap.size w3).alloc Zk8 _),dq,cu⟩
 have HI:=Zka I0
 clear I0 dp dq cu d0 d1 d3
 obtain⟨tb,cz⟩:∃tb,w2.heap.size=tb:=⟨_,rfl⟩
 obtain⟨ab,cr⟩:∃ab,w3.heap.size=ab:=⟨_,rfl⟩
 rw[cz,cr] at HI
 rw[cz,cr]
 clear cz cr dx dy dz
 go_loopw [10,11,43] (fun tv av kv wr=>∃q:Nat,q<=l.length/\kv=.int .i64 q/\FiS w bs b k m g gl l tv (Z4 (g+1)::Zi (l.take q)) av (⟨1,nmN,[],QJ k m i (g+1)⟩::(l.take q).filterMap (Ym k m i)) wr) (fun _ _ kv _=>l.length- (intOf kv).toNat)
 case atStart=>exact⟨0,by omega,rfl,HI.out⟩
 case round=>
  obtain⟨q,hq,rfl,hS⟩:=hrel
  have HS:=Zka hS
  by_cases b9:q<l.length
  ·obtain⟨a1,a2,a3⟩:=hS.ch.at_ q b9
   have hx:=H.out.2.2.2.2.1 _ (ZjW b9)
   have aq:=H.out.2.2.1.val _ (ZjW b9)
   have ak:=Z3g l q b9
   have al:=Zdb k m i l q b9
   have fg:(q:Int)<(l.length:Int):=by omega
   obtain⟨c,hc⟩:∃c,l[q]=c:=⟨_,rfl⟩
   rw[hc] at a1 a2 a3 hx aq ak al
   obtain⟨key,val⟩:=c
   simp only at a1 a2 a3 hx aq ak al
   cases val with
   |none=>
    simp only[Option.getD_none,List.length_nil,Zk7] at a2 a3 ak al
    have ez:∀W,(binOp .eql 96 (.slice none 0 0) (.slice none 0 0)).run prog W=.ok (.bool true) W:=fun _=>by kernel_rfl
    have az:(Z4 (g+1)::Zi (l.take q)).length<=1000000:=by
     have h1:(Zi (l.take q)).length<=(l.take q).length:=by unfold Zi;exact List.length_filterMap_le _ _
     rw[ZjO] at h1
     simp only[ZjM];omega
    have af:=(hS.after ((Below.refl wr.heap.size wr).alloc Zk8 (.cells #[.string (str key),.int .i64 0,.slice none 0 0] 98))).after (Zk9.alloc Zk8 (.cells #[.string (str key)] 9))
    have bf:((wr.alloc (.cells #[.string (str key),.int .i64 0,.slice none 0 0] 98)).alloc (.cells #[.string (str key)] 9)).heap[wr.heap.size+1]? =some (.cells #[.string (str key)] 9 (0,0)):=by
     have h9:=heap_alloc_new (wr.alloc (.cells #[.string (str key),.int .i64 0,.slice none 0 0] 98)) (.cells #[.string (str key)] 9)
     simpa using h9
    have HT:=Zka (Zkb ak (Zkb al (Zkb af (Zkb az bf))))
    clear hS aq ak al hc af az bf
    go_wp2_with (at_builtin;refine YW _ rfl (.tmp 50) (.tmp 53) rfl w.heap.size _ (Z4 (g+1)::Zi (l.take q)) rfl HT.out.2.2.1.ts (wr.heap.size+1) key rfl HT.out.2.2.2.2 HT.out.2.2.1.bel.size HT.out.2.2.2.1 ?_;intro g2 aj w2 ho hf _;have S3:=Zka (HT.out.2.2.1.nextT ⟨H.out.2.2.2.1,H.out.2.1⟩ ho hf);clear ho hf)
    go_roundw
    case measure=>simp[intOf];omega
    case rel=>exact⟨q+1,by omega,by go_num,by rw[HT.out.1,HT.out.2.1];exact S3.out⟩
   |some v=>
    simp only[Option.getD_some] at a2
    obtain⟨sg,so,sc,s1,s2,s3⟩:=a3
    have aq:=aq v rfl
    have cn:=s3 i hi
    obtain⟨nn,dm⟩:∃nn,k+m=nn:=⟨_,rfl⟩
    rw[dm] at s1
    have fh:(i:Int)<(nn:Int):=by omega
    have er:i<nn:=by omega
    have eu:i<=nn:=by omega
    have ew:¬nn=i:=by omega
    have eo:i<=4294967295:=by omega
    have ez:∀W,(binOp .eql 96 (.slice (some ⟨sg,so,none⟩) nn sc) (.slice none 0 0)).run prog W=.ok (.bool false) W:=fun _=>by kernel_rfl
    have eh:=Z37 key (by omega)
    have de:=Zjp key (by omega)
    have bq:=(Z3C (m:=m) (i:=i) (key:=key) ey aq).2
    obtain⟨X,hX⟩:∃X,str (shT k m v i)=X:=⟨_,rfl⟩
    obtain⟨vl,au⟩:∃vl,v.length=vl:=⟨_,rfl⟩
    have dr:∀W:World,Calls prog 82 #[.string (str (nmD key)),.slice (some ⟨W.heap.size,0,none⟩) 3 3] (W.alloc (.cells #[.string (s32 i),.string (s32 vl),.string X] 9)) fun e w'=>e=.returned (.tuple #[.string (str (shL k m i key v)),.nilIface])/\Below (W.alloc (.cells #[.string (s32 i),.string (s32 vl),.string X] 9)).heap.size (W.alloc (.cells #[.string (s32 i),.string (s32 vl),.string X] 9)) w':=fun W=>by
     have h9:=Row.new W 9 [.string (s32 i),.string (s32 vl),.string X]
     rw[<-hX,<-au] at h9⊢
     exact Z3y (nmD key) (by simp[nmD];omega) W.heap.size 3 [Z4 i,Z4 v.length,shT k m v i] [] _ h9 bq
    rw[hX] at cn
    rw[au] at a2 aq
    have dw:vl<=4294967295:=by omega
    have aw:((⟨1,nmN,[],QJ k m i (g+1)⟩:Ac)::(l.take q).filterMap (Ym k m i)).length<=1000000:=by
     have h1:=List.length_filterMap_le (Ym k m i) (l.take q)
     rw[ZjO] at h1
     simp only[ZjM];omega
    have af:=hS.after ((Below.refl wr.heap.size wr).alloc Zk8 (.cells #[.string (str key),.int .i64 (vl:Int),.slice (some ⟨sg,so,none⟩) nn sc] 98))
    have bh:=Row.new wr 98 [.string (str key),.int .i64 (vl:Int),.slice (some ⟨sg,so,none⟩) nn sc]
    have bu:(wr.alloc (.cells #[.string (str key),.int .i64 (vl:Int),.slice (some ⟨sg,so,none⟩) nn sc] 98)).cell? ⟨sg,so+i,none⟩=some (.string X):=by
     have hb:=(Below.refl wr.heap.size wr).alloc Zk8 (.cells #[.string (str key),.int .i64 (vl:Int),.slice (some ⟨sg,so,none⟩) nn sc] 98)
     exact(hb.cell (ZjG wr _ cn)).trans cn
    have HT:=Zka (Zkb ak (Zkb al (Zkb af (Zkb aw (Zkb dr (Zkb bh bu))))))
    clear dm hS ak al hc af aw dr bh bu hX au s2 s3 bq cn
    go_wp2_with fail
    obtain⟨y,hy⟩:∃y,wr.heap.size=y:=⟨_,rfl⟩
    have b0:=HT.out.2.2.2.2.2.1.cell (j:=0) rfl
    have b1:=HT.out.2.2.2.2.2.1.cell (j:=1) rfl
    have b2:=HT.out.2.2.2.2.2.1.cell (j:=2) rfl
    have b3:=HT.out.2.2.2.2.2.2
    have af:=HT.out.2.2.1
    rw[hy] at b0 b1 b2
    rw[hy]
    generalize wr.alloc (.cells #[.string (str key),.int .i64 (vl:Int),.slice (some ⟨sg,so,none⟩) nn sc] 98)=wa at*
    have ee:=Zka af
    clear af
    have cy:∀A C:World,(A.cell? ⟨y,0,none⟩=some (.string (str key))/\A.cell? ⟨y,1,none⟩=some (.int .i64 (vl:Int))/\A.cell? ⟨y,2,none⟩=some (.slice (some ⟨sg,so,none⟩) nn sc)/\A.cell? ⟨sg,so+i,none⟩=some (.string X)/\Below wa.heap.size wa A)->Below A.heap.size A C->(C.cell? ⟨y,0,none⟩=some (.string (str key))/\C.cell? ⟨y,1,none⟩=some (.int .i64 (vl:Int))/\C.cell? ⟨y,2,none⟩=some (.slice (some ⟨sg,so,none⟩) nn sc)/\C.cell? ⟨sg,so+i,none⟩=some (.string X)/\Below wa.heap.size wa C):=by
     rintro A C ⟨h0,h1,h2,h3,h7⟩ hb
     have key:∀{p:Addr} {v:Value},A.cell? p=some v->C.cell? p=some v:=fun h=>(hb.cell (ZjG A _ h)).trans h
     exact⟨key h0,key h1,key h2,key h3,h7.trans (hb.mono h7.size)⟩
    have hs0:=cy wa wa.drew ⟨b0,b1,b2,b3,Zk9⟩ (Zk9.drew)
    have HK:=Zka cy
    have HE:=Zka HT.out.2.2.2.2.1
    clear cy hy
    go_region_held3 (fun x=>x.cell? ⟨y,0,none⟩=some (.string (str key))/\x.cell? ⟨y,1,none⟩=some (.int .i64 (vl:Int))/\x.cell? ⟨y,2,none⟩=some (.slice (some ⟨sg,so,none⟩) nn sc)/\x.cell? ⟨sg,so+i,none⟩=some (.string X)/\Below wa.heap.size wa x) (first|assumption|exact hs0|(exact HK.out _ _ (by assumption) (Zk9.alloc Zk8 _))|(exact HK.out _ _ (by assumption) (by assumption)))
     (first
      |(go_at_call 80;refine(Z1O _ (by assumption) _).mono ?_;rintro e w8 ⟨rfl,fc⟩)
      |(go_at_call 82;refine(HE.out _).mono ?_;rintro e w9 ⟨rfl,fe⟩))
    rename_i hHeld
    clear b0 b1 b2 b3 hs0
    obtain⟨h0, -, -, -,h7⟩:=hHeld
    have S5:=Zka (ee.out.after h7)
    clear h7
    go_wp2_with (first
     |(go_at_call 81;(skip;refine(Z60 _ _ _).mono ?_;rintro e w3 ⟨rfl,ag⟩;have bm:=(S5.out.after ag).after ((Below.refl w3.heap.size w3).alloc Zk8 (.cells #[.int .i64 1,.string (str (nmS key)),.string ⟨#[]⟩,.string (str (shL k m i key v))] 151));have bj:Row (w3.alloc (.cells #[.int .i64 1,.string (str (nmS key)),.string ⟨#[]⟩,.string (str (shL k m i key v))] 151)) w3.heap.size 151 (AcC ⟨1,nmS key,[],shL k m i key v⟩):=Row.new w3 _ _;have R3:=Zka (Zkb bm bj);clear ag bm bj))
     |(at_builtin;refine Z0B _ rfl (.tmp 76) (.tmp 82) rfl w.heap.size _ (⟨1,nmN,[],QJ k m i (g+1)⟩::(l.take q).filterMap (Ym k m i)) rfl R3.out.1.own w3.heap.size ⟨1,nmS key,[],shL k m i key v⟩ rfl R3.out.2 R3.out.1.bel.size HT.out.2.2.2.1 ?_;intro g2 aj w4 ho hf _ _ _;have S4:=Zka (R3.out.1.nextA ⟨H.out.2.2.2.1,H.out.2.1⟩ ho hf);clear ho hf))
    go_roundw
    case measure=>simp[intOf];omega
    case rel=>exact⟨q+1,by omega,by go_num,by rw[HT.out.1,HT.out.2.1,Zk7];exact S4.out⟩
  ·obtain rfl:q=l.length:=by omega
   rw[Zk5] at HS
   clear hS
   obtain⟨tg,tc,sp,rfl,fa,fm,fo,dt⟩:=Qs HS.out.ts (by simp)
   have ai:=Z3y nmT (by decide) tg tc (Z4 (g+1)::Zi l) sp wr dt H.out.2.2.2.2.2.2
   have aw:((⟨1,nmN,[],QJ k m i (g+1)⟩:Ac)::l.filterMap (Ym k m i)).length<=1000000:=by
    have h1:=List.length_filterMap_le (Ym k m i) l
    simp only[ZjM];omega
   have HT:=Zka (Zkb ai aw)
   clear ai aw dt
   go_wp2_with (first
    |(go_at_call 82;refine HT.out.1.mono ?_;rintro e w2 ⟨rfl,ay⟩;have R2:=Zka (HS.out.after ay);clear ay)
    |(go_at_call 81;refine(Z60 _ _ _).mono ?_;rintro e w3 ⟨rfl,ag⟩;have bm:=(R2.out.after ag).after ((Below.refl w3.heap.size w3).alloc Zk8 (.cells #[.int .i64 1,.string ⟨#[116]⟩,.string ⟨#[]⟩,.string (str (Z1h (g+1) (Zi l)))] 151));have bj:Row (w3.alloc (.cells #[.int .i64 1,.string ⟨#[116]⟩,.string ⟨#[]⟩,.string (str (Z1h (g+1) (Zi l)))] 151)) w3.heap.size 151 (AcC ⟨1,nmT,[],Z1h (g+1) (Zi l)⟩):=Row.new w3 _ _;have R3:=Zka (Zkb bm bj);clear ag bm bj)
    |(at_builtin;refine Z0B _ rfl (.tmp 90) (.tmp 93) rfl w.heap.size _ (⟨1,nmN,[],QJ k m i (g+1)⟩::l.filterMap (Ym k m i)) rfl R3.out.1.own w3.heap.size ⟨1,nmT,[],Z1h (g+1) (Zi l)⟩ rfl R3.out.2 R3.out.1.bel.size HT.out.2 ?_;intro g2 aj w4 ho hf _ _ dh;have S4:=Zka (Zkb (R3.out.1.nextA ⟨H.out.2.2.2.1,H.out.2.1⟩ ho hf) dh);clear ho hf dh))
   go_ret2
   obtain⟨g3,ef,du,ek,dc,ah⟩:=S4.out.1.own.row (by simp)
   have e9:(⟨1,nmN,[],QJ k m i (g+1)⟩::l.filterMap (Ym k m i))++[(⟨1,nmT,[],Z1h (g+1) (Zi l)⟩:Ac)]=Qz k m i g l:=rfl
   rw[e9] at du dc ah
   injection du with hv31 hv32 hv33
   have cj:=congrArg (fun(a:Option Addr)=>a.map Addr.block) hv31
   simp only[Option.map_some,ZjJ] at cj
   subst cj hv33
   refine⟨g2,aj,?_,ah,dc,S4.out.2,S4.out.1.bel⟩
   rw[<-hv32];rfl
end
section
open Go.RowKit Go.Shelf Go.Sort
variable{bs gl k m n:Nat}{lv:Value}{os:Array Obj}{w w' wr:World}
theorem Zbp:∀ (a b:Bs),Lib.compareBytes a b<0↔a<b
 |[],[]=>by simp[Lib.compareBytes]
 |[],b::s=>by simp[Lib.compareBytes]
 |a::r,[]=>by simp[Lib.compareBytes]
 |a::r,b::s=>by
  unfold Lib.compareBytes
  rw[List.cons_lt_cons_iff]
  by_cases h1:a<b
  ·simp[h1]
  ·rw[if_neg h1]
   by_cases h2:b<a
   ·rw[if_pos h2]
    constructor
    ·intro h;omega
    ·rintro(h|⟨rfl,h⟩)
     ·exact absurd h h1
     ·exact absurd h2 h1
   ·rw[if_neg h2,Zbp r s]
    have:a=b:=by
     have e1:=UInt8.not_lt.1 h1
     have e2:=UInt8.not_lt.1 h2
     exact UInt8.le_antisymm e2 e1
    simp[this]
abbrev El:=Chg×(Option Addr×Nat×Nat)
instance:Inhabited El:=⟨(⟨[],none⟩,none,0,0)⟩
def elC(x:El):List Value:=[.string (str x.1.key),.int .i64 ((x.1.val.getD []).length:Int),.slice x.2.1 x.2.2.1 x.2.2.2]
def Z57(x y:El):Int:=Lib.compareBytes x.1.key y.1.key
theorem Zjr:SWO (ltOf Z57):=by
 have h:∀x y:El,ltOf Z57 x y=decide (x.1.key<y.1.key):=fun x y=>by
  unfold ltOf Z57
  exact decide_eq_decide.2 (Zbp _ _)
 refine⟨fun x=> ?_,fun x y z h1 h2=> ?_,fun x y z h1 h2=> ?_⟩
 ·rw[h];simp[QI]
 ·rw[h] at*;simp only[decide_eq_true_eq] at*;exact JU h1 h2
 ·rw[h] at*
  simp only[decide_eq_false_iff_not] at*
  exact List.not_lt.2 (List.le_trans (List.not_lt.1 h2) (List.not_lt.1 h1))
def apC(c:Chg):List Value:=[.string (str c.key),.string (str (c.val.getD [])),.bool c.val.isNone]
def Z1j(w:World)(gc:Nat)(cs:List Chg):Prop:=gc<w.heap.size/\∀q (h:q<cs.length),w.cell? ⟨gc,q*3,none⟩=some (.string (str cs[q].key))/\w.cell? ⟨gc,q*3+1,none⟩=some (.string (str (cs[q].val.getD [])))/\w.cell? ⟨gc,q*3+2,none⟩=some (.bool cs[q].val.isNone)
theorem Zee(bx:Nat)(key:Bs)(x:Chg)(W:World)(hb:W.cell? ⟨bx,0,none⟩=some (.string (str key))):
  Calls prog 74 #[.agg (apC x).toArray,.pointer (some ⟨bx,0,none⟩)] W fun e w'=>e=.returned (.bool (x.key==key))/\Below W.heap.size W w':=by
 obtain⟨xk,xv⟩:=x
 have ae:(W.alloc (.cells #[.string (str xk),.string (str (xv.getD [])),.bool xv.isNone] 68)).cell? ⟨bx,0,none⟩=some (.string (str key)):=by
  have h9:=(Below.refl W.heap.size W).alloc Zk8 (.cells #[.string (str xk),.string (str (xv.getD [])),.bool xv.isNone] 68)
  exact(h9.cell (ZjG W _ hb)).trans hb
 unfold apC
 simp only
 go_enter func74,ntmps74
 go_wp2
 go_ret
 refine⟨?_,Zk9.alloc Zk8 _⟩
 have:((str xk).toList==(str key).toList)=(xk==key):=by
  rw[ByteArray.toList_eq,ByteArray.toList_eq,Ze,Ze]
 show Ending.returned (.bool ((str xk).toList==(str key).toList))=_
 rw[this]
theorem Zfy(W:World)(a b:Obj):(W.alloc a).alloc b=Go.Sort.grow (W.drewN 0) #[a,b]:=by
 unfold Go.Sort.grow World.alloc World.drewN
 simp
 apply Array.toList_inj.1
 simp
theorem Zef(x y:El)(W:World):
  Calls prog 77 #[.agg (elC x).toArray,.agg (elC y).toArray] W fun e w'=>e=.returned (.int .i64 (Z57 x y))/\∃q ae,w'=Go.Sort.grow (W.drewN q) ae:=by
 obtain⟨⟨xk,xv⟩,xa,xn,xc⟩:=x
 obtain⟨⟨yk,yv⟩,ya,yn,yc⟩:=y
 unfold elC Z57
 simp only
 go_enter func77,ntmps77
 go_wp2_with (go_at_call 78;refine(Tryz.strings_Compare _ _ _).mono ?_;rw[Ze,Ze];rintro e w1 ⟨rfl,rfl⟩)
 go_ret
 exact⟨rfl,0,_,Zfy _ _ _⟩
theorem Z1L(gc so q n cap bx:Nat)(cs:List Chg)(c:Chg)(W:World)(af:so=q*3∨q=cs.length)(ae:W.cell? ⟨bx,0,none⟩=some (.string (str c.key)))(hr:Z1j W gc cs)(hq:q<=cs.length)(hn:n=cs.length-q)(hl:cs.length<=1000):
  Calls prog 32 #[.slice (some ⟨gc,so,none⟩) n cap,.func (.func 74) #[] #[.pointer (some ⟨bx,0,none⟩)]] W fun e w'=>e=.returned (.bool (later c (cs.drop q)))/\Below W.heap.size W w':=by
 have:Inhabited Chg:=⟨⟨[],none⟩⟩
 have hE:=Tryz.slices_ContainsFunc (α:=Chg) 3 (fun w=>by kernel_rfl) (fun w=>by kernel_rfl) apC (fun x=>rfl) (fun o=>o.key==c.key) 74 #[.pointer (some ⟨bx,0,none⟩)] (fun args w=>by kernel_rfl) gc so n cap (cs.drop q) W (fun W' x hb=> ?_) (by rw[List.length_drop];omega) (by omega) hr.1 (fun j hj i v hv=> ?_)
 ·refine hE.mono ?_
  rintro e w' ⟨rfl,hb⟩
  refine⟨?_,hb⟩
  rw[ZjT (by rw[List.length_drop];omega)]
  rfl
 ·exact(Zee bx c.key x W' ((hb.cell (ZjG W _ ae)).trans ae)).mono fun e w' h=>⟨h.1,hb.trans (h.2.mono hb.size)⟩
 ·rw[List.length_drop] at hj
  have af:so=q*3:=by omega
  obtain⟨h1,h2,h3⟩:=hr.2 (q+j) (by omega)
  have hg:(cs.drop q)[j]! =cs[q+j]:=by rw[List.getElem!_eq_getElem?_getD,List.getElem?_drop,ZjF (by omega)];rfl
  rw[hg] at hv
  unfold apC at hv
  have e:∀r,so+j*3+r=(q+j)*3+r:=fun r=>by omega
  rw[e i]
  match i,hv with
  |0,hv=>simp at hv;rw[<-hv];exact h1
  |1,hv=>simp at hv;rw[<-hv];exact h2
  |2,hv=>simp at hv;rw[<-hv];exact h3
  |i+3,hv=>simp at hv
def Jc(w:World)(bs k m:Nat)(x:El):Prop:=match x.1.val with
 |none=>x.2=(none,0,0)
 |some v=>∃g c,x.2=(some ⟨g,0,none⟩,k+m,c)/\bs<=g/\g<w.heap.size/\∀i,i<k+m->w.cell? ⟨g,i,none⟩=some (.string (str (shT k m v i)))
theorem Jc.keep{x:El}(h:Jc w bs k m x)(hk:∀g,bs<=g->g<w.heap.size->(∃i v,w.cell? ⟨g,i,none⟩=some (.string v))->w'.heap[g]? =w.heap[g]?)(hs:w.heap.size<=w'.heap.size)(h1:1<=k+m):Jc w' bs k m x:=by
 unfold Jc at h⊢
 cases hv:x.1.val with
 |none=>rw[hv] at h;exact h
 |some v=>
  rw[hv] at h
  obtain⟨g,c,e,h2,h3,h4⟩:=h
  have hb:=hk g h2 h3 ⟨0,_,h4 0 (by omega)⟩
  refine⟨g,c,e,h2,by omega,fun i hi=> ?_⟩
  have:=h4 i hi
  unfold World.cell? at this⊢
  rw[hb];exact this
theorem Jc.after{x:El}(h:Jc w bs k m x)(hb:Below w.heap.size w w')(h1:1<=k+m):Jc w' bs k m x:=h.keep (fun g _ hg _=>hb.block g hg) hb.size h1
structure LaS(w:World)(k m:Nat)(lv:Value)(P:List El)(wr:World):Prop where
 own:wr.ownsRow w.heap.size 98 3 lv P.length (P.flatMap elC)
 els:∀x∈P,Jc wr w.heap.size k m x
 ne:∀x∈P,∀g n c,x.2=(some ⟨g,0,none⟩,n,c)->g∉ZE lv
 bel:Below w.heap.size w wr
theorem LaS.after{P:List El}(h:LaS w k m lv P wr)(hb:Below wr.heap.size wr w')(h1:1<=k+m):LaS w k m lv P w':=
 ⟨QK h.own hb,fun x hx=>(h.els x hx).after hb h1,h.ne,h.bel.trans (hb.mono h.bel.size)⟩
theorem Jc.lt{x:El}(h:Jc w bs k m x){g n c:Nat}(e:x.2=(some ⟨g,0,none⟩,n,c)):g<w.heap.size:=by
 unfold Jc at h
 cases hv:x.1.val with
 |none=>rw[hv] at h;rw[h] at e;cases e
 |some v=>
  rw[hv] at h
  obtain⟨g',c',e',_,h3,_⟩:=h
  rw[e'] at e
  simp only[Prod.mk.injEq,ZjJ,Addr.mk.injEq,and_true] at e
  omega
theorem LaS.put{af:Value}{P:List El}{x:El}(h:LaS w k m lv P wr)(hx:Jc wr w.heap.size k m x)(ah:∀g n c,x.2=(some ⟨g,0,none⟩,n,c)->g∉ZE lv)(ho:w'.ownsRow w.heap.size 98 3 af (P.length+1) (P.flatMap elC++elC x))(hf:Fr (ZE lv) wr w')(ag:∀q∈ZE af,q∈ZE lv∨wr.heap.size<=q)(h1:1<=k+m):LaS w k m af (P++[x]) w':=by
 have ae:∀y∈P++[x],Jc wr w.heap.size k m y/\∀g n c,y.2=(some ⟨g,0,none⟩,n,c)->g∉ZE lv:=fun y hy=>by
  rcases ZjU.1 hy with hy|hy
  ·exact⟨h.els y hy,h.ne y hy⟩
  ·rw[ZjD] at hy;subst hy;exact⟨hx,ah⟩
 refine⟨?_,fun y hy=> ?_,fun y hy g n c e hm=> ?_,h.bel.trans (hf.below h.bel.size (WC h.own))⟩
 ·rw[ZjI,List.flatMap_append,show([x]:List El).flatMap elC=elC x from by simp]
  exact ho
 ·obtain⟨h2,h3⟩:=ae y hy
  unfold Jc at h2⊢
  cases hv:y.1.val with
  |none=>rw[hv] at h2;exact h2
  |some v=>
   rw[hv] at h2
   obtain⟨g,c,e,k2,k3,k4⟩:=h2
   have hb:=hf.block g k3 (h3 g _ c e)
   refine⟨g,c,e,k2,Zk0 k3 hf.size,fun i hi=> ?_⟩
   have:=k4 i hi
   unfold World.cell? at this⊢
   rw[hb];exact this
 ·obtain⟨h2,h3⟩:=ae y hy
  have:=h2.lt e
  rcases ag g hm with h9|h9
  ·exact h3 g n c e h9
  ·omega
theorem Zi6(w:World)(e1 e2:TypeId)(c1:Array Value)(l:List Value):Row ((w.alloc (.cells c1 e1)).alloc (.cells l.toArray e2)) (w.heap.size+1) e2 l:=by
 have h:=Row.new (w.alloc (.cells c1 e1)) e2 l
 simpa using h
theorem WX{p:Addr}{v:Value}(h:w.cell? p=some v)(o:Obj):(w.alloc o).cell? p=some v:=
 (((Below.refl w.heap.size w).alloc Zk8 o).cell (ZjG w _ h)).trans h
theorem Z9y{g c H:Nat}(ae:lv.ownBlock=some g∨g=H):∀q∈ZE (Value.slice (some ⟨g,0,none⟩) n c),q∈ZE lv∨H<=q:=fun q hq=>by
 rw[ZG] at hq
 simp only[Value.ownBlock,ZjJ] at hq
 subst hq
 rcases ae with h9|h9
 ·exact Or.inl (ZG.2 h9)
 ·exact Or.inr (Nat.le_of_eq h9.symm)
theorem LaS.lts{P:List El}(h:LaS w k m lv P wr):(∀q∈ZE lv,q<wr.heap.size)/\∀x∈P,∀g n c,x.2=(some ⟨g,0,none⟩,n,c)->g<wr.heap.size:=
 ⟨fun q hq=>by obtain⟨l,hl⟩:=Qw h.own q hq;exact hl.lt,fun x hx g n c e=>(h.els x hx).lt e⟩
theorem LaS.set{P:List El}(h:LaS w k m lv P wr){xb:Nat}(h1:∀q∈ZE lv,q<xb)(h2:∀x∈P,∀g n c,x.2=(some ⟨g,0,none⟩,n,c)->g<xb)(h3:w.heap.size<=xb)(o:Nat)(v:Value):LaS w k m lv P (wr.setCell ⟨xb,o,none⟩ v):=by
 have hf:Fr [xb] wr (wr.setCell ⟨xb,o,none⟩ v):=(Fr.refl _ _).setCell (Or.inl (by simp)) _
 refine⟨Wf h.own hf (fun q hq hm=> ?_),fun x hx=> ?_,h.ne,h.bel.trans (hf.below h.bel.size (fun i hi=>by rw[ZjD] at hi;subst hi;exact h3))⟩
 ·rw[ZjD] at hm
  have:=h1 q hq
  omega
 ·have ae:=h.els x hx
  have af:=h2 x hx
  unfold Jc at ae⊢
  cases hv:x.1.val with
  |none=>rw[hv] at ae;exact ae
  |some v=>
   rw[hv] at ae
   obtain⟨g,c,e,k2,k3,k4⟩:=ae
   have hg:=af g _ c e
   have hb:=hf.block g k3 (by simp;omega)
   refine⟨g,c,e,k2,Zk0 k3 hf.size,fun i hi=> ?_⟩
   have:=k4 i hi
   unfold World.cell? at this⊢
   rw[hb];exact this
theorem Zfj{xb sg sc:Nat}{ck v:Bs}(hs:Zw wr (some ⟨sg,0,none⟩) (Zl k m (str v)))(h1:w.heap.size<=sg)(hx:xb<sg)(hk:1<=k)(u:Value):Jc (wr.setCell ⟨xb,2,none⟩ u) w.heap.size k m (⟨ck,some v⟩,some ⟨sg,0,none⟩,k+m,sc):=by
 have key:∀i,i<k+m->wr.cell? ⟨sg,i,none⟩=some (.string (str (shT k m v i))):=fun i hi=>by
  obtain⟨g,o,e,hc⟩:=hs i (by rw[QR];exact hi)
  simp only[ZjJ,Addr.mk.injEq,and_true] at e
  obtain⟨rfl,rfl⟩:=e
  rw[Nat.zero_add] at hc
  rw[hc]
  have:(Zl k m (str v)).getD i ⟨#[]⟩=(Zl k m (str v))[i]'(by rw[QR];exact hi):=by rw[ZjE,ZjF];rfl
  rw[<-this];rfl
 have hf:Fr [xb] wr (wr.setCell ⟨xb,2,none⟩ u):=(Fr.refl _ _).setCell (Or.inl (by simp)) _
 have ae:=ZjG wr _ (key 0 (by omega))
 simp only at ae
 have hb:=hf.block sg ae (by simp;omega)
 refine⟨sg,sc,rfl,h1,Zk0 ae hf.size,fun i hi=> ?_⟩
 have:=key i hi
 unfold World.cell? at this⊢
 rw[hb];exact this
theorem Z6v(P:List El):(P.flatMap elC).length=P.length*3:=by
 induction P with
 |nil=>rfl
 |cons x r ih=>rw[ZjX,ZjI,ih];simp[elC];omega
theorem Zch(P:List El):∀ (q:Nat) (hq:q<P.length) (r:Nat),r<3->(P.flatMap elC)[q*3+r]? =(elC P[q])[r]?:=by
 induction P with
 |nil=>intro q hq;simp at hq
 |cons x l ih=>
  intro q hq r hr
  rw[ZjX]
  match q,hq with
  |0,_=>rw[ZjH (by simp[elC];omega)];simp
  |q+1,hq=>
   rw[ZjP (by simp[elC];omega)]
   have:(q+1)*3+r- (elC x).length=q*3+r:=by simp[elC];omega
   rw[this,ih q (by simpa using hq) r hr]
   simp
theorem Zhq{P:List El}{sp:List Value}(h:Row w gl 98 (P.flatMap elC++sp)):HoldsK elC 3 w gl 0 P.toArray:=by
 intro j hj
 rw[size_flatK] at hj
 have ae:j<P.length*3:=by simpa using hj
 have hq:j / 3<P.length:=by omega
 rw[get_flatK _ _ _ _ hj]
 have e1:(P.toArray)[j / 3]! =P[j / 3]:=by simp[hq]
 have e2:=Zch P (j / 3) hq (j%3) (by omega)
 rw[show j / 3*3+j%3=j from by omega] at e2
 have e3:(elC P[j / 3])[j%3]? =some ((elC P[j / 3])[j%3]!):=by
  have:j%3<(elC P[j / 3]).length:=by show j%3<3;omega
  rw[ZjF this,List.getElem!_eq_getElem?_getD,ZjF this];rfl
 rw[e3] at e2
 refine⟨?_,h.free (by rw[ZjI,Z6v];omega)⟩
 rw[e1,Nat.zero_add]
 exact h.cell (by rw[ZjH (by rw[Z6v];exact ae)];exact e2)
theorem ZgF{d:Array El}:Fr [gl] w (sortWorldK elC 3 w gl 0 n d os):=by
 refine⟨rfl,rfl,rfl,?_,fun k hk ae=> ?_⟩
 ·simp[sortWorldK,putRowK,Go.Sort.grow,Go.Sort.putRow,Go.Sort.mapBlock,Go.Sort.ahead]
 ·unfold sortWorldK putRowK
  rw[Go.Sort.heap_grow_old _ _ (by simp[Go.Sort.putRow,Go.Sort.mapBlock,Go.Sort.ahead,hk])]
  show(w.heap.modify gl (Go.Sort.onCells (Go.Sort.putCells id 0 (flatK elC 3 d))))[k]? =_
  rw[Array.getElem?_modify,if_neg (fun e=>ae (by simp[e]))]
theorem Zda{d d':Array El}(hH:HoldsK elC 3 w gl 0 d)(hs:d'.size=d.size)(ae:gl<w.heap.size){q r:Nat}(hq:q<d'.size)(hr:r<3):(sortWorldK elC 3 w gl 0 n d' os).cell? ⟨gl,q*3+r,none⟩=some ((elC d'[q]!)[r]!):=by
 unfold sortWorldK putRowK
 rw[Go.Sort.cell?_grow _ _ _ (by simpa[Go.Sort.putRow,Go.Sort.mapBlock,Go.Sort.ahead] using ae)]
 have h9:=Go.Sort.cell?_putRow id (Go.Sort.ahead w n) gl 0 (flatK elC 3 d) (flatK elC 3 d') (fun j hj=>hH j hj) (by rw[size_flatK,size_flatK,hs]) (q*3+r) (by rw[size_flatK];omega)
 rw[Nat.zero_add] at h9
 rw[h9,get_flatK _ _ _ _ (by omega),show(q*3+r) / 3=q from by omega,show(q*3+r)%3=r from by omega]
 rfl
theorem ZeK{cl:Nat}{P:List El}{d':Array El}(hS:LaS w k m (.slice (some ⟨gl,0,none⟩) P.length cl) P wr)(aj:w.heap.size<=gl)(al:gl<wr.heap.size)(hH:HoldsK elC 3 wr gl 0 P.toArray)(ak:PermIn 0 P.length P.toArray d'):
  (d'.toList.map (·.1)).Perm (P.map (·.1))/\(d'.toList.map (·.1)).length=P.length/\Wp (sortWorldK elC 3 wr gl 0 n d' os) w.heap.size k m gl (d'.toList.map (·.1))/\Below w.heap.size w (sortWorldK elC 3 wr gl 0 n d' os):=by
 have ai:d'.size=P.length:=by have h9:=ak.1;simpa using h9
 have ae:d'.toList.Perm P:=by
  have h9:=ak.2.2
  have e1:d'.extract 0 P.length=d':=by rw[<-ai];simp
  have e2:P.toArray.extract 0 P.length=P.toArray:=by simp
  rw[e1,e2] at h9
  exact h9
 have hf:Fr [gl] wr (sortWorldK elC 3 wr gl 0 n d' os):=ZgF
 refine⟨ae.map _,by rw[ZjN,Array.length_toList,ai],⟨aj,fun q hq=> ?_⟩,hS.bel.trans (hf.below hS.bel.size (fun i hi=>by rw[ZjD] at hi;subst hi;exact aj))⟩
 have ah:q<d'.size:=by simpa using hq
 have hc:∀r,r<3->(sortWorldK elC 3 wr gl 0 n d' os).cell? ⟨gl,q*3+r,none⟩=some ((elC d'[q]!)[r]!):=fun r hr=>Zda hH (by simpa using ai) al ah hr
 have hx:(d'.toList.map (·.1))[q]=(d'[q]!).1:=by simp[ah]
 have af:d'[q]!∈P:=ae.mem_iff.1 (by
  have:d'[q]! =d'[q]:=getElem!_pos d' q ah
  rw[this,Array.mem_toList_iff]
  exact Array.getElem_mem ah)
 obtain⟨x,au⟩:∃x,d'[q]! =x:=⟨_,rfl⟩
 rw[au] at hc hx af
 have ag:=hS.els x af
 have aq:=hS.ne x af
 rw[hx]
 refine⟨hc 0 (by omega),hc 1 (by omega),?_⟩
 have h2:=hc 2 (by omega)
 have e2:(elC x)[2]! =.slice x.2.1 x.2.2.1 x.2.2.2:=rfl
 rw[e2] at h2
 unfold Jc at ag
 cases hv:x.1.val with
 |none=>
  rw[hv] at ag
  simp only at ag
  rw[ag] at h2
  exact h2
 |some v=>
  rw[hv] at ag
  obtain⟨g,c,e,k2,k3,k4⟩:=ag
  have hg:g≠gl:=fun e9=>aq g _ c e (by rw[ZG,e9];rfl)
  rw[e] at h2
  refine⟨g,0,c,h2,k2,fun i hi=> ?_⟩
  rw[Nat.zero_add]
  have h4:=k4 i hi
  have hb:=hf.block g k3 (by simpa using hg)
  unfold World.cell? at h4⊢
  rw[hb];exact h4
theorem ZcD(cs:List Chg)(q:Nat)(h:q<cs.length):Qq (cs.drop q)=if later cs[q] (cs.drop (q+1))=true then Qq (cs.drop (q+1)) else cs[q]::Qq (cs.drop (q+1)):=by
 rw[List.drop_eq_getElem_cons h];rfl
theorem Z7C(b k m gc cap n:Nat)(cs:List Chg)(w:World)(cy:1<=k)(fe:k+m<=16)(c0:w.cell? ⟨b,0,none⟩=some (.int .i64 (k:Int)))(c1:w.cell? ⟨b,1,none⟩=some (.int .i64 (m:Int)))(hr:Z1j w gc cs)(hn:n=cs.length)(hl:n<=12)(cz:cs≠[])(du:n<=cap)(hv:∀c∈cs,∀v,c.val=some v->v.length<=200):
  Calls prog 36 #[.pointer (some ⟨b,0,none⟩),.slice (some ⟨gc,0,none⟩) n cap] w fun e w'=>∃gl cl l,l.Perm (Qq cs)/\e=.returned (.tuple #[.slice (some ⟨gl,0,none⟩) l.length cl,.nilIface])/\Wp w' w.heap.size k m gl l/\l.length<=cl/\Below w.heap.size w w':=by
 have I0:LaS w k m (.slice none 0 0) [] w:=⟨World.ownsRow_nil _ _ _ _,fun x hx=>absurd hx Zk3,fun x hx=>absurd hx Zk3,Zk9⟩
 have H:=Zka (Zkb I0 (Zkb hr (Zkb hv (Zkb hn cz))))
 have HC:=Zka (Zkb c0 c1)
 clear I0 hr hv hn cz c0 c1
 go_enter func36,ntmps36
 go_wp2
 go_loopw [6,13] (fun lv kv wr=>∃ (q:Nat) (P:List El),q<=n/\kv=.int .i64 q/\LaS w k m lv P wr/\P.map (·.1)++Qq (cs.drop q)=Qq cs) (fun _ kv _=>n- (intOf kv).toNat)
 case atStart=>exact⟨0,[],by omega,rfl,H.out.1,rfl⟩
 case round=>
  obtain⟨q,P,hq,rfl,hS,hL⟩:=hrel
  have HS:=Zka (Zkb hS hL)
  by_cases dz:q<n
  ·have aq:q<cs.length:=by rw[<-H.out.2.2.2.1];exact dz
   obtain⟨a1,a2,a3⟩:=(H.out.2.1.2 q aq)
   have af:∀{p:Addr} {v:Value},w.cell? p=some v->wr.cell? p=some v:=fun h=>(hS.bel.cell (ZjG w _ h)).trans h
   have a1:=af a1
   have a2:=af a2
   have a3:=af a3
   have bz:=H.out.2.2.1 _ (ZjW aq)
   have bu:=ZcD cs q aq
   obtain⟨c,hc⟩:∃c,cs[q]=c:=⟨_,rfl⟩
   rw[hc] at a1 a2 a3 bz bu
   have fa:(q:Int)<(n:Int):=by omega
   have dx:(q:Int)+1<=(n:Int):=by omega
   have ah:=Zka H.out.2.2.2.1
   have al:cs.length<=1000:=by have h9:=ah.out;omega
   obtain⟨L,bj⟩:∃L,(c.val.getD []).length=L:=⟨_,rfl⟩
   have b9:(str (c.val.getD [])).size=L:=by rw[Z5,bj]
   have ay:=Row.new wr 68 [.string (str c.key),.string (str (c.val.getD [])),.bool c.val.isNone]
   have ax:Below w.heap.size w (wr.alloc (.cells #[.string (str c.key),.string (str (c.val.getD [])),.bool c.val.isNone] 68)):=hS.bel.trans (((Below.refl wr.heap.size wr).alloc Zk8 _).mono hS.bel.size)
   have ct:=hS.after ((Below.refl wr.heap.size wr).alloc Zk8 (.cells #[.string (str c.key),.string (str (c.val.getD [])),.bool c.val.isNone] 68)) (by omega)
   have dc:Z1j (wr.alloc (.cells #[.string (str c.key),.string (str (c.val.getD [])),.bool c.val.isNone] 68)) gc cs:=by
    refine⟨Zk0 H.out.2.1.1 ax.size,fun q' ef=> ?_⟩
    obtain⟨b1,b2,b3⟩:=H.out.2.1.2 q' ef
    exact⟨(ax.cell (p:=⟨gc,q'*3,none⟩) H.out.2.1.1).trans b1,(ax.cell (p:=⟨gc,q'*3+1,none⟩) H.out.2.1.1).trans b2,(ax.cell (p:=⟨gc,q'*3+2,none⟩) H.out.2.1.1).trans b3⟩
   have HB:=Zka (Zkb ay (Zkb ct (Zkb dc hL)))
   have HV:=Zka (Zkb bz (Zkb bu bj))
   obtain⟨bx,cu⟩:∃bx,wr.heap.size=bx:=⟨_,rfl⟩
   rw[cu] at HB
   have eo:=Zka cu
   clear hS hL af hc ay ax ct dc bz bu bj
   obtain⟨so,aw,fc⟩:∃so,(so=(q+1)*3∨q+1=cs.length)/\(if cap=q+1 then(some ⟨gc,0,none⟩:Option Addr) else some ⟨gc,(q+1)*3,none⟩)=some ⟨gc,so,none⟩:=by
    by_cases h9:cap=q+1
    ·exact⟨0,Or.inr (by have h8:=ah.out;omega),by rw[if_pos h9]⟩
    ·exact⟨(q+1)*3,Or.inl rfl,by rw[if_neg h9]⟩
   have ak:=Zka aw
   clear aw
   cases ae:later c (cs.drop (q+1)) with
   |true=>
    go_wp2_with (go_at_call 32;refine(Z1L gc so (q+1) _ _ bx cs c _ ak.out (HB.out.1.cell (j:=0) rfl) HB.out.2.2.1 (by have h9:=ah.out;omega) (by have h9:=ah.out;omega) al).mono ?_;rw[ae];rintro e w2 ⟨rfl,ag⟩;have R2:=Zka (HB.out.2.1.after ag (by omega));clear ag)
    all_goals go_roundw
    case measure=>simp[intOf];omega
    case rel=>exact⟨q+1,P,by omega,by go_num,R2.out,by rw[<-HB.out.2.2.2,HV.out.2.1,ae];rfl⟩
   |false=>
    have au:P.map (·.1)++(c::Qq (cs.drop (q+1)))=Qq cs:=by rw[<-HB.out.2.2.2,HV.out.2.1,ae];rfl
    have ew:P.length<=1000:=by
     have h1:=Z3k cs
     rw[<-au,ZjI,ZjN] at h1
     have h9:=ah.out;omega
    obtain⟨ck,cv⟩:=c
    simp only at HB HV b9 ae au
    cases cv with
    |none=>
     simp only[Option.getD_none,List.length_nil,Option.isNone_none] at HB HV b9 ae
     obtain rfl:L=0:=HV.out.2.2.symm
     have bg:=Zka au
     clear au
     go_wp2_with (first
      |(go_at_call 32;refine(Z1L gc so (q+1) _ _ bx cs ⟨ck,none⟩ _ ak.out (HB.out.1.cell (j:=0) rfl) HB.out.2.2.1 (by have h9:=ah.out;omega) (by have h9:=ah.out;omega) al).mono ?_;rw[ae];rintro e w2 ⟨rfl,ag⟩;have r2:=HB.out.1.after ag;have y0:=r2.cell (j:=0) rfl;have y1:=r2.cell (j:=1) rfl;have y2:=r2.cell (j:=2) rfl;have dm:=fun o=>WX y0 o;have cr:=fun o=>WX y1 o;have dp:=fun o=>WX y2 o;have s2:=HB.out.2.1.after ag (by omega);have R2:=Zka (Zkb s2 r2.lt);clear ag r2 s2;have s3:=R2.out.1.after (((Below.refl w2.heap.size w2).alloc Zk8 (.cells #[.string (str ck),.int .i64 0,.slice none 0 0] 98)).alloc (by simp) (.cells #[.string (str ck),.int .i64 0,.slice none 0 0] 98)) (by omega);have R3:=Zka s3;clear s3)
      |(at_builtin;refine Y6 _ rfl (.tmp 51) (.tmp 53) 83 98 rfl underlying83 Z8P rfl (by omega) (by omega) w.heap.size _ P.length (P.flatMap elC) rfl R3.out.own (w2.heap.size+1) 1 (elC (⟨ck,none⟩,none,0,0)) rfl (by omega) (by omega) rfl (Zi6 w2 _ _ _ _) (by simp[elC,Value.oneCell']) R3.out.bel.size (by omega) ?_;intro g4 bh w4 ho hf az _ _;have s4:=R3.out.put (x:=(⟨ck,none⟩,none,0,0)) rfl (fun g n c e=>by cases e) ho hf (Z9y az) (by omega);have R4:=Zka s4;clear ho hf az s4))
     go_roundw
     case measure=>simp[intOf];omega
     case rel=>exact⟨q+1,_,by omega,by go_num,R4.out,by rw[ZjZ,ZjL,ZjY,List.map_nil,List.singleton_append];exact bg.out⟩
    |some v=>
     simp only[Option.getD_some,Option.isNone_some] at HB HV b9 ae
     have df:=HV.out.1 v rfl
     obtain rfl:v.length=L:=HV.out.2.2
     have cw:=fun W=>Zci k m (str v) W cy (by omega) (by rw[Z5];omega)
     have dq:=Zka cw
     have bg:=Zka au
     have ey:=HB.out.2.1.bel
     clear au cw
     go_wp2_with (first
      |(go_at_call 32;refine(Z1L gc so (q+1) _ _ bx cs ⟨ck,some v⟩ _ ak.out (HB.out.1.cell (j:=0) rfl) HB.out.2.2.1 (by have h9:=ah.out;omega) (by have h9:=ah.out;omega) al).mono ?_;rw[ae];rintro e w2 ⟨rfl,ag⟩;have r2:=HB.out.1.after ag;have y0:=r2.cell (j:=0) rfl;have y1:=r2.cell (j:=1) rfl;have y2:=r2.cell (j:=2) rfl;have dm:=fun o=>WX y0 o;have cr:=fun o=>WX y1 o;have dp:=fun o=>WX y2 o;have s2:=HB.out.2.1.after ag (by omega);have d0:=(s2.bel.cell (ZjG w _ HC.out.1)).trans HC.out.1;have d1:=(s2.bel.cell (ZjG w _ HC.out.2)).trans HC.out.2;have s3:=s2.after ((Below.refl w2.heap.size w2).alloc Zk8 (.cells #[.string (str ck),.int .i64 (v.length:Int),.slice none 0 0] 98)) (by omega);have rx:=Row.new w2 98 [.string (str ck),.int .i64 (v.length:Int),.slice none 0 0];have er:=WX d0 (.cells #[.string (str ck),.int .i64 (v.length:Int),.slice none 0 0] 98);have eu:=WX d1 (.cells #[.string (str ck),.int .i64 (v.length:Int),.slice none 0 0] 98);have y9:=cr (.cells #[.string (str ck),.int .i64 (v.length:Int),.slice none 0 0] 98);have R2:=Zka (Zkb s3 (Zkb rx (Zkb s2.lts (Zkb s2.bel.size (Nat.le_refl (w2.heap.size+1))))));have dh:w2.heap.size<(w2.alloc (.cells #[.string (str ck),.int .i64 (v.length:Int),.slice none 0 0] 98)).heap.size:=(by simp);have RZ:=Zka dh;clear ag r2 s2 s3 rx d0 d1 dh))
     obtain⟨xb,cj⟩:∃xb,w2.heap.size=xb:=⟨_,rfl⟩
     have bq:=Zkb R2.out RZ.out
     rw[cj] at bq
     rw[cj]
     clear R2 RZ dm cr dp y0 y1 y2
     generalize w2.alloc (.cells #[.string (str ck),.int .i64 (v.length:Int),.slice none 0 0] 98)=wa at*
     have aj:=Zka bq
     clear bq cj
     go_region_with (go_at_call 75;refine(dq.out _).mono ?_;rintro e w5 ⟨sg,sc,rfl,⟨de,eh,ek⟩,hsg,hb5⟩;have r5:=(aj.out.1.2.1.drew).after hb5;have x2:=r5.cell (j:=2) rfl;have f2:=r5.free (j:=2) (by simp);have cn:xb<sg:=Zk0 aj.out.2 hsg;have s5:=((aj.out.1.1.after ((Below.refl wa.heap.size wa).drew) (by omega)).after hb5 (by omega)).set aj.out.1.2.2.1.1 aj.out.1.2.2.1.2 aj.out.1.2.2.2.1 2 (.slice (some ⟨sg,0,none⟩) (k+m) sc);have e5:=Zfj (w:=w) (xb:=xb) (sc:=sc) (ck:=ck) de (Zk1 aj.out.1.2.2.2.1 (Nat.le_of_lt cn)) cn cy (.slice (some ⟨sg,0,none⟩) (k+m) sc);have r6:=r5.set 2 (.slice (some ⟨sg,0,none⟩) (k+m) sc);have z0:=r6.cell (j:=0) rfl;have z1:=r6.cell (j:=1) rfl;have z2:=r6.cell (j:=2) rfl;have dj:(∀g n c,((⟨ck,some v⟩,some ⟨sg,0,none⟩,k+m,sc):El).2=(some ⟨g,0,none⟩,n,c)->g∉ZE u6):=(fun g n c e hm=>(by have h9:=aj.out.1.2.2.1.1 g hm;simp only[Prod.mk.injEq,ZjJ,Addr.mk.injEq,and_true] at e;omega));have R5:=Zka (Zkb s5 (Zkb e5 dj));clear de eh ek hsg hb5 r5 r6 cn s5 e5 dj)
     all_goals clear x2 f2
     all_goals generalize w5.setCell ⟨xb,2,none⟩ (.slice (some ⟨sg,0,none⟩) (k+m) sc)=w6 at*
     all_goals have s7:=R5.out.1.after ((Below.refl w6.heap.size w6).alloc Zk8 (.cells #[.string (str ck),.int .i64 (v.length:Int),.slice (some ⟨sg,0,none⟩) (k+m) sc] 98)) (by omega)
     all_goals have e7:=R5.out.2.1.after ((Below.refl w6.heap.size w6).alloc Zk8 (.cells #[.string (str ck),.int .i64 (v.length:Int),.slice (some ⟨sg,0,none⟩) (k+m) sc] 98)) (by omega)
     all_goals have R7:=Zka (Zkb s7 e7)
     all_goals clear s7 e7
     all_goals go_wp2_with (at_builtin;refine Y6 _ rfl (.tmp 51) (.tmp 53) 83 98 rfl underlying83 Z8P rfl (by omega) (by omega) w.heap.size _ P.length (P.flatMap elC) rfl R7.out.1.own w6.heap.size 1 (elC (⟨ck,some v⟩,some ⟨sg,0,none⟩,k+m,sc)) rfl (by omega) (by omega) rfl (Row.new w6 _ _) (by simp[elC,Value.oneCell']) R7.out.1.bel.size (by omega) ?_;intro g4 bh w4 ho hf az _ _;have s4:=R7.out.1.put (x:=(⟨ck,some v⟩,some ⟨sg,0,none⟩,k+m,sc)) R7.out.2 R5.out.2.2 ho hf (Z9y az) (by omega);have R4:=Zka s4;clear ho hf az s4)
     all_goals go_roundw
     all_goals first
      |exact⟨q+1,_,by omega,by go_num,R4.out,by rw[ZjZ,ZjL,ZjY,List.map_nil,List.singleton_append];exact bg.out⟩
      |(simp[intOf];omega)
  ·obtain rfl:q=n:=by omega
   have bf:P.map (·.1)=Qq cs:=by
    have h9:=hL
    rw[H.out.2.2.2.1,List.drop_length] at h9
    simpa[Qq] using h9
   have dt:0<P.length:=by
    have h1:(Qq cs).length≠0:=by
     have h2:∀l:List Chg,l≠[]->(Qq l).length≠0:=fun l=>by
      induction l with
      |nil=>intro h;exact absurd rfl h
      |cons a r ih=>
       intro _
       unfold Qq
       split
       ·rename_i hl
        refine ih (fun e=> ?_)
        rw[e] at hl;simp[later] at hl
       ·simp
     exact h2 cs H.out.2.2.2.2
    rw[<-bf,ZjN] at h1
    omega
   have bm:P.length<=12:=by
    have h1:=Z3k cs
    rw[<-bf,ZjN] at h1
    have h9:=H.out.2.2.2.1;omega
   obtain⟨gl,cl,sp,rfl,dy,dw,ez,ai⟩:=Xi hS.own dt
   have hH:=Zhq ai
   have aw:=Tryz.slices_SortFunc_small_sorted_f76 (α:=El) 3 (fun w=>by kernel_rfl) (fun w=>by kernel_rfl) elC (fun x=>rfl) (fun x v hv=>by simp[elC] at hv;rcases hv with rfl|rfl|rfl<;>rfl) Z57 77 #[] Zjr gl 0 cl P.toArray wr (fun args w=>by kernel_rfl) (fun m os dk hd x y=>Zef x y _) hH ai.lt (by simpa using bm) (fun n W hn=>(Tryz.bits_Len n W (by omega) (by omega)).mono fun e w' h=>⟨⟨_,h.1⟩,h.2⟩)
   have b9:P.toArray.size=P.length:=by simp
   rw[b9] at aw
   have ak:=Zka (Zkb aw (Zkb hH (Zkb bf ai.lt)))
   clear aw hH bf ai hS hL
   go_wp2_with (go_at_call 76;refine ak.out.1.mono ?_;rintro e w' ⟨rfl,d',dn,dr,ee, -,rfl⟩)
   go_ret2
   obtain⟨r1,r2,r3,r4⟩:=ZeK (n:=dn) (os:=dr) HS.out.1 dy ak.out.2.2.2 ak.out.2.1 ee
   refine⟨gl,cl,d'.toList.map (·.1),by rw[<-ak.out.2.2.1];exact r1,?_,r3,by rw[r2];exact dw,r4⟩
   rw[r2];rfl
end
section
open Go.RowKit Go.Shelf
variable{B E gc gi i n:Nat}{G:Eg}{K:List Bs}{S:Sto}{V V1 Vt:Ev}{bl bl1 done ins:List Nat}{cs l:List Chg}{d:Dir}{iv:Value}{ops:List YX}{ph:Nat->Dk->Sto->Prop}{w w' w3 wr:World}
abbrev ZgV:={c:Chg // 1<=c.key.length/\c.key.length<=200/\(c.val.getD []).length<=8000}
instance:Inhabited ZgV:=⟨⟨⟨[0],none⟩,by decide⟩⟩
def Z14(w:World)(gc:Nat)(cs:List Chg):Prop:=∃sp,Row w gc 68 (cs.flatMap apC++sp)
theorem ZbS(P:List Chg):(P.flatMap apC).length=P.length*3:=by
 induction P with
 |nil=>rfl
 |cons x r ih=>rw[ZjX,ZjI,ih];simp[apC];omega
theorem ZbR(P:List Chg):∀ (q:Nat) (hq:q<P.length) (r:Nat),r<3->(P.flatMap apC)[q*3+r]? =(apC P[q])[r]?:=by
 induction P with
 |nil=>intro q hq;simp at hq
 |cons x l ih=>
  intro q hq r hr
  rw[ZjX]
  match q,hq with
  |0,_=>rw[ZjH (by simp[apC];omega)];simp
  |q+1,hq=>
   rw[ZjP (by simp[apC];omega)]
   have:(q+1)*3+r- (apC x).length=q*3+r:=by simp[apC];omega
   rw[this,ih q (by simpa using hq) r hr]
   simp
theorem Z14.rd(h:Z14 w gc cs):Z1j w gc cs:=by
 obtain⟨sp,hr⟩:=h
 refine⟨hr.lt,fun q hq=> ?_⟩
 have key:∀r u,r<3->(apC cs[q])[r]? =some u->w.cell? ⟨gc,q*3+r,none⟩=some u:=fun r u ae hu=>hr.cell (by
  rw[ZjH (by rw[ZbS];omega),ZbR cs q hq r ae];exact hu)
 exact⟨key 0 _ (by omega) rfl,key 1 _ (by omega) rfl,key 2 _ (by omega) rfl⟩
theorem Z6Y(gc n cap:Nat)(cs:List Chg)(W:World)(hr:Z1j W gc cs)(hn:n=cs.length)(hl:cs.length<=1000)(hg:∀c∈cs,1<=c.key.length/\c.key.length<=200/\(c.val.getD []).length<=8000):
  Calls prog 32 #[.slice (some ⟨gc,0,none⟩) n cap,.func (.func 33) #[] #[]] W fun e w'=>e=.returned (.bool false)/\Below W.heap.size W w':=by
 have hE:=Tryz.slices_ContainsFunc (α:=ZgV) 3 (fun w=>by kernel_rfl) (fun w=>by kernel_rfl) (fun x=>apC x.1) (fun x=>rfl) (fun o=>false) 33 #[] (fun args w=>by kernel_rfl) gc 0 n cap (cs.pmap Subtype.mk hg) W (fun W' x hb=> ?_) (by simp;omega) (by omega) hr.1 (fun j hj i v hv=> ?_)
 ·refine hE.mono ?_
  rintro e w' ⟨rfl,hb⟩
  exact⟨by simp,hb⟩
 ·obtain⟨⟨xk,xv⟩,h1,h2,h3⟩:=x
  have h9:=ZdX (str xk) (str (xv.getD [])) xv.isNone (by rw[Z5];exact h1) (by rw[Z5];exact h2) (by rw[Z5];exact h3) (fun hh=>by cases xv with|none=>rfl|some v=>cases hh) W'
  exact h9.mono fun e w' h=>⟨h.1,hb.trans (h.2.mono hb.size)⟩
 ·have ae:j<cs.length:=by simpa using hj
  obtain⟨h1,h2,h3⟩:=hr.2 j ae
  have af:((cs.pmap Subtype.mk hg)[j]!).1=cs[j]:=by
   rw[List.getElem!_eq_getElem?_getD,ZjF (by simpa using ae)]
   simp
  rw[af] at hv
  unfold apC at hv
  rw[Nat.zero_add]
  match i,hv with
  |0,hv=>simp at hv;rw[<-hv];exact h1
  |1,hv=>simp at hv;rw[<-hv];exact h2
  |2,hv=>simp at hv;rw[<-hv];exact h3
  |i+3,hv=>simp at hv
def Zx.chg(X:Zx)(l:List Chg):Zx:={X with l:=l}
structure XA(X:Zx)(n:Nat)(V:Ev)(cs:List Chg):Prop where
 hK:KOk X.K
 k1:1<=X.k
 rest:∀i,i<n->WT X.k X.m i X.g X.H (X.T i)
 vk:V.k=X.k
 vm:V.m=X.m
 vg:V.gen=(X.g:Int)
 kn:X.k+X.m=n
 gone:V.P.gone=false
 at_:∀i,i<n->∀S,V.Ms i=some S->X.p0 i (V.Ds i) S
 many:X.k<=(Q7 V n).length
 ep:X.E<=1900000000
 gb:X.g<=1000000000
 ne:cs≠[]
 few:cs.length<=4
 key:∀c∈cs,c.key∈X.K
 val:∀c∈cs,∀v,c.val=some v->v.length<=200
theorem XA.ok{X:Zx}(h:XA X n V cs)(hp:l.Perm (Qq cs)):(X.chg l).Ok n:=⟨h.hK,LOk.of hp h.few h.key h.val,h.k1,h.rest⟩
theorem EAt.oks(h:EAt B w G V bl){i:Nat}(hi:i<G.n){S:Sto}(hM:V.Ms i=some S):(V.Ds i).ok 800/\(V.Ds i).dead=false:=by
 obtain⟨s,_,_,hd,L,hp⟩:=h.mem hi hM
 exact⟨hp.ok,hd⟩
theorem XA.start{X:Zx}(h:XA X G.n V cs)(he:EAt B w G V bl):(X.chg l).At (ph1 (X.chg l) []) G.n V:=by
 refine⟨h.gone,fun i hi S hM=>⟨?_,he.oks hi hM⟩⟩
 unfold ph1
 rw[if_neg (by simp)]
 exact h.at_ i hi S hM
theorem Z7O(V:Ev)(k:Nat):Q7 V (k+1)=Q7 V k++(if(V.Ms k).isSome=true then[k] else[]):=by
 unfold Q7
 rw[List.range_succ,List.filter_append]
 congr 1
 cases h:(V.Ms k).isSome<;>simp[h]
structure CoS(B:Nat)(w:World)(G:Eg)(V:Ev)(bl:List Nat)(gc:Nat)(cs:List Chg)(iv:Value)(ins:List Nat)(V1:Ev)(wr:World):Prop where
 ran:Zf B G bl V1 w wr
 ints:Z2W wr w.heap.size iv ins
 api:Z14 wr gc cs
theorem CoS.next{V2:Ev}(h:CoS B w G V bl gc cs iv ins V1 wr){bl1:List Nat}(he:EAt B wr G V1 bl1/\(∀k∈bl1,k∈bl∨w.heap.size<=k)/\Fr (G.p::bl) w wr)(hr:Zf B G bl1 V2 wr w'):CoS B w G V bl gc cs iv ins V2 w':=by
 obtain⟨sp,ae⟩:=h.api
 obtain⟨af,e2,g2,f2⟩:=hr
 refine⟨Zf.trans he ⟨af,e2,g2,f2⟩,Wf h.ints f2 (fun q hq=> ?_),sp,ae.fr f2 (he.1.row_ne ae (by decide))⟩
 obtain⟨l,hl⟩:=Qw h.ints q hq
 exact he.1.row_ne hl (by decide)
theorem CoS.after(h:CoS B w G V bl gc cs iv ins V1 wr)(hb:Below wr.heap.size wr w'):CoS B w G V bl gc cs iv ins V1 w':=by
 obtain⟨sp,ae⟩:=h.api
 exact⟨h.ran.after hb,QK h.ints hb,sp,ae.after hb⟩
theorem CoS.put{ah:Value}{af:List Nat}(h:CoS B w G V bl gc cs iv ins V1 wr)(ho:Z2W w' w.heap.size ah af)(hf:Fr (ZE iv) wr w'):CoS B w G V bl gc cs ah af V1 w':=by
 obtain⟨sp,ae⟩:=h.api
 obtain⟨bl1,e1,g1,f1⟩:=h.ran
 have ag:Zs wr (ZE iv) [3]:=fun q hq=>by
  obtain⟨l,f,hl,_⟩:=Qw h.ints q hq
  exact⟨_,_,_,hl,by simp⟩
 refine⟨⟨bl1,e1.fr hf ag (by decide) (by decide) (by decide) (fun k hk hm=> ?_),g1,f1.trans hf (fun i hi ai=> ?_)⟩,ho,sp,ae.fr hf (ag.row_ne ae (by decide))⟩
 ·exact e1.typed.disj ag (by decide) k hk hm
 ·have:=WC h.ints i hi;omega
structure C2S(B:Nat)(w3:World)(G:Eg)(bl1:List Nat)(gi:Nat)(ins:List Nat)(V:Ev)(ops:List YX)(Y:Zx)(ph:Nat->Dk->Sto->Prop)(Vt:Ev)(wr:World):Prop where
 ran:Zf B G bl1 Vt w3 wr
 ints:∃sp,Row wr gi 3 (Z59 ins++sp)
 at_:Y.At ph G.n Vt
 run:ZB ops V=(0,Vt)
theorem C2S.cell{Y:Zx}(h:C2S B w3 G bl1 gi ins V ops Y ph Vt wr){t:Nat}(ht:t<ins.length):wr.cell? ⟨gi,t,none⟩=some (.int .i64 (ins[t]:Int)):=by
 obtain⟨sp,hr⟩:=h.ints
 exact hr.cell (by rw[ZjH (by simp[Z59];omega)];simp[Z59,ht])
theorem Z6w(l:List YX):∀V:Ev,(ZB l V).2.k=V.k/\(ZB l V).2.m=V.m/\(ZB l V).2.gen=V.gen/\∀i,((ZB l V).2.Ms i).isSome=(V.Ms i).isSome:=by
 induction l with
 |nil=>intro V;exact⟨rfl,rfl,rfl,fun _=>rfl⟩
 |cons x r ih=>
  intro V
  obtain⟨s1,s2,s3,s4⟩:=JC V x
  unfold ZB
  split
  ·obtain⟨r1,r2,r3,r4⟩:=ih (ZX V x)
   exact⟨r1.trans s1,r2.trans s2,r3.trans s3,fun i=>(r4 i).trans (s4 i)⟩
  ·exact⟨s1,s2,s3,s4⟩
theorem C2S.same{Y:Zx}(h:C2S B w3 G bl1 gi ins V ops Y ph Vt wr):Vt.k=V.k/\Vt.m=V.m/\Vt.gen=V.gen/\∀i,(Vt.Ms i).isSome=(V.Ms i).isSome:=by
 have:=Z6w ops V
 rw[h.run] at this
 exact this
theorem C2S.after{Y:Zx}(h:C2S B w3 G bl1 gi ins V ops Y ph Vt wr)(hb:Below wr.heap.size wr w'):C2S B w3 G bl1 gi ins V ops Y ph Vt w':=by
 obtain⟨sp,hr⟩:=h.ints
 exact⟨h.ran.after hb,⟨sp,hr.after hb⟩,h.at_,h.run⟩
theorem C2S.did{blt:List Nat}{Y:Zx}{ag:Nat->Dk->Sto->Prop}(h:C2S B w3 G bl1 gi ins V ops Y ph Vt wr){x:YX}(h0:ZP Vt x=0)(hp:Y.At ag G.n (ZX Vt x))(he:EAt B wr G Vt blt/\(∀k∈blt,k∈bl1∨w3.heap.size<=k)/\Fr (G.p::bl1) w3 wr)(af:Zf B G blt (ZX Vt x) wr w'):C2S B w3 G bl1 gi ins V (ops++[x]) Y ag (ZX Vt x) w':=by
 obtain⟨sp,ae⟩:=h.ints
 exact⟨Zf.trans he af,⟨sp,af.row he.1 ae (by decide)⟩,hp,by rw[Zcl h.run,h0]⟩
theorem EAt.smem(h:EAt B w G V bl):G.s∈bl:=by
 obtain⟨Ls,Os,rfl,_⟩:=h
 simp[WU]
theorem Z1m{a b:List YX}{x:YX}(h:ZB a V=(0,Vt))(h0:ZP Vt x≠0):ZB (a++(x::b)) V=(ZP Vt x,ZX Vt x):=by
 rw[Z0k,h]
 simp only[if_true]
 unfold ZB
 rw[if_neg h0]
theorem Z8t{ga na ca:Nat}{a:Sto->List Ac}{f:Z1}(h:EAt B w G V bl)(hi:i<G.n)(hM:V.Ms i=some S)(hD:Q8 K E (V.Ds i) S)(hK:KOk K)(hE:E<=2000000000)(ha:Yd K S (a S) d f)(ae:WW w ga 0 (a S))(ah:na=(a S).length)(af:na<=ca)(ht:Ty w)(hg:0<B){s:Nat}{o:List Value}
  (hr:Row w (G.xs i) 91 (.pointer (some ⟨G.ds i,0,none⟩):: .pointer (some ⟨s,0,none⟩)::o)):
  Calls prog 38 #[.pointer (some ⟨s,0,none⟩),.slice (some ⟨ga,0,none⟩) na ca] w fun e w'=>∃ev,e=.returned ev/\Zu w' w.heap.size (ZP V (i,a)) ev/\(ZP V (i,a)=0->Zf B G bl (ZX V (i,a)) w w')/\Yr B G bl (ZX V (i,a)).P (ZX V (i,a)).Ds w w'/\Row w' G.s 78 [.int .i64 V.k,.int .i64 V.m,.slice (some ⟨G.ms,0,none⟩) G.n G.cap,.int .i64 V.gen,.bool false]:=by
 obtain⟨e1,e2⟩:=Z0V (V:=V) (x:=(i,a)) hM
 refine(ZhH h hi hM hD hK hE ha ae ah af ht hg hr).mono ?_
 rintro e w' ⟨ev,rfl,ag,hm⟩
 rw[e1,e2]
 exact⟨ev,rfl,ag,hm.ok,hm.bad,hm.set⟩
theorem Z4k{gone:List Bs}(h:EAt B w G V bl)(hi:i<G.n)(hM:V.Ms i=some S)(hD:Q8 K E (V.Ds i) S)(hK:KOk K)(hE:E<=2000000000)(ha:Yd K S (Qc S.dir gone) d [])(ht:Ty w)(hg:0<B)(aj:∀x∈gone,x.length<=1000)(ak:gone.length<=1000){ae:Option Addr}{ggc:Nat}(al:Zw w ae (gone.map str))(ai:∀g o,ae=some ⟨g,o,none⟩->g<w.heap.size){s:Nat}{o:List Value}
  (hr:Row w (G.xs i) 91 (.pointer (some ⟨G.ds i,0,none⟩):: .pointer (some ⟨s,0,none⟩)::o)):
  Calls prog 41 #[.pointer (some ⟨s,0,none⟩),.slice ae gone.length ggc] w fun e w'=>∃ev,e=.returned ev/\Zu w' w.heap.size (ZP V (i,fun S=>Qc S.dir gone)) ev/\(ZP V (i,fun S=>Qc S.dir gone)=0->Zf B G bl (ZX V (i,fun S=>Qc S.dir gone)) w w')/\Yr B G bl (ZX V (i,fun S=>Qc S.dir gone)).P (ZX V (i,fun S=>Qc S.dir gone)).Ds w w'/\Row w' G.s 78 [.int .i64 V.k,.int .i64 V.m,.slice (some ⟨G.ms,0,none⟩) G.n G.cap,.int .i64 V.gen,.bool false]:=by
 obtain⟨s',af,aw,hd,L,ax⟩:=h.mem hi hM
 obtain rfl:s'=s:=by
  have e1:=af.cell (j:=1) rfl
  have e2:=hr.cell (j:=1) rfl
  rw[e1] at e2
  simpa using e2
 have au:∀n∈S.dir.names,n.length<=1000:=fun n hn=>by
  obtain⟨x,hx,rfl⟩:=List.mem_map.1 hn
  have:=(Z0a hK _ (hD.sm x hx).1).2
  omega
 refine Zd6 s' (G.ds i) S _ gone w aw hD.sorted (by have:=hD.few hK;omega) au ⟨ae,ggc,rfl,al,ai⟩ ak aj (fun n e hn=>by
  obtain⟨_,h1,h2⟩:=hD.runs hn
  exact⟨h1,by omega⟩) (R:=fun ev w'=>Zu w' w.heap.size (ZP V (i,fun S=>Qc S.dir gone)) ev/\(ZP V (i,fun S=>Qc S.dir gone)=0->Zf B G bl (ZX V (i,fun S=>Qc S.dir gone)) w w')/\Yr B G bl (ZX V (i,fun S=>Qc S.dir gone)).P (ZX V (i,fun S=>Qc S.dir gone)).Ds w w'/\Row w' G.s 78 [.int .i64 V.k,.int .i64 V.m,.slice (some ⟨G.ms,0,none⟩) G.n G.cap,.int .i64 V.gen,.bool false]) (fun ga na ca w1 hb _ ag _ aq ah=> ?_)
 refine(Z8t (a:=fun S=>Qc S.dir gone) (h.after hb) hi hM hD hK hE ha ag aq ah (ht.below hb) hg (hr.after hb)).mono ?_
 rintro e w' ⟨ev,rfl,h1,h2,h3,h4⟩
 exact⟨ev,rfl,h1.base hb.size,fun h0=>(h2 h0).from hb,h3.from hb,h4⟩
theorem Z6i{a:Option Addr}{ss:List ByteArray}(h:Zw w a ss)(hr:∀g o,a=some ⟨g,o,none⟩->∃r,Row w g 9 r)(he:EAt B w G V bl)(af:Zf B G bl V1 w w'):Zw w' a ss/\∀g o,a=some ⟨g,o,none⟩->∃r,Row w' g 9 r:=by
 refine⟨fun j hj=> ?_,fun g o e=> ?_⟩
 ·obtain⟨g,o,e,hc⟩:=h j hj
  obtain⟨r,ae⟩:=hr g o e
  obtain⟨bl',_,_,hf⟩:=af
  have hb:=hf.block g ae.lt (he.row_ne ae (by decide))
  refine⟨g,o,e,?_⟩
  unfold World.cell? at hc⊢
  rw[hb];exact hc
 ·obtain⟨r,ae⟩:=hr g o e
  exact⟨r,af.row he ae (by decide)⟩
theorem EAt.setGen(h:EAt B w G V bl)(g:Int):EAt B (w.setCell ⟨G.s,3,none⟩ (.int .i64 g)) G {V with gen:=g} bl:=by
 obtain⟨Ls,Os,rfl,h⟩:=h
 have hf:Fr [G.s] w (w.setCell ⟨G.s,3,none⟩ (.int .i64 g)):=(Fr.refl _ _).setCell (Or.inl (by simp)) _
 have ht:Zs w [G.s] [78]:=Zs.row h.set (by simp)
 obtain⟨sp,hm⟩:=h.mem
 refine⟨Ls,Os,rfl,h.set.set 3 (.int .i64 g),⟨sp,hm.fr hf (ht.row_ne hm (by decide))⟩,h.n1,h.n16,fun i hi=>(h.pd i hi).fr hf (ht.disj (h.pd i hi).typed (by decide)),h.dap,fun i hi=>(h.at_ i hi).fr hf ht (by decide) (by decide) (fun k hk hm=>ht.disj (h.at_ i hi).typed (by decide) k hm hk),h.oap,h.bO,h.bs⟩
theorem Z2W.row{base g c:Nat}{l:List Nat}(h:Z2W w base (.slice (some ⟨g,0,none⟩) n c) l)(hl:0<l.length):∃sp,Row w g 3 (Z59 l++sp):=by
 obtain⟨g',c',sp,hv,_,_,_,hr⟩:=Xi h hl
 injection hv with h1 h2 h3
 have h4:=congrArg (fun(a:Option Addr)=>a.map Addr.block) h1
 simp only[Option.map_some,ZjJ] at h4
 subst h4
 exact⟨sp,hr⟩
structure Zjm(B:Nat)(w3:World)(bs:Nat)(G:Eg)(bl1:List Nat)(X:Zx)(gl:Nat)(V Vt:Ev)(done:List Nat)(i:Nat)(wr:World)(S:Sto)(blt:List Nat)(s:Nat):Prop where
 e:EAt B wr G Vt blt
 ty:Ty wr
 hM:Vt.Ms i=some S
 hi:i<G.n
 hB:Q8 X.K X.E (Vt.Ds i) S
 acts:∃d f,Yd X.K S (Qz X.k X.m i X.g X.l) d f
 row:Row wr (G.xs i) 91 [.pointer (some ⟨G.ds i,0,none⟩),.pointer (some ⟨s,0,none⟩),.int .i64 (Vt.Ds i).life,.bool true]
 set:Row wr G.s 78 [.int .i64 X.k,.int .i64 X.m,.slice (some ⟨G.ms,0,none⟩) G.n G.cap,.int .i64 (X.g:Int),.bool false]
 ch:Wp wr bs X.k X.m gl X.l
theorem C2S.pre1{gl bs:Nat}{Y:Zx}(h:C2S B w3 G bl1 gi ins V ops Y (ph1 Y done) Vt wr)(hY:Y.Ok G.n)(h3:EAt B w3 G V bl1)(aj:Ty w3)(ak:0<B)(ag:Wp w3 bs Y.k Y.m gl Y.l)(ai:∀k∈G.p::bl1,k<bs)(hk:V.k=Y.k)(hm:V.m=Y.m)(hg:V.gen=(Y.g:Int)){i:Nat}(hi:i<G.n)(ah:(V.Ms i).isSome=true)(hd:i∉done):
  ∃S blt s,Zjm B w3 bs G bl1 Y gl V Vt done i wr S blt s/\(∀k∈blt,k∈bl1∨w3.heap.size<=k)/\Fr (G.p::bl1) w3 wr:=by
 obtain⟨blt,e1,g1,f1⟩:=h.ran
 obtain⟨s1,s2,s3,s4⟩:=h.same
 have hS:(Vt.Ms i).isSome=true:=by rw[s4];exact ah
 obtain⟨S,hM⟩:=Option.isSome_iff_exists.1 hS
 obtain⟨hB,ha⟩:=Zx.ready1 hY h.at_ hi hM hd
 obtain⟨s,af,_⟩:=e1.mem hi hM
 have ae:=e1.scell
 rw[s1,s2,s3,hk,hm,hg] at ae
 exact⟨S,blt,s,⟨e1,Zf.ty ⟨blt,e1,g1,f1⟩ h3 aj,hM,hi,hB,ha,af,ae,ag.fr f1 (fun k hk=>Or.inl (ai k hk))⟩,g1,f1⟩
structure Zjn(B:Nat)(w3:World)(G:Eg)(bl1:List Nat)(X:Zx)(V4:Ev)(i:Nat)(wr:World)(S:Sto)(blt:List Nat)(s:Nat)(d:Dir):Prop where
 e:EAt B wr G V4 blt/\(∀k∈blt,k∈bl1∨w3.heap.size<=k)/\Fr (G.p::bl1) w3 wr
 ty:Ty wr
 hM:V4.Ms i=some S
 hB:Q8 X.K (X.E+1) (V4.Ds i) S
 acts:Yd X.K S (Qc S.dir (Zi X.l)) d []
 row:Row wr (G.xs i) 91 [.pointer (some ⟨G.ds i,0,none⟩),.pointer (some ⟨s,0,none⟩),.int .i64 (V4.Ds i).life,.bool true]
theorem C2S.pre2{Y:Zx}{V4:Ev}(h:C2S B w3 G bl1 gi ins V ops Y (ph2 Y done) V4 wr)(hY:Y.Ok G.n)(h3:EAt B w3 G V bl1)(ag:Ty w3)(ah:0<B){i:Nat}(hi:i<G.n)(af:(V.Ms i).isSome=true)(hd:i∉done):
  ∃S blt s d,Zjn B w3 G bl1 Y V4 i wr S blt s d:=by
 obtain⟨blt,e1,g1,f1⟩:=h.ran
 obtain⟨s1,s2,s3,s4⟩:=h.same
 have hS:(V4.Ms i).isSome=true:=by rw[s4];exact af
 obtain⟨S,hM⟩:=Option.isSome_iff_exists.1 hS
 obtain⟨hB,d,ha⟩:=Zx.ready2 hY h.at_ hi hM hd
 obtain⟨s,ae,_⟩:=e1.mem hi hM
 exact⟨S,blt,s,d,⟨e1,g1,f1⟩,Zf.ty ⟨blt,e1,g1,f1⟩ h3 ag,hM,hB,ha,ae⟩
end
end Go.Proofs.YthppfllkocphbaaGreatDoor
