/- Part 23: lemmas about what the program computes. -/
import Derived.Test.YthppfllkocphbaaGreatDoorY20
namespace Go.Proofs.YthppfllkocphbaaGreatDoor
set_option linter.unusedVariables false
set_option linter.unusedSimpArgs false
set_option maxHeartbeats 25600000
set_option maxRecDepth 100000
open Tryz Go.RowKit
section
open Go.Shelf
variable{acts:List Ac}{av tv:Value}{b bs g gl k m:Nat}{l:List Chg}{ts:List Bs}{w w' wr:World}
structure X0(w:World)(bs k m:Nat)(gl:Nat)(l:List Chg):Prop where
 low:bs<=gl
 at_:∀q (h:q<l.length),w.cell? ⟨gl,q*3,none⟩=some (.string (str l[q].key))/\w.cell? ⟨gl,q*3+1,none⟩=some (.int .i64 ((l[q].val.getD []).length:Int))/\
  match l[q].val with
  |none=>w.cell? ⟨gl,q*3+2,none⟩=some (.slice none 0 0)
  |some v=>∃g o c,w.cell? ⟨gl,q*3+2,none⟩=some (.slice (some ⟨g,o,none⟩) (k+m) c)/\bs<=g/\∀i,i<k+m->w.cell? ⟨g,o+i,none⟩=some (.string (str (shT k m v i)))
theorem X0.fr(h:X0 w bs k m gl l){X:List Nat}(M:Fr X w w')(Z:∀k∈X,k<bs∨w.heap.size<=k):X0 w' bs k m gl l:=by
 have key:∀{g o:Nat} {v:Value},bs<=g->w.cell? ⟨g,o,none⟩=some v->w'.cell? ⟨g,o,none⟩=some v:=fun{g} {o} {v} hg hc=>by
  have C:=Z5b w _ hc;have O:g∉X:=by grind
  unfold World.cell? at hc⊢;rw[M.block _ C O];exact hc
 refine⟨h.low,λq U=> ?_⟩;obtain⟨F,a2,a3⟩:=h.at_ q U;refine⟨key h.low F,key h.low a2,?_⟩;split
 .rename_i e;rw[e] at a3;exact key h.low a3
 .rename_i v e;rw[e] at a3;obtain⟨g,o,c,b1,b2,J⟩:=a3;exact⟨g,o,c,key h.low b1,b2,λi hi=>key b2 (J i hi)⟩
theorem X0.after(h:X0 w bs k m gl l)(C:Below w.heap.size w w'):X0 w' bs k m gl l:=h.fr (Fr.of_below (L:=[]) C) (by simp)
structure FiS(w:World)(bs b k m g gl:Nat)(l:List Chg)(tv:Value)(ts:List Bs)(av:Value)(acts:List Ac)(wr:World):Prop where
 c0:wr.cell? ⟨b,0,none⟩=some (.int .i64 (k:Int))
 c1:wr.cell? ⟨b,1,none⟩=some (.int .i64 (m:Int))
 c3:wr.cell? ⟨b,3,none⟩=some (.int .i64 (g:Int))
 ch:X0 wr bs k m gl l
 ts:Strs wr w.heap.size tv ts
 own:Ai wr w.heap.size av acts
 bel:Below w.heap.size w wr
theorem FiS.after(h:FiS w bs b k m g gl l tv ts av acts wr)(C:Below wr.heap.size wr w'):FiS w bs b k m g gl l tv ts av acts w':=by have key:∀{p:Addr} {v:Value},wr.cell? p=some v->w'.cell? p=some v:=λh=>(C.cell (Z5b wr _ h)).trans h;exact⟨key h.c0,key h.c1,key h.c3,h.ch.after C,h.ts.after C,Qz h.own C,h.bel.trans (C.mono h.bel.size)⟩
theorem FiS.grow(h:FiS w bs b k m g gl l tv ts av acts wr)(hold:b<w.heap.size/\X0 w bs k m gl l){X:List Nat}(Z:Fr X wr w')(U:∀q∈X,w.heap.size<=q){O:Value}{M:List Bs}{J:Value}{F:List Ac}(ht:Strs w' w.heap.size O M)(ha:Ai w' w.heap.size J F):FiS w bs b k m g gl l O M J F w':=by
 have C:Below w.heap.size w w':=h.bel.trans (Z.below h.bel.size U);have key:∀{o:Nat} {v:Value},wr.cell? ⟨b,o,none⟩=some v->w'.cell? ⟨b,o,none⟩=some v:=fun{o} {v} hc=>by have e1:=h.bel.cell (p:=⟨b,o,none⟩) hold.1;have e2:=C.cell (p:=⟨b,o,none⟩) hold.1;simp_all
 exact⟨key h.c0,key h.c1,key h.c3,hold.2.after C,ht,ha,C⟩
theorem FiS.nextT(h:FiS w bs b k m g gl l tv ts av acts wr)(hold:b<w.heap.size/\X0 w bs k m gl l){F:Value}{C:List Bs}(U:Strs w' w.heap.size F C)(J:Fr (ZG tv) wr w'):FiS w bs b k m g gl l F C av acts w':=
 h.grow hold J h.ts.ge U (Wl h.own J (λq Z hm=>by
  obtain⟨x1,M⟩:=QA h.own q Z;obtain⟨x2,O⟩:=QA h.ts q hm
  exact Row.ne M O (by decide) rfl))
theorem FiS.nextA(h:FiS w bs b k m g gl l tv ts av acts wr)(hold:b<w.heap.size/\X0 w bs k m gl l){F:Value}{C:List Ac}(U:Ai w' w.heap.size F C)(J:Fr (ZG av) wr w'):FiS w bs b k m g gl l tv ts F C w':=
 h.grow hold J (WE h.own) (Wl h.ts J (λq Z hm=>by
  obtain⟨x1,M⟩:=QA h.ts q Z;obtain⟨x2,O⟩:=QA h.own q hm
  exact Row.ne M O (by decide) rfl)) U
theorem Z0b(key:Bs):(⟨#[115]⟩:ByteArray)++str key=str (nmS key):=by rfl
theorem Z4U(key:Bs)(h:key.length<=1000000):∀W,(Op.stringOp .add ⟨#[115]⟩ (str key)).run prog W=.ok (.string (str (nmS key))) W:=λW=>by rw[<-Z0b];exact run_string_add_sum _ ⟨#[115]⟩ (str key) (by have C:(⟨#[115]⟩:ByteArray).size=1:=rfl;rw[Z5];omega)
theorem K0(l:List Chg)(q:Nat)(h:q<l.length):Zu (l.take (q+1))=Zu (l.take q)++(match l[q].val with|none=>[l[q].key]|some _=>[]):=by rw[Z5f h];unfold Zu;grind
theorem Uf(k m i:Nat)(l:List Chg)(q:Nat)(h:q<l.length):(l.take (q+1)).filterMap (YM k m i)=(l.take q).filterMap (YM k m i)++(match l[q].val with|none=>[]|some v=>[⟨1,nmS l[q].key,[],shL k m i l[q].key v⟩]):=by rw[Z5f h,List.filterMap_append,List.filterMap_cons,List.filterMap_nil];congr 1;unfold YM;grind
theorem SU(K:List Bs)(bs b k m i g gl cl:Nat)(l:List Chg)(w:World)(hK:KOk K)(hl:LOk K l)(ez:1<=k)(fj:k+m<=16)(hi:i<k+m)(hg:g<=4000000000)(c0:w.cell? ⟨b,0,none⟩=some (.int .i64 (k:Int)))(c1:w.cell? ⟨b,1,none⟩=some (.int .i64 (m:Int)))(c3:w.cell? ⟨b,3,none⟩=some (.int .i64 (g:Int)))(df:X0 w bs k m gl l)(fg:l.length<=cl):Calls prog 37 #[.pointer (some ⟨b,0,none⟩),.int .i64 (i:Int),.slice (some ⟨gl,0,none⟩) l.length cl] w λe w'=>∃ga ca,e=.returned (.tuple #[.slice (some ⟨ga,0,none⟩) (QL k m i g l).length ca,.nilIface])/\WD w' ga 0 (QL k m i g l)/\(QL k m i g l).length<=ca/\w.heap.size<=ga/\Below w.heap.size w w':=by
 have ae:=BM b k m i (g+1) w (by omega) (by omega) (by omega) (by omega) c0 c1;rw[show(((g+1:Nat)):Int)=(g:Int)+1 from by omega] at ae;have fq:=Z5x ((g:Int)+1) (by omega);have cu:b<w.heap.size:=Z5b w _ c0;have dj:∀c∈l,c.key.length<=11:=λc hc=>(hK.len _ (hl.key c hc)).2;have fm:=hl.few;have bu:=Gf hK (g:=g+1) hl;have H:=Z5N ae df hl cu dj bu;clear ae df hl dj bu;have bf:∀W,Calls prog 80 #[.int .i64 ((g:Int)+1)] W λe w'=>e=.returned (.string (s32 (g+1)))/\Below W.heap.size W w':=λW=>by have h9:=Ci (g+1) (by omega) W;rw[show(((g+1:Nat)):Int)=(g:Int)+1 from by omega] at h9;exact h9
 have HN:=Z5F bf;clear bf;go_enter func37,ntmps37;go_wp2_with (first|(go_at_call 79;refine H.out.1.mono ?_;rintro e w1 ⟨rfl,aw⟩;have d0:=(aw.cell (Z5b _ _ c0)).trans c0;have d1:=(aw.cell (Z5b _ _ c1)).trans c1;have d3:=(aw.cell (Z5b _ _ c3)).trans c3;have R1:=Z5F aw;clear aw c0 c1 c3)|(go_at_call 80;refine(HN.out _).mono ?_;rintro e w2 ⟨rfl,az⟩;have R2:=Z5F az;clear az)|(go_at_call 81;refine(I8 _ _ _).mono ?_;rintro e w3 ⟨rfl,af⟩;have M:=Z5F af;clear af));have dy:=R1.out.size;have dz:=R2.out.size;have ee:=M.out.size;have dp:Strs (w2.alloc (.cells #[.string (s32 (g+1))] 9)) w.heap.size (.slice (some ⟨w2.heap.size,0,none⟩) 1 1) [Z4 (g+1)]:=⟨rfl,Or.inr ⟨w2.heap.size,1,#[.string (s32 (g+1))],rfl,by omega,heap_alloc_new w2 _,Z5D,by simp[maxLen],rfl,rfl⟩⟩;have dq:Ai (w3.alloc (.cells #[.int .i64 1,.string ⟨#[110]⟩,.string ⟨#[]⟩,.string (str (Qq k m i (g+1)))] 151)) w.heap.size (.slice (some ⟨w3.heap.size,0,none⟩) 1 1) [⟨1,nmN,[],Qq k m i (g+1)⟩]:=⟨rfl,Or.inr ⟨w3.heap.size,1,#[.int .i64 1,.string ⟨#[110]⟩,.string ⟨#[]⟩,.string (str (Qq k m i (g+1)))],rfl,by simp at ee;omega,heap_alloc_new w3 _,Z5D,by simp[maxLen],rfl,rfl⟩⟩;have ct:Below w.heap.size w (w3.alloc (.cells #[.int .i64 1,.string ⟨#[110]⟩,.string ⟨#[]⟩,.string (str (Qq k m i (g+1)))] 151)):=by have h2:=R1.out.trans (R2.out.mono dy);have h3:=h2.trans (((Below.refl w2.heap.size w2).alloc Z5D (.cells #[.string (s32 (g+1))] 9)).mono h2.size);have h4:=h3.trans (M.out.mono h3.size);exact h4.trans (((Below.refl w3.heap.size w3).alloc Z5D _).mono h4.size)
 have I0:FiS w bs b k m g gl l (.slice (some ⟨w2.heap.size,0,none⟩) 1 1) [Z4 (g+1)] (.slice (some ⟨w3.heap.size,0,none⟩) 1 1) [⟨1,nmN,[],Qq k m i (g+1)⟩] (w3.alloc (.cells #[.int .i64 1,.string ⟨#[110]⟩,.string ⟨#[]⟩,.string (str (Qq k m i (g+1)))] 151)):=by
  have cr:Below w1.heap.size w1 (w3.alloc (.cells #[.int .i64 1,.string ⟨#[110]⟩,.string ⟨#[]⟩,.string (str (Qq k m i (g+1)))] 151)):=by have h3:=R2.out.trans (((Below.refl w2.heap.size w2).alloc Z5D (.cells #[.string (s32 (g+1))] 9)).mono dz);have h4:=h3.trans (M.out.mono h3.size);exact h4.trans (((Below.refl w3.heap.size w3).alloc Z5D _).mono h4.size)
  have key:∀{p:Addr} {v:Value},w1.cell? p=some v->(w3.alloc (.cells #[.int .i64 1,.string ⟨#[110]⟩,.string ⟨#[]⟩,.string (str (Qq k m i (g+1)))] 151)).cell? p=some v:=λh=>(cr.cell (Z5b w1 _ h)).trans h;exact⟨key d0,key d1,key d3,H.out.2.1.after ct,(dp.after M.out).after ((Below.refl w3.heap.size w3).alloc Z5D _),dq,ct⟩
 have HI:=Z5F I0;clear I0 dp dq ct d0 d1 d3;obtain⟨tb,cz⟩:=Z5H w2.heap.size;obtain⟨ab,cn⟩:=Z5H w3.heap.size;rw[cz,cn] at HI;rw[cz,cn];clear cz cn dy dz ee;go_loopw [10,11,43] (λtv av kv wr=>∃q:Nat,q<=l.length/\kv=.int .i64 q/\FiS w bs b k m g gl l tv (Z4 (g+1)::Zu (l.take q)) av (⟨1,nmN,[],Qq k m i (g+1)⟩::(l.take q).filterMap (YM k m i)) wr) (λ_ _ kv _=>l.length- (intOf kv).toNat)
 case atStart=>exact⟨0,by omega,rfl,HI.out⟩
 case round=>
  obtain⟨q,hq,rfl,hS⟩:=hrel;have HS:=Z5F hS;by_cases b8:q<l.length
  .obtain⟨a1,a2,a3⟩:=hS.ch.at_ q b8;have hx:=H.out.2.2.2.2.1 _ (Z5r b8);have al:=H.out.2.2.1.val _ (Z5r b8);have aj:=K0 l q b8;have ak:=Uf k m i l q b8;have fh:(q:Int)<(l.length:Int):=(by omega);obtain⟨c,hc⟩:=Z5H l[q];rw[hc] at a1 a2 a3 hx al aj ak;obtain⟨key,val⟩:=c;simp only at a1 a2 a3 hx al aj ak;cases val with
   |none=>
    simp only[Option.getD_none,List.length_nil,Z5C] at a2 a3 aj ak;have fa:∀W,(binOp .eql 96 (.slice none 0 0) (.slice none 0 0)).run prog W=.ok (.bool true) W:=λ_=>(by kernel_rfl);have b7:(Z4 (g+1)::Zu (l.take q)).length<=1000000:=by
     have h1:(Zu (l.take q)).length<=(l.take q).length:=by unfold Zu;exact List.length_filterMap_le _ _
     rw[Z5j] at h1;simp only[Z5h];omega
    have Z:=(hS.after ((Below.refl wr.heap.size wr).alloc Z5D (.cells #[.string (str key),.int .i64 0,.slice none 0 0] 98))).after (Z5E.alloc Z5D (.cells #[.string (str key)] 9));have b9:((wr.alloc (.cells #[.string (str key),.int .i64 0,.slice none 0 0] 98)).alloc (.cells #[.string (str key)] 9)).heap[wr.heap.size+1]? =some (.cells #[.string (str key)] 9 (0,0)):=by have h9:=heap_alloc_new (wr.alloc (.cells #[.string (str key),.int .i64 0,.slice none 0 0] 98)) (.cells #[.string (str key)] 9);simpa using h9
    have F:=Z5M aj ak Z b7 b9;clear hS al aj ak hc Z b7 b9;go_wp2_with (at_builtin;refine WC _ rfl (.tmp 50) (.tmp 53) rfl w.heap.size _ (Z4 (g+1)::Zu (l.take q)) rfl F.out.2.2.1.ts (wr.heap.size+1) key rfl F.out.2.2.2.2 F.out.2.2.1.bel.size F.out.2.2.2.1 ?_;intro g2 ai w2 ho hf _;have S3:=Z5F (F.out.2.2.1.nextT ⟨H.out.2.2.2.1,H.out.2.1⟩ ho hf);clear ho hf);go_roundw
    case measure=>simp[intOf];omega
    case rel=>exact⟨q+1,by omega,by go_num,by rw[F.out.1,F.out.2.1];exact S3.out⟩
   |some v=>
    simp only[Option.getD_some] at a2;obtain⟨O,U,sc,s1,s2,s3⟩:=a3;have al:=al v rfl;have cj:=s3 i hi;obtain⟨nn,dm⟩:=Z5H (k+m);rw[dm] at s1;have fi:(i:Int)<(nn:Int):=(by omega);have eu:i<nn:=(by omega);have ew:i<=nn:=(by omega);have ey:¬nn=i:=(by omega);have er:i<=4294967295:=(by omega);have fa:∀W,(binOp .eql 96 (.slice (some ⟨O,U,none⟩) nn sc) (.slice none 0 0)).run prog W=.ok (.bool false) W:=λ_=>(by kernel_rfl);have ek:=DY key (by omega);have de:=Z4U key (by omega);have bm:=(EG (m:=m) (i:=i) (key:=key) ez al).2;obtain⟨X,hX⟩:=Z5H (str (shT k m v i));obtain⟨J,aq⟩:=Z5H v.length;have dt:∀W:World,Calls prog 82 #[.string (str (nmD key)),.slice (some ⟨W.heap.size,0,none⟩) 3 3] (W.alloc (.cells #[.string (s32 i),.string (s32 J),.string X] 9)) λe w'=>e=.returned (.tuple #[.string (str (shL k m i key v)),.nilIface])/\Below (W.alloc (.cells #[.string (s32 i),.string (s32 J),.string X] 9)).heap.size (W.alloc (.cells #[.string (s32 i),.string (s32 J),.string X] 9)) w':=λW=>by have h9:=Row.new W 9 [.string (s32 i),.string (s32 J),.string X];rw[<-hX,<-aq] at h9⊢;exact EC (nmD key) (by simp[nmD];omega) W.heap.size 3 [Z4 i,Z4 v.length,shT k m v i] [] _ h9 bm
    rw[hX] at cj;rw[aq] at a2 al;have dx:J<=4294967295:=(by omega);have au:((⟨1,nmN,[],Qq k m i (g+1)⟩:Ac)::(l.take q).filterMap (YM k m i)).length<=1000000:=by have h1:=List.length_filterMap_le (YM k m i) (l.take q);rw[Z5j] at h1;simp only[Z5h];omega
    have Z:=hS.after ((Below.refl wr.heap.size wr).alloc Z5D (.cells #[.string (str key),.int .i64 (J:Int),.slice (some ⟨O,U,none⟩) nn sc] 98));have bg:=Row.new wr 98 [.string (str key),.int .i64 (J:Int),.slice (some ⟨O,U,none⟩) nn sc];have bq:(wr.alloc (.cells #[.string (str key),.int .i64 (J:Int),.slice (some ⟨O,U,none⟩) nn sc] 98)).cell? ⟨O,U+i,none⟩=some (.string X):=by have hb:=(Below.refl wr.heap.size wr).alloc Z5D (.cells #[.string (str key),.int .i64 (J:Int),.slice (some ⟨O,U,none⟩) nn sc] 98);exact(hb.cell (Z5b wr _ cj)).trans cj
    have F:=Z5O aj ak Z au dt bg bq;clear dm hS aj ak hc Z au dt bg bq hX aq s2 s3 bm cj;go_wp2_with fail;obtain⟨y,hy⟩:=Z5H wr.heap.size;have b0:=F.out.2.2.2.2.2.1.cell (j:=0) rfl;have b1:=F.out.2.2.2.2.2.1.cell (j:=1) rfl;have b2:=F.out.2.2.2.2.2.1.cell (j:=2) rfl;have b3:=F.out.2.2.2.2.2.2;have Z:=F.out.2.2.1;rw[hy] at b0 b1 b2;rw[hy];generalize wr.alloc (.cells #[.string (str key),.int .i64 (J:Int),.slice (some ⟨O,U,none⟩) nn sc] 98)=wa at*
    have ef:=Z5F Z;clear Z;have cw:∀A C:World,(A.cell? ⟨y,0,none⟩=some (.string (str key))/\A.cell? ⟨y,1,none⟩=some (.int .i64 (J:Int))/\A.cell? ⟨y,2,none⟩=some (.slice (some ⟨O,U,none⟩) nn sc)/\A.cell? ⟨O,U+i,none⟩=some (.string X)/\Below wa.heap.size wa A)->Below A.heap.size A C->(C.cell? ⟨y,0,none⟩=some (.string (str key))/\C.cell? ⟨y,1,none⟩=some (.int .i64 (J:Int))/\C.cell? ⟨y,2,none⟩=some (.slice (some ⟨O,U,none⟩) nn sc)/\C.cell? ⟨O,U+i,none⟩=some (.string X)/\Below wa.heap.size wa C):=by rintro A C ⟨h0,h1,h2,h3,h7⟩ hb;have key:∀{p:Addr} {v:Value},A.cell? p=some v->C.cell? p=some v:=λh=>(hb.cell (Z5b A _ h)).trans h;exact⟨key h0,key h1,key h2,key h3,h7.trans (hb.mono h7.size)⟩
    have hs0:=cw wa wa.drew ⟨b0,b1,b2,b3,Z5E⟩ (Z5E.drew);have HK:=Z5F cw;have HE:=Z5F F.out.2.2.2.2.1;clear cw hy;go_region_held3 (λx=>x.cell? ⟨y,0,none⟩=some (.string (str key))/\x.cell? ⟨y,1,none⟩=some (.int .i64 (J:Int))/\x.cell? ⟨y,2,none⟩=some (.slice (some ⟨O,U,none⟩) nn sc)/\x.cell? ⟨O,U+i,none⟩=some (.string X)/\Below wa.heap.size wa x) (first|assumption|exact hs0|(exact HK.out _ _ (by assumption) (Z5E.alloc Z5D _))|(exact HK.out _ _ (by assumption) (by assumption)))
     (first|(go_at_call 80;refine(Ci _ (by assumption) _).mono ?_;rintro e w8 ⟨rfl,fe⟩)|(go_at_call 82;refine(HE.out _).mono ?_;rintro e w9 ⟨rfl,ff⟩))
    rename_i hHeld;clear b0 b1 b2 b3 hs0;obtain⟨h0, -, -, -,h7⟩:=hHeld;have S5:=Z5F (ef.out.after h7);clear h7;go_wp2_with (first|(go_at_call 81;(skip;refine(I8 _ _ _).mono ?_;rintro e w3 ⟨rfl,af⟩;have bj:=(S5.out.after af).after ((Below.refl w3.heap.size w3).alloc Z5D (.cells #[.int .i64 1,.string (str (nmS key)),.string ⟨#[]⟩,.string (str (shL k m i key v))] 151));have bh:Row (w3.alloc (.cells #[.int .i64 1,.string (str (nmS key)),.string ⟨#[]⟩,.string (str (shL k m i key v))] 151)) w3.heap.size 151 (AcC ⟨1,nmS key,[],shL k m i key v⟩):=Row.new w3 _ _;have M:=Z5J bj bh;clear af bj bh))|(at_builtin;refine AN _ rfl (.tmp 76) (.tmp 82) rfl w.heap.size _ (⟨1,nmN,[],Qq k m i (g+1)⟩::(l.take q).filterMap (YM k m i)) rfl M.out.1.own w3.heap.size ⟨1,nmS key,[],shL k m i key v⟩ rfl M.out.2 M.out.1.bel.size F.out.2.2.2.1 ?_;intro g2 ai w4 ho hf _ _ _;have S4:=Z5F (M.out.1.nextA ⟨H.out.2.2.2.1,H.out.2.1⟩ ho hf);clear ho hf));go_roundw
    case measure=>simp[intOf];omega
    case rel=>exact⟨q+1,by omega,by go_num,by rw[F.out.1,F.out.2.1,Z5C];exact S4.out⟩
  .obtain rfl:q=l.length:=(by omega);rw[Z5A] at HS;clear hS;obtain⟨tg,tc,sp,rfl,fc,fo,fp,du⟩:=Qs HS.out.ts (by simp);have ah:=EC nmT (by decide) tg tc (Z4 (g+1)::Zu l) sp wr du H.out.2.2.2.2.2.2;have au:((⟨1,nmN,[],Qq k m i (g+1)⟩:Ac)::l.filterMap (YM k m i)).length<=1000000:=by have h1:=List.length_filterMap_le (YM k m i) l;simp only[Z5h];omega
   have F:=Z5J ah au;clear ah au du;go_wp2_with (first|(go_at_call 82;refine F.out.1.mono ?_;rintro e w2 ⟨rfl,az⟩;have R2:=Z5F (HS.out.after az);clear az)|(go_at_call 81;refine(I8 _ _ _).mono ?_;rintro e w3 ⟨rfl,af⟩;have bj:=(R2.out.after af).after ((Below.refl w3.heap.size w3).alloc Z5D (.cells #[.int .i64 1,.string ⟨#[116]⟩,.string ⟨#[]⟩,.string (str (BH (g+1) (Zu l)))] 151));have bh:Row (w3.alloc (.cells #[.int .i64 1,.string ⟨#[116]⟩,.string ⟨#[]⟩,.string (str (BH (g+1) (Zu l)))] 151)) w3.heap.size 151 (AcC ⟨1,nmT,[],BH (g+1) (Zu l)⟩):=Row.new w3 _ _;have M:=Z5J bj bh;clear af bj bh)|(at_builtin;refine AN _ rfl (.tmp 90) (.tmp 93) rfl w.heap.size _ (⟨1,nmN,[],Qq k m i (g+1)⟩::l.filterMap (YM k m i)) rfl M.out.1.own w3.heap.size ⟨1,nmT,[],BH (g+1) (Zu l)⟩ rfl M.out.2 M.out.1.bel.size F.out.2 ?_;intro g2 ai w4 ho hf _ _ dh;have S4:=Z5J (M.out.1.nextA ⟨H.out.2.2.2.1,H.out.2.1⟩ ho hf) dh;clear ho hf dh));go_ret2;obtain⟨g3,eh,dw,eo,dc,ag⟩:=S4.out.1.own.row (by simp);have e9:(⟨1,nmN,[],Qq k m i (g+1)⟩::l.filterMap (YM k m i))++[(⟨1,nmT,[],BH (g+1) (Zu l)⟩:Ac)]=QL k m i g l:=rfl;rw[e9] at dw dc ag;injection dw with hv31 hv32 hv33;have bz:=congrArg (λ(a:Option Addr)=>a.map Addr.block) hv31;simp only[Option.map_some,Z5e] at bz;subst bz hv33;refine⟨g2,ai,?_,ag,dc,S4.out.2,S4.out.1.bel⟩;rw[<-hv32];rfl
end
section
open Go.Shelf Go.Sort
variable{bs gl k m n:Nat}{lv:Value}{os:Array Obj}{w w' wr:World}
theorem RG:∀ (a b:Bs),Lib.compareBytes a b<0↔a<b
 |[],[]=>by simp[Lib.compareBytes]
 |[],b::s=>by simp[Lib.compareBytes]
 |a::r,[]=>by simp[Lib.compareBytes]
 |a::r,b::s=>by
  unfold Lib.compareBytes;rw[List.cons_lt_cons_iff];by_cases h:a<b
  .grind
  .rw[if_neg h];by_cases C:b<a
   .grind
   .rw[if_neg C,RG r s];grind
abbrev El:=Chg×(Option Addr×Nat×Nat)
instance:Inhabited El:=⟨(⟨[],none⟩,none,0,0)⟩
def elC(x:El):List Value:=[.string (str x.1.key),.int .i64 ((x.1.val.getD []).length:Int),.slice x.2.1 x.2.2.1 x.2.2.2]
def IQ(x y:El):Int:=Lib.compareBytes x.1.key y.1.key
theorem Z4W:SWO (ltOf IQ):=by
 have h:∀x y:El,ltOf IQ x y=decide (x.1.key<y.1.key):=λx y=>by exact decide_eq_decide.2 (RG _ _)
 refine⟨λx=> ?_,λx y z C F=> ?_,λx y z C F=> ?_⟩
 .simp_all
 .grind
 .grind
def apC(c:Chg):List Value:=[.string (str c.key),.string (str (c.val.getD [])),.bool c.val.isNone]
def BK(w:World)(gc:Nat)(cs:List Chg):Prop:=gc<w.heap.size/\∀q (h:q<cs.length),w.cell? ⟨gc,q*3,none⟩=some (.string (str cs[q].key))/\w.cell? ⟨gc,q*3+1,none⟩=some (.string (str (cs[q].val.getD [])))/\w.cell? ⟨gc,q*3+2,none⟩=some (.bool cs[q].val.isNone)
theorem Vx(bx:Nat)(key:Bs)(x:Chg)(W:World)(F:W.cell? ⟨bx,0,none⟩=some (.string (str key))):Calls prog 74 #[.agg (apC x).toArray,.pointer (some ⟨bx,0,none⟩)] W λe w'=>e=.returned (.bool (x.key==key))/\Below W.heap.size W w':=by
 obtain⟨h,C⟩:=x;have M:(W.alloc (.cells #[.string (str h),.string (str (C.getD [])),.bool C.isNone] 68)).cell? ⟨bx,0,none⟩=some (.string (str key)):=by have J:=(Below.refl W.heap.size W).alloc Z5D (.cells #[.string (str h),.string (str (C.getD [])),.bool C.isNone] 68);exact(J.cell (Z5b W _ F)).trans F
 unfold apC;go_enter func74,ntmps74;go_wp2;go_ret;refine⟨?_,Z5E.alloc Z5D _⟩;have:((str h).toList==(str key).toList)=(h==key):=by rw[ByteArray.toList_eq,ByteArray.toList_eq,Zn,Zn]
 simp_all
theorem Z15(W:World)(a b:Obj):(W.alloc a).alloc b=Go.Sort.grow (W.drewN 0) #[a,b]:=by rfl
theorem Vy(x y:El)(W:World):Calls prog 77 #[.agg (elC x).toArray,.agg (elC y).toArray] W λe w'=>e=.returned (.int .i64 (IQ x y))/\∃q h,w'=Go.Sort.grow (W.drewN q) h:=by unfold elC IQ;go_enter func77,ntmps77;go_wp2_with (go_at_call 78;refine(Tryz.strings_Compare _ _ _).mono ?_;rw[Zn,Zn];rintro e w1 ⟨rfl,rfl⟩);go_ret;exact⟨rfl,0,_,Z15 _ _ _⟩
theorem Ce(gc F q n cap bx:Nat)(cs:List Chg)(c:Chg)(W:World)(ae:F=q*3∨q=cs.length)(J:W.cell? ⟨bx,0,none⟩=some (.string (str c.key)))(M:BK W gc cs)(hq:q<=cs.length)(hn:n=cs.length-q)(hl:cs.length<=1000):Calls prog 32 #[.slice (some ⟨gc,F,none⟩) n cap,.func (.func 74) #[] #[.pointer (some ⟨bx,0,none⟩)]] W λe w'=>e=.returned (.bool (later c (cs.drop q)))/\Below W.heap.size W w':=by
 have:Inhabited Chg:=⟨⟨[],none⟩⟩;have U:=Tryz.slices_ContainsFunc (α:=Chg) 3 (λw=>by kernel_rfl) (λw=>by kernel_rfl) apC (λx=>rfl) (λo=>o.key==c.key) 74 #[.pointer (some ⟨bx,0,none⟩)] (λargs w=>by kernel_rfl) gc F n cap (cs.drop q) W (λO x C=> ?_) (by simp_all) (by omega) M.1 (λj Z i v hv=> ?_)
 .refine U.mono ?_;rintro e w' ⟨rfl,C⟩;refine⟨?_,C⟩;rw[Z5o (by simp_all)];rfl
 .exact(Vx bx c.key x O ((C.cell (Z5b W _ J)).trans J)).mono λe w' h=>⟨h.1,C.trans (h.2.mono C.size)⟩
 .rw[List.length_drop] at Z;obtain⟨h1,h2,h3⟩:=M.2 (q+j) (by omega);unfold apC at hv;grind
def Jd(w:World)(bs k m:Nat)(x:El):Prop:=match x.1.val with
 |none=>x.2=(none,0,0)
 |some v=>∃g c,x.2=(some ⟨g,0,none⟩,k+m,c)/\bs<=g/\g<w.heap.size/\∀i,i<k+m->w.cell? ⟨g,i,none⟩=some (.string (str (shT k m v i)))
theorem Jd.keep{x:El}(h:Jd w bs k m x)(M:∀g,bs<=g->g<w.heap.size->(∃i v,w.cell? ⟨g,i,none⟩=some (.string v))->w'.heap[g]? =w.heap[g]?)(hs:w.heap.size<=w'.heap.size)(O:1<=k+m):Jd w' bs k m x:=by
 unfold Jd at h⊢;cases hv:x.1.val with
 |none=>rw[hv] at h;exact h
 |some v=>rw[hv] at h;obtain⟨g,c,e,C,J,F⟩:=h;have U:=M g C J ⟨0,_,F 0 (by omega)⟩;refine⟨g,c,e,C,by omega,λi hi=> ?_⟩;have:=F i hi;unfold World.cell? at this⊢;simp_all
theorem Jd.after{x:El}(h:Jd w bs k m x)(C:Below w.heap.size w w')(F:1<=k+m):Jd w' bs k m x:=h.keep (λg _ J _=>C.block g J) C.size F
structure LaS(w:World)(k m:Nat)(lv:Value)(P:List El)(wr:World):Prop where
 own:wr.ownsRow w.heap.size 98 3 lv P.length (P.flatMap elC)
 els:∀x∈P,Jd wr w.heap.size k m x
 ne:∀x∈P,∀g n c,x.2=(some ⟨g,0,none⟩,n,c)->g∉ZG lv
 bel:Below w.heap.size w wr
theorem LaS.after{P:List El}(h:LaS w k m lv P wr)(C:Below wr.heap.size wr w')(F:1<=k+m):LaS w k m lv P w':=⟨Qz h.own C,λx hx=>(h.els x hx).after C F,h.ne,h.bel.trans (C.mono h.bel.size)⟩
theorem Jd.lt{x:El}(h:Jd w bs k m x){g n c:Nat}(e:x.2=(some ⟨g,0,none⟩,n,c)):g<w.heap.size:=by unfold Jd at h;grind
theorem LaS.put{J:Value}{P:List El}{x:El}(h:LaS w k m lv P wr)(hx:Jd wr w.heap.size k m x)(af:∀g n c,x.2=(some ⟨g,0,none⟩,n,c)->g∉ZG lv)(ho:w'.ownsRow w.heap.size 98 3 J (P.length+1) (P.flatMap elC++elC x))(M:Fr (ZG lv) wr w')(ae:∀q∈ZG J,q∈ZG lv∨wr.heap.size<=q)(h1:1<=k+m):LaS w k m J (P++[x]) w':=by
 have O:∀y∈P++[x],Jd wr w.heap.size k m y/\∀g n c,y.2=(some ⟨g,0,none⟩,n,c)->g∉ZG lv:=λy C=>by
  rcases Z5p.1 C with C|C
  .exact⟨h.els y C,h.ne y C⟩
  .grind
 refine⟨?_,λy C=> ?_,λy C g n c e hm=> ?_,h.bel.trans (M.below h.bel.size (WE h.own))⟩
 .simp_all
 .obtain⟨F,U⟩:=O y C;unfold Jd at F⊢;cases hv:y.1.val with
  |none=>rw[hv] at F;exact F
  |some v=>rw[hv] at F;obtain⟨g,c,e,k2,Z,k4⟩:=F;have hb:=M.block g Z (U g _ c e);refine⟨g,c,e,k2,Z5v Z M.size,λi hi=> ?_⟩;have:=k4 i hi;unfold World.cell? at this⊢;simp_all
 .obtain⟨F,U⟩:=O y C;have:=F.lt e;grind
theorem Z3L(w:World)(e1 e2:TypeId)(c1:Array Value)(l:List Value):Row ((w.alloc (.cells c1 e1)).alloc (.cells l.toArray e2)) (w.heap.size+1) e2 l:=by have h:=Row.new (w.alloc (.cells c1 e1)) e2 l;simp_all
theorem X4{p:Addr}{v:Value}(h:w.cell? p=some v)(o:Obj):(w.alloc o).cell? p=some v:=(((Below.refl w.heap.size w).alloc Z5D o).cell (Z5b w _ h)).trans h
theorem O4{g c H:Nat}(C:lv.ownBlock=some g∨g=H):∀q∈ZG (Value.slice (some ⟨g,0,none⟩) n c),q∈ZG lv∨H<=q:=λq h=>by
 rw[ZK] at h;simp[Value.ownBlock] at h;subst h;rcases C with h9|h9
 .exact Or.inl (ZK.2 h9)
 .omega
theorem LaS.lts{P:List El}(h:LaS w k m lv P wr):(∀q∈ZG lv,q<wr.heap.size)/\∀x∈P,∀g n c,x.2=(some ⟨g,0,none⟩,n,c)->g<wr.heap.size:=⟨λq C=>by obtain⟨l,hl⟩:=QA h.own q C;exact hl.lt,λx hx g n c e=>(h.els x hx).lt e⟩
theorem LaS.set{P:List El}(h:LaS w k m lv P wr){xb:Nat}(Z:∀q∈ZG lv,q<xb)(h2:∀x∈P,∀g n c,x.2=(some ⟨g,0,none⟩,n,c)->g<xb)(M:w.heap.size<=xb)(o:Nat)(v:Value):LaS w k m lv P (wr.setCell ⟨xb,o,none⟩ v):=by
 have F:Fr [xb] wr (wr.setCell ⟨xb,o,none⟩ v):=(Fr.refl _ _).setCell (Or.inl (by simp)) _;refine⟨Wl h.own F (λq hq hm=> ?_),λx hx=> ?_,h.ne,h.bel.trans (F.below h.bel.size (λi hi=>by rw[Z58] at hi;subst hi;exact M))⟩
 .grind
 .have C:=h.els x hx;unfold Jd at C⊢;cases hv:x.1.val with
  |none=>rw[hv] at C;exact C
  |some v=>rw[hv] at C;obtain⟨g,c,e,O,J,U⟩:=C;have hb:=F.block g J (by grind);refine⟨g,c,e,O,Z5v J F.size,λi hi=> ?_⟩;have:=U i hi;unfold World.cell? at this⊢;simp_all
theorem Z0P{xb h sc:Nat}{ck v:Bs}(hs:Zx wr (some ⟨h,0,none⟩) (Zs k m (str v)))(J:w.heap.size<=h)(hx:xb<h)(O:1<=k)(u:Value):Jd (wr.setCell ⟨xb,2,none⟩ u) w.heap.size k m (⟨ck,some v⟩,some ⟨h,0,none⟩,k+m,sc):=by
 have key:∀i,i<k+m->wr.cell? ⟨h,i,none⟩=some (.string (str (shT k m v i))):=λi hi=>by
  obtain⟨g,o,e,hc⟩:=hs i (by rw[Yi];exact hi);obtain⟨rfl,rfl⟩:=e;rw[Nat.zero_add] at hc;rw[hc];have:(Zs k m (str v)).getD i ⟨#[]⟩=(Zs k m (str v))[i]'(by grind):=by grind
  rw[<-this];rfl
 have F:Fr [xb] wr (wr.setCell ⟨xb,2,none⟩ u):=(Fr.refl _ _).setCell (Or.inl (by simp)) _;have C:=Z5b wr _ (key 0 (by omega));have M:=F.block h C (by grind);refine⟨h,sc,rfl,J,Z5v C F.size,λi hi=> ?_⟩;have:=key i hi;unfold World.cell? at this⊢;simp_all
theorem IR(P:List El):(P.flatMap elC).length=P.length*3:=by
 induction P with
 |nil=>rfl
 |cons x r ih=>rw[Z5s,Z5d,ih];simp[elC];omega
theorem SV(P:List El):∀ (q:Nat) (h:q<P.length) (r:Nat),r<3->(P.flatMap elC)[q*3+r]? =(elC P[q])[r]?:=by
 induction P with
 |nil=>intro q h;simp at h
 |cons x l ih=>
  intro q h r C;rw[Z5s]
  match q,h with
  |0,_=>rw[Z5c (by simp[elC];omega)];simp
  |q+1,h=>
   rw[Z5k (by simp[elC];omega)];have:(q+1)*3+r- (elC x).length=q*3+r:=by simp[elC];omega
   grind
theorem Z37{P:List El}{sp:List Value}(h:Row w gl 98 (P.flatMap elC++sp)):HoldsK elC 3 w gl 0 P.toArray:=by
 intro j C;rw[size_flatK] at C;have F:j<P.length*3:=by omega
 have M:j / 3<P.length:=by omega
 rw[get_flatK _ _ _ _ C];have e1:(P.toArray)[j / 3]! =P[j / 3]:=by grind
 have e2:=SV P (j / 3) M (j%3) (by omega);rw[show j / 3*3+j%3=j from by omega] at e2;have J:(elC P[j / 3])[j%3]? =some ((elC P[j / 3])[j%3]!):=by
  have:j%3<(elC P[j / 3]).length:=by show j%3<3;omega
  simp_all
 rw[J] at e2;refine⟨?_,h.free (by rw[Z5d,IR];omega)⟩;rw[e1,Nat.zero_add];exact h.cell (by rw[Z5c (by rw[IR];exact F)];exact e2)
theorem Z2j{d:Array El}:Fr [gl] w (sortWorldK elC 3 w gl 0 n d os):=by
 refine⟨rfl,rfl,rfl,?_,λk C h=> ?_⟩
 .simp[sortWorldK,putRowK,Go.Sort.mapBlock]
 .unfold sortWorldK putRowK;rw[Go.Sort.heap_grow_old _ _ (by simp_all)];show(w.heap.modify gl (Go.Sort.onCells (Go.Sort.putCells id 0 (flatK elC 3 d))))[k]? =_;grind
theorem Ue{d h:Array El}(F:HoldsK elC 3 w gl 0 d)(hs:h.size=d.size)(M:gl<w.heap.size){q r:Nat}(O:q<h.size)(U:r<3):(sortWorldK elC 3 w gl 0 n h os).cell? ⟨gl,q*3+r,none⟩=some ((elC h[q]!)[r]!):=by unfold sortWorldK putRowK;rw[Go.Sort.cell?_grow _ _ _ (by simp_all)];have C:=Go.Sort.cell?_putRow id (Go.Sort.ahead w n) gl 0 (flatK elC 3 d) (flatK elC 3 h) (λj J=>F j J) (by simp_all) (q*3+r) (by rw[size_flatK];omega);rw[Nat.zero_add] at C;rw[C,get_flatK _ _ _ _ (by omega),show(q*3+r) / 3=q from by omega,show(q*3+r)%3=r from by omega];rfl
theorem Z08{cl:Nat}{P:List El}{h:Array El}(C:LaS w k m (.slice (some ⟨gl,0,none⟩) P.length cl) P wr)(O:w.heap.size<=gl)(af:gl<wr.heap.size)(hH:HoldsK elC 3 wr gl 0 P.toArray)(U:PermIn 0 P.length P.toArray h):(h.toList.map (·.1)).Perm (P.map (·.1))/\(h.toList.map (·.1)).length=P.length/\X0 (sortWorldK elC 3 wr gl 0 n h os) w.heap.size k m gl (h.toList.map (·.1))/\Below w.heap.size w (sortWorldK elC 3 wr gl 0 n h os):=by
 have ai:h.size=P.length:=by have Z:=U.1;simpa using Z
 have ae:h.toList.Perm P:=by
  have Z:=U.2.2;have e1:h.extract 0 P.length=h:=by simp_all
  simp_all
 have hf:Fr [gl] wr (sortWorldK elC 3 wr gl 0 n h os):=Z2j;refine⟨ae.map _,by rw[Z5i,Array.length_toList,ai],⟨O,λq hq=> ?_⟩,C.bel.trans (hf.below C.bel.size (λi hi=>by rw[Z58] at hi;subst hi;exact O))⟩;have ah:q<h.size:=by simp_all
 have hc:∀r,r<3->(sortWorldK elC 3 wr gl 0 n h os).cell? ⟨gl,q*3+r,none⟩=some ((elC h[q]!)[r]!):=λr hr=>Ue hH (by omega) af ah hr;have hx:(h.toList.map (·.1))[q]=(h[q]!).1:=by simp_all
 have F:h[q]!∈P:=by grind
 obtain⟨x,aj⟩:=Z5H h[q]!;rw[aj] at hc hx F;have J:=C.els x F;have ag:=C.ne x F;rw[hx];refine⟨hc 0 (by omega),hc 1 (by omega),?_⟩;have M:=hc 2 (by omega);have e2:(elC x)[2]! =.slice x.2.1 x.2.2.1 x.2.2.2:=rfl;rw[e2] at M;unfold Jd at J;cases hv:x.1.val with
 |none=>simp_all
 |some v=>rw[hv] at J;obtain⟨g,c,e,k2,k3,k4⟩:=J;have hg:g≠gl:=λe9=>ag g _ c e (by rw[ZK,e9];rfl);rw[e] at M;refine⟨g,0,c,M,k2,λi hi=> ?_⟩;have h4:=k4 i hi;have hb:=hf.block g k3 (by simp_all);unfold World.cell? at h4⊢;simp_all
theorem Tv(cs:List Chg)(q:Nat)(h:q<cs.length):Q5 (cs.drop q)=if later cs[q] (cs.drop (q+1))=true then Q5 (cs.drop (q+1)) else cs[q]::Q5 (cs.drop (q+1)):=by rw[List.drop_eq_getElem_cons h];rfl
theorem V7(b k m gc cap n:Nat)(cs:List Chg)(w:World)(ct:1<=k)(fc:k+m<=16)(c0:w.cell? ⟨b,0,none⟩=some (.int .i64 (k:Int)))(c1:w.cell? ⟨b,1,none⟩=some (.int .i64 (m:Int)))(hr:BK w gc cs)(hn:n=cs.length)(hl:n<=12)(cu:cs≠[])(dt:n<=cap)(hv:∀c∈cs,∀v,c.val=some v->v.length<=200):Calls prog 36 #[.pointer (some ⟨b,0,none⟩),.slice (some ⟨gc,0,none⟩) n cap] w λe w'=>∃gl cl l,l.Perm (Q5 cs)/\e=.returned (.tuple #[.slice (some ⟨gl,0,none⟩) l.length cl,.nilIface])/\X0 w' w.heap.size k m gl l/\l.length<=cl/\Below w.heap.size w w':=by
 have I0:LaS w k m (.slice none 0 0) [] w:=⟨World.ownsRow_nil _ _ _ _,λx hx=>absurd hx Z5y,λx hx=>absurd hx Z5y,Z5E⟩;have H:=Z5M I0 hr hv hn cu;have HC:=Z5J c0 c1;clear I0 hr hv hn cu c0 c1;go_enter func36,ntmps36;go_wp2;go_loopw [6,13] (λlv kv wr=>∃ (q:Nat) (P:List El),q<=n/\kv=.int .i64 q/\LaS w k m lv P wr/\P.map (·.1)++Q5 (cs.drop q)=Q5 cs) (λ_ kv _=>n- (intOf kv).toNat)
 case atStart=>exact⟨0,[],by omega,rfl,H.out.1,rfl⟩
 case round=>
  obtain⟨q,P,hq,rfl,hS,hL⟩:=hrel;have HS:=Z5J hS hL;by_cases dy:q<n
  .have aj:q<cs.length:=by rw[<-H.out.2.2.2.1];exact dy
   obtain⟨a1,a2,a3⟩:=(H.out.2.1.2 q aj);have ae:∀{p:Addr} {v:Value},w.cell? p=some v->wr.cell? p=some v:=λh=>(hS.bel.cell (Z5b w _ h)).trans h;have a1:=ae a1;have a2:=ae a2;have a3:=ae a3;have bm:=H.out.2.2.1 _ (Z5r aj);have bj:=Tv cs q aj;obtain⟨c,hc⟩:=Z5H cs[q];rw[hc] at a1 a2 a3 bm bj;have ez:(q:Int)<(n:Int):=(by omega);have dw:(q:Int)+1<=(n:Int):=(by omega);have U:=Z5F H.out.2.2.2.1;have ai:cs.length<=1000:=by have F:=U.out;omega
   obtain⟨L,bf⟩:=Z5H (c.val.getD []).length;have az:(str (c.val.getD [])).size=L:=(by rw[Z5,bf]);have au:=Row.new wr 68 [.string (str c.key),.string (str (c.val.getD [])),.bool c.val.isNone];have aq:Below w.heap.size w (wr.alloc (.cells #[.string (str c.key),.string (str (c.val.getD [])),.bool c.val.isNone] 68)):=hS.bel.trans (((Below.refl wr.heap.size wr).alloc Z5D _).mono hS.bel.size);have cj:=hS.after ((Below.refl wr.heap.size wr).alloc Z5D (.cells #[.string (str c.key),.string (str (c.val.getD [])),.bool c.val.isNone] 68)) (by omega);have cw:BK (wr.alloc (.cells #[.string (str c.key),.string (str (c.val.getD [])),.bool c.val.isNone] 68)) gc cs:=by refine⟨Z5v H.out.2.1.1 aq.size,λq' ee=> ?_⟩;obtain⟨b1,b2,b3⟩:=H.out.2.1.2 q' ee;exact⟨(aq.cell (p:=⟨gc,q'*3,none⟩) H.out.2.1.1).trans b1,(aq.cell (p:=⟨gc,q'*3+1,none⟩) H.out.2.1.1).trans b2,(aq.cell (p:=⟨gc,q'*3+2,none⟩) H.out.2.1.1).trans b3⟩
   have C:=Z5L au cj cw hL;have HV:=Z5K bm bj bf;obtain⟨bx,cn⟩:=Z5H wr.heap.size;rw[cn] at C;have ek:=Z5F cn;clear hS hL ae hc au aq cj cw bm bj bf;obtain⟨so,al,fa⟩:∃so,(so=(q+1)*3∨q+1=cs.length)/\(if cap=q+1 then(some ⟨gc,0,none⟩:Option Addr) else some ⟨gc,(q+1)*3,none⟩)=some ⟨gc,so,none⟩:=by
    by_cases F:cap=q+1
    .exact⟨0,Or.inr (by have h8:=U.out;omega),by rw[if_pos F]⟩
    .exact⟨(q+1)*3,Or.inl rfl,by rw[if_neg F]⟩
   have ah:=Z5F al;clear al;cases Z:later c (cs.drop (q+1)) with
   |true=>
    go_wp2_with (go_at_call 32;refine(Ce gc so (q+1) _ _ bx cs c _ ah.out (C.out.1.cell (j:=0) rfl) C.out.2.2.1 (by have F:=U.out;omega) (by have F:=U.out;omega) ai).mono ?_;rw[Z];rintro e w2 ⟨rfl,M⟩;have R2:=Z5F (C.out.2.1.after M (by omega));clear M)
    all_goals go_roundw
    case measure=>simp[intOf];omega
    case rel=>exact⟨q+1,P,by omega,by go_num,R2.out,by rw[<-C.out.2.2.2,HV.out.2.1,Z];rfl⟩
   |false=>
    have ak:P.map (·.1)++(c::Q5 (cs.drop (q+1)))=Q5 cs:=by rw[<-C.out.2.2.2,HV.out.2.1,Z];rfl
    have eu:P.length<=1000:=by have h1:=Ee cs;rw[<-ak,Z5d,Z5i] at h1;have F:=U.out;omega
    obtain⟨ck,cv⟩:=c;simp only at C HV az Z ak;cases cv with
    |none=>
     simp only[Option.getD_none,List.length_nil,Option.isNone_none] at C HV az Z;obtain rfl:L=0:=HV.out.2.2.symm;have b8:=Z5F ak;clear ak;go_wp2_with (first|(go_at_call 32;refine(Ce gc so (q+1) _ _ bx cs ⟨ck,none⟩ _ ah.out (C.out.1.cell (j:=0) rfl) C.out.2.2.1 (by have F:=U.out;omega) (by have F:=U.out;omega) ai).mono ?_;rw[Z];rintro e w2 ⟨rfl,M⟩;have J:=C.out.1.after M;have y0:=J.cell (j:=0) rfl;have y1:=J.cell (j:=1) rfl;have y2:=J.cell (j:=2) rfl;have dh:=λo=>X4 y0 o;have bz:=λo=>X4 y1 o;have dj:=λo=>X4 y2 o;have s2:=C.out.2.1.after M (by omega);have R2:=Z5J s2 J.lt;clear M J s2;have s3:=R2.out.1.after (((Below.refl w2.heap.size w2).alloc Z5D (.cells #[.string (str ck),.int .i64 0,.slice none 0 0] 98)).alloc (by simp) (.cells #[.string (str ck),.int .i64 0,.slice none 0 0] 98)) (by omega);have R3:=Z5F s3;clear s3)|(at_builtin;refine QS _ rfl (.tmp 51) (.tmp 53) 83 98 rfl underlying83 N0 rfl (by omega) (by omega) w.heap.size _ P.length (P.flatMap elC) rfl R3.out.own (w2.heap.size+1) 1 (elC (⟨ck,none⟩,none,0,0)) rfl (by omega) (by omega) rfl (Z3L w2 _ _ _ _) (by simp[elC,Value.oneCell']) R3.out.bel.size (by omega) ?_;intro g4 b9 w4 ho hf aw _ _;have s4:=R3.out.put (x:=(⟨ck,none⟩,none,0,0)) rfl (λg n c e=>by cases e) ho hf (O4 aw) (by omega);have R4:=Z5F s4;clear ho hf aw s4));go_roundw
     case measure=>simp[intOf];omega
     case rel=>exact⟨q+1,_,by omega,by go_num,R4.out,by rw[Z5u,Z5g,Z5t,List.map_nil,List.singleton_append];exact b8.out⟩
    |some v=>
     simp only[Option.getD_some,Option.isNone_some] at C HV az Z;have dc:=HV.out.1 v rfl;obtain rfl:v.length=L:=HV.out.2.2;have cr:=λW=>Tc k m (str v) W ct (by omega) (by rw[Z5];omega);have dm:=Z5F cr;have b8:=Z5F ak;have ew:=C.out.2.1.bel;clear ak cr;go_wp2_with (first|(go_at_call 32;refine(Ce gc so (q+1) _ _ bx cs ⟨ck,some v⟩ _ ah.out (C.out.1.cell (j:=0) rfl) C.out.2.2.1 (by have F:=U.out;omega) (by have F:=U.out;omega) ai).mono ?_;rw[Z];rintro e w2 ⟨rfl,M⟩;have J:=C.out.1.after M;have y0:=J.cell (j:=0) rfl;have y1:=J.cell (j:=1) rfl;have y2:=J.cell (j:=2) rfl;have dh:=λo=>X4 y0 o;have bz:=λo=>X4 y1 o;have dj:=λo=>X4 y2 o;have s2:=C.out.2.1.after M (by omega);have d0:=(s2.bel.cell (Z5b w _ HC.out.1)).trans HC.out.1;have d1:=(s2.bel.cell (Z5b w _ HC.out.2)).trans HC.out.2;have s3:=s2.after ((Below.refl w2.heap.size w2).alloc Z5D (.cells #[.string (str ck),.int .i64 (v.length:Int),.slice none 0 0] 98)) (by omega);have rx:=Row.new w2 98 [.string (str ck),.int .i64 (v.length:Int),.slice none 0 0];have eo:=X4 d0 (.cells #[.string (str ck),.int .i64 (v.length:Int),.slice none 0 0] 98);have er:=X4 d1 (.cells #[.string (str ck),.int .i64 (v.length:Int),.slice none 0 0] 98);have y9:=bz (.cells #[.string (str ck),.int .i64 (v.length:Int),.slice none 0 0] 98);have R2:=Z5M s3 rx s2.lts s2.bel.size (Nat.le_refl (w2.heap.size+1));have de:w2.heap.size<(w2.alloc (.cells #[.string (str ck),.int .i64 (v.length:Int),.slice none 0 0] 98)).heap.size:=(by simp);have RZ:=Z5F de;clear M J s2 s3 rx d0 d1 de));obtain⟨xb,bq⟩:=Z5H w2.heap.size;have bh:=Z5G R2.out RZ.out;rw[bq] at bh;rw[bq];clear R2 RZ dh bz dj y0 y1 y2;generalize w2.alloc (.cells #[.string (str ck),.int .i64 (v.length:Int),.slice none 0 0] 98)=wa at*
     have ag:=Z5F bh;clear bh bq;go_region_with (go_at_call 75;refine(dm.out _).mono ?_;rintro e w5 ⟨O,sc,rfl,⟨cz,ef,eh⟩,hsg,hb5⟩;have r5:=(ag.out.1.2.1.drew).after hb5;have x2:=r5.cell (j:=2) rfl;have f2:=r5.free (j:=2) (by simp);have bu:xb<O:=Z5v ag.out.2 hsg;have s5:=((ag.out.1.1.after ((Below.refl wa.heap.size wa).drew) (by omega)).after hb5 (by omega)).set ag.out.1.2.2.1.1 ag.out.1.2.2.1.2 ag.out.1.2.2.2.1 2 (.slice (some ⟨O,0,none⟩) (k+m) sc);have e5:=Z0P (w:=w) (xb:=xb) (sc:=sc) (ck:=ck) cz (Z5w ag.out.1.2.2.2.1 (Nat.le_of_lt bu)) bu ct (.slice (some ⟨O,0,none⟩) (k+m) sc);have r6:=r5.set 2 (.slice (some ⟨O,0,none⟩) (k+m) sc);have z0:=r6.cell (j:=0) rfl;have z1:=r6.cell (j:=1) rfl;have z2:=r6.cell (j:=2) rfl;have df:(∀g n c,((⟨ck,some v⟩,some ⟨O,0,none⟩,k+m,sc):El).2=(some ⟨g,0,none⟩,n,c)->g∉ZG u6):=(λg n c e hm=>(by have F:=ag.out.1.2.2.1.1 g hm;simp only[Prod.mk.injEq,Z5e,Addr.mk.injEq,and_true] at e;omega));have R5:=Z5K s5 e5 df;clear cz ef eh hsg hb5 r5 r6 bu s5 e5 df)
     all_goals clear x2 f2
     all_goals generalize w5.setCell ⟨xb,2,none⟩ (.slice (some ⟨O,0,none⟩) (k+m) sc)=w6 at*
     all_goals have s7:=R5.out.1.after ((Below.refl w6.heap.size w6).alloc Z5D (.cells #[.string (str ck),.int .i64 (v.length:Int),.slice (some ⟨O,0,none⟩) (k+m) sc] 98)) (by omega)
     all_goals have e7:=R5.out.2.1.after ((Below.refl w6.heap.size w6).alloc Z5D (.cells #[.string (str ck),.int .i64 (v.length:Int),.slice (some ⟨O,0,none⟩) (k+m) sc] 98)) (by omega)
     all_goals have R7:=Z5J s7 e7
     all_goals clear s7 e7
     all_goals go_wp2_with (at_builtin;refine QS _ rfl (.tmp 51) (.tmp 53) 83 98 rfl underlying83 N0 rfl (by omega) (by omega) w.heap.size _ P.length (P.flatMap elC) rfl R7.out.1.own w6.heap.size 1 (elC (⟨ck,some v⟩,some ⟨O,0,none⟩,k+m,sc)) rfl (by omega) (by omega) rfl (Row.new w6 _ _) (by simp[elC,Value.oneCell']) R7.out.1.bel.size (by omega) ?_;intro g4 b9 w4 ho hf aw _ _;have s4:=R7.out.1.put (x:=(⟨ck,some v⟩,some ⟨O,0,none⟩,k+m,sc)) R7.out.2 R5.out.2.2 ho hf (O4 aw) (by omega);have R4:=Z5F s4;clear ho hf aw s4)
     all_goals go_roundw
     all_goals first
      |exact⟨q+1,_,by omega,by go_num,R4.out,by rw[Z5u,Z5g,Z5t,List.map_nil,List.singleton_append];exact b8.out⟩
      |(simp[intOf];omega)
  .obtain rfl:q=n:=(by omega);have b7:P.map (·.1)=Q5 cs:=by have F:=hL;rw[H.out.2.2.2.1,List.drop_length] at F;simpa[Q5] using F
   have dq:0<P.length:=by
    have h1:(Q5 cs).length≠0:=by
     have h2:∀l:List Chg,l≠[]->(Q5 l).length≠0:=λl=>by
      induction l with
      |nil=>intro h;exact absurd rfl h
      |cons a r ih=>
       intro _;unfold Q5;split
       .rename_i hl;refine ih (λe=> ?_);rw[e] at hl;simp[later] at hl
       .simp
     exact h2 cs H.out.2.2.2.2
    rw[<-b7,Z5i] at h1;omega
   have bg:P.length<=12:=by have h1:=Ee cs;rw[<-b7,Z5i] at h1;have F:=H.out.2.2.2.1;omega
   obtain⟨gl,cl,sp,rfl,dx,du,ey,af⟩:=YR hS.own dq;have hH:=Z37 af;have al:=Tryz.slices_SortFunc_small_sorted_f76 (α:=El) 3 (λw=>by kernel_rfl) (λw=>by kernel_rfl) elC (λx=>rfl) (λx v hv=>by simp[elC] at hv;rcases hv with rfl|rfl|rfl<;>rfl) IQ 77 #[] Z4W gl 0 cl P.toArray wr (λargs w=>by kernel_rfl) (λm os dk hd x y=>Vy x y _) hH af.lt (by simpa using bg) (λn W hn=>(Tryz.bits_Len n W (by omega) (by omega)).mono λe w' h=>⟨⟨_,h.1⟩,h.2⟩);have az:P.toArray.size=P.length:=(by simp);rw[az] at al;have ah:=Z5L al hH b7 af.lt;clear al hH b7 af hS hL;go_wp2_with (go_at_call 76;refine ah.out.1.mono ?_;rintro e w' ⟨rfl,d',dn,dp,dz, -,rfl⟩);go_ret2;obtain⟨r1,J,r3,r4⟩:=Z08 (n:=dn) (os:=dp) HS.out.1 dx ah.out.2.2.2 ah.out.2.1 dz;refine⟨gl,cl,d'.toList.map (·.1),by rw[<-ah.out.2.2.1];exact r1,?_,r3,by rw[J];exact du,r4⟩;rw[J];rfl
end
section
open Go.Shelf
variable{lv:Value}
def E2(d:Dir):List Bs:=d.names.filter isS++[nmN,nmT].filter λn=>(d.get n).isSome
theorem Z0y(d:Dir):acts0 d=(E2 d).map dr1:=by unfold acts0 E2;rw[Z5u]
theorem SeS.nextL{s d:Nat}{S:Sto}{w wr:World}{gv av:Value}{l gone:List Bs}{acts:List Ac}(h:SeS s d S w lv gv l gone av acts wr){w':World}{O:Value}{l':List Bs}(ho:Strs w' w.heap.size O l')(C:Fr (ZG lv) wr w'):SeS s d S w O gv l' gone av acts w':=by
 have hb:Below w.heap.size w w':=h.bel.trans (C.below h.bel.size h.ls.ge);have M:=QA h.ls;have F:∀{g:Nat} {e:TypeId} {x:List Value},Row wr g e x->e≠9->g∉ZG lv:=λhr he hm=>by obtain⟨x',J⟩:=M _ hm;exact Row.ne hr J he rfl
 obtain⟨j,b,uv,U,Z,r3,g,hv,r4⟩:=h.st;refine⟨⟨j,b,uv,U.fr C (F U (by simp)),Row.fr Z C (F Z (by simp)),r3.fr C ?_ (λk hk x hx=>F hx (by simp) hk),g,hv,r4.fr C (F r4 (by simp))⟩,Wl h.own C (λq hq hm=> ?_),ho,h.gs,hb⟩
 .obtain⟨fv,m1,_⟩:=r3;obtain⟨es,cl,ae⟩:=m1.block;intro hm;obtain⟨x',f,J,_⟩:=M _ hm;simp_all
 .obtain⟨x',J⟩:=QA h.own q hq;grind
theorem own_ne{g y n c H:Nat}(h:lv.ownBlock=some g∨g=H)(C:lv.ownBlock≠some y)(F:y<H):(Value.slice (some ⟨g,0,none⟩) n c).ownBlock≠some y:=by intro e;simp[Value.ownBlock] at e;simp_all
def nnL:List Bs:=[nmN,nmT]
theorem Z3u(d:Dir)(k:Nat)(h:k<2):(nnL.take (k+1)).filter (λn=>(d.get n).isSome)=(nnL.take k).filter (λn=>(d.get n).isSome)++(if(d.get (nnL.getD k [])).isSome then[nnL.getD k []] else[]):=by
 have e:nnL.take (k+1)=nnL.take k++[nnL.getD k []]:=by
  match k,h with
  |0,_=>rfl
  |1,_=>rfl
 grind
theorem Z3t(k:Nat)(h:k<2):([.string ⟨#[110]⟩,.string ⟨#[116]⟩]:List Value)[k]? =some (.string (str (nnL.getD k []))):=by rcases(by omega:k=0∨k=1) with rfl|rfl<;>rfl
theorem Z4z(k:Nat)(h:k<2):(nnL.getD k []).length<=1000000:=by rcases(by omega:k=0∨k=1) with rfl|rfl<;>decide
theorem Z0O(s d:Nat)(S:Sto)(w:World)(ak:Yf w s d S)(de:S.dir.Sorted)(aw:S.dir.length<=100000)(au:∀n e,S.dir.get n=some e->e.runs≠[]/\e.runs.length<=1000000){R:Value->World->Prop}(h0:acts0 S.dir=[]->∀w1,Below w.heap.size w w1->R .nilIface w1)(hC:acts0 S.dir≠[]->∀ga na ca w1,Below w.heap.size w w1->Yf w1 s d S->WD w1 ga 0 (acts0 S.dir)->w.heap.size<=ga->na=(acts0 S.dir).length->na<=ca->Calls prog 38 #[.pointer (some ⟨s,0,none⟩),.slice (some ⟨ga,0,none⟩) na ca] w1 λe w'=>∃ev,e=.returned ev/\R ev w'):Calls prog 95 #[.pointer (some ⟨s,0,none⟩)] w λe w'=>∃ev,e=.returned ev/\R ev w':=by
 have ae:=BY s d S [115] w ak de aw;rw[L7] at ae;have dq:(S.dir.names.filter isS).length<=100000:=by have h1:=List.length_filter_le isS S.dir.names;have h2:S.dir.names.length=S.dir.length:=Z5i ..;omega
 obtain⟨l,hl⟩:=Z5H (S.dir.names.filter isS);have cw:E2 S.dir=l++nnL.filter (λn=>(S.dir.get n).isSome):=by unfold E2 nnL;rw[hl]
 rw[hl] at ae dq;rw[Z0y] at h0 hC;have H:=Z5N ak ae h0 hC au cw;clear ak ae de aw hl h0 hC au cw;go_enter func95,ntmps95;go_wp2_with (go_at_call 96;refine H.out.2.1.mono ?_;rintro e w1 ⟨v,rfl,dc,cu⟩;have S1:=Z5J dc cu;clear dc cu);have aj:Row (w1.alloc (.cells #[.string ⟨#[110]⟩,.string ⟨#[116]⟩] 9)) w1.heap.size 9 [.string ⟨#[110]⟩,.string ⟨#[116]⟩]:=Row.new w1 9 _;have I0:SeS s d S w v (.slice none 0 0) l [] (.slice none 0 0) [] w1:=⟨H.out.1.after S1.out.2,World.ownsRow_nil _ _ _ _,S1.out.1,⟨none,0,rfl,λj hj=>by simp at hj,λg o h=>by cases h⟩,S1.out.2⟩;have I1:=I0.after ((Below.refl w1.heap.size w1).alloc Z5D (.cells #[.string ⟨#[110]⟩,.string ⟨#[116]⟩] 9));have U:v.ownBlock≠some w1.heap.size:=λe=>by obtain⟨x',dx⟩:=QA I0.ls _ (ZK.2 e);have:=dx.lt;omega
 obtain⟨y,hy⟩:=Z5H w1.heap.size;rw[hy] at aj U⊢;have H2:=Z5K aj I1 U;clear aj I0 I1 U hy;go_loopw [3,22] (λlv Z wr=>∃k:Nat,k<=2/\Z=.int .i64 k/\Row wr y 9 [.string ⟨#[110]⟩,.string ⟨#[116]⟩]/\SeS s d S w lv (.slice none 0 0) (l++(nnL.take k).filter (λn=>(S.dir.get n).isSome)) [] (.slice none 0 0) [] wr/\lv.ownBlock≠some y) (λ_ Z _=>2- (intOf Z).toNat)
 case atStart=>exact⟨0,by omega,rfl,H2.out.1,by rw[show(nnL.take 0).filter (λn=>(S.dir.get n).isSome)=[] from rfl,Z5C];exact H2.out.2.1,H2.out.2.2⟩
 case round=>
  obtain⟨k,hk,rfl,hr,M,U⟩:=hrel;have C:=Z5K hr M U;by_cases ai:k<2
  .have af:=hr.cell (Z3t k ai);have dy:(k:Int)<2:=(by omega);have cj:=Z4z k ai;have ak:=Z3u S.dir k ai;obtain⟨x,hx⟩:=Z5H (nnL.getD k []);obtain⟨A0,bf⟩:=Z5H (l++(nnL.take k).filter (λn=>(S.dir.get n).isSome));have cr:l++(nnL.take (k+1)).filter (λn=>(S.dir.get n).isSome)=A0++(if(S.dir.get x).isSome then[x] else[]):=(by rw[<-bf,ak,hx,Z5g]);have ct:A0.length<=1000000:=by
    rw[<-bf,Z5d];have:=List.length_filter_le (λn=>(S.dir.get n).isSome) (nnL.take k);have h2:(nnL.take k).length<=2:=by rw[Z5j];exact Z5w (Nat.min_le_left _ _) hk
    omega
   rw[bf] at C;rw[hx] at af cj;have HT:=Z5K cr ct cj;clear M hr U bf cr ct hx cj ak;cases b8:S.dir.get x with
   |none=>
    go_wp2_with (go_at_call 97;refine(Bl s d S x _ C.out.2.1.st HT.out.2.2 b8).mono ?_;rintro e w3 ⟨b,rfl,bm,J⟩;have F:=Z5J (C.out.1.after J) (C.out.2.1.after J);clear J bm);go_roundw
    case measure=>simp[intOf];omega
    case rel=>exact⟨k+1,by omega,by go_num,F.out.1,by rw[HT.out.1,b8];simpa using F.out.2,C.out.2.2⟩
   |some e=>
    obtain⟨dt,du⟩:=H.out.2.2.2.2.1 _ _ b8;have HG:=Z5F b8;clear b8;go_wp2_with (first|(go_at_call 97;refine(Bm s d S x e _ C.out.2.1.st HT.out.2.2 HG.out dt du).mono ?_;rintro e w3 ⟨v3,rfl,bm,J⟩;have S3:=(C.out.2.1.after J).after ((Below.refl w3.heap.size w3).alloc Z5D (.cells #[.string (str x)] 9));have r3:=(C.out.1.after J).after ((Below.refl w3.heap.size w3).alloc Z5D (.cells #[.string (str x)] 9));have dj:=(C.out.1.after J).lt;have F:=Z5K r3 S3 dj;clear J bm S3 r3 dj)|(at_builtin;refine WC _ rfl (.tmp 34) (.tmp 36) rfl w.heap.size _ A0 rfl F.out.2.1.ls w3.heap.size x rfl (heap_alloc_new _ _) F.out.2.1.bel.size HT.out.2.1 ?_;intro g2 aq w4 ho hf cz;have S4:=F.out.2.1.nextL ho hf;have r4:=F.out.1.fr hf (λhm=>C.out.2.2 (ZK.1 hm));have n4:=own_ne (n:=A0.length+1) (c:=aq) cz C.out.2.2 F.out.1.lt;have R4:=Z5K r4 S4 n4;clear ho hf S4 r4 n4 cz));go_roundw
    case measure=>simp[intOf];omega
    case rel=>exact⟨k+1,by omega,by go_num,R4.out.1,by rw[HT.out.1,HG.out];exact R4.out.2.1,R4.out.2.2⟩
  .have bq:k=2:=(by omega);have dz:¬ (k:Int)<2:=(by omega);have al:l++(nnL.take k).filter (λn=>(S.dir.get n).isSome)=E2 S.dir:=by rw[bq];exact H.out.2.2.2.2.2.symm
   rw[al] at C;clear M hr U;have dw:=Xd C.out.2.1.ls;obtain⟨na,nc,rfl⟩:=dw;have dp:(E2 S.dir).length<=1000000:=by
    rw[<-al,Z5d];have:=List.length_filter_le (λn=>(S.dir.get n).isSome) (nnL.take k);have h2:(nnL.take k).length<=2:=by rw[bq];decide
    omega
   obtain⟨N,hN⟩:=Z5H (E2 S.dir);have hH:=H.out.2.2;rw[hN] at C dp hH;have HN:=Z5F hH;clear al hH bq;rw[hN];go_wp2_with fail;go_loopw [9,41] (λav Z wr=>∃k:Nat,k<=N.length/\Z=.int .i64 k/\SeS s d S w (.slice na N.length nc) (.slice none 0 0) N [] av ((N.take k).map dr1) wr/\(k=0->av=.slice none 0 0)/\(0<k->∃g c,av=.slice (some ⟨g,0,none⟩) k c)) (λ_ Z _=>N.length- (intOf Z).toNat)
   case atStart=>exact⟨0,by omega,rfl,C.out.2.1,λ_=>rfl,λh=>by omega⟩
   case round=>
    obtain⟨k,hk,rfl,M,hz,hp⟩:=hrel;have HS:=Z5F M;have HZ:=Z5J hz hp;by_cases ai:k<N.length
    .obtain⟨g,cap,hv,af⟩:=M.l_cell ai;injection hv with hv1 hv2 bh;subst hv1 bh;clear hv2;obtain⟨x,cn⟩:=Z5H N[k];rw[cn] at af;have al:(N.take (k+1)).map dr1=(N.take k).map dr1++[dr1 x]:=by rw[Z5f ai,cn];simp
     have dh:((N.take k).map dr1).length=k:=by rw[Z5i,Z5j];omega
     have df:((N.take k).map dr1).length<=1000000:=(by omega);have aj:Row (wr.alloc (.cells #[.int .i64 2,.string (str x),.string ⟨#[]⟩,.string ⟨#[]⟩] 151)) wr.heap.size 151 (AcC (dr1 x)):=Row.new wr _ _;have S2:=HS.out.after ((Below.refl wr.heap.size wr).alloc Z5D (.cells #[.int .i64 2,.string (str x),.string ⟨#[]⟩,.string ⟨#[]⟩] 151));have O:=Z5M aj S2 al dh df;clear aj S2 M hz hp cn al dh df;go_wp2_with (at_builtin;refine AN _ rfl (.tmp 45) (.tmp 48) rfl w.heap.size _ ((N.take k).map dr1) rfl O.out.2.1.own wr.heap.size (dr1 x) rfl O.out.1 O.out.2.1.bel.size O.out.2.2.2.2 ?_;intro g2 aq w2 ho hf _ _ _;have S3:=O.out.2.1.next ho hf;rw[O.out.2.2.2.1] at S3⊢;have F:=Z5F S3;clear ho hf S3);go_roundw
     case measure=>simp[intOf];omega
     case rel=>exact⟨k+1,by omega,by go_num,by rw[O.out.2.2.1];exact F.out,λh=>by omega,λ_=>⟨_,_,rfl⟩⟩
    .obtain rfl:k=N.length:=(by omega);rw[Z5A] at HS;clear M;by_cases bg:N.length=0
     .have bz:N=[]:=List.eq_nil_of_length_eq_zero bg;obtain rfl:=hz bg;have az:=HN.out.1 (by simp_all);have HF:=Z5F az;have hq:∀W,(binOp .eql 86 (.slice none 0 0) (.slice none 0 0)).run prog W=.ok (.bool true) W:=λ_=>(by kernel_rfl);clear hz hp az bz;go_wp2_with fail;go_ret;exact⟨_,rfl,HF.out _ HS.out.bel⟩
     .obtain⟨g,c,rfl⟩:=hp (by omega);have bu:N.map dr1≠[]:=by intro e;exact bg (by simp_all)
      have hlen:(N.map dr1).length=N.length:=Z5i ..;obtain⟨g3,dm,bh,b7,bj,ah⟩:=HS.out.own.row bu;rw[hlen] at bh bj;injection bh with hv31 hv32 hv33;have b9:=congrArg (λ(a:Option Addr)=>a.map Addr.block) hv31;simp only[Option.map_some,Z5e] at b9;subst b9 hv33;have ag:=HN.out.2.1 bu g N.length c wr HS.out.bel HS.out.st ah b7 hlen.symm bj;have HC:=Z5F ag;have hq:∀W,(binOp .eql 86 (.slice (some ⟨g,0,none⟩) N.length c) (.slice none 0 0)).run prog W=.ok (.bool false) W:=λ_=>(by kernel_rfl);clear ag ah bj b7 hlen hv31 hv32 hz hp bu bg;go_wp2_with fail;refine HC.out.mono ?_;rintro e w5 ⟨ev,rfl,hR⟩;have HR:=Z5F hR;clear hR;go_wp2;go_ret;exact⟨ev,rfl,HR.out⟩
