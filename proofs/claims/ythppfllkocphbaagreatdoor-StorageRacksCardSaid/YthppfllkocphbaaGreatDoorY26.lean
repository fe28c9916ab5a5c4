/- Part 27: lemmas about what the program computes. -/
import Derived.Test.YthppfllkocphbaaGreatDoorY24
namespace Go.Proofs.YthppfllkocphbaaGreatDoor
set_option linter.unusedVariables false
set_option linter.unusedSimpArgs false
set_option maxHeartbeats 25600000
set_option maxRecDepth 100000
open Tryz Go.RowKit
section
open Go.Shelf
variable{l:List En}{t:Nat}{v:Value}{w w' wr:World}
structure ChL(w:World)(l:List En)(t:Nat)(v:Value)(wr:World):Prop where
 own:wr.ownsRow w.heap.size 68 3 v t (((l.take t).map JL).flatMap apC)
 bel:Below w.heap.size w wr
theorem ChL.after(h:ChL w l t v wr)(C:Below wr.heap.size wr w'):ChL w l t v w':=⟨Qz h.own C,h.bel.trans (C.mono h.bel.size)⟩
theorem ChL.put{w8:World}(h:ChL w l t v wr)(F:Below wr.heap.size wr w')(O:t<l.length){g2 c2:Nat}(M:w8.ownsRow w.heap.size 68 3 (.slice (some ⟨g2,0,none⟩) (t+1) c2) (t+1) ((((l.take t).map JL).flatMap apC)++apC (JL l[t])))(J:Fr (ZG v) w' w8):ChL w l (t+1) (.slice (some ⟨g2,0,none⟩) (t+1) c2) w8:=by have C:=h.after F;refine⟨?_,C.bel.trans (J.below C.bel.size (WE C.own))⟩;rw[List.take_add_one,Z5a O];simp only[Option.toList_some,Z5u,Z5t,List.map_nil,List.flatMap_append,Z5s,List.flatMap_nil,Z5C];exact M
theorem ChL.own_lt(h:ChL w l t v wr):∀y∈ZG v,y<wr.heap.size:=λy F=>by obtain⟨J,C⟩:=QA h.own y F;exact C.lt
theorem Z1N{base k:Nat}{e:TypeId}{n:Nat}{xs:List Value}(h:w.ownsRow base e k v n xs):w.drew.ownsRow base e k v n xs:=h
theorem Z46(s:ByteArray):s.extract 0 (min s.size 200)=str (s.data.toList.take 200):=by apply YU;rw[Zn];simp[ByteArray.data_extract];omega
theorem CE{a:Addr}(h:w.cell? a=some v)(o:Obj):(w.alloc o).cell? a=some v:=(((Below.refl w.heap.size w).alloc Z5D o).cell (Z5b w _ h)).trans h
theorem Z0H(wr:World)(o:Obj)(K:ByteArray)(g:Bool):Row ((wr.alloc o).alloc (.cells #[.string K,.string ⟨#[]⟩,.bool g] 68)).drew (wr.heap.size+1) 68 [.string K,.string ⟨#[]⟩,.bool g]/\wr.heap.size<=wr.heap.size+1/\Below wr.heap.size wr ((wr.alloc o).alloc (.cells #[.string K,.string ⟨#[]⟩,.bool g] 68)).drew:=by have h:=Row.new (wr.alloc o) 68 [.string K,.string ⟨#[]⟩,.bool g];rw[show(wr.alloc o).heap.size=wr.heap.size+1 from by simp] at h;exact⟨h,by omega,(((Below.refl wr.heap.size wr).alloc Z5D o).alloc (by simp) _).drew⟩
theorem Z0I(wr:World)(o:Obj)(K:ByteArray)(g:Bool):Row ((wr.alloc (.cells #[.string K,.string ⟨#[]⟩,.bool g] 68)).alloc o).drew wr.heap.size 68 [.string K,.string ⟨#[]⟩,.bool g]/\wr.heap.size<=wr.heap.size/\Below wr.heap.size wr ((wr.alloc (.cells #[.string K,.string ⟨#[]⟩,.bool g] 68)).alloc o).drew:=⟨(Row.new wr 68 [.string K,.string ⟨#[]⟩,.bool g]).alloc o,Z5D,(((Below.refl wr.heap.size wr).alloc Z5D _).alloc (by simp) o).drew⟩
theorem NB(W:World)(C:Nat)(h:C<256):(convert 75 9 (.slice (some ⟨W.heap.size,0,none⟩) 1 1)).run prog (W.alloc (.cells #[.int .u8 (C:Int)] 5))=.ok (.string (str [UInt8.ofNat C])) (W.alloc (.cells #[.int .u8 (C:Int)] 5)):=by have F:=Row.new W 5 [.int .u8 (C:Int)];refine Qo _ 75 9 5 underlying75 underlying5 underlying9 F 0 1 1 [UInt8.ofNat C] rfl ?_;simp[Z3];omega
theorem Vw(W:World)(o:Obj)(C:Nat)(h:C<256):(convert 75 9 (.slice (some ⟨W.heap.size,0,none⟩) 1 1)).run prog ((W.alloc (.cells #[.int .u8 (C:Int)] 5)).alloc o)=.ok (.string (str [UInt8.ofNat C])) ((W.alloc (.cells #[.int .u8 (C:Int)] 5)).alloc o):=by have F:=(Row.new W 5 [.int .u8 (C:Int)]).alloc o;refine Qo _ 75 9 5 underlying75 underlying5 underlying9 F 0 1 1 [UInt8.ofNat C] rfl ?_;simp[Z3];omega
theorem Z2V{z:Int}(h:0<=z)(C:z<=255):IntKind.u8.wrap z=z:=by unfold IntKind.wrap;simp[IntKind.signed,IntKind.bits];omega
theorem FI(w:World)(a:Option Addr)(cp:Nat)(l:List En)(h:Jr w a l)(hl:l.length<=9223372036854775807):Calls prog 10 #[.slice a l.length cp] w λe w'=>∃v,e=.returned v/\w'.ownsRow w.heap.size 68 3 v (X5 l).length ((X5 l).flatMap apC)/\Below w.heap.size w w':=by
 obtain⟨N,hN⟩:=Z5H l.length;have H:=Z5J h hN;have I0:=Z5F (show ChL w l 0 (.slice none 0 0) w from⟨World.ownsRow_nil _ _ _ _,Z5E⟩);rw[hN] at hl⊢;clear h hN;go_enter func10,ntmps10;go_wp2_with fail;go_loopw [3,4] (λv kv wr=>∃t:Nat,t<=N/\t<=4/\kv=.int .i64 t/\ChL w l t v wr) (λ_ kv _=>4- (intOf kv).toNat)
 case atStart=>exact⟨0,by omega,by omega,rfl,I0.out⟩
 case round=>
  obtain⟨t,ht,ct,rfl,hS⟩:=hrel;have J:=Z5F hS;clear hS;by_cases O:t<N/\t<4
  .have af:t<l.length:=by rw[H.out.2];exact O.1
   obtain⟨bg,b,o,rfl,hb,ZL⟩:=H.out.1 t af;have q0:=ZL 0 _ rfl;have q1:=ZL 1 _ rfl;have q2:=ZL 2 _ rfl;obtain⟨x,hx⟩:=Z5H l[t];rw[hx] at bg q0 q1 q2;have d0:=(J.out.bel.cell (p:=⟨b,o+t*3+0,none⟩) hb).trans q0;have d1:=(J.out.bel.cell (p:=⟨b,o+t*3+1,none⟩) hb).trans q1;have d2:=(J.out.bel.cell (p:=⟨b,o+t*3+2,none⟩) hb).trans q2;have hz:=J.out.bel.size;have cu:(t:Int)<(N:Int):=(by omega);have cn:(t:Int)<4:=(by omega);have cz:=O.1;have cw:=O.2;have hk:=Gm x.key (show 0<10 by omega);obtain⟨ck,b9⟩:=Z5H (Dg x.key 10);rw[b9] at hk;have Z:=Z5K bg b9 hx;rw[Nat.add_zero] at d0;clear q0 q1 q2 bg b9 hx ZL O;have bm:∀W,Calls prog 9 #[.int .i64 x.key,.int .i64 10] W λe w'=>e=.returned (.int .i64 (ck:Int))/\W=w':=λW=>by have h9:=IK x.key 10 W Z.out.1.k0 Z.out.1.k1 (by omega) (by omega);rw[Z.out.2.1] at h9;exact h9
   have bu:=Z5F bm;clear bm;obtain⟨C,bq⟩:=Z5H (48+ck);have e0:∀M,(wr.alloc M).cell? ⟨b,o+t*3,none⟩=some (.int .i64 x.key):=λM=>CE d0 M;have e2:∀M,(wr.alloc M).cell? ⟨b,o+t*3+2,none⟩=some (.bool x.gone):=λM=>CE d2 M;have f2:∀M o2,((wr.alloc M).alloc o2).cell? ⟨b,o+t*3+2,none⟩=some (.bool x.gone):=λM o2=>CE (CE d2 M) o2;have w1:IntKind.i64.wrap (48+(ck:Int))=(C:Int):=by rw[Z5x _ (by omega)];omega
   have w2:IntKind.u8.wrap (C:Int)=(C:Int):=Z2V (by omega) (by omega);have kA:(convert 75 9 (.slice (some ⟨wr.heap.size,0,none⟩) 1 1)).run prog (wr.alloc (.cells #[.int .u8 (C:Int)] 5)).drew=.ok (.string (str [UInt8.ofNat C])) (wr.alloc (.cells #[.int .u8 (C:Int)] 5)).drew:=NB wr.drew C (by omega);have kB:(convert 75 9 (.slice (some ⟨wr.heap.size+1,0,none⟩) 1 1)).run prog ((wr.alloc (.cells #[.string ⟨#[]⟩,.string ⟨#[]⟩,.bool false] 68)).alloc (.cells #[.int .u8 (C:Int)] 5)).drew=.ok (.string (str [UInt8.ofNat C])) ((wr.alloc (.cells #[.string ⟨#[]⟩,.string ⟨#[]⟩,.bool false] 68)).alloc (.cells #[.int .u8 (C:Int)] 5)).drew:=by have h9:=NB (wr.drew.alloc (.cells #[.string ⟨#[]⟩,.string ⟨#[]⟩,.bool false] 68)) C (by omega);rw[show(wr.drew.alloc (.cells #[.string ⟨#[]⟩,.string ⟨#[]⟩,.bool false] 68)).heap.size=wr.heap.size+1 from by simp] at h9;exact h9
   have kC:(convert 75 9 (.slice (some ⟨wr.heap.size,0,none⟩) 1 1)).run prog ((wr.alloc (.cells #[.int .u8 (C:Int)] 5)).alloc (.cells #[.string ⟨#[]⟩,.string ⟨#[]⟩,.bool false] 68)).drew=.ok (.string (str [UInt8.ofNat C])) ((wr.alloc (.cells #[.int .u8 (C:Int)] 5)).alloc (.cells #[.string ⟨#[]⟩,.string ⟨#[]⟩,.bool false] 68)).drew:=Vw wr.drew _ C (by omega);obtain⟨X,hX⟩:=Z5H (str [UInt8.ofNat C]);rw[hX] at kA kB kC;have kP:∀W,(Op.stringOp .add ⟨#[107,101,121]⟩ X).run prog W=.ok (.string (str (Ie ck))) W:=λW=>by
    have h9:(⟨#[107,101,121]⟩:ByteArray)++X=str (Ie ck):=by rw[<-hX,Lg,Zn];unfold Ie;rw[bq];rfl
    rw[<-h9];exact run_string_add_sum W _ _ (by rw[<-hX,Z5];show 3+1<=9223372036854775807;omega)
   obtain⟨KY,aw⟩:=Z5H (str (Ie ck));rw[aw] at kP;have bh:=Z5J aw hX;clear bq aw hX;go_wp2_with fail;go_cut [5] from 16 to 32 (λv wx=>∃q,v=.pointer (some ⟨q,0,none⟩)/\Row wx q 68 [.string KY,.string ⟨#[]⟩,.bool x.gone]/\wr.heap.size<=q/\Below wr.heap.size wr wx)
   case first=>
    go_region_with (go_at_call 9;refine(bu.out _).mono ?_;rintro e w2 ⟨rfl,rfl⟩)
    all_goals go_wp2_with fail
    all_goals go_meet
    all_goals first
     |exact⟨_,rfl,Z0H _ _ _ _⟩
     |exact⟨_,rfl,Z0I _ _ _ _⟩
   case rest=>
    obtain⟨q,rfl,ag,hq,al⟩:=hcut;have g2:=ag.cell (j:=2) rfl;have b8:b<wr.heap.size:=(by omega);have bz:=(al.cell (p:=⟨b,o+t*3+1,none⟩) b8).trans d1;have ak:=Qz J.out.own al;have ah:∀y,y=x.gone->y=true->apC (JL l[t])=[.string KY,.string ⟨#[]⟩,.bool true]:=λy h1 h2=>by rw[Z.out.2.2];unfold JL;rw[Z.out.2.1,<-h1,h2,<-bh.out.1];rfl
    have ai:x.gone=false->apC (JL l[t])=[.string KY,.string (x.val.extract 0 (min x.val.size 200)),.bool false]:=λh1=>by rw[Z.out.2.2,Z46];unfold JL;rw[Z.out.2.1,h1,<-bh.out.1];rfl
    have F:=Z5N ag hq al ak ah ai;clear ak ah ai hq al kA kB kC kP e0 e2 f2 d0 d1 d2 ag;by_cases aj:x.gone=true
    .rw[aj] at g2;have c0:=F.out.1.cell (j:=0) rfl;have c1:=F.out.1.cell (j:=1) rfl;have HG:=Z5F aj;clear aj;go_wp2_with (at_builtin;refine QS _ rfl (.tmp 50) (.tmp 52) 27 68 rfl underlying27 ML rfl (by omega) (by omega) w.heap.size _ t (((l.take t).map JL).flatMap apC) rfl (Qz F.out.2.2.2.1 ((Below.refl wc.heap.size wc).alloc Z5D _)) wc.heap.size 1 [.string KY,.string ⟨#[]⟩,.bool true] rfl (by omega) (by omega) rfl (Row.new wc _ _) (by simp[Value.oneCell']) (by have:=F.out.2.2.1.size;simp;omega) (by omega) ?_;intro g2 au w8 ho hf _ _ _;have R8:=Z5F (J.out.put (F.out.2.2.1.trans (((Below.refl wc.heap.size wc).alloc Z5D _).mono F.out.2.2.1.size)) af (by rw[F.out.2.2.2.2.1 _ rfl HG.out];exact ho) hf);clear ho hf);go_roundw
     case measure=>simp[intOf];omega
     case rel=>exact⟨t+1,by omega,by omega,by go_num,R8.out⟩
    .have bf:x.gone=false:=(by simpa using aj);rw[bf] at g2;have HG:=Z5F bf;clear aj;have dc:x.val.size<=9223372036854775807:=Z.out.1.v;have f1:=F.out.1.free (j:=1) (by simp);have g1:=F.out.1.cell (j:=1) rfl;have m1:(min (x.val.size:Int) 200).toNat=min x.val.size 200:=(by omega);go_wp2_with fail;have aq:=F.out.1.set 1 (.string (x.val.extract 0 (min x.val.size 200)));have b7:Below wr.heap.size wr (wc.setCell ⟨q,1,none⟩ (.string (x.val.extract 0 (min x.val.size 200)))):=F.out.2.2.1.setCell F.out.2.1 _;obtain⟨XV,bj⟩:=Z5H (x.val.extract 0 (min x.val.size 200));have az:=F.out.2.2.2.2.2 HG.out;rw[bf] at aq;rw[bj] at aq b7 az
     have ae:=Wl F.out.2.2.2.1 (L:=[q]) ((Fr.refl [q] wc).setCell (p:=⟨q,1,none⟩) (Or.inl (by simp)) (.string XV)) (λy hy hm=>by
      rw[Z58] at hm;subst hm;have:=(J.out.own_lt y hy);have:=F.out.2.1
      omega)
     have U:=Z5L aq.drew b7.drew az (Z1N ae);clear aq b7 az ae;go_region;generalize (wc.setCell ⟨q,1,none⟩ (.string XV)).drew=wd at*
     have c0:wd.cell? ⟨q,0,none⟩=some (.string KY):=U.out.1.cell (j:=0) rfl;have c1:wd.cell? ⟨q,1,none⟩=some (.string XV):=U.out.1.cell (j:=1) rfl;have c2:wd.cell? ⟨q,2,none⟩=some (.bool false):=U.out.1.cell (j:=2) rfl;clear g1 g2 f1 bz m1 bj;go_wp2_with (at_builtin;refine QS _ rfl (.tmp 50) (.tmp 52) 27 68 rfl underlying27 ML rfl (by omega) (by omega) w.heap.size _ t (((l.take t).map JL).flatMap apC) rfl (Qz U.out.2.2.2 ((Below.refl wd.heap.size wd).alloc Z5D _)) wd.heap.size 1 [.string KY,.string XV,.bool false] rfl (by omega) (by omega) rfl (Row.new wd _ _) (by simp[Value.oneCell']) (by have:=U.out.2.1.size;simp;omega) (by omega) ?_;intro g2 au w8 ho hf _ _ _;have R8:=Z5F (J.out.put (U.out.2.1.trans (((Below.refl wd.heap.size wd).alloc Z5D _).mono U.out.2.1.size)) af (by rw[U.out.2.2.1];exact ho) hf);clear ho hf);go_roundw
     case measure=>simp[intOf];omega
     case rel=>exact⟨t+1,by omega,by omega,by go_num,R8.out⟩
  .have e9:(X5 l).length=t/\((l.take t).map JL)=X5 l:=by
    have hle:l.length=N:=H.out.2;have e1:l.take t=l.take 4:=by
     rcases Nat.lt_or_ge t 4 with h4|h4
     .have:t=N:=by
       rcases Nat.lt_or_ge t N with h5|h5
       .exact absurd ⟨h5,h4⟩ O
       .omega
      rw[Z5o (by omega),Z5o (by omega)]
     .rw[show t=4 from by omega]
    refine⟨?_,by unfold X5;rw[e1]⟩;unfold X5;rw[<-e1,Z5i,Z5j];omega
   have HE:=Z5F e9;clear e9;rcases Nat.lt_or_ge t N with h5|h5
   .have h4:¬t<4:=λh=>O ⟨h5,h⟩;have cr:decide ((t:Int)<4)=false:=by simp;omega
    have cj:(t:Int)<(N:Int):=(by omega);clear O;go_wp2_with fail;go_ret;exact⟨_,rfl,by rw[HE.out.1,<-HE.out.2];exact J.out.own,J.out.bel⟩
   .have cj:¬t<N:=(by omega);clear O;go_wp2_with fail;go_ret;exact⟨_,rfl,by rw[HE.out.1,<-HE.out.2];exact J.out.own,J.out.bel⟩
