/- Part 16: lemmas about what the program computes. -/
import Derived.Test.YthppfllkocphbaaGreatDoorY14
namespace Go.Proofs.YthppfllkocphbaaGreatDoor
set_option linter.unusedVariables false
set_option linter.unusedSimpArgs false
set_option maxHeartbeats 25600000
set_option maxRecDepth 100000
open Tryz Go.RowKit
section
variable{base c g:Nat}{e:TypeId}{st:List (BitVec 32)}{w:World}
theorem TB:Z2E:=λg c st h w hs C=>Z3r g c st h w hs C
def Xv(st:List (BitVec 32)):List UInt8:=st.flatMap λx=>beN x.toNat 4
def Kd(H:Hs):List UInt8:=128::List.replicate ((119-H.many)%64) 0
def Hs.sum(H:Hs):List UInt8:=Xv ((H.bytes (Kd H)).bytes (beN (8*H.size) 8)).st
def Uc(l:List UInt8):List UInt8:=({hs0 with size:=l.length}.bytes l).sum
theorem DL(st:List (BitVec 32)):(Xv st).length=4*st.length:=by
 induction st with
 |nil=>rfl
 |cons x l ih=>simp only[Xv,Z5s,Z5d,Ap,Z5h];unfold Xv at ih;rw[ih];omega
theorem NP(st:List (BitVec 32))(C:List UInt8)(h:st.length=8):(mixed st C).length=8:=by simp[mixed,R8.list,h]
theorem Hs.byte_st(H:Hs)(b:UInt8)(h:H.st.length=8):(H.byte b).st.length=8:=by
 unfold Hs.byte;split
 .exact NP _ _ h
 .exact h
theorem Hs.bytes_st(H:Hs)(l:List UInt8)(h:H.st.length=8):(H.bytes l).st.length=8:=by
 unfold Hs.bytes
 induction l generalizing H with
 |nil=>exact h
 |cons b l ih=>rw[Z5B];exact ih _ (Hs.byte_st H b h)
theorem Rf(l:List UInt8):(Uc l).length=32:=by unfold Uc Hs.sum;rw[DL,Hs.bytes_st _ _ (Hs.bytes_st _ _ (Hs.bytes_st _ _ rfl))]
theorem ZF.alloc_{h gs:Nat}{H:Hs}(k:ZF w h gs c H)(o:Obj):ZF (w.alloc o) h gs c H:=k.after (Z5E.alloc Z5D _)
theorem Z55(b j:Nat):(⟨b,0,none⟩:Addr).add j=⟨b,j,none⟩:=by unfold Addr.add;split<;>simp_all
theorem YI.news0(h:YI w g st):∀j v,(Qc st)[j]? =some v->w.cell? ⟨g,j,none⟩=some v:=λj v C=>by have:=h.news j v C;rwa[Nat.zero_add] at this
theorem VQ{v:Value}{xs:List Value}(h:w.ownsRow base e 1 v (0+8) ([]++xs)):∃g cap,v=.slice (some ⟨g,0,none⟩) 8 cap/\base<=g:=by
 rcases h.2 with ⟨_,F⟩|⟨g,cap,cur,hv,C,_⟩
 .omega
 .exact⟨g,cap,by simpa using hv,C⟩
theorem Z1M(h:w.ownsRow base e 1 (.slice (some ⟨g,0,none⟩) 8 c) (0+8) ([]++Qc st))(hl:st.length=8):YI w g st:=by
 rcases h.2 with ⟨F,_⟩|⟨g',cap,cur,hv,hb,hh,U,O,M,Z⟩
 .cases F
 .injection hv with h1 h2 h3;injection h1 with h1;injection h1 with h1;subst h1;have C:g<w.heap.size:=(Z5l.1 hh).1;refine⟨hl,C,λj J=> ?_,λj J=>by simp[World.frozen?,hh]⟩;exact XC h rfl (by rw[List.nil_append];exact Wx st j (by omega))
theorem Hs.byte_resize(H:Hs)(x:Nat)(b:UInt8):({H with size:=x}:Hs).byte b={H.byte b with size:=x}:=by unfold Hs.byte;split<;>rfl
theorem Hs.bytes_resize(H:Hs)(x:Nat)(l:List UInt8):({H with size:=x}:Hs).bytes l={H.bytes l with size:=x}:=by
 unfold Hs.bytes
 induction l generalizing H with
 |nil=>rfl
 |cons b l ih=>rw[Z5B,Z5B,Hs.byte_resize,ih]
theorem OG(st:List (BitVec 32))(k:Nat)(h:k<st.length):Xv (st.take (k+1))=Xv (st.take k)++beN (st.getD k 0#32).toNat 4:=by unfold Xv;rw[Z5f h,List.flatMap_append,Z59,Z5a h];simp
def Hs.rs(H:Hs)(x:Nat):Hs:=⟨H.st,H.buf,H.many,x⟩
theorem Hs.bytes_rs(H:Hs)(x:Nat)(l:List UInt8):(H.rs x).bytes l=(H.bytes l).rs x:=Hs.bytes_resize H x l
theorem Hs.two_st(H:Hs)(a b:Nat)(p l:List UInt8):((((H.rs a).bytes p).rs b).bytes l).st=((H.bytes p).bytes l).st:=by rw[Hs.bytes_rs,Hs.bytes_rs,Hs.bytes_rs];rfl
theorem Np:(prog.info? 348).map (·.size)=some 69:=by kernel_rfl
theorem Z2p:(prog.info? 161).map (λi=>(i.zero,i.size,i.bytes))=some (some (.int .u32 0),1,4):=by kernel_rfl
theorem Ts(gs c:Nat)(H:Hs):(ZL gs c H).toArray.all (·.oneCell')=true:=by
 rw[Array.all_eq_true_iff_forall_mem];intro v hv;simp only[ZL,List.mem_toArray,Z5p,Z5q,Z5y,or_false] at hv;rcases hv with (rfl|hv)|hv
 .rfl
 .obtain⟨x,_,rfl⟩:=List.mem_map.1 hv;rfl
 .rcases hv with rfl|rfl|rfl|rfl<;>rfl
set_option maxRecDepth 1000000 in
theorem Z1a(h gs c:Nat)(H:Hs)(w:World)(k:ZF w h gs c H)(cu:H.many<64)(hz:H.size<=1000000000):Calls prog 262 #[.pointer (some ⟨h,0,none⟩)] w λe w'=>e=.returned (.string ⟨H.sum.toArray⟩)/\Below w.heap.size w w':=by
 have hlen:=JO (gs:=gs) (c:=c) k.len;obtain⟨i0,ct,de,df,dh⟩:=info_parts Z2p;have K:=Z5F k;clear k;go_enter func262,ntmps262;go_upto_region 3 with (first|(refine wpList_load_row rfl 348 (.tmp 9) rfl h rfl 348 (ZL gs c H).toArray (0,0) _ K.out.top underlying348 rfl (by rw[Np];simp[hlen]) ?_)|(refine wpList_store_row rfl 348 (.tmp 3) (.tmp 10) rfl w.heap.size (ZL gs c H).toArray rfl rfl 348 _ (heap_alloc_new w _) (by rw[Np];simp[hlen]) (by simp[hlen]) (Ts gs c H) ?_;rw[G4];have k1:=K.out.alloc_ (.cells (ZL gs c H).toArray 348);have r1:ZD (w.alloc (.cells (ZL gs c H).toArray 348)) w.heap.size 348 (ZL gs c H):=ZD.new w _ _;have c0:=k1.c0;have S1:=Z5J k1 r1;clear k1 r1)|(at_builtin;have s1:=S1.out;clear S1 c0;refine wpList_append_own _ rfl (.const (.slice none 0 0)) (.tmp 14) 344 rfl (w.heap.size+1) 161 i0 _ 1 4 underlying344 ct de df dh rfl (by omega) (.slice none 0 0) 0 [] rfl (World.ownsRow_nil _ _ _ _) ⟨gs,0,none⟩ 8 c (Qc H.st) rfl (by rw[YF,s1.1.st.len]) (λj u hj=>by rw[Z55];exact s1.1.st.news0 j u hj) (Kt _) (by unfold maxLen;omega) (by omega) (by simp) ?_;intro v' M ae ai ak;clear ak;obtain⟨g7,C,rfl,cr⟩:=VQ ae;have au:Fr [] (w.alloc (.cells (ZL gs c H).toArray 348)) M:=(Fr.refl _ _).grown ai (by simp[Value.ownBlock]);have dm:=s1.1.fr au (by simp) (by simp);have r7:=s1.2.fr au (by simp);have z0:=r7.row.cell (Nq gs c H);have zf:=r7.row.free (j:=0) (by rw[hlen];omega);have F:=Z5M r7 ae au cr dm;clear ae ai au cr r7 s1 dm));obtain⟨b,J⟩:=Z5H w.heap.size;rw[J] at F⊢;have al:YI M g7 H.st:=Z1M F.out.2.1 K.out.st.len;have k8:ZF (M.setCell ⟨b,0,none⟩ (.slice (some ⟨g7,0,none⟩) 8 C)) b g7 C H:=
  ⟨by have:=F.out.1.set 0 (.slice (some ⟨g7,0,none⟩) 8 C);exact this,al.fr ((Fr.refl [b] M).setCell (Or.inl (by simp)) _) (by have:=F.out.2.2.2.1;simp;omega),K.out.len,K.out.lt,by have:=F.out.2.2.2.1;omega⟩
 have dp:ZF (M.setCell ⟨b,0,none⟩ (.slice (some ⟨g7,0,none⟩) 8 C)) h gs c H:=
  F.out.2.2.2.2.fr ((Fr.refl [b] M).setCell (Or.inl (by simp)) _) (by have:=K.out.lt_;simp;omega) (by have:=K.out.st.lt;simp;omega)
 have af:Below b w (M.setCell ⟨b,0,none⟩ (.slice (some ⟨g7,0,none⟩) 8 C)):=by have h1:Below b w (w.alloc (.cells (ZL gs c H).toArray 348)):=(Below.refl b w).alloc (by omega) _;have h2:=F.out.2.2.1.below (B:=b) (by simp;omega) (by simp);exact(h1.trans h2).setCell (p:=⟨b,0,none⟩) Z5D _
 generalize (M.setCell ⟨b,0,none⟩ (.slice (some ⟨g7,0,none⟩) 8 C))=w8 at*
 have ef:=k8.c66;have ee:=dp.c65;have S8:=Z5J k8 af;have HB:=Z5F J;clear k8 af dp al J;have ah:∀{x:World},Below b w x->b<=x.heap.size:=λh=>by have:=h.size;have:=HB.out;omega
 have ek:0<=119- (H.many:Int):=by omega
 obtain⟨z,aq⟩:=Z5H ((119-H.many)%64);have dj:(119- (H.many:Int))%64=(z:Int):=by omega
 have bu:z<64:=by omega
 have HZ:=Z5F aq;clear aq;have cat:∀W,(Op.stringOp .add ⟨#[128]⟩ (WU z)).run prog W=.ok (.string (⟨#[128]⟩++WU z)) W:=λW=>run_string_add_sum W _ _ (by rw[XL];show 1+z<=_;omega);have bh:(⟨#[128]⟩++WU z:ByteArray).data.toList=Kd H:=by rw[data_append];unfold Kd;rw[HZ.out];rfl
 have bj:(⟨#[128]⟩++WU z:ByteArray).size<=1000000000:=by rw[ByteArray.size_append,XL];show 1+z<=_;omega
 obtain⟨P,hP⟩:=Z5H (⟨#[128]⟩++WU z:ByteArray);rw[hP] at cat bh bj;have dt:=Z5F bh;have dq:Hid ((8:Int)*(H.size:Int)=((8*H.size:Nat):Int)):=Z5F (by omega);clear bh hP;go_wp2_with (first|(go_at_call 120;rw[dj];refine(Tryz.strings_Repeat ⟨#[0]⟩ z _ (by omega) (by show 1*z<=_;omega)).mono ?_;rw[Jp];rintro e w9 ⟨rfl,b8⟩;have s8:=S8.out;clear S8;have S9:=Z5J (s8.1.after b8) (s8.2.trans (b8.mono (ah s8.2)));clear b8 s8)|(go_at_call 261;have s9:=S9.out;clear S9;refine(FB TB b g7 C H P _ s9.1 cu bj (by omega)).mono ?_;rintro e wa ⟨rfl,b9,cj⟩;rw[dt.out] at b9;have SA:=Z5J b9 (s9.2.trans (cj.below (ah s9.2) (by intro i hi;have:=F.out.2.2.2.1;simp at hi;omega)));clear b9 cj s9)|(go_at_call 276;have sa:=SA.out;clear SA;rw[dq.out];refine(K1 b g7 C (8*H.size) 8 _ _ sa.1 (by omega) (by omega)).mono ?_;rintro e wb ⟨rfl,O⟩;have SB:=Z5J (sa.1.after O) (sa.2.trans (O.mono (ah sa.2)));clear O sa)|(go_at_call 261;have sb:=SB.out;clear SB;refine(FB TB b g7 C _ _ _ sb.1 (Hs.bytes_lt _ _ cu) (by show(beN (8*H.size) 8).toArray.size<=_;rw[List.size_toArray,Ap];omega) (by rw[Hs.bytes_size];show H.size+P.size<=_;omega)).mono ?_;rintro e wc ⟨rfl,bf,cn⟩;have dz:=bf.c0;have SC:=Z5J bf (sb.2.trans (cn.below (ah sb.2) (by intro i hi;have:=F.out.2.2.2.1;simp at hi;omega)));clear bf cn sb));have eh:∃U:Hs,U.st=((H.bytes (Kd H)).bytes (beN (8*H.size) 8)).st/\ZF _ b g7 C U:=⟨_,Hs.two_st H (H.size+P.size) _ (Kd H) (beN (8*H.size) 8),SC.out.1⟩;obtain⟨U,bz,b7⟩:=eh;have ag:H.sum=Xv U.st:=by unfold Hs.sum;rw[bz]
 have bg:U.st.length=8:=b7.st.len;have SX:=Z5J b7 SC.out.2;clear SC b7 bz;obtain⟨ST,hS⟩:=Z5H U.st;rw[hS] at bg ag;have dw:=Z5F ag;have du:=Z5F hS;have az:=Z5F bg;clear ag hS bg;generalize (ZL gs c H).toArray=AG;generalize (beN (8*H.size) 8).toArray=AB;go_loopw [5,35] (λt i wr=>∃j:Nat,j<=8/\i=.int .i64 j/\t=.string ⟨(Xv (ST.take j)).toArray⟩/\ZF wr b g7 C U/\Below b w wr) (λ_ i _=>8- (intOf i).toNat)
 case atStart=>exact⟨0,by omega,rfl,rfl,SX.out.1,SX.out.2⟩
 case round=>
  obtain⟨j,hj,rfl,rfl,kr,J⟩:=hrel;by_cases aj:j<8
  .have hc:=kr.st.cell j aj;rw[du.out] at hc;obtain⟨x,hx⟩:=Z5H (ST.getD j 0#32);have aw:=OG ST j (by rw[az.out];exact aj);rw[hx] at hc aw;have l0:=ER x;have l1:=EQ x;have bm:uv x=((x.toNat:Nat):Int):=QD x;have bq:=x.isLt;obtain⟨n,hn⟩:=Z5H x.toNat;rw[hn] at bm aw bq;rw[bm] at hc;have eo:n<4294967296:=bq;obtain⟨t,ht⟩:∃t:ByteArray,(⟨(Xv (ST.take j)).toArray⟩:ByteArray)=t:=⟨_,rfl⟩;have cw:t.size=4*j:=by rw[<-ht];show(Xv (ST.take j)).toArray.size=_;rw[List.size_toArray,DL,Z5j,az.out];omega
   rw[ht];obtain⟨y,hy⟩:∃y:ByteArray,(⟨(beN n 4).toArray⟩:ByteArray)=y:=⟨_,rfl⟩;have dc:y.size=4:=by rw[<-hy];show(beN n 4).toArray.size=_;rw[List.size_toArray,Ap]
   have cz:y.data.toList=beN n 4:=(by rw[<-hy]);have HY:=Z5F hy;have dx:=Z5F cz;have dy:∀W,(Op.stringOp .add t y).run prog W=.ok (.string (t++y)) W:=λW=>run_string_add_sum W _ _ (by rw[cw,dc];omega);clear hy cz dc;have Z:=Z5J kr J;have HT:=Z5J ht aw;clear kr J ht aw cw l0 l1 bm bq hx;clear cat ek dj bu bj ee ef dz ct de df dh hlen;go_wp2_with (go_at_call 276;refine(K1 b g7 C n 4 _ _ Z.out.1 (by omega) (by omega)).mono ?_;rw[HY.out];rintro e wb ⟨rfl,O⟩;have SB:=Z5J (Z.out.1.after O) (Z.out.2.trans (O.mono (ah Z.out.2)));clear O);go_roundw
   case measure=>simp[intOf];omega
   case rel=>refine⟨j+1,by omega,by go_num,?_,SB.out.1,SB.out.2⟩;congr 1;apply MU;rw[data_append,<-HT.out.1,HT.out.2,dx.out]
  .obtain rfl:j=8:=(by omega);rw[Z5o (by rw[az.out];omega)];have Z:=Z5J kr J;clear kr J;go_wp2;go_ret;exact⟨by rw[dw.out];rfl,by rw[HB.out];exact Z.out.2⟩
