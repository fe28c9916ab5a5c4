/-
  Part 17 of the proof: lemmas about what the program computes.
-/
import Derived.Test.YthppfllkocphbaaGreatDoorQ15
namespace Go.Proofs.YthppfllkocphbaaGreatDoor
set_option linter.unusedVariables false
set_option linter.unusedSimpArgs false
set_option maxHeartbeats 25600000
set_option maxRecDepth 100000
open Tryz
section
open Go.RowKit
variable{base c g:Nat}{e:TypeId}{st:List (BitVec 32)}{w:World}
theorem ZcH:ZgZ:=fun g c st ae w hs hb=>ZhJ g c st ae w hs hb
def Xv(st:List (BitVec 32)):List UInt8:=st.flatMap fun x=>beN x.toNat 4
def Z6F(H:Hs):List UInt8:=128::List.replicate ((119-H.many)%64) 0
def Hs.sum(H:Hs):List UInt8:=Xv ((H.bytes (Z6F H)).bytes (beN (8*H.size) 8)).st
def Zd8(l:List UInt8):List UInt8:=({hs0 with size:=l.length}.bytes l).sum
theorem Z2Q(st:List (BitVec 32)):(Xv st).length=4*st.length:=by
 induction st with
 |nil=>rfl
 |cons x l ih=>simp only[Xv,ZjX,ZjI,Z0h,ZjM];unfold Xv at ih;rw[ih];omega
theorem Z9n(st:List (BitVec 32))(ae:List UInt8)(h:st.length=8):(mixed st ae).length=8:=by
 simp[mixed,R8.list,h]
theorem Hs.byte_st(H:Hs)(b:UInt8)(h:H.st.length=8):(H.byte b).st.length=8:=by
 unfold Hs.byte;split
 ·exact Z9n _ _ h
 ·exact h
theorem Hs.bytes_st(H:Hs)(l:List UInt8)(h:H.st.length=8):(H.bytes l).st.length=8:=by
 unfold Hs.bytes
 induction l generalizing H with
 |nil=>exact h
 |cons b l ih=>rw[Zk6];exact ih _ (Hs.byte_st H b h)
theorem Zb5(l:List UInt8):(Zd8 l).length=32:=by
 unfold Zd8 Hs.sum
 rw[Z2Q,Hs.bytes_st _ _ (Hs.bytes_st _ _ (Hs.bytes_st _ _ rfl))]
theorem ZD.alloc_{h gs:Nat}{H:Hs}(k:ZD w h gs c H)(o:Obj):ZD (w.alloc o) h gs c H:=k.after (Zk9.alloc Zk8 _)
theorem ZjA(b j:Nat):(⟨b,0,none⟩:Addr).add j=⟨b,j,none⟩:=by unfold Addr.add;split<;>simp_all
theorem YH.news0(h:YH w g st):∀j v,(Qe st)[j]? =some v->w.cell? ⟨g,j,none⟩=some v:=fun j v hj=>by
 have:=h.news j v hj
 rwa[Nat.zero_add] at this
theorem Zeu{v:Value}{xs:List Value}(h:w.ownsRow base e 1 v (0+8) ([]++xs)):∃g cap,v=.slice (some ⟨g,0,none⟩) 8 cap/\base<=g:=by
 rcases h.2 with ⟨_,h0⟩|⟨g,cap,cur,hv,hb,_⟩
 ·omega
 ·exact⟨g,cap,by simpa using hv,hb⟩
theorem Zgc(h:w.ownsRow base e 1 (.slice (some ⟨g,0,none⟩) 8 c) (0+8) ([]++Qe st))(hl:st.length=8):YH w g st:=by
 rcases h.2 with ⟨h0,_⟩|⟨g',cap,cur,hv,hb,hh,ah,ag,af,ai⟩
 ·cases h0
 ·injection hv with h1 h2 h3
  injection h1 with h1
  injection h1 with h1
  subst h1
  have ae:g<w.heap.size:=(ZjQ.1 hh).1
  refine⟨hl,ae,fun j hj=> ?_,fun j hj=>by simp[World.frozen?,hh]⟩
  exact XF h rfl (by rw[List.nil_append];exact Wu st j (by omega))
theorem Hs.byte_resize(H:Hs)(x:Nat)(b:UInt8):({H with size:=x}:Hs).byte b={H.byte b with size:=x}:=by
 unfold Hs.byte
 split<;>rfl
theorem Hs.bytes_resize(H:Hs)(x:Nat)(l:List UInt8):({H with size:=x}:Hs).bytes l={H.bytes l with size:=x}:=by
 unfold Hs.bytes
 induction l generalizing H with
 |nil=>rfl
 |cons b l ih=>rw[Zk6,Zk6,Hs.byte_resize,ih]
theorem Za3(st:List (BitVec 32))(k:Nat)(h:k<st.length):Xv (st.take (k+1))=Xv (st.take k)++beN (st.getD k 0#32).toNat 4:=by
 unfold Xv
 rw[ZjK h,List.flatMap_append,ZjE,ZjF h]
 simp
def Hs.rs(H:Hs)(x:Nat):Hs:=⟨H.st,H.buf,H.many,x⟩
theorem Hs.bytes_rs(H:Hs)(x:Nat)(l:List UInt8):(H.rs x).bytes l=(H.bytes l).rs x:=Hs.bytes_resize H x l
theorem Hs.two_st(H:Hs)(a b:Nat)(p l:List UInt8):((((H.rs a).bytes p).rs b).bytes l).st=((H.bytes p).bytes l).st:=by
 rw[Hs.bytes_rs,Hs.bytes_rs,Hs.bytes_rs];rfl
theorem Z93:(prog.info? 348).map (·.size)=some 69:=by kernel_rfl
theorem ZgL:(prog.info? 161).map (fun i=>(i.zero,i.size,i.bytes))=some (some (.int .u32 0),1,4):=by kernel_rfl
theorem ZcA(gs c:Nat)(H:Hs):(ZK gs c H).toArray.all (·.oneCell')=true:=by
 rw[Array.all_eq_true_iff_forall_mem]
 intro v hv
 simp only[ZK,List.mem_toArray,ZjU,ZjV,Zk3,or_false] at hv
 rcases hv with (rfl|hv)|hv
 ·rfl
 ·obtain⟨x,_,rfl⟩:=List.mem_map.1 hv;rfl
 ·rcases hv with rfl|rfl|rfl|rfl<;>rfl
set_option maxRecDepth 1000000 in
theorem ZfC(h gs c:Nat)(H:Hs)(w:World)(k:ZD w h gs c H)(cy:H.many<64)(hz:H.size<=1000000000):
  Calls prog 262 #[.pointer (some ⟨h,0,none⟩)] w fun e w'=>e=.returned (.string ⟨H.sum.toArray⟩)/\Below w.heap.size w w':=by
 have hlen:=JM (gs:=gs) (c:=c) k.len
 obtain⟨i0,cw,df,dh,dj⟩:=info_parts ZgL
 have K:=Zka k
 clear k
 go_enter func262,ntmps262
 go_upto_region 3 with (first
  |(refine wpList_load_row rfl 348 (.tmp 9) rfl h rfl 348 (ZK gs c H).toArray (0,0) _ K.out.top underlying348 rfl (by rw[Z93];simp[hlen]) ?_)
  |(refine wpList_store_row rfl 348 (.tmp 3) (.tmp 10) rfl w.heap.size (ZK gs c H).toArray rfl rfl 348 _ (heap_alloc_new w _) (by rw[Z93];simp[hlen]) (by simp[hlen]) (ZcA gs c H) ?_;rw[Z4U];have k1:=K.out.alloc_ (.cells (ZK gs c H).toArray 348);have r1:ZC (w.alloc (.cells (ZK gs c H).toArray 348)) w.heap.size 348 (ZK gs c H):=ZC.new w _ _;have c0:=k1.c0;have S1:=Zka (Zkb k1 r1);clear k1 r1)
  |(at_builtin;have s1:=S1.out;clear S1 c0;refine wpList_append_own _ rfl (.const (.slice none 0 0)) (.tmp 14) 344 rfl (w.heap.size+1) 161 i0 _ 1 4 underlying344 cw df dh dj rfl (by omega) (.slice none 0 0) 0 [] rfl (World.ownsRow_nil _ _ _ _) ⟨gs,0,none⟩ 8 c (Qe H.st) rfl (by rw[YF,s1.1.st.len]) (fun j u hj=>by rw[ZjA];exact s1.1.st.news0 j u hj) (Z6P _) (by unfold maxLen;omega) (by omega) (by simp) ?_;intro v' w7 af ak aq;clear aq;obtain⟨g7,ae,rfl,cu⟩:=Zeu af;have ax:Fr [] (w.alloc (.cells (ZK gs c H).toArray 348)) w7:=(Fr.refl _ _).grown ak (by simp[Value.ownBlock]);have dp:=s1.1.fr ax (by simp) (by simp);have r7:=s1.2.fr ax (by simp);have z0:=r7.row.cell (Z94 gs c H);have zf:=r7.row.free (j:=0) (by rw[hlen];omega);have S7:=Zka (Zkb r7 (Zkb af (Zkb ax (Zkb cu dp))));clear af ak ax cu r7 s1 dp))
 obtain⟨b,hb⟩:∃b,w.heap.size=b:=⟨_,rfl⟩
 rw[hb] at S7⊢
 have au:YH w7 g7 H.st:=Zgc S7.out.2.1 K.out.st.len
 have k8:ZD (w7.setCell ⟨b,0,none⟩ (.slice (some ⟨g7,0,none⟩) 8 ae)) b g7 ae H:=
  ⟨by have:=S7.out.1.set 0 (.slice (some ⟨g7,0,none⟩) 8 ae);exact this,au.fr ((Fr.refl [b] w7).setCell (Or.inl (by simp)) _) (by have:=S7.out.2.2.2.1;simp;omega),K.out.len,K.out.lt,by have:=S7.out.2.2.2.1;omega⟩
 have dq:ZD (w7.setCell ⟨b,0,none⟩ (.slice (some ⟨g7,0,none⟩) 8 ae)) h gs c H:=
  S7.out.2.2.2.2.fr ((Fr.refl [b] w7).setCell (Or.inl (by simp)) _) (by have:=K.out.lt_;simp;omega) (by have:=K.out.st.lt;simp;omega)
 have ag:Below b w (w7.setCell ⟨b,0,none⟩ (.slice (some ⟨g7,0,none⟩) 8 ae)):=by
  have h1:Below b w (w.alloc (.cells (ZK gs c H).toArray 348)):=(Below.refl b w).alloc (by omega) _
  have h2:=S7.out.2.2.1.below (B:=b) (by simp;omega) (by simp)
  exact(h1.trans h2).setCell (p:=⟨b,0,none⟩) Zk8 _
 generalize (w7.setCell ⟨b,0,none⟩ (.slice (some ⟨g7,0,none⟩) 8 ae))=w8 at*
 have ef:=k8.c66
 have ee:=dq.c65
 have S8:=Zka (Zkb k8 ag)
 have HB:=Zka hb
 clear k8 ag dq au hb
 have aj:∀{x:World},Below b w x->b<=x.heap.size:=fun h=>by have:=h.size;have:=HB.out;omega
 have ek:0<=119- (H.many:Int):=by omega
 obtain⟨z,aw⟩:∃z,(119-H.many)%64=z:=⟨_,rfl⟩
 have dm:(119- (H.many:Int))%64=(z:Int):=by omega
 have cj:z<64:=by omega
 have HZ:=Zka aw
 clear aw
 have cat:∀W,(Op.stringOp .add ⟨#[128]⟩ (Wv z)).run prog W=.ok (.string (⟨#[128]⟩++Wv z)) W:=fun W=>run_string_add_sum W _ _ (by rw[XM];show 1+z<=_;omega)
 have bm:(⟨#[128]⟩++Wv z:ByteArray).data.toList=Z6F H:=by
  rw[data_append];unfold Z6F;rw[HZ.out];rfl
 have bq:(⟨#[128]⟩++Wv z:ByteArray).size<=1000000000:=by rw[ByteArray.size_append,XM];show 1+z<=_;omega
 obtain⟨P,hP⟩:∃P,(⟨#[128]⟩++Wv z:ByteArray)=P:=⟨_,rfl⟩
 rw[hP] at cat bm bq
 have dt:=Zka bm
 have dr:Hid ((8:Int)*(H.size:Int)=((8*H.size:Nat):Int)):=Zka (by omega)
 clear bm hP
 go_wp2_with (first
  |(go_at_call 120;rw[dm];refine(Tryz.strings_Repeat ⟨#[0]⟩ z _ (by omega) (by show 1*z<=_;omega)).mono ?_;rw[Ji];rintro e w9 ⟨rfl,bf⟩;have s8:=S8.out;clear S8;have S9:=Zka (Zkb (s8.1.after bf) (s8.2.trans (bf.mono (aj s8.2))));clear bf s8)
  |(go_at_call 261;have s9:=S9.out;clear S9;refine(Z4s ZcH b g7 ae H P _ s9.1 cy bq (by omega)).mono ?_;rintro e wa ⟨rfl,bg,cr⟩;rw[dt.out] at bg;have SA:=Zka (Zkb bg (s9.2.trans (cr.below (aj s9.2) (by intro i hi;have:=S7.out.2.2.2.1;simp at hi;omega))));clear bg cr s9)
  |(go_at_call 276;have sa:=SA.out;clear SA;rw[dr.out];refine(Z6y b g7 ae (8*H.size) 8 _ _ sa.1 (by omega) (by omega)).mono ?_;rintro e wb ⟨rfl,ah⟩;have SB:=Zka (Zkb (sa.1.after ah) (sa.2.trans (ah.mono (aj sa.2))));clear ah sa)
  |(go_at_call 261;have sb:=SB.out;clear SB;refine(Z4s ZcH b g7 ae _ _ _ sb.1 (Hs.bytes_lt _ _ cy) (by show(beN (8*H.size) 8).toArray.size<=_;rw[List.size_toArray,Z0h];omega) (by rw[Hs.bytes_size];show H.size+P.size<=_;omega)).mono ?_;rintro e wc ⟨rfl,bh,ct⟩;have dz:=bh.c0;have SC:=Zka (Zkb bh (sb.2.trans (ct.below (aj sb.2) (by intro i hi;have:=S7.out.2.2.2.1;simp at hi;omega))));clear bh ct sb))
 have eh:∃HX:Hs,HX.st=((H.bytes (Z6F H)).bytes (beN (8*H.size) 8)).st/\ZD _ b g7 ae HX:=⟨_,Hs.two_st H (H.size+P.size) _ (Z6F H) (beN (8*H.size) 8),SC.out.1⟩
 obtain⟨HX,cn,b9⟩:=eh
 have ai:H.sum=Xv HX.st:=by unfold Hs.sum;rw[cn]
 have bj:HX.st.length=8:=b9.st.len
 have SX:=Zka (Zkb b9 SC.out.2)
 clear SC b9 cn
 obtain⟨ST,hS⟩:∃ST,HX.st=ST:=⟨_,rfl⟩
 rw[hS] at bj ai
 have dw:=Zka ai
 have du:=Zka hS
 have az:=Zka bj
 clear ai hS bj
 generalize (ZK gs c H).toArray=AG
 generalize (beN (8*H.size) 8).toArray=AB
 go_loopw [5,35] (fun t i wr=>∃j:Nat,j<=8/\i=.int .i64 j/\t=.string ⟨(Xv (ST.take j)).toArray⟩/\ZD wr b g7 ae HX/\Below b w wr) (fun _ i _=>8- (intOf i).toNat)
 case atStart=>exact⟨0,by omega,rfl,rfl,SX.out.1,SX.out.2⟩
 case round=>
  obtain⟨j,hj,rfl,rfl,kr,hb⟩:=hrel
  by_cases al:j<8
  ·have hc:=kr.st.cell j al
   rw[du.out] at hc
   obtain⟨x,hx⟩:∃x,ST.getD j 0#32=x:=⟨_,rfl⟩
   have ay:=Za3 ST j (by rw[az.out];exact al)
   rw[hx] at hc ay
   have l0:=ZM x
   have l1:=ZL x
   have bu:uv x=((x.toNat:Nat):Int):=QE x
   have bz:=x.isLt
   obtain⟨n,hn⟩:∃n,x.toNat=n:=⟨_,rfl⟩
   rw[hn] at bu ay bz
   rw[bu] at hc
   have eo:n<4294967296:=bz
   obtain⟨t,ht⟩:∃t:ByteArray,(⟨(Xv (ST.take j)).toArray⟩:ByteArray)=t:=⟨_,rfl⟩
   have cz:t.size=4*j:=by rw[<-ht];show(Xv (ST.take j)).toArray.size=_;rw[List.size_toArray,Z2Q,ZjO,az.out];omega
   rw[ht]
   obtain⟨y,hy⟩:∃y:ByteArray,(⟨(beN n 4).toArray⟩:ByteArray)=y:=⟨_,rfl⟩
   have de:y.size=4:=by rw[<-hy];show(beN n 4).toArray.size=_;rw[List.size_toArray,Z0h]
   have dc:y.data.toList=beN n 4:=by rw[<-hy]
   have HY:=Zka hy
   have dx:=Zka dc
   have dy:∀W,(Op.stringOp .add t y).run prog W=.ok (.string (t++y)) W:=fun W=>run_string_add_sum W _ _ (by rw[cz,de];omega)
   clear hy dc de
   have S0:=Zka (Zkb kr hb)
   have HT:=Zka (Zkb ht ay)
   clear kr hb ht ay cz l0 l1 bu bz hx
   clear cat ek dm cj bq ee ef dz cw df dh dj hlen
   go_wp2_with (go_at_call 276;refine(Z6y b g7 ae n 4 _ _ S0.out.1 (by omega) (by omega)).mono ?_;rw[HY.out];rintro e wb ⟨rfl,ah⟩;have SB:=Zka (Zkb (S0.out.1.after ah) (S0.out.2.trans (ah.mono (aj S0.out.2))));clear ah)
   go_roundw
   case measure=>simp[intOf];omega
   case rel=>
    refine⟨j+1,by omega,by go_num,?_,SB.out.1,SB.out.2⟩
    congr 1
    apply Z8J
    rw[data_append,<-HT.out.1,HT.out.2,dx.out]
  ·obtain rfl:j=8:=by omega
   rw[ZjT (by rw[az.out];omega)]
   have S0:=Zka (Zkb kr hb)
   clear kr hb
   go_wp2
   go_ret
   exact⟨by rw[dw.out];rfl,by rw[HB.out];exact S0.out.2⟩
end
end Go.Proofs.YthppfllkocphbaaGreatDoor
