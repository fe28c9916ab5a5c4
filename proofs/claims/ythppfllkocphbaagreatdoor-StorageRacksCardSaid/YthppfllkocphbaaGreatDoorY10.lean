/- Part 11: lemmas about what the program computes. -/
import Derived.Shelf.SlMaps.Clone
import Derived.Test.YthppfllkocphbaaGreatDoorY09
namespace Go.Proofs.YthppfllkocphbaaGreatDoor
set_option linter.unusedVariables false
set_option linter.unusedSimpArgs false
set_option maxHeartbeats 25600000
set_option maxRecDepth 100000
open Tryz Go.RowKit
section
open Go.Maps Go.WideMaps
theorem Ka(b n:Nat)(d:Dir)(w:World)(h:ZE w b n d):Calls prog 85 #[.map (some b)] w λe w'=>e=.returned (.map (some w.heap.size))/\ZE w' w.heap.size n d/\Below w.heap.size w w':=by obtain⟨J,⟨D,⟨es,C,Z,F,hs,U⟩,ht⟩,m2,m3⟩:=h;have hq:=run_eql_map_nil_sl (P:=prog) w 155 _ _ (some b) underlying155;go_enter func85,ntmps85;go_wp2;rw[run_callFunc_extern func129 (by kernel_rfl) (by kernel_rfl) (by kernel_rfl) (e:=Extern.MapsClone.clone) (by kernel_rfl),run_maps_clone_sl w 155 Z];go_wp2;rw[run_typeAssert_map_sl _ 155 20 _ _ _ underlying155];go_wp2;go_ret;have hB:Below w.heap.size w (w.alloc (.map es C)):=(Below.refl _ w).alloc Z5D _;refine⟨rfl,⟨J,⟨D,⟨es,C,(MapKept.heap_alloc w _).1,F,hs,U⟩,ht⟩,m2,λk e hk=> ?_⟩,hB⟩;obtain⟨v,M,O⟩:=m3 k e hk;exact⟨v,M,O.fr (Fr.of_below (L:=[]) hB) (by simp)⟩
structure CpS(w:World)(bd bs r n1 n2:Nat)(fd fs:Bs->Option Value)(todo:Bs->Bool)(cnt:Nat)(l:List Bs)(wr:World):Prop where
 rg:YJ wr bs r n2 fs todo cnt
 out:ZA wr bd (n1+l.length) (λm=>if(fs m).isSome&& !todo m then fs m else fd m)
 fr:Fr [bd] w wr
 rge:w.heap.size<=r
 nodup:l.Nodup
 mem:∀k,k∈l↔(fs k).isSome=true/\todo k=false
theorem VK(C bs n1 n2:Nat)(da db:Dir)(w:World)(hd:ZE w C n1 da)(hs:ZE w bs n2 db)(dh:C≠bs)(bz:db.Sorted)(df:n1<=100000000)(cz:db.length<=100000):Calls prog 192 #[.map (some C),.map (some bs)] w λe w'=>e=.returned (.tuple #[])/\(∃n',ZE w' C n' (da.both db))/\Fr [C] w w':=by
 obtain⟨fd,d1,d2,d3⟩:=hd;obtain⟨J,s1,s2,s3⟩:=hs;have al:∀k,(J k).isSome=true->k∈db.names:=λk h=>Qy.2 (λe=>by rw[s2 k e] at h;cases h);have bm:db.names.length=db.length:=Z5i ..;have bh:=d1;have bu:=s1;have HD:=Z5K d1 d2 d3;have HS:=Z5K s1 s2 s3;have HB:=Z5K al bm bz;clear d1 d2 d3 s1 s2 s3 al bm bz;go_enter func192,ntmps192;go_wp2_with (at_range;refine C2 _ rfl _ 155 rfl 164 underlying155 bs n2 J rfl bu ?_;intro w1 az U b8 bf);have C0:CpS w C bs w.heap.size n1 n2 fd J (λk=>(J k).isSome) az [] w1:=⟨U,(bh.after b8).congr (λk=>by cases J k<;>simp),Fr.of_below b8,Z5D,by simp,λk=>by cases J k<;>simp⟩;have bg:=Z5F C0;obtain⟨r,hr⟩:=Z5H w.heap.size;rw[show CpS w C bs w.heap.size n1 n2 fd J (λk=>(J k).isSome) az [] w1=CpS w C bs r n1 n2 fd J (λk=>(J k).isSome) az [] w1 from by rw[hr]] at bg;rw[show(Value.pointer (some ⟨w.heap.size,0,none⟩))=Value.pointer (some ⟨r,0,none⟩) from by rw[hr]];clear C0 U b8 bf hr bh bu;go_frame;go_loopw [8] (λ_ wq=>∃ (todo:Bs->Bool) (l:List Bs) (af:Nat),CpS w C bs r n1 n2 fd J todo af l wq) (λ_ wq=>wq.rangeLeft bs r)
 case atStart=>exact⟨_,_,_,bg.out⟩
 case round=>
  obtain⟨todo,l,af,hC⟩:=hrel;have ag:=hC.rg;have hlen:l.length<=100000:=by have:=hC.nodup.length_le_of_subset (λk h=>HB.out.1 k ((hC.mem k).1 h).1);rw[HB.out.2.1] at this;omega
  have F:=Z5F hC;have cj:Hid (World.rangeLeft _ bs r=af):=Z5F ag.left_eq;clear hC;go_wp2_with (at_next;refine C1 _ rfl _ rfl bs r n2 J todo af rfl ag ?_ ?_)
  .intro bj;go_wp2;go_end0;refine⟨rfl,⟨_,_,F.out.out,λk h=> ?_,λk e h=> ?_⟩,F.out.fr⟩
   .rw[Dir.both_get k HB.out.2.2] at h;cases M:db.get k with
    |some e=>rw[M] at h;cases h
    |none=>rw[M] at h;simp only[HS.out.2.1 k M,Option.isSome_none,Bool.false_and,Bool.false_eq_true,if_false];exact HD.out.2.1 k h
   .rw[Dir.both_get k HB.out.2.2] at h;have bq:=XB HD.out.1;cases M:db.get k with
    |some e2=>rw[M] at h;simp only[Z5e] at h;subst h;obtain⟨v,h1,h2⟩:=HS.out.2.2 k e2 M;refine⟨v,?_,h2.fr F.out.fr bq⟩;simp_all
    |none=>rw[M] at h;obtain⟨v,h1,h2⟩:=HD.out.2.2 k e h;refine⟨v,?_,h2.fr F.out.fr bq⟩;simp only[HS.out.2.1 k M,Option.isSome_none,Bool.false_and,Bool.false_eq_true,if_false];omega
  .intro k x w2 b7 cn aq O U aj ah cw dc;obtain⟨e,he⟩:∃e,db.get k=some e:=by
    cases M:db.get k with
    |none=>rw[HS.out.2.1 k M] at O;cases O
    |some e=>exact⟨e,rfl⟩
   obtain⟨v,hv,a,ln,c,rfl,cu⟩:=HS.out.2.2 k e he;rw[O] at hv;obtain rfl:=Option.some.inj hv;have aw:C≠r:=λe2=>by obtain⟨es,cl,hb⟩:=F.out.out.block;obtain⟨x1,x2,x3,x4,hi⟩:=ag.iter;rw[<-e2,hb] at hi;cases hi
   have ae:=(F.out.out.fr ah (by simp_all));have au:=λo=>(Below.refl w2.heap.size w2).alloc Z5D o;have HN:=Z5O aq O U ah aj ae aw;clear ag aq O U ah aj cw he hv cu ae aw;go_wp2_with (at_mapUpdate;refine Up _ rfl (.tmp 13) (.tmp 14) (.tmp 15) 155 rfl 164 underlying155 C _ _ rfl (HN.out.2.2.2.2.2.1.after (au _)) (by unfold maxLen;omega) k cn _ rfl rfl ?_;intro w3 ak ai;go_frame;have Z:=(Fr.refl [C] _).grown ai (λk h=>by cases h;exact Or.inl (by simp));have S3:=Z5J ak Z;clear ak ai Z);go_roundw
   case rel=>
    obtain⟨aq,O,U,ah,aj,ae,aw⟩:=HN.out;obtain⟨ak,Z⟩:=S3.out;have ct:k∉l:=λh=>by have:=((F.out.mem k).1 h).2;rw[aq] at this;cases this
    have de:((w2.alloc (.cells #[.int .i64 (e.size:Int),.int .u32 (e.sum:Int),.slice a ln c] 164))).heap.size=w2.heap.size+1:=(by simp);refine⟨_,l++[k],b7,⟨(U.after (au _)).fr Z (by grind) (by grind),?_,?_,F.out.rge,?_,?_⟩⟩
    .rw[Z5d];refine(show ZA w3 C (n1+(l.length+1)) _ from ak).congr (λm=> ?_);by_cases hm:m=k
     .subst hm;simp[O];rfl
     .simp[hm]
    .have h1:Fr [C] w w2:=F.out.fr.trans ah (λi hi cr=>by rw[Z58] at hi;subst hi;have:=F.out.rge;omega);exact(h1.trans (Fr.of_below (L:=[]) (au _)) (by simp)).trans Z (λi hi _=>hi)
    .exact List.nodup_append.2 ⟨F.out.nodup,by simp,λa ha c hc e2=>by rw[Z58] at hc;subst hc;subst e2;exact ct ha⟩
    .intro m;rw[Z5p,Z58,F.out.mem m];by_cases hm:m=k
     .subst hm;simp[O]
     .simp[hm]
   case measure=>obtain⟨aq,O,U,ah,aj,ae,aw⟩:=HN.out;obtain⟨ak,Z⟩:=S3.out;have b9:=(U.after (au _)).fr Z (by grind) (by grind);rw[b9.left_eq,cj.out];exact aj
end
section
open Go.Maps Go.WideMaps
variable{a1 a2:Option Addr}{c1 c2 g k l1 l2 y1 y2:Nat}{d was:Dir}{f:Z1}{l lx:List Bs}{o1 o2:Option Ent}{sm1 sm2 sz1 sz2:Int}{ts:List Value}{v vx:Value}{w w' wr:World}{x:Bs}
def AL(was now:Dir)(f:Z1)(n:Bs):Bool:=match now.get n,was.get n with
 |some e,some o=> !(f.by n).isSome&&decide (e.tail=o.tail)
 |_,_=>false
theorem I2(was now:Dir)(f:Z1)(n:Bs):chg was now f n=if AL was now f n=true then none else some (n,now.get n):=by
 unfold chg AL;cases h:now.get n with
 |none=>simp
 |some e=>
  cases C:was.get n with
  |none=>simp
  |some o=>simp only[Z1.has_by];simp
structure ChS(w:World)(g:Nat)(ts:List Value)(v:Value)(l:List Bs)(y1 y2:Nat)(sz1 sm1 sz2 sm2:Int)(a1 a2:Option Addr)(l1 c1 l2 c2:Nat)(o1 o2:Option Ent)(wr:World):Prop where
 wh:WhS w g ts v l wr
 b1:Row wr y1 164 [.int .i64 sz1,.int .u32 sm1,.slice a1 l1 c1]
 b2:Row wr y2 164 [.int .i64 sz2,.int .u32 sm2,.slice a2 l2 c2]
 e1:∀e,o1=some e->Xe wr (.agg #[.int .i64 sz1,.int .u32 sm1,.slice a1 l1 c1]) e
 e2:∀e,o2=some e->Xe wr (.agg #[.int .i64 sz2,.int .u32 sm2,.slice a2 l2 c2]) e
theorem ChS.after(h:ChS w g ts v l y1 y2 sz1 sm1 sz2 sm2 a1 a2 l1 c1 l2 c2 o1 o2 wr)(C:Below wr.heap.size wr w'):ChS w g ts v l y1 y2 sz1 sm1 sz2 sm2 a1 a2 l1 c1 l2 c2 o1 o2 w':=⟨h.wh.after C,h.b1.after C,h.b2.after C,λe he=>(h.e1 e he).fr (Fr.of_below (L:=[]) C) (by simp),λe he=>(h.e2 e he).fr (Fr.of_below (L:=[]) C) (by simp)⟩
theorem ChS.cs(h:ChS w g ts v l y1 y2 sz1 sm1 sz2 sm2 a1 a2 l1 c1 l2 c2 o1 o2 wr):(wr.cell? ⟨y1,0,none⟩=some (.int .i64 sz1)/\wr.cell? ⟨y1,1,none⟩=some (.int .u32 sm1)/\wr.cell? ⟨y1,2,none⟩=some (.slice a1 l1 c1))/\ (wr.cell? ⟨y2,0,none⟩=some (.int .i64 sz2)/\wr.cell? ⟨y2,1,none⟩=some (.int .u32 sm2)/\wr.cell? ⟨y2,2,none⟩=some (.slice a2 l2 c2)):=⟨⟨h.b1.cell (j:=0) rfl,h.b1.cell (j:=1) rfl,h.b1.cell (j:=2) rfl⟩,h.b2.cell (j:=0) rfl,h.b2.cell (j:=1) rfl,h.b2.cell (j:=2) rfl⟩
def WQ(was d:Dir)(f:Z1)(k:Nat):List Bs:=WS::(((was.both d).names.take k).filterMap (chg was d f)).map QT
theorem Z3S(a b:Bs):((str a).toList==(str b).toList)=decide (a=b):=by
 by_cases h:a=b
 .simp_all
 .rw[BZ (λe=>h (GE e))];simp[h]
theorem Z1H(w:World)(t:Bs):Strs (w.alloc (.cells #[.string (str t)] 9)) w.heap.size (.slice (some ⟨w.heap.size,0,none⟩) 1 1) [t]:=⟨rfl,Or.inr ⟨w.heap.size,1,#[.string (str t)],rfl,Z5D,heap_alloc_new w _,Z5D,by simp[maxLen],rfl,rfl⟩⟩
structure ChX(w:World)(g:Nat)(ts:List Value)(v:Value)(l:List Bs)(y1 y2:Nat)(sz1 sm1 sz2 sm2:Int)(a1 a2:Option Addr)(l1 c1 l2 c2:Nat)(o1 o2:Option Ent)(b:Nat)(vx:Value)(lx:List Bs)(wr:World):Prop where
 ch:ChS w g ts v l y1 y2 sz1 sm1 sz2 sm2 a1 a2 l1 c1 l2 c2 o1 o2 wr
 ox:Strs wr b vx lx
 be:b<=wr.heap.size
theorem ChX.after{b:Nat}(h:ChX w g ts v l y1 y2 sz1 sm1 sz2 sm2 a1 a2 l1 c1 l2 c2 o1 o2 b vx lx wr)(C:Below wr.heap.size wr w'):ChX w g ts v l y1 y2 sz1 sm1 sz2 sm2 a1 a2 l1 c1 l2 c2 o1 o2 b vx lx w':=⟨h.ch.after C,h.ox.after C,Z5w h.be C.size⟩
theorem ChS.xfr(h:ChS w g ts v l y1 y2 sz1 sm1 sz2 sm2 a1 a2 l1 c1 l2 c2 o1 o2 wr){C:World}(F:Below wr.heap.size wr C)(M:Strs C wr.heap.size vx lx)(J:Fr (ZG vx) C w'):ChS w g ts v l y1 y2 sz1 sm1 sz2 sm2 a1 a2 l1 c1 l2 c2 o1 o2 w':=h.after (F.trans (J.below F.size (λi hi=>M.ge i hi)))
theorem SK(hx:(was.both d).names[k]? =some x)(hs:AL was d f x=true):WQ was d f (k+1)=WQ was d f k:=by unfold WQ;rw[List.take_add_one,hx,List.filterMap_append];simp[I2,hs]
theorem Lt(hx:(was.both d).names[k]? =some x)(hs:AL was d f x=false):WQ was d f (k+1)=WQ was d f k++[QT (x,d.get x)]:=by unfold WQ;rw[List.take_add_one,hx,List.filterMap_append];simp[I2,hs]
theorem US(h:(was.both d).names.length<=k):WQ was d f k=WS::(QM was d f).map QT:=by unfold WQ QM;rw[Z5o h]
theorem UT(k:Nat):(WQ was d f k).length<=k+1:=by unfold WQ;grind
theorem Z2Z(hx:(was.both d).names[k]? =some x)(hs:AL was d f x=false):QT (x,d.get x)∈(QM was d f).map QT:=by refine List.mem_map_of_mem ?_;refine List.mem_filterMap.2 ⟨x,List.mem_of_getElem? hx,?_⟩;rw[I2,hs];rfl
theorem Pe(n half q db fb ga oa na ca:Nat)(us:Value)(acts:List Ac)(d was:Dir)(f:Z1)(n1 n2 wb nw:Nat)(w:World)(h:PlA w q db fb ga oa na ca us acts d f n1 n2)(hw:ZE w wb nw was)(eo:d.Ok n half)(au:was.Ok n half)(cu:n<=8192)(cw:(was.both d)≠[])(ft:nw<=100000000)(im:d.length<=10000)(bh:(was.both d).length<=20000)(ez:(Jb (QM was d f)).length<=60000):Calls prog 135 #[.pointer (some ⟨q,0,none⟩),.map (some wb)] w λe w'=>e=.returned (.tuple #[.string (str (Jb (QM was d f))),.int .i64 ((QM was d f).length:Int),.nilIface])/\Below w.heap.size w w':=by
 have c0:=h.row.cell (j:=0) rfl;have ir:=h.row.lt;obtain⟨C,bj⟩:=Z5H (was.both d);have du:C.Sorted:=by rw[<-bj];exact Dir.both_sorted au.sorted d
 have HP:=Z5F h;have HW:=Z5F hw;have M:=Z5L eo au bj du;have HZ:=Z5F ez;rw[bj] at cw bh;have fo:0<C.length:=List.length_pos_iff.2 cw;have ek:C.names.length=C.length:=Z5i ..;have ib:wb<w.heap.size:=by obtain⟨fv,m1,_⟩:=hw;exact m1.lt
 have fp:db<w.heap.size:=by obtain⟨fv,m1,_⟩:=h.dir;exact m1.lt
 clear h hw eo au bj du ez cw;go_enter func135,ntmps135;go_wp2_with (first|(go_at_call 85;refine(Ka wb nw was _ HW.out).mono ?_;rintro e w1 ⟨rfl,b8,O⟩;have P1:=HP.out.after O;have ig:=P1.row.cell (j:=0) rfl;have S1:=Z5K b8 P1 O;clear b8 P1 O)|(go_at_call 192;refine(VK w.heap.size db nw n1 was d _ S1.out.1 S1.out.2.1.dir (by omega) M.out.1.sorted ft (by omega)).mono ?_;rintro e w2 ⟨rfl,⟨n',cn⟩,hf2⟩;rw[M.out.2.2.1] at cn;have aj:=S1.out.2.2.trans (hf2.below S1.out.2.2.size (λi hi=>by rw[Z58] at hi;subst hi;exact Z5D));have S2:=Z5J cn aj;clear cn hf2 aj)|(go_at_call 132;refine(EH w.heap.size n' C _ (S2.out.1.after ((Below.refl w2.heap.size w2).alloc Z5D (.cells #[.string (str WS)] 9))) M.out.2.2.2 (by omega)).mono ?_;rintro e w3 ⟨v,rfl,hv,af⟩;obtain⟨g,cap,sp,rfl,dz,ij,ik,er⟩:=Qs hv (by rw[ek];exact fo);have S3:=Z5K er af dz;clear hv er af dz));obtain⟨ts,cz⟩:=Z5H (Z7 (C.names.map str)++sp);have fa:∀k (hk:k<C.length),ts[k]? =some (.string (str (C[k]).1)):=λk hk=>by rw[<-cz,Z5c (by simp[Z7,Dir.names];omega)];simp[Z7,Dir.names,hk]
 have bh:∀k (hk:k<C.length),(C[k]).1.length<=220:=λk hk=>by
  have hm:C[k]∈C:=Z5r hk;have fq:C.get (C[k]).1=some (C[k]).2:=Dir.mem_get M.out.2.2.2 hm;have hg:(was.both d).get (C[k]).1=some (C[k]).2:=by rw[M.out.2.2.1];exact fq
  rw[Dir.both_get _ M.out.1.sorted] at hg;cases hd:d.get (C[k]).1 with
  |some e=>exact(M.out.1.name _ (Dir.get_some_mem hd)).2
  |none=>rw[hd] at hg;exact(M.out.2.1.name _ (Dir.get_some_mem hg)).2
 have W0:WhS w g ts (.slice (some ⟨w2.heap.size,0,none⟩) 1 1) [WS] w3:=by have af:=S3.out.2.1;have fm:Below w2.heap.size w2 (w2.alloc (.cells #[.string (str WS)] 9)):=(Below.refl w2.heap.size w2).alloc Z5D _;have S0:Strs (w2.alloc (.cells #[.string (str WS)] 9)) w.heap.size (.slice (some ⟨w2.heap.size,0,none⟩) 1 1) [WS]:=⟨rfl,Or.inr ⟨w2.heap.size,1,#[.string (str WS)],rfl,S2.out.2.size,heap_alloc_new w2 _,Z5D,by simp[maxLen],rfl,rfl⟩⟩;refine⟨S0.after af,by rw[<-cz];exact S3.out.1,S2.out.2.trans ((fm.trans (af.mono (by simp))).mono S2.out.2.size),λe=> ?_⟩;simp only[Value.ownBlock,Z5e] at e;have:=S3.out.2.2;simp at this;omega
 have fg:=Z5F W0;have dq:=Z5J fa bh;clear cz fa W0 bh;go_loopw [8,34] (λl8 iv wr=>∃k:Nat,k<=C.length/\iv=.int .i64 k/\WhS w g ts l8 (WQ was d f k) wr) (λ_ iv _=>C.length- (intOf iv).toNat)
 case atStart=>exact⟨0,by omega,rfl,fg.out⟩
 case round=>
  obtain⟨k,hk,rfl,F⟩:=hrel;have dt:=Z5F F;by_cases ct:k<C.length
  .have ak:=F.txt.cell (dq.out.1 k ct);have ah:(C[k]).1.length<=maxLen:=by have:=dq.out.2 k ct;unfold maxLen;omega
   obtain⟨x,hx⟩:=Z5H (C[k]).1;rw[hx] at ak ah;have fh:=(HP.out.row.after F.bel).cell (j:=0) rfl;obtain⟨sz1,sm1,a1,l1,c1,ef, -,dw⟩:=Cg (HP.out.dir.after F.bel) x ah;obtain⟨sz2,sm2,a2,l2,c2,eh, -,dx⟩:=Cg (HW.out.after F.bel) x ah;have q1:=ef _ Z5E;have bz:Below wr.heap.size wr (wr.alloc (.cells #[.int .i64 sz1,.int .u32 sm1,.slice a1 l1 c1] 164)):=(Below.refl _ wr).alloc Z5D _;have q2:=eh _ bz;have aw:Below wr.heap.size wr ((wr.alloc (.cells #[.int .i64 sz1,.int .u32 sm1,.slice a1 l1 c1] 164)).alloc (.cells #[.int .i64 sz2,.int .u32 sm2,.slice a2 l2 c2] 164)):=bz.alloc (by simp) _;have q3:=BO (HP.out.fsh.after (F.bel.trans (aw.mono F.bel.size))) x ah;have fi:=(HP.out.row.after (F.bel.trans (aw.mono F.bel.size))).cell (j:=1) rfl;have df:ChS w g ts u8 (WQ was d f k) wr.heap.size (wr.heap.size+1) sz1 sm1 sz2 sm2 a1 a2 l1 c1 l2 c2 (d.get x) (was.get x) ((wr.alloc (.cells #[.int .i64 sz1,.int .u32 sm1,.slice a1 l1 c1] 164)).alloc (.cells #[.int .i64 sz2,.int .u32 sm2,.slice a2 l2 c2] 164)):=
    ⟨F.after aw,(Row.new wr _ _).after (Z5E.alloc Z5D _),by have:=Row.new (wr.alloc (.cells #[.int .i64 sz1,.int .u32 sm1,.slice a1 l1 c1] 164)) 164 [.int .i64 sz2,.int .u32 sm2,.slice a2 l2 c2];simpa using this,λe he=>(dw e he).fr (Fr.of_below (L:=[]) aw) (by simp),λe he=>(dx e he).fr (Fr.of_below (L:=[]) aw) (by simp)⟩
   have HC:=Z5F df;have HX:=Z5F hx;clear F hx ef eh bz aw df dw dx;go_wp2_with fail;generalize (wr.alloc (.cells #[.int .i64 sz1,.int .u32 sm1,.slice a1 l1 c1] 164)).alloc (.cells #[.int .i64 sz2,.int .u32 sm2,.slice a2 l2 c2] 164)=w5 at*
   generalize wr.heap.size+1=y2 at*
   generalize wr.heap.size=y1 at*
   clear q1 q2 q3 fi fh ak;obtain⟨b1,O⟩:=Z5H (d.get x).isSome;obtain⟨b2,aj⟩:=Z5H (was.get x).isSome;obtain⟨b3,af⟩:=Z5H (f.by x).isSome;rw[O,aj,af];go_cut [76] from 62 to 76 (λv wx=>v=.bool (AL was d f x)/\ChS w g ts u8 (WQ was d f k) y1 y2 sz1 sm1 sz2 sm2 a1 a2 l1 c1 l2 c2 (d.get x) (was.get x) wx)
   case first=>
    have al:(b1&&b2&& !b3)=false->AL was d f x=false:=λh=>by
     unfold AL;cases J:d.get x with
     |none=>rfl
     |some e=>
      cases h2:was.get x with
      |none=>rfl
      |some o=>rw[J] at O;rw[h2] at aj;subst O;subst aj;subst af;simp at h;simp[h]
    have ey:(b1&&b2&& !b3)=true->∃e o,d.get x=some e/\was.get x=some o/\AL was d f x=decide (e.tail=o.tail):=λh=>by
     cases J:d.get x with
     |none=>rw[J] at O;subst O;simp at h
     |some e=>
      cases h2:was.get x with
      |none=>rw[h2] at aj;subst aj;simp at h
      |some o=>
       refine⟨e,o,rfl,rfl,?_⟩;have:b3=false:=by simp at h;exact h.2
       unfold AL;rw[J,h2,af,this];simp
    cases b1<;>cases b2<;>cases b3
    case true.true.false=>
     obtain⟨e,o,he,ho,gj⟩:=ey rfl;obtain⟨p1,p2,p3,p4⟩:=(M.out.1.ent _ (Dir.get_some_mem he)).tailb cu;obtain⟨q1,q2,q3,q4⟩:=(M.out.2.1.ent _ (Dir.get_some_mem ho)).tailb cu;have D0:=HC.out.after ((Below.refl _ w5).drew);obtain⟨⟨d0,d1,d2⟩,d3,d4,d5⟩:=D0.cs;have HQ:=Z5J p3 q3;have dp:=Z5J he ho;clear p3 q3 al ey;go_region_with (first|(go_at_call 133;refine(EM _ e _ (ChS.e1 (by assumption) e dp.out.1) p1 p2 HQ.out.1 p4).mono ?_;rintro r w6 ⟨rfl,U⟩;have D6:=ChS.after (w:=w) (by assumption) U;obtain⟨⟨f0,f1,f2⟩,f3,f4,f5⟩:=D6.cs;clear U)|(go_at_call 133;refine(EM _ o _ (ChS.e2 (by assumption) o dp.out.2) q1 q2 HQ.out.2 q4).mono ?_;rintro r w6 ⟨rfl,U⟩;have D6:=ChS.after (w:=w) (by assumption) U;obtain⟨⟨f0,f1,f2⟩,f3,f4,f5⟩:=D6.cs;clear U))
     all_goals go_wp2_with fail
     all_goals go_meet
     all_goals refine⟨?_,by assumption⟩
     all_goals rw[gj,Z3S]
    all_goals go_region
    all_goals go_wp2_with fail
    all_goals go_meet
    all_goals exact⟨by rw[al rfl],HC.out.after (Z5E.drew)⟩
   case rest=>
    have cj:=HC.out.wh.bel;obtain⟨rfl,hC⟩:=hcut;have bm:=Z5F hC;have fc:(was.both d).names[k]? =some x:=by rw[M.out.2.2.1];unfold Dir.names;rw[List.getElem?_map,Z5a ct,Option.map_some,HX.out]
    have bf:=Z5F fc;obtain⟨sk,al⟩:=Z5H (AL was d f x);rw[al];clear hC fc cj HC dt;cases sk
    case true=>
     go_wp2_with fail;go_roundw
     case measure=>simp[intOf];omega
     case rel=>exact⟨k+1,by omega,by go_num,by rw[SK bf.out al];exact bm.out.wh⟩
    case false=>
     have b8:(QT (x,d.get x)).length<=60000:=Z5w (RJ (h:=WS) (Z2Z bf.out al)) HZ.out;have dh:=Z5F b8;have ee:(WQ was d f k).length<=1000000:=by have:=UT (was:=was) (d:=d) (f:=f) k;omega
     have dj:=Z5F ee;clear b8 ee;have bg:Below wc.heap.size wc (wc.alloc (.cells #[.string (str x)] 9)):=(Below.refl _ wc).alloc Z5D _;have C6:=bm.out.after bg;obtain⟨⟨d0,d1,d2⟩, -⟩:=C6.cs;have X6:ChX w g ts u8 (WQ was d f k) y1 y2 sz1 sm1 sz2 sm2 a1 a2 l1 c1 l2 c2 (d.get x) (was.get x) wc.heap.size (.slice (some ⟨wc.heap.size,0,none⟩) 1 1) [x] (wc.alloc (.cells #[.string (str x)] 9)):=⟨C6,Z1H wc x,bg.size⟩;have b9:=Z5F X6;have de:=Z5F bg;clear C6 X6 bg;cases b1
     case true=>
      obtain⟨e,he⟩:=Option.isSome_iff_exists.1 O;obtain⟨p1,p2,p3,p4⟩:=(M.out.1.ent _ (Dir.get_some_mem he)).tailb cu;have fe:=Z5F p3;have HE:=Z5F he;clear p3 he;have ae:(Zz [x,e.tail]).length<=60000:=by have:=dh.out;rw[HE.out] at this;exact this
      have bq:=Z5F ae;clear ae;go_wp2_with (first|(go_at_call 133;refine(EM _ e _ (b9.out.ch.e1 e HE.out) p1 p2 fe.out p4).mono ?_;rintro r w6 ⟨rfl,U⟩;have S6:=Z5J (b9.out.after U) (de.out.trans (U.mono de.out.size));clear U)|(at_builtin;refine WC _ rfl (.tmp 80) (.tmp 83) rfl wc.heap.size (.slice (some ⟨wc.heap.size,0,none⟩) 1 1) [x] rfl (S6.out.1.ox.after (Z5E.alloc Z5D _)) w6.heap.size e.tail rfl (heap_alloc_new w6 _) (by have:=S6.out.1.be;simp;omega) (by simp) ?_;intro g7 fj w7 ew dy fu;have S7:=Z5J ew (bm.out.xfr (S6.out.2.trans (((Below.refl w6.heap.size w6).alloc Z5D _).mono S6.out.2.size)) (S6.out.1.ox.after (Z5E.alloc Z5D _)) dy);clear ew dy fu)|(go_at_call 126;refine(Fz wc.heap.size _ [x,e.tail] _ S7.out.1 (by simp) bq.out).mono ?_;rintro r w8 ⟨rfl,b7⟩;have S8:=Z5F (S7.out.2.after b7);clear b7)|(at_builtin;refine WC _ rfl (.tmp 93) (.tmp 95) rfl w.heap.size u8 (WQ was d f k) rfl (S8.out.wh.own.after (Z5E.alloc Z5D _)) w8.heap.size (Zz [x,e.tail]) rfl (heap_alloc_new w8 _) (by have:=S8.out.wh.bel.size;simp;omega) dj.out ?_;intro g9 aq w9 Z ag ai;have S9:=Z5K Z ag ai;clear Z ag ai));go_roundw
      case measure=>simp[intOf];omega
      case rel=>
       refine⟨k+1,by omega,by go_num,?_⟩;rw[Lt bf.out al];obtain⟨Z,ag,ai⟩:=S9.out;have W8:=S8.out.wh.after ((Below.refl w8.heap.size w8).alloc Z5D (.cells #[.string (str (Zz [x,e.tail]))] 9));have cr:QT (x,d.get x)=Zz [x,e.tail]:=by unfold QT;rw[HE.out]
       refine W8.next (by rw[cr];obtain⟨g8,bu,ic,ia,_,_,_,fw⟩:=Qs Z (by simp);exact Z) ag (λe=> ?_)
       simp only[Value.ownBlock,Z5e] at e;subst e;rcases ai with J|J
       .exact W8.no J
       .have h9:g9=(w8.alloc (.cells #[.string (str (Zz [x,e.tail]))] 9)).heap.size:=J;have:=W8.txt.lt;omega
     case false=>
      have he:d.get x=none:=by cases h9:d.get x with
       |none=>rfl
       |some e=>rw[h9] at O;cases O
      have HE:=Z5F he;clear he;have ae:(Zz [x]).length<=60000:=by have:=dh.out;rw[HE.out] at this;exact this
      have bq:=Z5F ae;clear ae;go_wp2_with (first|(go_at_call 126;refine(Fz wc.heap.size _ [x] _ b9.out.ox (by simp) bq.out).mono ?_;rintro r w8 ⟨rfl,b7⟩;have S8:=Z5F (b9.out.ch.after b7);clear b7)|(at_builtin;refine WC _ rfl (.tmp 93) (.tmp 95) rfl w.heap.size u8 (WQ was d f k) rfl (S8.out.wh.own.after (Z5E.alloc Z5D _)) w8.heap.size (Zz [x]) rfl (heap_alloc_new w8 _) (by have:=S8.out.wh.bel.size;simp;omega) dj.out ?_;intro g9 aq w9 Z ag ai;have S9:=Z5K Z ag ai;clear Z ag ai));go_roundw
      case measure=>simp[intOf];omega
      case rel=>
       refine⟨k+1,by omega,by go_num,?_⟩;rw[Lt bf.out al];obtain⟨Z,ag,ai⟩:=S9.out;have W8:=S8.out.wh.after ((Below.refl w8.heap.size w8).alloc Z5D (.cells #[.string (str (Zz [x]))] 9));have cr:QT (x,d.get x)=Zz [x]:=by unfold QT;rw[HE.out]
       refine W8.next (by rw[cr];obtain⟨g8,bu,ic,ia,_,_,_,fw⟩:=Qs Z (by simp);exact Z) ag (λe=> ?_)
       simp only[Value.ownBlock,Z5e] at e;subst e;rcases ai with J|J
       .exact W8.no J
       .have h9:g9=(w8.alloc (.cells #[.string (str (Zz [x]))] 9)).heap.size:=J;have:=W8.txt.lt;omega
  .obtain rfl:k=C.length:=(by omega);have az:WQ was d f C.length=WS::(QM was d f).map QT:=US (by rw[M.out.2.2.1,ek];exact Z5D);rw[az] at F;obtain⟨g9,aq,ie,rfl,_,_,_,eu⟩:=Qs F.own (by simp);have ff:=Z5F eu;have dc:=Z5F F.bel;obtain⟨m,hm⟩:=Z5H (QM was d f).length;have hlen:(WS::(QM was d f).map QT).length=m+1:=(by rw[Z5h,Z5i,hm]);have dm:=Z5J hlen hm;have iq:m<=60000:=by have J:=Wk (WS::(QM was d f).map QT);have h2:(Zz (WS::(QM was d f).map QT)).length<=60000:=HZ.out;rw[ZN] at h2;rw[hlen] at J;omega
   rw[hlen];clear hlen az dt F eu hm;go_wp2_with (go_at_call 126;have hq:=Bu g9 aq (WS::(QM was d f).map QT) ie _ ff.out HZ.out;rw[dm.out.1] at hq;refine hq.mono ?_;rintro r w6 ⟨rfl,U⟩;have S6:=Z5F U;clear U hq);go_ret3;exact⟨by rw[dm.out.2];rfl,dc.out.trans (S6.out.mono dc.out.size)⟩
