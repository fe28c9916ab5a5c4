/-
  Part 15 of the proof: lemmas about what the program computes.
-/
import Derived.Laws.Tables
import Derived.Laws.CopyRow
import Derived.Deep.Cut
import Derived.Test.YthppfllkocphbaaGreatDoorQ08
namespace Go.Proofs.YthppfllkocphbaaGreatDoor
set_option linter.unusedVariables false
set_option linter.unusedSimpArgs false
set_option maxHeartbeats 25600000
set_option maxRecDepth 100000
open Tryz
section
open Go.RowKit
def QN(x:BitVec 32)(n:Nat):BitVec 32:=(x<<<(32-n))|||(x>>>n)
theorem XT(x:BitVec 32)(n:Nat):bits BinOp.or IntKind.u32 (uv x*2^(32-n)%4294967296) (uv x / 2^n)=uv (QN x n):=by
 rw[Zjj,Z51,Zjx];rfl
theorem Zj9(x:BitVec 32)(w:World):
  Calls prog 281 #[.int .u32 (uv x),.int .i64 (-7)] w fun e w'=>e=.returned (.int .u32 (uv (QN x 7)))/\w=w':=by
 have x0:=ZM x
 have x1:=ZL x
 have e1:bits BinOp.and IntKind.u64 (IntKind.u64.wrap (-7)) 31=25:=by decide
 go_enter func281,ntmps281
 go_wp2
 go_ret
 exact⟨Z04 (Xy (XT x 7)),rfl⟩
theorem Zjg(x:BitVec 32)(w:World):
  Calls prog 280 #[.int .u32 (uv x),.int .i64 7] w fun e w'=>e=.returned (.int .u32 (uv (QN x 7)))/\w=w':=by
 go_enter func280,ntmps280
 go_wp2_with (go_at_call 281;refine(Zj9 x _).mono ?_;rintro e w' ⟨rfl,rfl⟩)
 go_ret
 exact⟨rfl,rfl⟩
theorem Zi1(x:BitVec 32)(w:World):
  Calls prog 281 #[.int .u32 (uv x),.int .i64 (-18)] w fun e w'=>e=.returned (.int .u32 (uv (QN x 18)))/\w=w':=by
 have x0:=ZM x
 have x1:=ZL x
 have e1:bits BinOp.and IntKind.u64 (IntKind.u64.wrap (-18)) 31=14:=by decide
 go_enter func281,ntmps281
 go_wp2
 go_ret
 exact⟨Z04 (Xy (XT x 18)),rfl⟩
theorem Zip(x:BitVec 32)(w:World):
  Calls prog 280 #[.int .u32 (uv x),.int .i64 18] w fun e w'=>e=.returned (.int .u32 (uv (QN x 18)))/\w=w':=by
 go_enter func280,ntmps280
 go_wp2_with (go_at_call 281;refine(Zi1 x _).mono ?_;rintro e w' ⟨rfl,rfl⟩)
 go_ret
 exact⟨rfl,rfl⟩
theorem Zi0(x:BitVec 32)(w:World):
  Calls prog 281 #[.int .u32 (uv x),.int .i64 (-17)] w fun e w'=>e=.returned (.int .u32 (uv (QN x 17)))/\w=w':=by
 have x0:=ZM x
 have x1:=ZL x
 have e1:bits BinOp.and IntKind.u64 (IntKind.u64.wrap (-17)) 31=15:=by decide
 go_enter func281,ntmps281
 go_wp2
 go_ret
 exact⟨Z04 (Xy (XT x 17)),rfl⟩
theorem Zio(x:BitVec 32)(w:World):
  Calls prog 280 #[.int .u32 (uv x),.int .i64 17] w fun e w'=>e=.returned (.int .u32 (uv (QN x 17)))/\w=w':=by
 go_enter func280,ntmps280
 go_wp2_with (go_at_call 281;refine(Zi0 x _).mono ?_;rintro e w' ⟨rfl,rfl⟩)
 go_ret
 exact⟨rfl,rfl⟩
theorem Zi2(x:BitVec 32)(w:World):
  Calls prog 281 #[.int .u32 (uv x),.int .i64 (-19)] w fun e w'=>e=.returned (.int .u32 (uv (QN x 19)))/\w=w':=by
 have x0:=ZM x
 have x1:=ZL x
 have e1:bits BinOp.and IntKind.u64 (IntKind.u64.wrap (-19)) 31=13:=by decide
 go_enter func281,ntmps281
 go_wp2
 go_ret
 exact⟨Z04 (Xy (XT x 19)),rfl⟩
theorem Ziq(x:BitVec 32)(w:World):
  Calls prog 280 #[.int .u32 (uv x),.int .i64 19] w fun e w'=>e=.returned (.int .u32 (uv (QN x 19)))/\w=w':=by
 go_enter func280,ntmps280
 go_wp2_with (go_at_call 281;refine(Zi2 x _).mono ?_;rintro e w' ⟨rfl,rfl⟩)
 go_ret
 exact⟨rfl,rfl⟩
theorem Zj8(x:BitVec 32)(w:World):
  Calls prog 281 #[.int .u32 (uv x),.int .i64 (-6)] w fun e w'=>e=.returned (.int .u32 (uv (QN x 6)))/\w=w':=by
 have x0:=ZM x
 have x1:=ZL x
 have e1:bits BinOp.and IntKind.u64 (IntKind.u64.wrap (-6)) 31=26:=by decide
 go_enter func281,ntmps281
 go_wp2
 go_ret
 exact⟨Z04 (Xy (XT x 6)),rfl⟩
theorem Zjf(x:BitVec 32)(w:World):
  Calls prog 280 #[.int .u32 (uv x),.int .i64 6] w fun e w'=>e=.returned (.int .u32 (uv (QN x 6)))/\w=w':=by
 go_enter func280,ntmps280
 go_wp2_with (go_at_call 281;refine(Zj8 x _).mono ?_;rintro e w' ⟨rfl,rfl⟩)
 go_ret
 exact⟨rfl,rfl⟩
theorem ZhY(x:BitVec 32)(w:World):
  Calls prog 281 #[.int .u32 (uv x),.int .i64 (-11)] w fun e w'=>e=.returned (.int .u32 (uv (QN x 11)))/\w=w':=by
 have x0:=ZM x
 have x1:=ZL x
 have e1:bits BinOp.and IntKind.u64 (IntKind.u64.wrap (-11)) 31=21:=by decide
 go_enter func281,ntmps281
 go_wp2
 go_ret
 exact⟨Z04 (Xy (XT x 11)),rfl⟩
theorem Zim(x:BitVec 32)(w:World):
  Calls prog 280 #[.int .u32 (uv x),.int .i64 11] w fun e w'=>e=.returned (.int .u32 (uv (QN x 11)))/\w=w':=by
 go_enter func280,ntmps280
 go_wp2_with (go_at_call 281;refine(ZhY x _).mono ?_;rintro e w' ⟨rfl,rfl⟩)
 go_ret
 exact⟨rfl,rfl⟩
theorem Zi4(x:BitVec 32)(w:World):
  Calls prog 281 #[.int .u32 (uv x),.int .i64 (-25)] w fun e w'=>e=.returned (.int .u32 (uv (QN x 25)))/\w=w':=by
 have x0:=ZM x
 have x1:=ZL x
 have e1:bits BinOp.and IntKind.u64 (IntKind.u64.wrap (-25)) 31=7:=by decide
 go_enter func281,ntmps281
 go_wp2
 go_ret
 exact⟨Z04 (Xy (XT x 25)),rfl⟩
theorem Zis(x:BitVec 32)(w:World):
  Calls prog 280 #[.int .u32 (uv x),.int .i64 25] w fun e w'=>e=.returned (.int .u32 (uv (QN x 25)))/\w=w':=by
 go_enter func280,ntmps280
 go_wp2_with (go_at_call 281;refine(Zi4 x _).mono ?_;rintro e w' ⟨rfl,rfl⟩)
 go_ret
 exact⟨rfl,rfl⟩
theorem Zj7(x:BitVec 32)(w:World):
  Calls prog 281 #[.int .u32 (uv x),.int .i64 (-2)] w fun e w'=>e=.returned (.int .u32 (uv (QN x 2)))/\w=w':=by
 have x0:=ZM x
 have x1:=ZL x
 have e1:bits BinOp.and IntKind.u64 (IntKind.u64.wrap (-2)) 31=30:=by decide
 go_enter func281,ntmps281
 go_wp2
 go_ret
 exact⟨Z04 (Xy (XT x 2)),rfl⟩
theorem Zje(x:BitVec 32)(w:World):
  Calls prog 280 #[.int .u32 (uv x),.int .i64 2] w fun e w'=>e=.returned (.int .u32 (uv (QN x 2)))/\w=w':=by
 go_enter func280,ntmps280
 go_wp2_with (go_at_call 281;refine(Zj7 x _).mono ?_;rintro e w' ⟨rfl,rfl⟩)
 go_ret
 exact⟨rfl,rfl⟩
theorem ZhZ(x:BitVec 32)(w:World):
  Calls prog 281 #[.int .u32 (uv x),.int .i64 (-13)] w fun e w'=>e=.returned (.int .u32 (uv (QN x 13)))/\w=w':=by
 have x0:=ZM x
 have x1:=ZL x
 have e1:bits BinOp.and IntKind.u64 (IntKind.u64.wrap (-13)) 31=19:=by decide
 go_enter func281,ntmps281
 go_wp2
 go_ret
 exact⟨Z04 (Xy (XT x 13)),rfl⟩
theorem Zin(x:BitVec 32)(w:World):
  Calls prog 280 #[.int .u32 (uv x),.int .i64 13] w fun e w'=>e=.returned (.int .u32 (uv (QN x 13)))/\w=w':=by
 go_enter func280,ntmps280
 go_wp2_with (go_at_call 281;refine(ZhZ x _).mono ?_;rintro e w' ⟨rfl,rfl⟩)
 go_ret
 exact⟨rfl,rfl⟩
theorem Zi3(x:BitVec 32)(w:World):
  Calls prog 281 #[.int .u32 (uv x),.int .i64 (-22)] w fun e w'=>e=.returned (.int .u32 (uv (QN x 22)))/\w=w':=by
 have x0:=ZM x
 have x1:=ZL x
 have e1:bits BinOp.and IntKind.u64 (IntKind.u64.wrap (-22)) 31=10:=by decide
 go_enter func281,ntmps281
 go_wp2
 go_ret
 exact⟨Z04 (Xy (XT x 22)),rfl⟩
theorem Zir(x:BitVec 32)(w:World):
  Calls prog 280 #[.int .u32 (uv x),.int .i64 22] w fun e w'=>e=.returned (.int .u32 (uv (QN x 22)))/\w=w':=by
 go_enter func280,ntmps280
 go_wp2_with (go_at_call 281;refine(Zi3 x _).mono ?_;rintro e w' ⟨rfl,rfl⟩)
 go_ret
 exact⟨rfl,rfl⟩
def XH(n:Nat):Code->Option Code
 |.region k ops d=>if k=n then some (.region k ops d) else none
 |.loop c=>XH n c
 |.seq a b=>match XH n a with
  |some c=>some c
  |none=>XH n b
 |.block _ c=>XH n c
 |.scope c=>XH n c
 |.cond _ a b=>match XH n a with
  |some c=>some c
  |none=>XH n b
 |_=>none
def Qe(l:List (BitVec 32)):List Value:=l.map fun x=>.int .u32 (uv x)
theorem YF(l:List (BitVec 32)):(Qe l).length=l.length:=by simp[Qe]
theorem Wu(l:List (BitVec 32))(j:Nat)(h:j<l.length):(Qe l)[j]? =some (.int .u32 (uv (l.getD j 0#32))):=by
 rw[ZjE,ZjF h]
 simp[Qe,h]
theorem Z6Q(l:List (BitVec 32))(j:Nat)(x:BitVec 32):(Qe l).set j (.int .u32 (uv x))=Qe (l.set j x):=by simp[Qe,List.map_set]
def ZfO:List Nat:=[1116352408,1899447441,3049323471,3921009573,961987163,1508970993,2453635748,2870763221,3624381080,310598401,607225278,1426881987,1925078388,2162078206,2614888103,3248222580,3835390401,4022224774,264347078,604807628,770255983,1249150122,1555081692,1996064986,2554220882,2821834349,2952996808,3210313671,3336571891,3584528711,113926993,338241895,666307205,773529912,1294757372,1396182291,1695183700,1986661051,2177026350,2456956037,2730485921,2820302411,3259730800,3345764771,3516065817,3600352804,4094571909,275423344,430227734,506948616,659060556,883997877,958139571,1322822218,1537002063,1747873779,1955562222,2024104815,2227730452,2361852424,2428436474,2756734187,3204031479,3329325298]
def Z2s:List (BitVec 32):=ZfO.map (BitVec.ofNat 32)
theorem ZaP:Z2s.length=64:=rfl
def Z00:Array Value:= #[.int .u32 1116352408,.int .u32 1899447441,.int .u32 3049323471,.int .u32 3921009573,.int .u32 961987163,.int .u32 1508970993,.int .u32 2453635748,.int .u32 2870763221,.int .u32 3624381080,.int .u32 310598401,.int .u32 607225278,.int .u32 1426881987,.int .u32 1925078388,.int .u32 2162078206,.int .u32 2614888103,.int .u32 3248222580,.int .u32 3835390401,.int .u32 4022224774,.int .u32 264347078,.int .u32 604807628,.int .u32 770255983,.int .u32 1249150122,.int .u32 1555081692,.int .u32 1996064986,.int .u32 2554220882,.int .u32 2821834349,.int .u32 2952996808,.int .u32 3210313671,.int .u32 3336571891,.int .u32 3584528711,.int .u32 113926993,.int .u32 338241895,.int .u32 666307205,.int .u32 773529912,.int .u32 1294757372,.int .u32 1396182291,.int .u32 1695183700,.int .u32 1986661051,.int .u32 2177026350,.int .u32 2456956037,.int .u32 2730485921,.int .u32 2820302411,.int .u32 3259730800,.int .u32 3345764771,.int .u32 3516065817,.int .u32 3600352804,.int .u32 4094571909,.int .u32 275423344,.int .u32 430227734,.int .u32 506948616,.int .u32 659060556,.int .u32 883997877,.int .u32 958139571,.int .u32 1322822218,.int .u32 1537002063,.int .u32 1747873779,.int .u32 1955562222,.int .u32 2024104815,.int .u32 2227730452,.int .u32 2361852424,.int .u32 2428436474,.int .u32 2756734187,.int .u32 3204031479,.int .u32 3329325298]
theorem ZhE:∀n∈ZfO,n<4294967296:=by decide
theorem ZhD:Z00.toList=Qe Z2s:=by
 have h:Z00.toList=ZfO.map fun(n:Nat)=>Value.int .u32 (n:Int):=rfl
 rw[h,Qe,Z2s,List.map_map]
 refine List.map_congr_left fun n hn=> ?_
 show Value.int .u32 (n:Int)=.int .u32 (uv (BitVec.ofNat 32 n))
 rw[Z8w (ZhE n hn)]
def Z26:Array Value:= #[.int .u32 0,.int .u32 0,.int .u32 0,.int .u32 0,.int .u32 0,.int .u32 0,.int .u32 0,.int .u32 0,.int .u32 0,.int .u32 0,.int .u32 0,.int .u32 0,.int .u32 0,.int .u32 0,.int .u32 0,.int .u32 0,.int .u32 0,.int .u32 0,.int .u32 0,.int .u32 0,.int .u32 0,.int .u32 0,.int .u32 0,.int .u32 0,.int .u32 0,.int .u32 0,.int .u32 0,.int .u32 0,.int .u32 0,.int .u32 0,.int .u32 0,.int .u32 0,.int .u32 0,.int .u32 0,.int .u32 0,.int .u32 0,.int .u32 0,.int .u32 0,.int .u32 0,.int .u32 0,.int .u32 0,.int .u32 0,.int .u32 0,.int .u32 0,.int .u32 0,.int .u32 0,.int .u32 0,.int .u32 0,.int .u32 0,.int .u32 0,.int .u32 0,.int .u32 0,.int .u32 0,.int .u32 0,.int .u32 0,.int .u32 0,.int .u32 0,.int .u32 0,.int .u32 0,.int .u32 0,.int .u32 0,.int .u32 0,.int .u32 0,.int .u32 0]
theorem ZiF:Z26.toList=Qe (List.replicate 64 0#32):=by
 have h:Z26.toList=List.replicate 64 (Value.int .u32 0):=rfl
 have z:uv 0#32=0:=by rw[QE];rfl
 rw[h,Qe,List.map_replicate,z]
noncomputable def Zg0:Code:=(Tryz.f275.body.bind (XH 1)).getD .skip
noncomputable def Zg1:Code:=(Tryz.f275.body.bind (XH 3)).getD .skip
theorem Z4U(w:World)(cs ae:Array Value)(t:TypeId)(fr:Nat×Nat):(w.alloc (.cells cs t fr)).setRow w.heap.size ae=w.alloc (.cells ae t fr):=by
 unfold World.setRow World.alloc
 congr 1
 apply Array.ext
 ·simp
 ·intro i h1 h2
  simp only[Array.getElem_modify,Array.getElem_push]
  simp at h1
  by_cases h:w.heap.size=i
  ·subst h;simp
  ·rw[if_neg h];simp[show i<w.heap.size by omega]
set_option maxRecDepth 1000000 in
theorem Zg2(w:World)(K:Act->World->Prop)(Q:Exit->Act->World->Prop)
  (c0 c1 c2 c3 c4 c5 c6 c7 c8 c9 ku kx ky kz l7 l9 ld lh lj lk lq lr lu ly lz ma qv mb me mf mg mh mi mj mm mn mo mq mu mw mx my mz n9 nf nh nj nr nt nu ny nz o4 o5 o7 oc od oe og oh oi oj om oo oq c65 c66 c67 c68 ot ou ov ow oy oz p5 p6 p8 p9 pj pq pr pt px py qb qd qe qg qh qj qk ql qm qn qo qp qs qt qu ae af ag ah ai aj ak al aq au aw ax ay az b9 bf bg bh bj bm bq bu bz cj cn cr ct cu cw cy cz dc de df dh dj dm dp dq dr dt du dw dx dy dz ee ef eh ek eo er eu ew ey ez fa fc fe ff fg fh fi fj fm fo fp fq ft fu fw fx fy gj gx gy ia ib ic ie ig ij ik im iq ir iu iw ix iy iz j7 j8 j9 ja jb jc jd je jg jh ji jk jl jm jo jq jr js jt ju jw jx jy jz ke kf kg kh kj km kq kt:Value)
  (hK:K ⟨(List.toArray (c0::c1::c2::c3:: .pointer (some ⟨w.heap.size,0,none⟩)::c5::c6::c7::c8::c9::ku::kx::ky::kz::l7::l9::ld::lh::lj::lk::lq::lr::lu::ly::lz::ma:: .agg Z00::mb::me::mf::mg::mh::mi::mj::mm::mn::mo::mq::mu::mw::mx::my::mz::n9::nf::nh::nj::nr::nt::nu::ny::nz::o4::o5::o7::oc::od::oe::og::oh::oi::oj::om::oo::oq::c65::c66::c67::c68::ot::ou::ov::ow::oy::oz::p5::p6::p8::p9::pj::pq::pr::pt::px::py::qb::qd::qe::qg::qh::qj::qk::ql::qm::qn::qo::qp::qs::qt::qu::ae::af::ag::ah::ai::aj::ak::al::aq::au::aw::ax::ay::az::b9::bf::bg::bh::bj::bm::bq::bu::bz::cj::cn::cr::ct::cu::cw::cy::cz::dc::de::df::dh::dj::dm::dp::dq::dr::dt::du::dw::dx::dy::dz::ee::ef::eh::ek::eo::er::eu::ew::ey::ez::fa::fc::fe::ff::fg::fh::fi::fj::fm::fo::fp::fq::ft::fu::fw::fx::fy::gj::gx::gy::ia::ib::ic::ie::ig::ij::ik::im::iq::ir::iu::iw::ix::iy::iz::j7::j8::j9::ja::jb::jc::jd::je::jg::jh::ji::jk::jl::jm::jo::jq::jr::js::jt::ju::jw::jx::jy::jz::ke::kf::kg::kh::kj::km::kq::kt::[])),[]⟩ (w.alloc (.cells Z00 352))):
  Code.wp prog Zg0 (Exit.then K Q) ⟨(List.toArray (c0::c1::c2::c3::c4::c5::c6::c7::c8::c9::ku::kx::ky::kz::l7::l9::ld::lh::lj::lk::lq::lr::lu::ly::lz::ma::qv::mb::me::mf::mg::mh::mi::mj::mm::mn::mo::mq::mu::mw::mx::my::mz::n9::nf::nh::nj::nr::nt::nu::ny::nz::o4::o5::o7::oc::od::oe::og::oh::oi::oj::om::oo::oq::c65::c66::c67::c68::ot::ou::ov::ow::oy::oz::p5::p6::p8::p9::pj::pq::pr::pt::px::py::qb::qd::qe::qg::qh::qj::qk::ql::qm::qn::qo::qp::qs::qt::qu::ae::af::ag::ah::ai::aj::ak::al::aq::au::aw::ax::ay::az::b9::bf::bg::bh::bj::bm::bq::bu::bz::cj::cn::cr::ct::cu::cw::cy::cz::dc::de::df::dh::dj::dm::dp::dq::dr::dt::du::dw::dx::dy::dz::ee::ef::eh::ek::eo::er::eu::ew::ey::ez::fa::fc::fe::ff::fg::fh::fi::fj::fm::fo::fp::fq::ft::fu::fw::fx::fy::gj::gx::gy::ia::ib::ic::ie::ig::ij::ik::im::iq::ir::iu::iw::ix::iy::iz::j7::j8::j9::ja::jb::jc::jd::je::jg::jh::ji::jk::jl::jm::jo::jq::jr::js::jt::ju::jw::jx::jy::jz::ke::kf::kg::kh::kj::km::kq::kt::[])),[]⟩ w:=by
 have HK:=Zka hK
 clear hK
 conv=>arg 2;whnf
 refine wp_region_list ?_
 refine wpList_build rfl _ _ rfl (by kernel_rfl) ?_
 refine Eq.mpr (congrArg (fun x=>wpList _ _ _ _ (Act.put _ _ (Value.agg x)) _) (show _=Z00 from by kernel_rfl)) ?_
 refine Z3K (w':=w.alloc (.cells Z26 352)) (v:=.pointer (some ⟨w.heap.size,0,none⟩)) rfl (by kernel_rfl) ?_
 refine wpList_store_row rfl _ _ _ rfl w.heap.size Z00 rfl rfl 352 Z26 (heap_alloc_new w _) (by kernel_rfl) rfl (by kernel_rfl) ?_
 rw[Z4U]
 refine wpList_nil ?_
 exact HK.out
set_option maxRecDepth 1000000 in
theorem Zg3(w:World)(K:Act->World->Prop)(Q:Exit->Act->World->Prop)
  (c0 c1 c2 c3 c4 c5 c6 c7 c8 c9 ku kx ky kz l7 l9 ld lh lj lk lq lr lu ly lz ma mb me mf mg mh mi mj mm mn mo mq mu mw mx my mz n9 nf nh nj nr nt nu ny nz o4 o5 o7 oc od oe og oh oi oj om oo oq ot c65 c66 c67 c68 ou ov ow oy oz p5 p6 p8 p9 pj pq pr pt px py qb qd qe qg qh qj qk ql qm qn qo qp qs qt qu qv ae af ag ah ai aj ak al aq au aw ax ay az b9 bf bg bh bj bm bq bu bz cj cn cr ct cu cw cy cz dc de df dh dj dm dp dq dr dt du dw dx dy dz ee ef eh ek eo er eu ew ey ez fa fc fe ff fg fh fi fj fm fo fp fq ft fu fw fx fy gj gx gy ia ib ic ie ig ij ik im iq ir iu iw ix iy iz j7 j8 j9 ja jb jc jd je jg jh ji jk jl jm jo jq jr js jt ju jw jx jy jz ke kf kg kh kj km kq kt:Value)
  (hK:K ⟨(List.toArray (c0::c1::c2::c3::c4::c5:: .pointer (some ⟨w.heap.size,0,none⟩)::c7::c8::c9::ku::kx::ky::kz::l7::l9::ld::lh::lj::lk::lq::lr::lu::ly::lz::ma::mb::me::mf::mg::mh::mi::mj::mm::mn::mo::mq::mu::mw::mx::my::mz::n9::nf::nh::nj::nr::nt::nu::ny::nz::o4::o5::o7::oc::od::oe::og::oh::oi::oj::om::oo::oq::ot::c65::c66::c67::c68::ou::ov::ow::oy::oz::p5::p6::p8::p9::pj::pq::pr::pt::px::py::qb::qd::qe::qg::qh::qj::qk::ql::qm::qn::qo::qp::qs::qt::qu::qv::ae::af::ag::ah::ai::aj::ak::al::aq::au::aw::ax::ay::az::b9::bf::bg::bh::bj::bm::bq::bu::bz::cj::cn::cr::ct::cu::cw::cy::cz::dc::de::df::dh::dj::dm::dp::dq::dr::dt::du::dw::dx::dy::dz::ee::ef::eh::ek::eo::er::eu::ew::ey::ez::fa::fc::fe::ff::fg::fh::fi::fj::fm::fo::fp::fq::ft::fu::fw::fx::fy::gj::gx::gy::ia::ib::ic::ie::ig::ij::ik::im::iq::ir::iu::iw::ix::iy::iz::j7::j8::j9::ja::jb::jc::jd::je::jg::jh::ji::jk::jl::jm::jo::jq::jr::js::jt::ju::jw::jx::jy::jz::ke::kf::kg::kh::kj::km::kq::kt::[])),[]⟩ (w.alloc (.cells Z26 352))):
  Code.wp prog Zg1 (Exit.then K Q) ⟨(List.toArray (c0::c1::c2::c3::c4::c5::c6::c7::c8::c9::ku::kx::ky::kz::l7::l9::ld::lh::lj::lk::lq::lr::lu::ly::lz::ma::mb::me::mf::mg::mh::mi::mj::mm::mn::mo::mq::mu::mw::mx::my::mz::n9::nf::nh::nj::nr::nt::nu::ny::nz::o4::o5::o7::oc::od::oe::og::oh::oi::oj::om::oo::oq::ot::c65::c66::c67::c68::ou::ov::ow::oy::oz::p5::p6::p8::p9::pj::pq::pr::pt::px::py::qb::qd::qe::qg::qh::qj::qk::ql::qm::qn::qo::qp::qs::qt::qu::qv::ae::af::ag::ah::ai::aj::ak::al::aq::au::aw::ax::ay::az::b9::bf::bg::bh::bj::bm::bq::bu::bz::cj::cn::cr::ct::cu::cw::cy::cz::dc::de::df::dh::dj::dm::dp::dq::dr::dt::du::dw::dx::dy::dz::ee::ef::eh::ek::eo::er::eu::ew::ey::ez::fa::fc::fe::ff::fg::fh::fi::fj::fm::fo::fp::fq::ft::fu::fw::fx::fy::gj::gx::gy::ia::ib::ic::ie::ig::ij::ik::im::iq::ir::iu::iw::ix::iy::iz::j7::j8::j9::ja::jb::jc::jd::je::jg::jh::ji::jk::jl::jm::jo::jq::jr::js::jt::ju::jw::jx::jy::jz::ke::kf::kg::kh::kj::km::kq::kt::[])),[]⟩ w:=by
 have HK:=Zka hK
 clear hK
 conv=>arg 2;whnf
 try simp only[List.append_eq,List.cons_append,List.nil_append]
 go_wp2
 exact HK.out
end
section
open Go.RowKit
variable{g:Nat}{st:List (BitVec 32)}{w w':World}
structure YH(w:World)(g:Nat)(st:List (BitVec 32)):Prop where
 len:st.length=8
 lt:g<w.heap.size
 cell:∀j,j<8->w.cell? ⟨g,j,none⟩=some (.int .u32 (uv (st.getD j 0#32)))
 free:∀j,j<8->w.frozen? ⟨g,j,none⟩=false
theorem YH.after(h:YH w g st)(hb:Below w.heap.size w w'):YH w' g st:=
 ⟨h.len,Zk0 h.lt hb.size,fun j hj=>(hb.cell (p:=⟨g,j,none⟩) h.lt).trans (h.cell j hj),fun j hj=>(hb.frozen (p:=⟨g,j,none⟩) h.lt).trans (h.free j hj)⟩
def be4(l:List UInt8)(i:Nat):BitVec 32:=BitVec.ofNat 32 (YI (l.drop (4*i)))
def Z6T(blk:List UInt8)(ws:List (BitVec 32))(i:Nat):BitVec 32:=
 if i<16 then be4 blk i else
  ws.getD (i-16) 0#32+(QN (ws.getD (i-15) 0#32) 7^^^QN (ws.getD (i-15) 0#32) 18^^^(ws.getD (i-15) 0#32>>>3))+ws.getD (i-7) 0#32+(QN (ws.getD (i-2) 0#32) 17^^^QN (ws.getD (i-2) 0#32) 19^^^(ws.getD (i-2) 0#32>>>10))
def wl(blk:List UInt8):Nat->List (BitVec 32)
 |0=>List.replicate 64 0#32
 |i+1=>(wl blk i).set i (Z6T blk (wl blk i) i)
theorem Z0d(ae:List UInt8)(i:Nat):(wl ae i).length=64:=by
 induction i with
 |zero=>simp[wl]
 |succ i ih=>simp[wl,ih]
theorem Zdv:prog.arrayLen 346=64:=by kernel_rfl
theorem Zh8:prog.elem 346=5:=by kernel_rfl
theorem Z6K(b o l:Nat)(hl:l<64)(W:World):(Instr.sliceAt 346 (.pointer (some ⟨b,o,none⟩)) (some (.int .i64 (l:Int))) none none).run prog W=.ok (.slice (some ⟨b,o+l,none⟩) (64-l) (64-l)) W:=by
 have ht:prog.underlying 346=some (.array (prog.arrayLen 346) (prog.elem 346)):=by kernel_rfl
 rw[run_sliceAt_array_l W _ _ ht .i64 (l:Int) (by omega) (by rw[Zdv];omega),Zh8,Zdv]
 have hz:(sizeOf 5).run prog W=.ok 1 W:=Tryz.sizeOf5 W
 rw[hz]
 simp only[Result.andThen,slicedAt,Int.toNat_natCast,Nat.mul_one]
 rw[if_neg (by omega)]
 have e1:(⟨b,o,none⟩:Addr).add l=⟨b,o+l,none⟩:=by unfold Addr.add;split<;>simp_all
 rw[e1]
theorem ZcL(a b c d:Nat)(ha:a<256)(hb:b<256)(hc:c<256)(hd:d<256):
  IntKind.u32.wrap (a:Int)=(a:Int)/\IntKind.u32.wrap (b:Int)=(b:Int)/\IntKind.u32.wrap (c:Int)=(c:Int)/\IntKind.u32.wrap (d:Int)=(d:Int)/\
  IntKind.u32.wrap ((a:Int)*16777216)=(a:Int)*16777216/\IntKind.u32.wrap ((b:Int)*65536)=(b:Int)*65536/\IntKind.u32.wrap ((c:Int)*256)=(c:Int)*256/\
  bits .or .u32 ((a:Int)*16777216) ((b:Int)*65536)=(a:Int)*16777216+(b:Int)*65536/\
  bits .or .u32 ((a:Int)*16777216+(b:Int)*65536) ((c:Int)*256)=(a:Int)*16777216+(b:Int)*65536+(c:Int)*256/\
  bits .or .u32 ((a:Int)*16777216+(b:Int)*65536+(c:Int)*256) (d:Int)=(a:Int)*16777216+(b:Int)*65536+(c:Int)*256+d:=by
 have ae:∀n:Nat,n<4294967296->IntKind.u32.wrap (n:Int)=(n:Int):=fun n hn=>by
  have:=IntKind.wrap_u32' (n:Int)
  omega
 have af:∀ (k x y:Nat),y<2^k->x*2^k<4294967296->y<4294967296->bits .or .u32 ((x*2^k:Nat):Int) (y:Int)=((x*2^k+y:Nat):Int):=fun k x y h1 h2 h3=>by
  rw[u32_or_nat _ _ h2 h3,<-Nat.shiftLeft_eq,Nat.shiftLeft_add_eq_or_of_lt h1]
 have e1:=ae (a*16777216) (by omega)
 have e2:=ae (b*65536) (by omega)
 have e3:=ae (c*256) (by omega)
 refine⟨ae a (by omega),ae b (by omega),ae c (by omega),ae d (by omega),by simpa using e1,by simpa using e2,by simpa using e3,?_,?_,?_⟩
 ·have:=af 24 a (b*65536) (by omega) (by omega) (by omega)
  simpa using this
 ·have:=af 16 (a*256+b) (c*256) (by omega) (by omega) (by omega)
  have e:((a*256+b)*2^16:Nat)=a*16777216+b*65536:=by omega
  rw[e] at this
  simpa using this
 ·have:=af 8 (a*65536+b*256+c) d (by omega) (by omega) (by omega)
  have e:((a*65536+b*256+c)*2^8:Nat)=a*16777216+b*65536+c*256:=by omega
  rw[e] at this
  simpa using this
theorem Z5k{P:Program}{f:FuncId}{args:Array Value}{v:Value}(h:Calls P f args w fun e w'=>e=.returned v/\w=w'):Calls P f args w fun e w'=>e=.returned v/\w'=w:=
 h.mono fun _ _ ⟨he,hw⟩=>⟨he,hw.symm⟩
theorem XX(x y:BitVec 32):IntKind.u32.wrap (uv x+uv y)=uv (x+y):=by
 rw[<-Z0z]
 have:=IntKind.wrap_u32' (uv x+uv y)
 omega
structure R8 where
 a:BitVec 32
 b:BitVec 32
 c:BitVec 32
 d:BitVec 32
 e:BitVec 32
 f:BitVec 32
 g:BitVec 32
 h:BitVec 32
def R8.t(r:R8)(K W:BitVec 32):BitVec 32:=r.h+(QN r.e 6^^^QN r.e 11^^^QN r.e 25)+((r.e&&&r.f)^^^(~~~ r.e&&&r.g))+K+W
def R8.u(r:R8):BitVec 32:=(QN r.a 2^^^QN r.a 13^^^QN r.a 22)+((r.a&&&r.b)^^^(r.a&&&r.c)^^^(r.b&&&r.c))
def R8.next(r:R8)(K W:BitVec 32):R8:=⟨r.t K W+r.u,r.a,r.b,r.c,r.d+r.t K W,r.e,r.f,r.g⟩
def R8.of(st:List (BitVec 32)):R8:=⟨st.getD 0 0#32,st.getD 1 0#32,st.getD 2 0#32,st.getD 3 0#32,st.getD 4 0#32,st.getD 5 0#32,st.getD 6 0#32,st.getD 7 0#32⟩
def R8.list(r:R8):List (BitVec 32):=[r.a,r.b,r.c,r.d,r.e,r.f,r.g,r.h]
def Z7i(blk:List UInt8)(st:List (BitVec 32)):Nat->R8
 |0=>R8.of st
 |i+1=>(Z7i blk st i).next (Z2s.getD i 0#32) ((wl blk 64).getD i 0#32)
def mixed(st:List (BitVec 32))(blk:List UInt8):List (BitVec 32):=List.zipWith (·+·) st (Z7i blk st 64).list
section
variable{P:Program}
theorem Z5n{ops:Array Oper}{rest:List Oper}{o:Oper}{a:Act}{Q:Exit->Act->World->Prop}(aq:o.guard=none)(d s:Operand)(dT sT:TypeId)
  (ho:o.op=.call {callee:=.builtin .copy,args:= #[d,s],argTypes:= #[dT,sT]}) (elem:TypeId) (hu:P.underlying dT=some (.slice elem)) (au:(P.info? elem).map (·.size)=some 1)
  (g off ae ag gs os af aj:Nat) (hd:a.eval d=.slice (some ⟨g,off,none⟩) ae ag) (hs:a.eval s=.slice (some ⟨gs,os,none⟩) af aj) (t:TypeId) (L ys:List Value)
  (ah:ZC w g t L) (hn:ys.length=Nat.min af ae) (ak:off+ys.length<=L.length) (al:∀j v,ys[j]? =some v->w.cell? ⟨gs,os+j,none⟩=some v) (h1:∀v∈ys,v.oneCell'=true)
  (h:∀w',ZC w' g t (L.take off++ys++L.drop (off+ys.length))->Fr [g] w w'->wpList P ops Q rest (a.put o.dst (goInt ys.length)) w'):wpList P ops Q (o::rest) a w:=by
 refine wpList_plain aq fun K hK=> ?_
 have ai:=run_copy_row (P:=P) w dT sT o.type elem g off ae ag ⟨gs,os,none⟩ af aj L.toArray t ys hu au ah hn
  (fun j v hj=>by
   have e1:(⟨gs,os,none⟩:Addr).add j=⟨gs,os+j,none⟩:=by unfold Addr.add;split<;>simp_all
   rw[e1];exact al j v hj)
  (by simpa using ak) h1
 simp only[List.toList_toArray] at ai
 have hr:=ah.setRow (L.take off++ys++L.drop (off+ys.length))
 have hF:=(Fr.refl [g] w).setRow (g:=g) (Or.inl (by simp)) (L.take off++ys++L.drop (off+ys.length)).toArray
 have h9:=h _ hr hF
 unfold Oper.wp execOp
 simp only[ho,resolve,invoke,builtin,Sem.run_bind,Sem.run_pure,Result.andThen_ok,List.map_toArray,ZjY,List.map_nil,hd,hs,ai]
 exact hK _ _ h9
end
theorem Z6P(l:List (BitVec 32)):∀v∈Qe l,v.oneCell'=true:=by
 intro v hv
 unfold Qe at hv
 obtain⟨x,_,rfl⟩:=List.mem_map.1 hv
 rfl
theorem YH.news(h:YH w g st):∀j v,(Qe st)[j]? =some v->w.cell? ⟨g,0+j,none⟩=some v:=fun j v hj=>by
 have ae:j<st.length:=by
  have:=(List.getElem?_eq_some_iff.1 hj).1
  rwa[YF] at this
 rw[Wu st j ae] at hj
 rw[Nat.zero_add,h.cell j (by have:=h.len;omega)]
 exact hj
theorem YH.fr(h:YH w g st){L:List Nat}(hf:Fr L w w')(hg:g∉L):YH w' g st:=
 have hb:=hf.block g h.lt hg
 ⟨h.len,Zk0 h.lt hf.size,fun j hj=>by rw[<-h.cell j hj];simp[World.cell?,hb],fun j hj=>by rw[<-h.free j hj];simp[World.frozen?,hb]⟩
theorem Z9K(a b c d e f g h:Value)(W:World):(Instr.index 354 (.agg #[a,b,c,d,e,f,g,h]) (.int .i64 0)).run prog W=.ok a W:=by kernel_rfl
theorem Z9L(a b c d e f g h:Value)(W:World):(Instr.index 354 (.agg #[a,b,c,d,e,f,g,h]) (.int .i64 1)).run prog W=.ok b W:=by kernel_rfl
theorem Z9M(a b c d e f g h:Value)(W:World):(Instr.index 354 (.agg #[a,b,c,d,e,f,g,h]) (.int .i64 2)).run prog W=.ok c W:=by kernel_rfl
theorem Z9N(a b c d e f g h:Value)(W:World):(Instr.index 354 (.agg #[a,b,c,d,e,f,g,h]) (.int .i64 3)).run prog W=.ok d W:=by kernel_rfl
theorem Z9O(a b c d e f g h:Value)(W:World):(Instr.index 354 (.agg #[a,b,c,d,e,f,g,h]) (.int .i64 4)).run prog W=.ok e W:=by kernel_rfl
theorem Z9P(a b c d e f g h:Value)(W:World):(Instr.index 354 (.agg #[a,b,c,d,e,f,g,h]) (.int .i64 5)).run prog W=.ok f W:=by kernel_rfl
theorem Z9Q(a b c d e f g h:Value)(W:World):(Instr.index 354 (.agg #[a,b,c,d,e,f,g,h]) (.int .i64 6)).run prog W=.ok g W:=by kernel_rfl
theorem Z9R(a b c d e f g h:Value)(W:World):(Instr.index 354 (.agg #[a,b,c,d,e,f,g,h]) (.int .i64 7)).run prog W=.ok h W:=by kernel_rfl
theorem ZcZ(r:R8)(k:Nat)(hk:k<8)(W:World):(Instr.index 354 (.agg #[.int .u32 (uv r.a),.int .u32 (uv r.b),.int .u32 (uv r.c),.int .u32 (uv r.d),.int .u32 (uv r.e),.int .u32 (uv r.f),.int .u32 (uv r.g),.int .u32 (uv r.h)]) (.int .i64 (k:Int))).run prog W=.ok (.int .u32 (uv (r.list.getD k 0#32))) W:=by
 have h:k=0∨k=1∨k=2∨k=3∨k=4∨k=5∨k=6∨k=7:=by omega
 clear hk
 rcases h with rfl|rfl|rfl|rfl|rfl|rfl|rfl|rfl
 ·exact Z9K _ _ _ _ _ _ _ _ W
 ·exact Z9L _ _ _ _ _ _ _ _ W
 ·exact Z9M _ _ _ _ _ _ _ _ W
 ·exact Z9N _ _ _ _ _ _ _ _ W
 ·exact Z9O _ _ _ _ _ _ _ _ W
 ·exact Z9P _ _ _ _ _ _ _ _ W
 ·exact Z9Q _ _ _ _ _ _ _ _ W
 ·exact Z9R _ _ _ _ _ _ _ _ W
def Z2t(st rl:List (BitVec 32))(k:Nat):List (BitVec 32):=(List.range 8).map fun j=>if j<k then st.getD j 0#32+rl.getD j 0#32 else st.getD j 0#32
theorem ZaR(st rl:List (BitVec 32))(k:Nat):(Z2t st rl k).length=8:=by simp[Z2t]
theorem Z3p(st rl:List (BitVec 32))(k j:Nat)(hj:j<8):(Z2t st rl k).getD j 0#32=if j<k then st.getD j 0#32+rl.getD j 0#32 else st.getD j 0#32:=by
 unfold Z2t
 rw[ZjE,List.getElem?_map,List.getElem?_range hj];rfl
theorem ZiW(st:List (BitVec 32))(r:R8)(h:st.length=8):Z2t st r.list 8=List.zipWith (·+·) st r.list:=by
 match st,h with
 |[s0,s1,s2,s3,s4,s5,s6,s7],_=>rfl
theorem ZiV(st rl:List (BitVec 32))(h:st.length=8):Z2t st rl 0=st:=by
 match st,h with
 |[s0,s1,s2,s3,s4,s5,s6,s7],_=>rfl
theorem YH.step{rl:List (BitVec 32)}{k:Nat}(h:YH w g (Z2t st rl k))(hk:k<8):YH (w.setCell ⟨g,k,none⟩ (.int .u32 (uv (st.getD k 0#32+rl.getD k 0#32)))) g (Z2t st rl (k+1)):=by
 refine⟨ZaR _ _ _,by simpa[World.setCell] using h.lt,fun j hj=> ?_,fun j hj=> ?_⟩
 ·by_cases e:j=k
  ·subst e
   have h0:=h.cell j hj
   rw[Z3p _ _ _ _ hj,if_pos (by omega)]
   exact World.cell?_setCell_same' _ _ _ (by rw[h0];rfl)
  ·rw[World.cell?_setCell_other _ _ _ _ (fun x=>e (by injection x with _ x;exact x.symm)),h.cell j hj,Z3p _ _ _ _ hj,Z3p _ _ _ _ hj]
   by_cases ae:j<k
   ·rw[if_pos ae,if_pos (by omega)]
   ·rw[if_neg ae,if_neg (by omega)]
 ·rw[World.frozen?_setCell];exact h.free j hj
theorem Ziu:(prog.info? 161).map (·.size)=some 1:=by kernel_rfl
theorem Zgu(b:Nat)(W:World):(Instr.sliceAt 354 (.pointer (some ⟨b,0,none⟩)) none none none).run prog W=.ok (.slice (some ⟨b,0,none⟩) 8 8) W:=by kernel_rfl
end
section
open Go.RowKit
variable{c gs h:Nat}{w w':World}
structure Hs where
 st:List (BitVec 32)
 buf:List UInt8
 many:Nat
 size:Nat
def ZK(gs c:Nat)(H:Hs):List Value:=[.slice (some ⟨gs,0,none⟩) 8 c]++Z3 H.buf++[.int .i64 (H.many:Int),.int .u64 (H.size:Int),.func (.func 275) #[] #[],.bool true]
structure ZD(w:World)(h gs c:Nat)(H:Hs):Prop where
 top:ZC w h 348 (ZK gs c H)
 st:YH w gs H.st
 len:H.buf.length=64
 lt:H.many<=64
 ne:gs≠h
theorem JM{H:Hs}(h:H.buf.length=64):(ZK gs c H).length=69:=by
 simp[ZK,Zh,h]
theorem Z94(gs c:Nat)(H:Hs):(ZK gs c H)[0]? =some (.slice (some ⟨gs,0,none⟩) 8 c):=rfl
theorem Zcz{H:Hs}(h:H.buf.length=64)(j:Nat)(hj:j<64):(ZK gs c H)[j+1]? =some (.int .u8 ((H.buf.getD j 0).toNat:Int)):=by
 unfold ZK
 rw[ZjL,ZjP (by simp),ZjH (by simp[Zh,h,hj])]
 rw[show j+1- [Value.slice (some ⟨gs,0,none⟩) 8 c].length=j from by simp,YR _ _ (by omega),ZjE,ZjF (by omega)];rfl
theorem Z1o{H:Hs}(h:H.buf.length=64)(j:Nat):(ZK gs c H)[65+j]? =[Value.int .i64 (H.many:Int),.int .u64 (H.size:Int),.func (.func 275) #[] #[],.bool true][j]?:=by
 unfold ZK
 rw[ZjP (by simp[Zh,h])]
 congr 1
 simp[Zh,h]
theorem ZD.c0{H:Hs}(k:ZD w h gs c H):w.cell? ⟨h,0,none⟩=some (.slice (some ⟨gs,0,none⟩) 8 c):=k.top.row.cell (Z94 gs c H)
theorem ZD.c65{H:Hs}(k:ZD w h gs c H):w.cell? ⟨h,65,none⟩=some (.int .i64 (H.many:Int)):=k.top.row.cell (Z1o k.len 0)
theorem ZD.c66{H:Hs}(k:ZD w h gs c H):w.cell? ⟨h,66,none⟩=some (.int .u64 (H.size:Int)):=k.top.row.cell (Z1o k.len 1)
theorem ZD.c67{H:Hs}(k:ZD w h gs c H):w.cell? ⟨h,67,none⟩=some (.func (.func 275) #[] #[]):=k.top.row.cell (Z1o k.len 2)
theorem ZD.c68{H:Hs}(k:ZD w h gs c H):w.cell? ⟨h,68,none⟩=some (.bool true):=k.top.row.cell (Z1o k.len 3)
theorem ZD.free{H:Hs}(k:ZD w h gs c H)(j:Nat)(hj:j<69):w.frozen? ⟨h,j,none⟩=false:=k.top.row.free (by rw[JM k.len];exact hj)
theorem ZD.lt_{H:Hs}(k:ZD w h gs c H):h<w.heap.size:=k.top.row.lt
theorem ZD.fr{H:Hs}(k:ZD w h gs c H){L:List Nat}(hf:Fr L w w')(h1:h∉L)(h2:gs∉L):ZD w' h gs c H:=
 ⟨k.top.fr hf h1,k.st.fr hf h2,k.len,k.lt,k.ne⟩
theorem ZD.after{H:Hs}(k:ZD w h gs c H)(hb:Below w.heap.size w w'):ZD w' h gs c H:=k.fr (Fr.of_below (L:=[]) hb) (by simp) (by simp)
theorem Z95{H:Hs}(h:H.buf.length=64)(m:Nat):(ZK gs c H).set 65 (.int .i64 (m:Int))=ZK gs c {H with many:=m}:=by
 unfold ZK
 rw[List.set_append_right _ _ (by simp[Zh,h])]
 congr 1
 simp[Zh,h]
theorem Z96{H:Hs}(h:H.buf.length=64)(m:Nat):(ZK gs c H).set 66 (.int .u64 (m:Int))=ZK gs c {H with size:=m}:=by
 unfold ZK
 rw[List.set_append_right _ _ (by simp[Zh,h])]
 congr 1
 simp[Zh,h]
theorem ZD.setMany{H:Hs}(k:ZD w h gs c H)(m:Nat)(hm:m<=64):ZD (w.setCell ⟨h,65,none⟩ (.int .i64 (m:Int))) h gs c {H with many:=m}:=
 ⟨by rw[<-Z95 k.len];exact k.top.set 65 _,k.st.fr ((Fr.refl [h] w).setCell (Or.inl (by simp)) _) (by simpa using k.ne),k.len,hm,k.ne⟩
theorem ZD.setSize{H:Hs}(k:ZD w h gs c H)(m:Nat):ZD (w.setCell ⟨h,66,none⟩ (.int .u64 (m:Int))) h gs c {H with size:=m}:=
 ⟨by rw[<-Z96 k.len];exact k.top.set 66 _,k.st.fr ((Fr.refl [h] w).setCell (Or.inl (by simp)) _) (by simpa using k.ne),k.len,k.lt,k.ne⟩
def st0:List (BitVec 32):=[0x6a09e667#32,0xbb67ae85#32,0x3c6ef372#32,0xa54ff53a#32,0x510e527f#32,0x9b05688c#32,0x1f83d9ab#32,0x5be0cd19#32]
def hs0:Hs:=⟨st0,List.replicate 64 0,0,0⟩
def Z21:Array Value:= #[.int .u32 1779033703,.int .u32 3144134277,.int .u32 1013904242,.int .u32 2773480762,.int .u32 1359893119,.int .u32 2600822924,.int .u32 528734635,.int .u32 1541459225]
theorem Zb9:Z21.toList=Qe st0:=by
 have h:∀n:Nat,n<4294967296->Value.int .u32 (n:Int)=.int .u32 (uv (BitVec.ofNat 32 n)):=fun n hn=>by rw[Z8w hn]
 have e1:=h 1779033703 (by omega)
 have e2:=h 3144134277 (by omega)
 have e3:=h 1013904242 (by omega)
 have e4:=h 2773480762 (by omega)
 have e5:=h 1359893119 (by omega)
 have e6:=h 2600822924 (by omega)
 have e7:=h 528734635 (by omega)
 have e8:=h 1541459225 (by omega)
 show[Value.int .u32 ((1779033703:Nat):Int),.int .u32 ((3144134277:Nat):Int),.int .u32 ((1013904242:Nat):Int),.int .u32 ((2773480762:Nat):Int),.int .u32 ((1359893119:Nat):Int),.int .u32 ((2600822924:Nat):Int),.int .u32 ((528734635:Nat):Int),.int .u32 ((1541459225:Nat):Int)]=_
 rw[e1,e2,e3,e4,e5,e6,e7,e8]
 rfl
theorem Zgt{g:Nat}{t:TypeId}{st:List (BitVec 32)}(h:Row w g t (Qe st))(hl:st.length=8):YH w g st:=
 ⟨hl,h.lt,fun j hj=>h.cell (Wu st j (by omega)),fun j hj=>h.free (by rw[YF];omega)⟩
set_option maxRecDepth 1000000 in
theorem ZcI(w:World):
  Calls prog 260 #[] w fun e w'=>∃h gs,e=.returned (.pointer (some ⟨h,0,none⟩))/\w.heap.size<=h/\w.heap.size<=gs/\ZD w' h gs 8 hs0/\Below w.heap.size w w':=by
 go_enter func260,ntmps260
 go_wp2
 go_ret
 refine⟨w.heap.size+1,w.heap.size,rfl,by omega,Zk8,?_,(((Below.refl _ w).alloc Zk8 _).alloc (by simp) _)⟩
 have hr:Row ((w.alloc (.cells Z21 161)).alloc (.cells (ZK w.heap.size 8 hs0).toArray 348)) w.heap.size 161 (Qe st0):=by
  have:=(Row.new w 161 (Qe st0)).alloc (.cells (ZK w.heap.size 8 hs0).toArray 348)
  rw[<-Zb9] at this⊢
  exact this
 have ht:ZC ((w.alloc (.cells Z21 161)).alloc (.cells (ZK w.heap.size 8 hs0).toArray 348)) (w.alloc (.cells Z21 161)).heap.size 348 (ZK w.heap.size 8 hs0):=ZC.new _ _ _
 rw[show(w.alloc (.cells Z21 161)).heap.size=w.heap.size+1 from by simp] at ht
 exact⟨ht,Zgt hr rfl,rfl,by decide,by omega⟩
end
section
open Go.RowKit
def Z6r(n many k:Nat):UInt8:=UInt8.ofNat (n / 2^(8*(many-1-k)))
def beN(n many:Nat):List UInt8:=(List.range many).map (Z6r n many)
def Wn(n many i:Nat):List UInt8:=(List.range many).map fun k=>if many-i<=k then Z6r n many k else 0
theorem Z0h(n many:Nat):(beN n many).length=many:=by simp[beN]
theorem Z3N(n many i:Nat):(Wn n many i).length=many:=by simp[Wn]
theorem Zf9(n many:Nat):Wn n many 0=List.replicate many 0:=by
 apply List.ext_getElem
 ·simp[Wn]
 ·intro j h1 h2
  have hj:j<many:=by simpa[Wn] using h1
  simp[Wn];omega
theorem Zc0(n many:Nat):Wn n many many=beN n many:=by
 unfold Wn beN
 exact List.map_congr_left fun k _=>by rw[if_pos (by omega)]
theorem Zan(n many i:Nat)(hi:i<many):(Wn n many i).set (many-1-i) (Z6r n many (many-1-i))=Wn n many (i+1):=by
 apply List.ext_getElem
 ·simp[Wn]
 ·intro j h1 h2
  have hj:j<many:=by simpa[Wn] using h2
  rw[List.getElem_set]
  simp only[Wn,List.getElem_map,List.getElem_range]
  by_cases e:many-1-i=j
  ·rw[if_pos e,if_pos (by omega),e]
  ·rw[if_neg e]
   by_cases h:many-i<=j
   ·rw[if_pos h,if_pos (by omega)]
   ·rw[if_neg h,if_neg (by omega)]
set_option maxRecDepth 1000000 in
theorem Z6y(h gs c n many:Nat)(H:Hs)(w:World)(k:ZD w h gs c H)(hn:n<18446744073709551616)(hm:many<=8):
  Calls prog 276 #[.pointer (some ⟨h,0,none⟩),.int .u64 (n:Int),.int .i64 (many:Int)] w fun e w'=>e=.returned (.string ⟨(beN n many).toArray⟩)/\Below w.heap.size w w':=by
 obtain⟨i0,hi,au,aw,ax⟩:=info_parts Xw
 have aj:=WD (P:=prog) 75 5 i0 underlying75 hi au aw ax many (by omega)
 have c68:=k.c68
 have ag:=ZC.new w 5 (Z3 (List.replicate many 0))
 rw[<-Zf9 n many] at ag aj
 have ae:=(Below.refl w.heap.size w).alloc Zk8 (.cells (Z3 (Wn n many 0)).toArray 5)
 have K:=Zka k
 have HN:=Zka hn
 obtain⟨w1,ak⟩:∃w1,w.alloc (.cells (Z3 (Wn n many 0)).toArray 5)=w1:=⟨_,rfl⟩
 have af:=aj w
 rw[ak] at af ag ae
 have al:=k.lt_
 obtain⟨gb,ah⟩:∃gb,w.heap.size=gb:=⟨_,rfl⟩
 rw[ah] at af ag ae al
 have HW:=Zka ak
 have HB:=Zka (Zkb ag ae)
 have HG:=Zka ah
 clear k hn aj ak ag ae ah
 go_enter func276,ntmps276
 go_wp2
 go_loopw [14] (fun i wr=>∃j:Nat,j<=many/\i=.int .i64 j/\ZC wr gb 5 (Z3 (Wn n many j))/\Below gb w wr) (fun i _=>many- (intOf i).toNat)
 case atStart=>exact⟨0,by omega,rfl,HB.out.1,HB.out.2⟩
 case round=>
  obtain⟨j,hj,rfl,hr,hb⟩:=hrel
  by_cases ai:j<many
  ·have c:=(hb.cell (p:=⟨h,68,none⟩) al).trans c68
   obtain⟨q,hq⟩:∃q,many-1-j=q:=⟨_,rfl⟩
   have aq:q<many:=by omega
   have hf:=hr.row.free (j:=q) (by rw[Zh,Z3N];exact aq)
   have hc:=hr.row.cell (j:=q) (YR _ _ (by rw[Z3N];exact aq))
   have S0:=Zka (Zkb hr hb)
   clear hr hb
   have az:(many:Int)-1- (j:Int)=(q:Int):=by omega
   have HQ:=Zka hq
   clear hq
   go_wp2
   go_roundw
   case measure=>simp[intOf];omega
   case rel=>
    have hv:(n:Int) / 2^(8*j)%256=((Z6r n many q).toNat:Int):=by
     unfold Z6r
     rw[toNat_ofNat,show many-1-q=j from by have:=HQ.out;omega]
     simp
    refine⟨j+1,by omega,by go_num,?_,S0.out.2.setCell (p:=⟨gb,q,none⟩) Zk8 _⟩
    rw[hv,<-Zan n many j ai,HQ.out,<-Z34]
    exact S0.out.1.set q _
  ·obtain rfl:j=many:=by omega
   rw[Zc0] at hr
   have ay:=Qv (P:=prog) wr 75 9 5 underlying75 underlying5 underlying9 hr.row 0 j j (beN n j) (Z0h n j) (by rw[List.drop_zero,ZjT (by rw[Zh,Z0h];omega)])
   have S0:=Zka (Zkb hr hb)
   clear hr hb
   go_wp2
   go_ret
   refine⟨rfl,?_⟩
   rw[HG.out]
   exact S0.out.2
end
section
open Go.RowKit
variable{c gs:Nat}{w:World}
def Hs.byte(H:Hs)(b:UInt8):Hs:=if H.many+1=64 then{H with st:=mixed H.st (H.buf.set H.many b),buf:=H.buf.set H.many b,many:=0} else{H with buf:=H.buf.set H.many b,many:=H.many+1}
def Hs.bytes(H:Hs)(l:List UInt8):Hs:=l.foldl Hs.byte H
theorem Hs.bytes_append(H:Hs)(a b:List UInt8):H.bytes (a++b)=(H.bytes a).bytes b:=by simp[Hs.bytes]
def Y2(buf:List UInt8)(m:Nat)(l:List UInt8):List UInt8:=buf.take m++l++buf.drop (m+l.length)
theorem Zgb(buf:List UInt8)(m:Nat):Y2 buf m []=buf:=by simp[Y2]
theorem ZaU(buf:List UInt8)(m:Nat)(l:List UInt8)(h:m+l.length<=buf.length):(Y2 buf m l).length=buf.length:=by
 simp[Y2];omega
theorem Z7Z(buf:List UInt8)(m:Nat)(l:List UInt8)(b:UInt8)(h:m+l.length<buf.length):(Y2 buf m l).set (m+l.length) b=Y2 buf m (l++[b]):=by
 unfold Y2
 rw[List.set_append_right _ _ (by simp;omega)]
 have e:m+l.length- (List.take m buf++l).length=0:=by simp;omega
 rw[e,List.drop_eq_getElem_cons h,List.set_cons_zero]
 simp[Nat.add_assoc]
theorem ZgD{α:Type}{P:List α->Prop}(h0:P [])(h1:∀l a,P l->P (l++[a]))(l:List α):P l:=by
 have h:∀t:List α,P t.reverse:=by
  intro t
  induction t with
  |nil=>exact h0
  |cons a t ih=>rw[List.reverse_cons];exact h1 _ a ih
 have:=h l.reverse
 rwa[List.reverse_reverse] at this
theorem Hs.bytes_few(H:Hs):∀ (l:List UInt8),H.buf.length=64->H.many+l.length<64->H.bytes l={H with buf:=Y2 H.buf H.many l,many:=H.many+l.length}:=by
 intro l
 refine ZgD (P:=fun l=>H.buf.length=64->H.many+l.length<64->H.bytes l={H with buf:=Y2 H.buf H.many l,many:=H.many+l.length}) ?_ (fun l b ih=> ?_) l
 ·intro _ _;simp[Hs.bytes,Zgb]
 ·intro hb hl
  simp at hl
  rw[Hs.bytes_append,ih hb (by omega)]
  show Hs.byte _ b=_
  unfold Hs.byte
  simp only[]
  rw[if_neg (by omega),Z7Z _ _ _ _ (by omega)]
  simp[Nat.add_assoc]
theorem Hs.bytes_full(H:Hs)(l:List UInt8)(hb:H.buf.length=64)(hl:H.many+l.length=64)(h0:l≠[]):H.bytes l={H with st:=mixed H.st (Y2 H.buf H.many l),buf:=Y2 H.buf H.many l,many:=0}:=by
 obtain⟨a,b,rfl⟩:∃a b,l=a++[b]:=⟨l.dropLast,l.getLast h0,(List.dropLast_concat_getLast h0).symm⟩
 simp at hl
 rw[Hs.bytes_append,Hs.bytes_few H a hb (by omega)]
 show Hs.byte _ b=_
 unfold Hs.byte
 simp only[]
 rw[if_pos (by omega),Z7Z _ _ _ _ (by omega)]
theorem Hs.byte_lt(H:Hs)(b:UInt8)(h:H.many<64):(H.byte b).many<64:=by
 unfold Hs.byte;split
 ·simp
 ·simp only[];omega
theorem Hs.bytes_lt(H:Hs)(l:List UInt8)(h:H.many<64):(H.bytes l).many<64:=by
 unfold Hs.bytes
 induction l generalizing H with
 |nil=>exact h
 |cons b l ih=>rw[Zk6];exact ih _ (Hs.byte_lt H b h)
theorem Hs.byte_size(H:Hs)(b:UInt8):(H.byte b).size=H.size:=by unfold Hs.byte;split<;>rfl
theorem Hs.bytes_size(H:Hs)(l:List UInt8):(H.bytes l).size=H.size:=by
 unfold Hs.bytes
 induction l generalizing H with
 |nil=>rfl
 |cons b l ih=>rw[Zk6,ih,Hs.byte_size]
section
variable{P:Program}
theorem Z9J(w:World)(dT sT ty elem:TypeId)(g o ae af n:Nat)(s:ByteArray)(cur:Array Value)(t:TypeId)
  (hu:P.underlying dT=some (.slice elem)) (hs:(P.info? elem).map (·.size)=some 1) (hg:w.heap[g]? =some (.cells cur t (0,0))) (hn:n=Nat.min s.size ae) (ag:o+n<=cur.size):
  (Builtin.copy_ #[dT,sT] ty #[.slice (some ⟨g,o,none⟩) ae af,.string s]).run P w=
   .ok (goInt n) (w.setRow g (cur.toList.take o++Z3 (s.data.toList.take n)++cur.toList.drop (o+n)).toArray):=by
 have ai:s.data.toList.length=s.size:=by simp
 have hle:n<=s.size:=by rw[hn];exact Nat.min_le_left _ _
 have hlen:(Z3 (s.data.toList.take n)).length=n:=by rw[Zh,ZjO,ai];omega
 have h1:∀v∈Z3 (s.data.toList.take n),v.oneCell'=true:=by
  intro v hv
  obtain⟨x,_,rfl⟩:=List.mem_map.1 hv
  rfl
 have ah:=run_storeCells_at P g o t (Z3 (s.data.toList.take n)) 0 cur w hg (by rw[hlen];simpa using ag) h1
 have aj:List.take n (List.map (fun b:UInt8=>Value.int IntKind.u8 (b.toNat:Int)) s.data.toList)=Z3 (s.data.toList.take n):=by
  unfold Z3;rw[List.map_take]
 rw[hlen] at ah
 simp only[Nat.add_zero] at ah
 cases hq:P.info? elem with
 |none=>simp[hq] at hs
 |some i=>
  simp[Builtin.copy_,run_underlying hu,Builtin.lenOf,Builtin.firstCells,sizeOf,typeInfo,hq,<-hn]
  rw[aj,ah]
  simp[Result.andThen]
theorem Z2m{ops:Array Oper}{rest:List Oper}{o:Oper}{a:Act}{Q:Exit->Act->World->Prop}(aj:o.guard=none)(d s:Operand)(dT sT:TypeId)
  (ho:o.op=.call {callee:=.builtin .copy,args:= #[d,s],argTypes:= #[dT,sT]}) (elem:TypeId) (hu:P.underlying dT=some (.slice elem)) (ak:(P.info? elem).map (·.size)=some 1)
  (g off ae af n:Nat) (t:ByteArray) (hd:a.eval d=.slice (some ⟨g,off,none⟩) ae af) (hs:a.eval s=.string t) (T:TypeId) (L:List Value)
  (ag:ZC w g T L) (hn:n=Nat.min t.size ae) (ai:off+n<=L.length)
  (h:∀w',ZC w' g T (L.take off++Z3 (t.data.toList.take n)++L.drop (off+n))->Fr [g] w w'->wpList P ops Q rest (a.put o.dst (goInt n)) w'):wpList P ops Q (o::rest) a w:=by
 refine wpList_plain aj fun K hK=> ?_
 have ah:=Z9J (P:=P) w dT sT o.type elem g off ae af n t L.toArray T hu ak ag hn (by simpa using ai)
 simp only[List.toList_toArray] at ah
 have hr:=ag.setRow (L.take off++Z3 (t.data.toList.take n)++L.drop (off+n))
 have hF:=(Fr.refl [g] w).setRow (g:=g) (Or.inl (by simp)) (L.take off++Z3 (t.data.toList.take n)++L.drop (off+n)).toArray
 have h9:=h _ hr hF
 unfold Oper.wp execOp
 simp only[ho,resolve,invoke,builtin,Sem.run_bind,Sem.run_pure,Result.andThen_ok,List.map_toArray,ZjY,List.map_nil,hd,hs,ah]
 exact hK _ _ h9
end
theorem ZaH{H:Hs}(h:H.buf.length=64)(l:List UInt8)(hl:H.many+l.length<=64):
  (ZK gs c H).take (1+H.many)++Z3 l++(ZK gs c H).drop (1+H.many+l.length)=ZK gs c {H with buf:=Y2 H.buf H.many l}:=by
 unfold ZK
 simp only[]
 have hb:(Z3 H.buf).length=64:=by rw[Zh,h]
 generalize [Value.int .i64 (H.many:Int),.int .u64 (H.size:Int),.func (.func 275) #[] #[],.bool true]=tl
 have e1:([Value.slice (some ⟨gs,0,none⟩) 8 c]++Z3 H.buf++tl).take (1+H.many)=[Value.slice (some ⟨gs,0,none⟩) 8 c]++Z3 (H.buf.take H.many):=by
  rw[ZjL,List.take_append,List.take_append]
  simp[Z0U,h,show H.many-64=0 by omega,show 1+H.many-1=H.many by omega,Zh]
  rw[ZjT (by simp)]
  rfl
 have e2:([Value.slice (some ⟨gs,0,none⟩) 8 c]++Z3 H.buf++tl).drop (1+H.many+l.length)=Z3 (H.buf.drop (H.many+l.length))++tl:=by
  rw[ZjL,List.drop_append,List.drop_append]
  simp[Z0T,h,Zh,show H.many+l.length-64=0 by omega,show 1+H.many+l.length-1=H.many+l.length by omega]
  try omega
 rw[e1,e2,Y2,XN,XN]
 simp[ZjL]
theorem Z7k{h:Nat}{H:Hs}(k:ZD w h gs c H):(Instr.loadAt 346 (.pointer (some ⟨h,1,none⟩))).run prog w=.ok (.agg (Z3 H.buf).toArray) w:=by
 have hl:(loadCells ⟨h,1,none⟩ (Z3 H.buf).length).run prog w=.ok (Z3 H.buf).toArray w:=
  run_loadCells_list (P:=prog) w ⟨h,1,none⟩ (Z3 H.buf) (fun j v hv=>by
   have hj:j<64:=by
    have:=(List.getElem?_eq_some_iff.1 hv).1
    rw[Zh,k.len] at this;exact this
   have ae:(⟨h,1,none⟩:Addr).add j=⟨h,j+1,none⟩:=by unfold Addr.add;split<;>simp_all [Nat.add_comm]
   rw[ae,k.top.row.cell (Zcz k.len j hj)]
   rw[YR _ _ (by rw[k.len];exact hj)] at hv
   rw[ZjE,ZjF (by rw[k.len];exact hj)]
   exact hv)
 rw[Zh,k.len] at hl
 have af:(isAgg 346).run prog w=.ok true w:=by kernel_rfl
 have hz:(sizeOf 346).run prog w=.ok 64 w:=by kernel_rfl
 simp only[Instr.loadAt,Instr.sureAddr,Sem.run_bind,Sem.run_pure,Result.andThen_ok,loadVar,af,hz]
 simp only[if_true,Sem.run_bind,hz,Result.andThen_ok,hl]
 rfl
end
section
open Go.RowKit
variable{H:Hs}{c gs h:Nat}{w w':World}
section
variable{P:Program}{ops:Array Oper}{w:World}
theorem Zac{Q:Act->Prop}{a:Act}{o:Oper}{rest:List Oper}(hg:o.guard=none)(ty:TypeId)(x:Operand)(ho:o.op=.load ty x)(p v:Value)(hx:a.eval x=p)
  (ae:(Instr.loadAt ty p).run P w=.ok v w) (h:wpStill P ops w Q rest (a.put o.dst v)):wpStill P ops w Q (o::rest) a:=by
 unfold wpStill
 have hw:Region.wanted o (yielded ops a.tmps)=true:=by simp[Region.wanted,hg]
 rw[if_pos hw]
 unfold Oper.still execOp
 simp only[ho,hx,Sem.run_bind,ae,Result.andThen_ok,Sem.run_pure,Oper.stillUpon_value]
 exact h
end
def ZgH:Value->Nat
 |.string s=>s.size
 |_=>0
def ZgZ:Prop:=∀ (g c:Nat) (st:List (BitVec 32)) (blk:List UInt8) (w:World),YH w g st->blk.length=64->
    Calls prog 275 #[.slice (some ⟨g,0,none⟩) 8 c,.agg (Z3 blk).toArray] w fun e w'=>e=.returned (.tuple #[])/\YH w' g (mixed st blk)/\Fr [g] w w'
theorem ZD.over_(k:ZD w h gs c H)(l:List UInt8)(hl:H.many+l.length<=64)(hr:ZC w' h 348 ((ZK gs c H).take (1+H.many)++Z3 l++(ZK gs c H).drop (1+H.many+l.length)))(hf:Fr [h] w w'):
  ZD w' h gs c {H with buf:=Y2 H.buf H.many l}:=by
 rw[ZaH k.len l hl] at hr
 exact⟨hr,k.st.fr hf (by simpa using k.ne),by rw[<-k.len];exact ZaU _ _ _ (by rw[k.len];exact hl),k.lt,k.ne⟩
theorem ZD.drew_(k:ZD w h gs c H):ZD w.drew h gs c H:=⟨k.top,⟨k.st.len,k.st.lt,k.st.cell,k.st.free⟩,k.len,k.lt,k.ne⟩
theorem ZD.mixed_(k:ZD w h gs c H)(hs:YH w' gs (mixed H.st H.buf))(hf:Fr [gs] w w'):ZD w' h gs c {H with st:=mixed H.st H.buf}:=
 ⟨(show ZC w' h _ (ZK gs c H) from k.top.fr hf (by simpa using fun e=>k.ne e.symm)),hs,k.len,k.lt,k.ne⟩
set_option maxRecDepth 1000000 in
theorem Z4s(az:ZgZ)(h gs c:Nat)(H:Hs)(s:ByteArray)(w:World)(k:ZD w h gs c H)(bh:H.many<64)(hs:s.size<=1000000000)(hz:H.size<=1000000000000):
  Calls prog 261 #[.pointer (some ⟨h,0,none⟩),.string s] w fun e w'=>e=.returned (.tuple #[])/\ZD w' h gs c ({H with size:=H.size+s.size}.bytes s.data.toList)/\Fr [h,gs] w w':=by
 have c66:=k.c66
 have f66:=k.free 66 (by omega)
 have k1:=k.setSize (H.size+s.size)
 rw[show((H.size+s.size:Nat):Int)=(H.size:Int)+(s.size:Int) from by omega] at k1
 have bg:Fr [h,gs] w (w.setCell ⟨h,66,none⟩ (.int .u64 ((H.size:Int)+(s.size:Int)))):=(Fr.refl _ _).setCell (Or.inl (by simp)) _
 obtain⟨H1,au⟩:∃H1,{H with size:=H.size+s.size}=H1:=⟨_,rfl⟩
 rw[au] at k1⊢
 have ax:H1.many<64:=by rw[<-au];exact bh
 have K:=Zka (Zkb k1 bg)
 clear k k1 bg au bh
 go_enter func261,ntmps261
 go_wp2_with fail
 go_loopw [1] (fun p wr=>∃ (r:ByteArray) (pre:List UInt8),p=.string r/\s.data.toList=pre++r.data.toList/\ZD wr h gs c (H1.bytes pre)/\Fr [h,gs] w wr) (fun p _=>ZgH p)
 case atStart=>exact⟨s,[],rfl,rfl,K.out.1,K.out.2⟩
 case round=>
  obtain⟨r,pre,rfl,af,k,hf⟩:=hrel
  have cy:r.size<=s.size:=by
   have:=W7 af
   rw[ZjI,size_data] at this;omega
  by_cases cw:0<r.size
  ·obtain⟨G,hG⟩:∃G,H1.bytes pre=G:=⟨_,rfl⟩
   rw[hG] at k
   obtain⟨m,hm⟩:∃m,G.many=m:=⟨_,rfl⟩
   have c65:=k.c65
   have f65:=k.free 65 (by omega)
   rw[hm] at c65
   have ay:m<64:=by rw[<-hm,<-hG];exact Hs.bytes_lt _ _ ax
   have cz:=Z6K h 1 m ay
   obtain⟨n,hn⟩:∃n,Nat.min r.size (64-m)=n:=⟨_,rfl⟩
   have cr:1<=n:=by rw[<-hn];show 1<=min r.size (64-m);omega
   have ct:n<=r.size:=by rw[<-hn];exact Nat.min_le_left _ _
   have cu:m+n<=64:=by
    have h9:n<=64-m:=by rw[<-hn];exact Nat.min_le_right _ _
    omega
   have bm:(r.data.toList.take n).length=n:=by rw[ZjO,size_data];omega
   have HH:=Zka (Zkb hG (Zkb hm hn))
   have S0:=Zka (Zkb k hf)
   have HP:=Zka af
   have ag:=Zka bm
   clear k hf hG hm hn af bm
   have ak:∀q,q<=n->True:=fun _ _=>trivial
   have ah:s.data.toList=(pre++r.data.toList.take n)++(r.extract n r.size).data.toList:=by
    rw[HP.out,Lib.extract_to_end,ZjL,Zk4]
   have bf:=Zka ah
   clear ak ah
   by_cases ae:m+n=64
   ·have cj:(m:Int)+(n:Int)=64:=by omega
    have HF:=Zka ae
    clear ae
    go_wp2_with fail
    go_still_tail 9,(by kernel_rfl)
    repeat still_step
    change wpList _ _ _ _ _ wr.drew
    go_wp2_with (refine Z2m rfl (.tmp 25) (.tmp 26) 75 9 rfl 5 underlying75 Xx h (1+m) (64-m) (64-m) n r rfl rfl 348 (ZK gs c G) S0.out.1.top HH.out.2.2.symm (by rw[JM S0.out.1.len];omega) ?_;intro w2 aj ai;rw[<-HH.out.2.1] at aj;have k2:=S0.out.1.drew_.over_ (r.data.toList.take n) (by rw[ag.out,HH.out.2.1];omega) (by rw[ag.out];exact aj) ai;have d65:=k2.c65;have bu:=k2.free 65 (by omega);rw[HH.out.2.1] at d65;have S2:=Zka (Zkb k2 ai);clear k2 aj ai)
    have k3:=S2.out.1.setMany 64 (by omega)
    have aq:Fr [h] wr (w2.setCell ⟨h,65,none⟩ (.int .i64 64)):=(((Fr.refl [h] wr).drew).trans S2.out.2 (fun i hi _=>hi)).setCell (Or.inl (by simp)) _
    generalize (w2.setCell ⟨h,65,none⟩ (.int .i64 64))=w3 at*
    have c0:=k3.c0
    have c67:=k3.c67
    have cn:=Z7k k3.drew_
    have bq:=k3.drew_
    have S3:=Zka (Zkb bq aq)
    clear k3 bq aq
    go_still_tail 12,(by kernel_rfl)
    repeat still_step
    refine Zac rfl _ _ rfl _ _ rfl cn ?_
    change wpList _ _ _ _ _ w3.drew
    go_wp2_with (go_at_call 275;refine(az gs c G.st (Y2 G.buf G.many (r.data.toList.take n)) _ S3.out.1.st S3.out.1.len).mono ?_;rintro e w5 ⟨rfl,al,aw⟩;have k5:=S3.out.1.mixed_ al aw;have f5:=k5.free 65 (by omega);have e5:=k5.c65;have S5:=Zka (Zkb k5 aw);clear k5 al aw)
    go_roundw
    case measure=>simp only[ZgH,ByteArray.size_extract];omega
    case rel=>
     have k6:=S5.out.1.setMany 0 (by omega)
     have bz:Fr [h,gs] wr (w5.setCell ⟨h,65,none⟩ (.int .i64 ((0:Nat):Int))):=((((S3.out.2.mono (L':=[h,gs]) (fun i hi _=>by simp at hi⊢;exact Or.inl hi)).drew).trans S5.out.2 (fun i hi _=>by simp at hi⊢;exact Or.inr hi)).setCell (Or.inl (by simp)) _)
     refine⟨_,pre++r.data.toList.take n,rfl,bf.out,?_,S0.out.2.trans bz (fun i hi _=>hi)⟩
     rw[Hs.bytes_append,HH.out.1,Hs.bytes_full G _ S0.out.1.len (by rw[ag.out,HH.out.2.1];exact HF.out) (fun e=>by have:=ag.out;rw[e] at this;simp at this;omega)]
     exact k6
   ·have cj:((m:Int)+(n:Int)==64)=false:=by simp;omega
    have HF:=Zka ae
    clear ae
    go_wp2_with fail
    go_still_tail 9,(by kernel_rfl)
    repeat still_step
    change wpList _ _ _ _ _ wr.drew
    go_wp2_with (refine Z2m rfl (.tmp 25) (.tmp 26) 75 9 rfl 5 underlying75 Xx h (1+m) (64-m) (64-m) n r rfl rfl 348 (ZK gs c G) S0.out.1.top HH.out.2.2.symm (by rw[JM S0.out.1.len];omega) ?_;intro w2 aj ai;rw[<-HH.out.2.1] at aj;have k2:=S0.out.1.drew_.over_ (r.data.toList.take n) (by rw[ag.out,HH.out.2.1];omega) (by rw[ag.out];exact aj) ai;have d65:=k2.c65;have bu:=k2.free 65 (by omega);rw[HH.out.2.1] at d65;have S2:=Zka (Zkb k2 ai);clear k2 aj ai)
    go_roundw
    case measure=>simp only[ZgH,ByteArray.size_extract];omega
    case rel=>
     have k3:=S2.out.1.setMany (m+n) (by omega)
     rw[show((m+n:Nat):Int)=(m:Int)+(n:Int) from by omega] at k3
     have aq:Fr [h,gs] wr (w2.setCell ⟨h,65,none⟩ (.int .i64 ((m:Int)+(n:Int)))):=((((Fr.refl [h] wr).drew).trans S2.out.2 (fun i hi _=>hi)).setCell (Or.inl (by simp)) _).mono (fun i hi _=>by simp at hi⊢;exact Or.inl hi)
     refine⟨_,pre++r.data.toList.take n,rfl,bf.out,?_,S0.out.2.trans aq (fun i hi _=>hi)⟩
     rw[Hs.bytes_append,HH.out.1,Hs.bytes_few G _ S0.out.1.len (by rw[ag.out,HH.out.2.1];have:=HF.out;omega),ag.out,HH.out.2.1]
     rw[HH.out.2.1] at k3
     exact k3
  ·have b9:r.size=0:=by omega
   have bj:r.data.toList=[]:=List.eq_nil_of_length_eq_zero (by rw[size_data];exact b9)
   rw[bj,Zk7] at af
   have S0:=Zka (Zkb k hf)
   have HP:=Zka af
   clear k hf af bj
   go_wp2
   go_end0
   exact⟨rfl,by rw[HP.out];exact S0.out.1,S0.out.2⟩
end
end Go.Proofs.YthppfllkocphbaaGreatDoor
