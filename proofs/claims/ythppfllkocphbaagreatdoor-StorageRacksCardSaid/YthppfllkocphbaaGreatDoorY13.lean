/- Part 14: lemmas about what the program computes. -/
import Derived.Laws.Tables
import Derived.Laws.CopyRow
import Derived.Deep.Cut
import Derived.Test.YthppfllkocphbaaGreatDoorY03
namespace Go.Proofs.YthppfllkocphbaaGreatDoor
set_option linter.unusedVariables false
set_option linter.unusedSimpArgs false
set_option maxHeartbeats 25600000
set_option maxRecDepth 100000
open Tryz Go.RowKit
def YS(x:BitVec 32)(n:Nat):BitVec 32:=(x<<<(32-n))|||(x>>>n)
theorem Z3J(x:BitVec 32)(n:Nat):bits BinOp.or IntKind.u32 (uv x*2^(32-n)%4294967296) (uv x / 2^n)=uv (YS x n):=by rw[Z4O,Gh,Z52];rfl
theorem Z57(x:BitVec 32)(n:Int)(w:World)(C:n∈[2,6,7,11,13,17,18,19,22,25]):Calls prog 281 #[.int .u32 (uv x),.int .i64 (-n)] w λe w'=>e=.returned (.int .u32 (uv (YS x n.toNat)))/\w=w':=by
 have F:=ER x;have J:=EQ x;have e1:bits BinOp.and IntKind.u64 (IntKind.u64.wrap (-n)) 31=32-n:=by revert n;decide
 have h:=Z3J x n.toNat;simp only[Z5q,Z5y,or_false] at C;rcases C with rfl|rfl|rfl|rfl|rfl|rfl|rfl|rfl|rfl|rfl
 all_goals
  simp only[Int.reduceSub] at e1;have H:=Z5F h;clear h;go_enter func281,ntmps281;go_wp2;go_ret;exact⟨La (Cw H.out),rfl⟩
theorem turn(x:BitVec 32)(n:Int)(w:World)(C:n∈[2,6,7,11,13,17,18,19,22,25]):Calls prog 280 #[.int .u32 (uv x),.int .i64 n] w λe w'=>e=.returned (.int .u32 (uv (YS x n.toNat)))/\w=w':=by
 have e1:IntKind.i64.wrap (-n)= -n:=by revert n;decide
 have h:=λw=>Z57 x n w C;go_enter func280,ntmps280;go_wp2_with (go_at_call 281;refine(h _).mono ?_;rintro e w' ⟨rfl,rfl⟩);go_ret;exact⟨rfl,rfl⟩
def XG(n:Nat):Code->Option Code
 |.region k ops d=>if k=n then some (.region k ops d) else none
 |.loop c=>XG n c
 |.seq a b=>match XG n a with
  |some c=>some c
  |none=>XG n b
 |.block _ c=>XG n c
 |.scope c=>XG n c
 |.cond _ a b=>match XG n a with
  |some c=>some c
  |none=>XG n b
 |_=>none
def Qc(l:List (BitVec 32)):List Value:=l.map λx=>.int .u32 (uv x)
theorem YF(l:List (BitVec 32)):(Qc l).length=l.length:=by simp[Qc]
theorem Wx(l:List (BitVec 32))(j:Nat)(h:j<l.length):(Qc l)[j]? =some (.int .u32 (uv (l.getD j 0#32))):=by rw[Z59,Z5a h];simp[Qc,h]
theorem Ku(l:List (BitVec 32))(j:Nat)(x:BitVec 32):(Qc l).set j (.int .u32 (uv x))=Qc (l.set j x):=by simp[Qc,List.map_set]
def Z1m:List Nat:=[1116352408,1899447441,3049323471,3921009573,961987163,1508970993,2453635748,2870763221,3624381080,310598401,607225278,1426881987,1925078388,2162078206,2614888103,3248222580,3835390401,4022224774,264347078,604807628,770255983,1249150122,1555081692,1996064986,2554220882,2821834349,2952996808,3210313671,3336571891,3584528711,113926993,338241895,666307205,773529912,1294757372,1396182291,1695183700,1986661051,2177026350,2456956037,2730485921,2820302411,3259730800,3345764771,3516065817,3600352804,4094571909,275423344,430227734,506948616,659060556,883997877,958139571,1322822218,1537002063,1747873779,1955562222,2024104815,2227730452,2361852424,2428436474,2756734187,3204031479,3329325298]
def Dm:List (BitVec 32):=Z1m.map (BitVec.ofNat 32)
theorem PH:Dm.length=64:=rfl
def JY:Array Value:= #[.int .u32 1116352408,.int .u32 1899447441,.int .u32 3049323471,.int .u32 3921009573,.int .u32 961987163,.int .u32 1508970993,.int .u32 2453635748,.int .u32 2870763221,.int .u32 3624381080,.int .u32 310598401,.int .u32 607225278,.int .u32 1426881987,.int .u32 1925078388,.int .u32 2162078206,.int .u32 2614888103,.int .u32 3248222580,.int .u32 3835390401,.int .u32 4022224774,.int .u32 264347078,.int .u32 604807628,.int .u32 770255983,.int .u32 1249150122,.int .u32 1555081692,.int .u32 1996064986,.int .u32 2554220882,.int .u32 2821834349,.int .u32 2952996808,.int .u32 3210313671,.int .u32 3336571891,.int .u32 3584528711,.int .u32 113926993,.int .u32 338241895,.int .u32 666307205,.int .u32 773529912,.int .u32 1294757372,.int .u32 1396182291,.int .u32 1695183700,.int .u32 1986661051,.int .u32 2177026350,.int .u32 2456956037,.int .u32 2730485921,.int .u32 2820302411,.int .u32 3259730800,.int .u32 3345764771,.int .u32 3516065817,.int .u32 3600352804,.int .u32 4094571909,.int .u32 275423344,.int .u32 430227734,.int .u32 506948616,.int .u32 659060556,.int .u32 883997877,.int .u32 958139571,.int .u32 1322822218,.int .u32 1537002063,.int .u32 1747873779,.int .u32 1955562222,.int .u32 2024104815,.int .u32 2227730452,.int .u32 2361852424,.int .u32 2428436474,.int .u32 2756734187,.int .u32 3204031479,.int .u32 3329325298]
theorem Z3m:∀n∈Z1m,n<4294967296:=by decide
theorem Z3l:JY.toList=Qc Dm:=by have h:JY.toList=Z1m.map λ(n:Nat)=>Value.int .u32 (n:Int):=rfl;rw[h,Qc,Dm,List.map_map];refine List.map_congr_left λn C=> ?_;show Value.int .u32 (n:Int)=.int .u32 (uv (BitVec.ofNat 32 n));rw[MG (Z3m n C)]
def Cz:Array Value:= #[.int .u32 0,.int .u32 0,.int .u32 0,.int .u32 0,.int .u32 0,.int .u32 0,.int .u32 0,.int .u32 0,.int .u32 0,.int .u32 0,.int .u32 0,.int .u32 0,.int .u32 0,.int .u32 0,.int .u32 0,.int .u32 0,.int .u32 0,.int .u32 0,.int .u32 0,.int .u32 0,.int .u32 0,.int .u32 0,.int .u32 0,.int .u32 0,.int .u32 0,.int .u32 0,.int .u32 0,.int .u32 0,.int .u32 0,.int .u32 0,.int .u32 0,.int .u32 0,.int .u32 0,.int .u32 0,.int .u32 0,.int .u32 0,.int .u32 0,.int .u32 0,.int .u32 0,.int .u32 0,.int .u32 0,.int .u32 0,.int .u32 0,.int .u32 0,.int .u32 0,.int .u32 0,.int .u32 0,.int .u32 0,.int .u32 0,.int .u32 0,.int .u32 0,.int .u32 0,.int .u32 0,.int .u32 0,.int .u32 0,.int .u32 0,.int .u32 0,.int .u32 0,.int .u32 0,.int .u32 0,.int .u32 0,.int .u32 0,.int .u32 0,.int .u32 0]
theorem Z4f:Cz.toList=Qc (List.replicate 64 0#32):=by
 have h:Cz.toList=List.replicate 64 (Value.int .u32 0):=rfl;have z:uv 0#32=0:=by rw[QD];rfl
 rw[h,Qc,List.map_replicate,z]
noncomputable def Z1z:Code:=(Tryz.f275.body.bind (XG 1)).getD .skip
noncomputable def Z1A:Code:=(Tryz.f275.body.bind (XG 3)).getD .skip
theorem G4(w:World)(cs C:Array Value)(t:TypeId)(fr:Nat×Nat):(w.alloc (.cells cs t fr)).setRow w.heap.size C=w.alloc (.cells C t fr):=by
 unfold World.setRow World.alloc;congr 1;apply Array.ext
 .simp
 .intro i F J;simp only[Array.getElem_modify,Array.getElem_push];simp at F;by_cases h:w.heap.size=i
  .subst h;simp
  .rw[if_neg h];simp[show i<w.heap.size by omega]
set_option maxRecDepth 1000000 in
theorem Z1B(w:World)(K:Act->World->Prop)(Q:Exit->Act->World->Prop)(c0 c1 c2 c3 c4 c5 c6 c7 c8 c9 km kq kt ku kx ky kz l5 l7 l9 ld lh lj lk lq lr qu lu lz ma mb me mf mg mh mi mj mm mn mo mq mu mw mx my mz n9 nf nh nj nr nt nu ny nz o7 oc od oe og oh oi oj om oo c65 c66 c67 c68 oq ot ou ov ow oy oz p5 p6 p8 p9 pj pq pr pt px py qb qd qe qg qh qj qk ql qm qn qo qp qs qt h C F J M O U Z ae af ag ah ai aj ak al aq au aw az b7 b8 b9 bf bg bh bj bm bq bu bz cj cn cr ct cu cw cz dc de df dh dj dm dp dq dt du dw dx dy dz ee ef eh ek eo er eu ew ey ez fa fc fe ff fg fh fi fj fm fo fp fq ft fu fw gj ia ib ic ie ig ij ik im iq ir iu iw ix iy iz j7 j8 j9 ja jb jc jd je jf jg jh ji jk jl jm jo jq jr js jt ju jw jx jy jz ke kf kg kh kj:Value)(hK:K ⟨(List.toArray (c0::c1::c2::c3:: .pointer (some ⟨w.heap.size,0,none⟩)::c5::c6::c7::c8::c9::km::kq::kt::ku::kx::ky::kz::l5::l7::l9::ld::lh::lj::lk::lq::lr:: .agg JY::lu::lz::ma::mb::me::mf::mg::mh::mi::mj::mm::mn::mo::mq::mu::mw::mx::my::mz::n9::nf::nh::nj::nr::nt::nu::ny::nz::o7::oc::od::oe::og::oh::oi::oj::om::oo::c65::c66::c67::c68::oq::ot::ou::ov::ow::oy::oz::p5::p6::p8::p9::pj::pq::pr::pt::px::py::qb::qd::qe::qg::qh::qj::qk::ql::qm::qn::qo::qp::qs::qt::h::C::F::J::M::O::U::Z::ae::af::ag::ah::ai::aj::ak::al::aq::au::aw::az::b7::b8::b9::bf::bg::bh::bj::bm::bq::bu::bz::cj::cn::cr::ct::cu::cw::cz::dc::de::df::dh::dj::dm::dp::dq::dt::du::dw::dx::dy::dz::ee::ef::eh::ek::eo::er::eu::ew::ey::ez::fa::fc::fe::ff::fg::fh::fi::fj::fm::fo::fp::fq::ft::fu::fw::gj::ia::ib::ic::ie::ig::ij::ik::im::iq::ir::iu::iw::ix::iy::iz::j7::j8::j9::ja::jb::jc::jd::je::jf::jg::jh::ji::jk::jl::jm::jo::jq::jr::js::jt::ju::jw::jx::jy::jz::ke::kf::kg::kh::kj::[])),[]⟩ (w.alloc (.cells JY 352))):Code.wp prog Z1z (Exit.then K Q) ⟨(List.toArray (c0::c1::c2::c3::c4::c5::c6::c7::c8::c9::km::kq::kt::ku::kx::ky::kz::l5::l7::l9::ld::lh::lj::lk::lq::lr::qu::lu::lz::ma::mb::me::mf::mg::mh::mi::mj::mm::mn::mo::mq::mu::mw::mx::my::mz::n9::nf::nh::nj::nr::nt::nu::ny::nz::o7::oc::od::oe::og::oh::oi::oj::om::oo::c65::c66::c67::c68::oq::ot::ou::ov::ow::oy::oz::p5::p6::p8::p9::pj::pq::pr::pt::px::py::qb::qd::qe::qg::qh::qj::qk::ql::qm::qn::qo::qp::qs::qt::h::C::F::J::M::O::U::Z::ae::af::ag::ah::ai::aj::ak::al::aq::au::aw::az::b7::b8::b9::bf::bg::bh::bj::bm::bq::bu::bz::cj::cn::cr::ct::cu::cw::cz::dc::de::df::dh::dj::dm::dp::dq::dt::du::dw::dx::dy::dz::ee::ef::eh::ek::eo::er::eu::ew::ey::ez::fa::fc::fe::ff::fg::fh::fi::fj::fm::fo::fp::fq::ft::fu::fw::gj::ia::ib::ic::ie::ig::ij::ik::im::iq::ir::iu::iw::ix::iy::iz::j7::j8::j9::ja::jb::jc::jd::je::jf::jg::jh::ji::jk::jl::jm::jo::jq::jr::js::jt::ju::jw::jx::jy::jz::ke::kf::kg::kh::kj::[])),[]⟩ w:=by
 have HK:=Z5F hK;clear hK
 conv=>arg 2;whnf
 refine wp_region_list ?_;refine wpList_build rfl _ _ rfl (by kernel_rfl) ?_;refine Eq.mpr (congrArg (λx=>wpList _ _ _ _ (Act.put _ _ (Value.agg x)) _) (show _=JY from by kernel_rfl)) ?_;refine ET (w':=w.alloc (.cells Cz 352)) (v:=.pointer (some ⟨w.heap.size,0,none⟩)) rfl (by kernel_rfl) ?_;refine wpList_store_row rfl _ _ _ rfl w.heap.size JY rfl rfl 352 Cz (heap_alloc_new w _) (by kernel_rfl) rfl (by kernel_rfl) ?_;rw[G4];refine wpList_nil ?_;exact HK.out
set_option maxRecDepth 1000000 in
theorem Z1C(w:World)(K:Act->World->Prop)(Q:Exit->Act->World->Prop)(c0 c1 c2 c3 c4 c5 c6 c7 c8 c9 km kq kt ku kx ky kz l5 l7 l9 ld lh lj lk lq lr lu lz ma mb me mf mg mh mi mj mm mn mo mq mu mw mx my mz n9 nf nh nj nr nt nu ny nz o7 oc od oe og oh oi oj om oo oq c65 c66 c67 c68 ot ou ov ow oy oz p5 p6 p8 p9 pj pq pr pt px py qb qd qe qg qh qj qk ql qm qn qo qp qs qt qu h C F J M O U Z ae af ag ah ai aj ak al aq au aw az b7 b8 b9 bf bg bh bj bm bq bu bz cj cn cr ct cu cw cz dc de df dh dj dm dp dq dt du dw dx dy dz ee ef eh ek eo er eu ew ey ez fa fc fe ff fg fh fi fj fm fo fp fq ft fu fw gj ia ib ic ie ig ij ik im iq ir iu iw ix iy iz j7 j8 j9 ja jb jc jd je jf jg jh ji jk jl jm jo jq jr js jt ju jw jx jy jz ke kf kg kh kj:Value)(hK:K ⟨(List.toArray (c0::c1::c2::c3::c4::c5:: .pointer (some ⟨w.heap.size,0,none⟩)::c7::c8::c9::km::kq::kt::ku::kx::ky::kz::l5::l7::l9::ld::lh::lj::lk::lq::lr::lu::lz::ma::mb::me::mf::mg::mh::mi::mj::mm::mn::mo::mq::mu::mw::mx::my::mz::n9::nf::nh::nj::nr::nt::nu::ny::nz::o7::oc::od::oe::og::oh::oi::oj::om::oo::oq::c65::c66::c67::c68::ot::ou::ov::ow::oy::oz::p5::p6::p8::p9::pj::pq::pr::pt::px::py::qb::qd::qe::qg::qh::qj::qk::ql::qm::qn::qo::qp::qs::qt::qu::h::C::F::J::M::O::U::Z::ae::af::ag::ah::ai::aj::ak::al::aq::au::aw::az::b7::b8::b9::bf::bg::bh::bj::bm::bq::bu::bz::cj::cn::cr::ct::cu::cw::cz::dc::de::df::dh::dj::dm::dp::dq::dt::du::dw::dx::dy::dz::ee::ef::eh::ek::eo::er::eu::ew::ey::ez::fa::fc::fe::ff::fg::fh::fi::fj::fm::fo::fp::fq::ft::fu::fw::gj::ia::ib::ic::ie::ig::ij::ik::im::iq::ir::iu::iw::ix::iy::iz::j7::j8::j9::ja::jb::jc::jd::je::jf::jg::jh::ji::jk::jl::jm::jo::jq::jr::js::jt::ju::jw::jx::jy::jz::ke::kf::kg::kh::kj::[])),[]⟩ (w.alloc (.cells Cz 352))):Code.wp prog Z1A (Exit.then K Q) ⟨(List.toArray (c0::c1::c2::c3::c4::c5::c6::c7::c8::c9::km::kq::kt::ku::kx::ky::kz::l5::l7::l9::ld::lh::lj::lk::lq::lr::lu::lz::ma::mb::me::mf::mg::mh::mi::mj::mm::mn::mo::mq::mu::mw::mx::my::mz::n9::nf::nh::nj::nr::nt::nu::ny::nz::o7::oc::od::oe::og::oh::oi::oj::om::oo::oq::c65::c66::c67::c68::ot::ou::ov::ow::oy::oz::p5::p6::p8::p9::pj::pq::pr::pt::px::py::qb::qd::qe::qg::qh::qj::qk::ql::qm::qn::qo::qp::qs::qt::qu::h::C::F::J::M::O::U::Z::ae::af::ag::ah::ai::aj::ak::al::aq::au::aw::az::b7::b8::b9::bf::bg::bh::bj::bm::bq::bu::bz::cj::cn::cr::ct::cu::cw::cz::dc::de::df::dh::dj::dm::dp::dq::dt::du::dw::dx::dy::dz::ee::ef::eh::ek::eo::er::eu::ew::ey::ez::fa::fc::fe::ff::fg::fh::fi::fj::fm::fo::fp::fq::ft::fu::fw::gj::ia::ib::ic::ie::ig::ij::ik::im::iq::ir::iu::iw::ix::iy::iz::j7::j8::j9::ja::jb::jc::jd::je::jf::jg::jh::ji::jk::jl::jm::jo::jq::jr::js::jt::ju::jw::jx::jy::jz::ke::kf::kg::kh::kj::[])),[]⟩ w:=by
 have HK:=Z5F hK;clear hK
 conv=>arg 2;whnf
 try simp only[List.append_eq,List.cons_append,List.nil_append]
 go_wp2;exact HK.out
section
variable{g:Nat}{st:List (BitVec 32)}{w w':World}
structure YI(w:World)(g:Nat)(st:List (BitVec 32)):Prop where
 len:st.length=8
 lt:g<w.heap.size
 cell:∀j,j<8->w.cell? ⟨g,j,none⟩=some (.int .u32 (uv (st.getD j 0#32)))
 free:∀j,j<8->w.frozen? ⟨g,j,none⟩=false
theorem YI.after(h:YI w g st)(C:Below w.heap.size w w'):YI w' g st:=⟨h.len,Z5v h.lt C.size,λj F=>(C.cell (p:=⟨g,j,none⟩) h.lt).trans (h.cell j F),λj F=>(C.frozen (p:=⟨g,j,none⟩) h.lt).trans (h.free j F)⟩
def be4(l:List UInt8)(i:Nat):BitVec 32:=BitVec.ofNat 32 (Yw (l.drop (4*i)))
def GF(blk:List UInt8)(ws:List (BitVec 32))(i:Nat):BitVec 32:=
 if i<16 then be4 blk i else
  ws.getD (i-16) 0#32+(YS (ws.getD (i-15) 0#32) 7^^^YS (ws.getD (i-15) 0#32) 18^^^(ws.getD (i-15) 0#32>>>3))+ws.getD (i-7) 0#32+(YS (ws.getD (i-2) 0#32) 17^^^YS (ws.getD (i-2) 0#32) 19^^^(ws.getD (i-2) 0#32>>>10))
def wl(blk:List UInt8):Nat->List (BitVec 32)
 |0=>List.replicate 64 0#32
 |i+1=>(wl blk i).set i (GF blk (wl blk i) i)
theorem Ah(h:List UInt8)(i:Nat):(wl h i).length=64:=by
 induction i with
 |zero=>simp[wl]
 |succ i ih=>simp[wl,ih]
theorem UB:prog.arrayLen 346=64:=by kernel_rfl
theorem Z2N:prog.elem 346=5:=by kernel_rfl
theorem Kl(b o l:Nat)(hl:l<64)(W:World):(Instr.sliceAt 346 (.pointer (some ⟨b,o,none⟩)) (some (.int .i64 (l:Int))) none none).run prog W=.ok (.slice (some ⟨b,o+l,none⟩) (64-l) (64-l)) W:=by
 have h:prog.underlying 346=some (.array (prog.arrayLen 346) (prog.elem 346)):=by kernel_rfl
 rw[run_sliceAt_array_l W _ _ h .i64 (l:Int) (by omega) (by rw[UB];omega),Z2N,UB];have C:(sizeOf 5).run prog W=.ok 1 W:=Tryz.sizeOf5 W;rw[C];simp only[Result.andThen,slicedAt,Int.toNat_natCast,Nat.mul_one];rw[if_neg (by omega)];have e1:(⟨b,o,none⟩:Addr).add l=⟨b,o+l,none⟩:=by unfold Addr.add;split<;>simp_all
 rw[e1]
theorem TH(a b c d:Nat)(ha:a<256)(U:b<256)(hc:c<256)(Z:d<256):IntKind.u32.wrap (a:Int)=(a:Int)/\IntKind.u32.wrap (b:Int)=(b:Int)/\IntKind.u32.wrap (c:Int)=(c:Int)/\IntKind.u32.wrap (d:Int)=(d:Int)/\ IntKind.u32.wrap ((a:Int)*16777216)=(a:Int)*16777216/\IntKind.u32.wrap ((b:Int)*65536)=(b:Int)*65536/\IntKind.u32.wrap ((c:Int)*256)=(c:Int)*256/\ bits .or .u32 ((a:Int)*16777216) ((b:Int)*65536)=(a:Int)*16777216+(b:Int)*65536/\ bits .or .u32 ((a:Int)*16777216+(b:Int)*65536) ((c:Int)*256)=(a:Int)*16777216+(b:Int)*65536+(c:Int)*256/\ bits .or .u32 ((a:Int)*16777216+(b:Int)*65536+(c:Int)*256) (d:Int)=(a:Int)*16777216+(b:Int)*65536+(c:Int)*256+d:=by
 have h:∀n:Nat,n<4294967296->IntKind.u32.wrap (n:Int)=(n:Int):=λn hn=>by have:=IntKind.wrap_u32' (n:Int);omega
 have C:∀ (k x y:Nat),y<2^k->x*2^k<4294967296->y<4294967296->bits .or .u32 ((x*2^k:Nat):Int) (y:Int)=((x*2^k+y:Nat):Int):=λk x y J M O=>by rw[u32_or_nat _ _ M O,<-Nat.shiftLeft_eq,Nat.shiftLeft_add_eq_or_of_lt J]
 have e1:=h (a*16777216) (by omega);have e2:=h (b*65536) (by omega);have F:=h (c*256) (by omega);refine⟨h a (by omega),h b (by omega),h c (by omega),h d (by omega),by simpa using e1,by simpa using e2,by simpa using F,?_,?_,?_⟩
 .have:=C 24 a (b*65536) (by omega) (by omega) (by omega);simpa using this
 .have:=C 16 (a*256+b) (c*256) (by omega) (by omega) (by omega);have e:((a*256+b)*2^16:Nat)=a*16777216+b*65536:=by omega
  rw[e] at this;simpa using this
 .have:=C 8 (a*65536+b*256+c) d (by omega) (by omega) (by omega);have e:((a*65536+b*256+c)*2^8:Nat)=a*16777216+b*65536+c*256:=by omega
  rw[e] at this;simpa using this
theorem GD{P:Program}{f:FuncId}{args:Array Value}{v:Value}(h:Calls P f args w λe w'=>e=.returned v/\w=w'):Calls P f args w λe w'=>e=.returned v/\w'=w:=h.mono λ_ _ ⟨he,hw⟩=>⟨he,hw.symm⟩
theorem Z45(x y:BitVec 32):IntKind.u32.wrap (uv x+uv y)=uv (x+y):=by rw[<-DO];have:=IntKind.wrap_u32' (uv x+uv y);omega
structure R8 where
 a:BitVec 32
 b:BitVec 32
 c:BitVec 32
 d:BitVec 32
 e:BitVec 32
 f:BitVec 32
 g:BitVec 32
 h:BitVec 32
def R8.t(r:R8)(K W:BitVec 32):BitVec 32:=r.h+(YS r.e 6^^^YS r.e 11^^^YS r.e 25)+((r.e&&&r.f)^^^(~~~ r.e&&&r.g))+K+W
def R8.u(r:R8):BitVec 32:=(YS r.a 2^^^YS r.a 13^^^YS r.a 22)+((r.a&&&r.b)^^^(r.a&&&r.c)^^^(r.b&&&r.c))
def R8.next(r:R8)(K W:BitVec 32):R8:=⟨r.t K W+r.u,r.a,r.b,r.c,r.d+r.t K W,r.e,r.f,r.g⟩
def R8.of(st:List (BitVec 32)):R8:=⟨st.getD 0 0#32,st.getD 1 0#32,st.getD 2 0#32,st.getD 3 0#32,st.getD 4 0#32,st.getD 5 0#32,st.getD 6 0#32,st.getD 7 0#32⟩
def R8.list(r:R8):List (BitVec 32):=[r.a,r.b,r.c,r.d,r.e,r.f,r.g,r.h]
def Of(blk:List UInt8)(st:List (BitVec 32)):Nat->R8
 |0=>R8.of st
 |i+1=>(Of blk st i).next (Dm.getD i 0#32) ((wl blk 64).getD i 0#32)
def mixed(st:List (BitVec 32))(blk:List UInt8):List (BitVec 32):=List.zipWith (· + ·) st (Of blk st 64).list
section
variable{P:Program}
theorem GI{ops:Array Oper}{rest:List Oper}{o:Oper}{a:Act}{Q:Exit->Act->World->Prop}(ah:o.guard=none)(d s:Operand)(M sT:TypeId)(ho:o.op=.call {callee:=.builtin .copy,args:= #[d,s],argTypes:= #[M,sT]})(elem:TypeId)(hu:P.underlying M=some (.slice elem))(ai:(P.info? elem).map (·.size)=some 1)(g off F O gs os J ae:Nat)(hd:a.eval d=.slice (some ⟨g,off,none⟩) F O)(hs:a.eval s=.slice (some ⟨gs,os,none⟩) J ae)(t:TypeId)(L C:List Value)(U:ZD w g t L)(hn:C.length=Nat.min J F)(af:off+C.length<=L.length)(ag:∀j v,C[j]? =some v->w.cell? ⟨gs,os+j,none⟩=some v)(h1:∀v∈C,v.oneCell'=true)(h:∀w',ZD w' g t (L.take off++C++L.drop (off+C.length))->Fr [g] w w'->wpList P ops Q rest (a.put o.dst (goInt C.length)) w'):wpList P ops Q (o::rest) a w:=by
 refine wpList_plain ah λK hK=> ?_;have Z:=run_copy_row (P:=P) w M sT o.type elem g off F O ⟨gs,os,none⟩ J ae L.toArray t C hu ai U hn
  (λj v hj=>by
   have e1:(⟨gs,os,none⟩:Addr).add j=⟨gs,os+j,none⟩:=by unfold Addr.add;split<;>simp_all
   rw[e1];exact ag j v hj)
  (by simpa using af) h1
 simp only[List.toList_toArray] at Z;have hr:=U.setRow (L.take off++C++L.drop (off+C.length));have hF:=(Fr.refl [g] w).setRow (g:=g) (Or.inl (by simp)) (L.take off++C++L.drop (off+C.length)).toArray;have h9:=h _ hr hF;unfold Oper.wp execOp;simp only[ho,resolve,invoke,builtin,Sem.run_bind,Sem.run_pure,Result.andThen_ok,List.map_toArray,Z5t,List.map_nil,hd,hs,Z];exact hK _ _ h9
end
theorem Kt(l:List (BitVec 32)):∀v∈Qc l,v.oneCell'=true:=by intro v hv;unfold Qc at hv;obtain⟨x,_,rfl⟩:=List.mem_map.1 hv;rfl
theorem YI.news(h:YI w g st):∀j v,(Qc st)[j]? =some v->w.cell? ⟨g,0+j,none⟩=some v:=λj v C=>by
 have F:j<st.length:=by have:=(List.getElem?_eq_some_iff.1 C).1;rwa[YF] at this
 rw[Wx st j F] at C;rw[Nat.zero_add,h.cell j (by have:=h.len;omega)];exact C
theorem YI.fr(h:YI w g st){L:List Nat}(J:Fr L w w')(M:g∉L):YI w' g st:=
 have F:=J.block g h.lt M
 ⟨h.len,Z5v h.lt J.size,λj C=>by rw[<-h.cell j C];simp[World.cell?,F],λj C=>by rw[<-h.free j C];simp[World.frozen?,F]⟩
theorem Oj(a b c d e f g h:Value)(W:World):(Instr.index 354 (.agg #[a,b,c,d,e,f,g,h]) (.int .i64 0)).run prog W=.ok a W:=by kernel_rfl
theorem Ol(a b c d e f g h:Value)(W:World):(Instr.index 354 (.agg #[a,b,c,d,e,f,g,h]) (.int .i64 1)).run prog W=.ok b W:=by kernel_rfl
theorem Om(a b c d e f g h:Value)(W:World):(Instr.index 354 (.agg #[a,b,c,d,e,f,g,h]) (.int .i64 2)).run prog W=.ok c W:=by kernel_rfl
theorem Oo(a b c d e f g h:Value)(W:World):(Instr.index 354 (.agg #[a,b,c,d,e,f,g,h]) (.int .i64 3)).run prog W=.ok d W:=by kernel_rfl
theorem Oq(a b c d e f g h:Value)(W:World):(Instr.index 354 (.agg #[a,b,c,d,e,f,g,h]) (.int .i64 4)).run prog W=.ok e W:=by kernel_rfl
theorem Ot(a b c d e f g h:Value)(W:World):(Instr.index 354 (.agg #[a,b,c,d,e,f,g,h]) (.int .i64 5)).run prog W=.ok f W:=by kernel_rfl
theorem Ou(a b c d e f g h:Value)(W:World):(Instr.index 354 (.agg #[a,b,c,d,e,f,g,h]) (.int .i64 6)).run prog W=.ok g W:=by kernel_rfl
theorem Ov(a b c d e f g h:Value)(W:World):(Instr.index 354 (.agg #[a,b,c,d,e,f,g,h]) (.int .i64 7)).run prog W=.ok h W:=by kernel_rfl
theorem U4(r:R8)(k:Nat)(C:k<8)(W:World):(Instr.index 354 (.agg #[.int .u32 (uv r.a),.int .u32 (uv r.b),.int .u32 (uv r.c),.int .u32 (uv r.d),.int .u32 (uv r.e),.int .u32 (uv r.f),.int .u32 (uv r.g),.int .u32 (uv r.h)]) (.int .i64 (k:Int))).run prog W=.ok (.int .u32 (uv (r.list.getD k 0#32))) W:=by
 have h:k=0∨k=1∨k=2∨k=3∨k=4∨k=5∨k=6∨k=7:=by omega
 clear C;rcases h with rfl|rfl|rfl|rfl|rfl|rfl|rfl|rfl
 .exact Oj _ _ _ _ _ _ _ _ W
 .exact Ol _ _ _ _ _ _ _ _ W
 .exact Om _ _ _ _ _ _ _ _ W
 .exact Oo _ _ _ _ _ _ _ _ W
 .exact Oq _ _ _ _ _ _ _ _ W
 .exact Ot _ _ _ _ _ _ _ _ W
 .exact Ou _ _ _ _ _ _ _ _ W
 .exact Ov _ _ _ _ _ _ _ _ W
def Dn(st rl:List (BitVec 32))(k:Nat):List (BitVec 32):=(List.range 8).map λj=>if j<k then st.getD j 0#32+rl.getD j 0#32 else st.getD j 0#32
theorem PK(st h:List (BitVec 32))(k:Nat):(Dn st h k).length=8:=by simp[Dn]
theorem Ek(st h:List (BitVec 32))(k j:Nat)(C:j<8):(Dn st h k).getD j 0#32=if j<k then st.getD j 0#32+h.getD j 0#32 else st.getD j 0#32:=by unfold Dn;rw[Z59,List.getElem?_map,List.getElem?_range C];rfl
theorem Z4x(st:List (BitVec 32))(r:R8)(h:st.length=8):Dn st r.list 8=List.zipWith (· + ·) st r.list:=by
 match st,h with
 |[s0,s1,s2,s3,s4,s5,s6,s7],_=>rfl
theorem Z4w(st C:List (BitVec 32))(h:st.length=8):Dn st C 0=st:=by
 match st,h with
 |[s0,s1,s2,s3,s4,s5,s6,s7],_=>rfl
theorem YI.step{F:List (BitVec 32)}{k:Nat}(h:YI w g (Dn st F k))(O:k<8):YI (w.setCell ⟨g,k,none⟩ (.int .u32 (uv (st.getD k 0#32+F.getD k 0#32)))) g (Dn st F (k+1)):=by
 refine⟨PK _ _ _,by simpa[World.setCell] using h.lt,λj C=> ?_,λj C=> ?_⟩
 .by_cases e:j=k
  .subst e;have M:=h.cell j C;rw[Ek _ _ _ _ C,if_pos (by omega)];exact World.cell?_setCell_same' _ _ _ (by rw[M];rfl)
  .rw[World.cell?_setCell_other _ _ _ _ (λx=>e (by injection x with _ x;exact x.symm)),h.cell j C,Ek _ _ _ _ C,Ek _ _ _ _ C];by_cases J:j<k
   .rw[if_pos J,if_pos (by omega)]
   .rw[if_neg J,if_neg (by omega)]
 .rw[World.frozen?_setCell];exact h.free j C
theorem Z43:(prog.info? 161).map (·.size)=some 1:=by kernel_rfl
theorem Z25(b:Nat)(W:World):(Instr.sliceAt 354 (.pointer (some ⟨b,0,none⟩)) none none none).run prog W=.ok (.slice (some ⟨b,0,none⟩) 8 8) W:=by kernel_rfl
end
section
variable{c gs h:Nat}{w w':World}
structure Hs where
 st:List (BitVec 32)
 buf:List UInt8
 many:Nat
 size:Nat
def ZL(gs c:Nat)(H:Hs):List Value:=[.slice (some ⟨gs,0,none⟩) 8 c]++Z3 H.buf++[.int .i64 (H.many:Int),.int .u64 (H.size:Int),.func (.func 275) #[] #[],.bool true]
structure ZF(w:World)(h gs c:Nat)(H:Hs):Prop where
 top:ZD w h 348 (ZL gs c H)
 st:YI w gs H.st
 len:H.buf.length=64
 lt:H.many<=64
 ne:gs≠h
theorem JO{H:Hs}(h:H.buf.length=64):(ZL gs c H).length=69:=by simp[ZL,Zj,h]
theorem Nq(gs c:Nat)(H:Hs):(ZL gs c H)[0]? =some (.slice (some ⟨gs,0,none⟩) 8 c):=rfl
theorem Tr{H:Hs}(h:H.buf.length=64)(j:Nat)(C:j<64):(ZL gs c H)[j+1]? =some (.int .u8 ((H.buf.getD j 0).toNat:Int)):=by unfold ZL;rw[Z5g,Z5k (by simp),Z5c (by simp[Zj,h,C])];rw[show j+1- [Value.slice (some ⟨gs,0,none⟩) 8 c].length=j from by simp,YV _ _ (by omega),Z59,Z5a (by omega)];rfl
theorem BP{H:Hs}(h:H.buf.length=64)(j:Nat):(ZL gs c H)[65+j]? =[Value.int .i64 (H.many:Int),.int .u64 (H.size:Int),.func (.func 275) #[] #[],.bool true][j]?:=by unfold ZL;rw[Z5k (by simp[Zj,h])];congr 1;simp[Zj,h]
theorem ZF.c0{H:Hs}(k:ZF w h gs c H):w.cell? ⟨h,0,none⟩=some (.slice (some ⟨gs,0,none⟩) 8 c):=k.top.row.cell (Nq gs c H)
theorem ZF.c65{H:Hs}(k:ZF w h gs c H):w.cell? ⟨h,65,none⟩=some (.int .i64 (H.many:Int)):=k.top.row.cell (BP k.len 0)
theorem ZF.c66{H:Hs}(k:ZF w h gs c H):w.cell? ⟨h,66,none⟩=some (.int .u64 (H.size:Int)):=k.top.row.cell (BP k.len 1)
theorem ZF.c67{H:Hs}(k:ZF w h gs c H):w.cell? ⟨h,67,none⟩=some (.func (.func 275) #[] #[]):=k.top.row.cell (BP k.len 2)
theorem ZF.c68{H:Hs}(k:ZF w h gs c H):w.cell? ⟨h,68,none⟩=some (.bool true):=k.top.row.cell (BP k.len 3)
theorem ZF.free{H:Hs}(k:ZF w h gs c H)(j:Nat)(C:j<69):w.frozen? ⟨h,j,none⟩=false:=k.top.row.free (by rw[JO k.len];exact C)
theorem ZF.lt_{H:Hs}(k:ZF w h gs c H):h<w.heap.size:=k.top.row.lt
theorem ZF.fr{H:Hs}(k:ZF w h gs c H){L:List Nat}(C:Fr L w w')(F:h∉L)(J:gs∉L):ZF w' h gs c H:=⟨k.top.fr C F,k.st.fr C J,k.len,k.lt,k.ne⟩
theorem ZF.after{H:Hs}(k:ZF w h gs c H)(C:Below w.heap.size w w'):ZF w' h gs c H:=k.fr (Fr.of_below (L:=[]) C) (by simp) (by simp)
theorem Nr{H:Hs}(h:H.buf.length=64)(m:Nat):(ZL gs c H).set 65 (.int .i64 (m:Int))=ZL gs c {H with many:=m}:=by unfold ZL;rw[List.set_append_right _ _ (by simp[Zj,h])];congr 1;simp[Zj,h]
theorem Ns{H:Hs}(h:H.buf.length=64)(m:Nat):(ZL gs c H).set 66 (.int .u64 (m:Int))=ZL gs c {H with size:=m}:=by unfold ZL;rw[List.set_append_right _ _ (by simp[Zj,h])];congr 1;simp[Zj,h]
theorem ZF.setMany{H:Hs}(k:ZF w h gs c H)(m:Nat)(hm:m<=64):ZF (w.setCell ⟨h,65,none⟩ (.int .i64 (m:Int))) h gs c {H with many:=m}:=⟨by rw[<-Nr k.len];exact k.top.set 65 _,k.st.fr ((Fr.refl [h] w).setCell (Or.inl (by simp)) _) (by simpa using k.ne),k.len,hm,k.ne⟩
theorem ZF.setSize{H:Hs}(k:ZF w h gs c H)(m:Nat):ZF (w.setCell ⟨h,66,none⟩ (.int .u64 (m:Int))) h gs c {H with size:=m}:=⟨by rw[<-Ns k.len];exact k.top.set 66 _,k.st.fr ((Fr.refl [h] w).setCell (Or.inl (by simp)) _) (by simpa using k.ne),k.len,k.lt,k.ne⟩
def st0:List (BitVec 32):=[0x6a09e667#32,0xbb67ae85#32,0x3c6ef372#32,0xa54ff53a#32,0x510e527f#32,0x9b05688c#32,0x1f83d9ab#32,0x5be0cd19#32]
def hs0:Hs:=⟨st0,List.replicate 64 0,0,0⟩
def Ct:Array Value:= #[.int .u32 1779033703,.int .u32 3144134277,.int .u32 1013904242,.int .u32 2773480762,.int .u32 1359893119,.int .u32 2600822924,.int .u32 528734635,.int .u32 1541459225]
theorem Rl:Ct.toList=Qc st0:=by
 have h:∀n:Nat,n<4294967296->Value.int .u32 (n:Int)=.int .u32 (uv (BitVec.ofNat 32 n)):=λn Z=>by rw[MG Z]
 have e1:=h 1779033703 (by omega);have e2:=h 3144134277 (by omega);have C:=h 1013904242 (by omega);have F:=h 2773480762 (by omega);have J:=h 1359893119 (by omega);have M:=h 2600822924 (by omega);have O:=h 528734635 (by omega);have U:=h 1541459225 (by omega);show[Value.int .u32 ((1779033703:Nat):Int),.int .u32 ((3144134277:Nat):Int),.int .u32 ((1013904242:Nat):Int),.int .u32 ((2773480762:Nat):Int),.int .u32 ((1359893119:Nat):Int),.int .u32 ((2600822924:Nat):Int),.int .u32 ((528734635:Nat):Int),.int .u32 ((1541459225:Nat):Int)]=_;rw[e1,e2,C,F,J,M,O,U];rfl
theorem Z24{g:Nat}{t:TypeId}{st:List (BitVec 32)}(h:Row w g t (Qc st))(hl:st.length=8):YI w g st:=⟨hl,h.lt,λj C=>h.cell (Wx st j (by omega)),λj C=>h.free (by rw[YF];omega)⟩
set_option maxRecDepth 1000000 in
theorem TD(w:World):Calls prog 260 #[] w λe w'=>∃h gs,e=.returned (.pointer (some ⟨h,0,none⟩))/\w.heap.size<=h/\w.heap.size<=gs/\ZF w' h gs 8 hs0/\Below w.heap.size w w':=by
 go_enter func260,ntmps260;go_wp2;go_ret;refine⟨w.heap.size+1,w.heap.size,rfl,by omega,Z5D,?_,(((Below.refl _ w).alloc Z5D _).alloc (by simp) _)⟩;have F:Row ((w.alloc (.cells Ct 161)).alloc (.cells (ZL w.heap.size 8 hs0).toArray 348)) w.heap.size 161 (Qc st0):=by have:=(Row.new w 161 (Qc st0)).alloc (.cells (ZL w.heap.size 8 hs0).toArray 348);rw[<-Rl] at this⊢;exact this
 have C:ZD ((w.alloc (.cells Ct 161)).alloc (.cells (ZL w.heap.size 8 hs0).toArray 348)) (w.alloc (.cells Ct 161)).heap.size 348 (ZL w.heap.size 8 hs0):=ZD.new _ _ _;rw[show(w.alloc (.cells Ct 161)).heap.size=w.heap.size+1 from by simp] at C;exact⟨C,Z24 F rfl,rfl,by decide,by omega⟩
end
def IG(n many k:Nat):UInt8:=UInt8.ofNat (n / 2^(8*(many-1-k)))
def beN(n many:Nat):List UInt8:=(List.range many).map (IG n many)
def Ws(n many i:Nat):List UInt8:=(List.range many).map λk=>if many-i<=k then IG n many k else 0
theorem Ap(n many:Nat):(beN n many).length=many:=by simp[beN]
theorem EW(n many i:Nat):(Ws n many i).length=many:=by simp[Ws]
theorem Z0C(n many:Nat):Ws n many 0=List.replicate many 0:=by
 apply List.ext_getElem
 .simp[Ws]
 .intro j h C;have F:j<many:=by simpa[Ws] using h
  simp[Ws];omega
theorem Sz(n many:Nat):Ws n many many=beN n many:=by unfold Ws beN;exact List.map_congr_left λk _=>by rw[if_pos (by omega)]
theorem P9(n many i:Nat)(hi:i<many):(Ws n many i).set (many-1-i) (IG n many (many-1-i))=Ws n many (i+1):=by
 apply List.ext_getElem
 .simp[Ws]
 .intro j F C;have J:j<many:=by simpa[Ws] using C
  rw[List.getElem_set];simp only[Ws,List.getElem_map,List.getElem_range];by_cases e:many-1-i=j
  .rw[if_pos e,if_pos (by omega),e]
  .rw[if_neg e];by_cases h:many-i<=j
   .rw[if_pos h,if_pos (by omega)]
   .rw[if_neg h,if_neg (by omega)]
set_option maxRecDepth 1000000 in
theorem K1(h gs c n many:Nat)(H:Hs)(w:World)(k:ZF w h gs c H)(hn:n<18446744073709551616)(hm:many<=8):Calls prog 276 #[.pointer (some ⟨h,0,none⟩),.int .u64 (n:Int),.int .i64 (many:Int)] w λe w'=>e=.returned (.string ⟨(beN n many).toArray⟩)/\Below w.heap.size w w':=by
 obtain⟨i0,hi,aj,ak,al⟩:=info_parts Xw;have Z:=WF (P:=prog) 75 5 i0 underlying75 hi aj ak al many (by omega);have c68:=k.c68;have F:=ZD.new w 5 (Z3 (List.replicate many 0));rw[<-Z0C n many] at F Z;have M:=(Below.refl w.heap.size w).alloc Z5D (.cells (Z3 (Ws n many 0)).toArray 5);have K:=Z5F k;have HN:=Z5F hn;obtain⟨w1,ag⟩:=Z5H (w.alloc (.cells (Z3 (Ws n many 0)).toArray 5));have ae:=Z w;rw[ag] at ae F M;have ah:=k.lt_;obtain⟨gb,U⟩:=Z5H w.heap.size;rw[U] at ae F M ah;have HW:=Z5F ag;have HB:=Z5J F M;have HG:=Z5F U;clear k hn Z ag F M U;go_enter func276,ntmps276;go_wp2;go_loopw [14] (λi wr=>∃j:Nat,j<=many/\i=.int .i64 j/\ZD wr gb 5 (Z3 (Ws n many j))/\Below gb w wr) (λi _=>many- (intOf i).toNat)
 case atStart=>exact⟨0,by omega,rfl,HB.out.1,HB.out.2⟩
 case round=>
  obtain⟨j,hj,rfl,C,J⟩:=hrel;by_cases af:j<many
  .have c:=(J.cell (p:=⟨h,68,none⟩) ah).trans c68;obtain⟨q,hq⟩:=Z5H (many-1-j);have ai:q<many:=(by omega);have hf:=C.row.free (j:=q) (by rw[Zj,EW];exact ai);have hc:=C.row.cell (j:=q) (YV _ _ (by rw[EW];exact ai));have O:=Z5J C J;clear C J;have au:(many:Int)-1- (j:Int)=(q:Int):=(by omega);have HQ:=Z5F hq;clear hq;go_wp2;go_roundw
   case measure=>simp[intOf];omega
   case rel=>
    have hv:(n:Int) / 2^(8*j)%256=((IG n many q).toNat:Int):=by unfold IG;rw[toNat_ofNat,show many-1-q=j from by have:=HQ.out;omega];simp
    refine⟨j+1,by omega,by go_num,?_,O.out.2.setCell (p:=⟨gb,q,none⟩) Z5D _⟩;rw[hv,<-P9 n many j af,HQ.out,<-DV];exact O.out.1.set q _
  .obtain rfl:j=many:=(by omega);rw[Sz] at C;have aq:=Qo (P:=prog) wr 75 9 5 underlying75 underlying5 underlying9 C.row 0 j j (beN n j) (Ap n j) (by rw[List.drop_zero,Z5o (by rw[Zj,Ap];omega)]);have O:=Z5J C J;clear C J;go_wp2;go_ret;refine⟨rfl,?_⟩;rw[HG.out];exact O.out.2
section
variable{c gs:Nat}{w:World}
def Hs.byte(H:Hs)(b:UInt8):Hs:=if H.many+1=64 then{H with st:=mixed H.st (H.buf.set H.many b),buf:=H.buf.set H.many b,many:=0} else{H with buf:=H.buf.set H.many b,many:=H.many+1}
def Hs.bytes(H:Hs)(l:List UInt8):Hs:=l.foldl Hs.byte H
theorem Hs.bytes_append(H:Hs)(a b:List UInt8):H.bytes (a++b)=(H.bytes a).bytes b:=by simp[Hs.bytes]
def QY(buf:List UInt8)(m:Nat)(l:List UInt8):List UInt8:=buf.take m++l++buf.drop (m+l.length)
theorem Z1L(buf:List UInt8)(m:Nat):QY buf m []=buf:=by simp[QY]
theorem PO(buf:List UInt8)(m:Nat)(l:List UInt8)(h:m+l.length<=buf.length):(QY buf m l).length=buf.length:=by simp[QY];omega
theorem Ma(buf:List UInt8)(m:Nat)(l:List UInt8)(b:UInt8)(h:m+l.length<buf.length):(QY buf m l).set (m+l.length) b=QY buf m (l++[b]):=by
 unfold QY;rw[List.set_append_right _ _ (by simp;omega)];have e:m+l.length- (List.take m buf++l).length=0:=by simp;omega
 rw[e,List.drop_eq_getElem_cons h,List.set_cons_zero];simp[Nat.add_assoc]
theorem Z2g{α:Type}{P:List α->Prop}(C:P [])(F:∀l a,P l->P (l++[a]))(l:List α):P l:=by
 have h:∀t:List α,P t.reverse:=by
  intro t
  induction t with
  |nil=>exact C
  |cons a t ih=>rw[List.reverse_cons];exact F _ a ih
 have:=h l.reverse;rwa[List.reverse_reverse] at this
theorem Hs.bytes_few(H:Hs):∀ (l:List UInt8),H.buf.length=64->H.many+l.length<64->H.bytes l={H with buf:=QY H.buf H.many l,many:=H.many+l.length}:=by
 intro l;refine Z2g (P:=λl=>H.buf.length=64->H.many+l.length<64->H.bytes l={H with buf:=QY H.buf H.many l,many:=H.many+l.length}) ?_ (λl b ih=> ?_) l
 .intro _ _;simp[Hs.bytes,Z1L]
 .intro h hl;simp at hl;rw[Hs.bytes_append,ih h (by omega)];show Hs.byte _ b=_;unfold Hs.byte;simp only[];rw[if_neg (by omega),Ma _ _ _ _ (by omega)];simp[Nat.add_assoc]
theorem Hs.bytes_full(H:Hs)(l:List UInt8)(C:H.buf.length=64)(hl:H.many+l.length=64)(h:l≠[]):H.bytes l={H with st:=mixed H.st (QY H.buf H.many l),buf:=QY H.buf H.many l,many:=0}:=by obtain⟨a,b,rfl⟩:∃a b,l=a++[b]:=⟨l.dropLast,l.getLast h,(List.dropLast_concat_getLast h).symm⟩;simp at hl;rw[Hs.bytes_append,Hs.bytes_few H a C (by omega)];show Hs.byte _ b=_;unfold Hs.byte;simp only[];rw[if_pos (by omega),Ma _ _ _ _ (by omega)]
theorem Hs.byte_lt(H:Hs)(b:UInt8)(h:H.many<64):(H.byte b).many<64:=by
 unfold Hs.byte;split
 .simp
 .simp only[];omega
theorem Hs.bytes_lt(H:Hs)(l:List UInt8)(h:H.many<64):(H.bytes l).many<64:=by
 unfold Hs.bytes
 induction l generalizing H with
 |nil=>exact h
 |cons b l ih=>rw[Z5B];exact ih _ (Hs.byte_lt H b h)
theorem Hs.byte_size(H:Hs)(b:UInt8):(H.byte b).size=H.size:=by unfold Hs.byte;split<;>rfl
theorem Hs.bytes_size(H:Hs)(l:List UInt8):(H.bytes l).size=H.size:=by
 unfold Hs.bytes
 induction l generalizing H with
 |nil=>rfl
 |cons b l ih=>rw[Z5B,ih,Hs.byte_size]
section
variable{P:Program}
theorem Oi(w:World)(F sT ty elem:TypeId)(g o C O n:Nat)(s:ByteArray)(cur:Array Value)(t:TypeId)(hu:P.underlying F=some (.slice elem))(hs:(P.info? elem).map (·.size)=some 1)(hg:w.heap[g]? =some (.cells cur t (0,0)))(J:n=Nat.min s.size C)(U:o+n<=cur.size):(Builtin.copy_ #[F,sT] ty #[.slice (some ⟨g,o,none⟩) C O,.string s]).run P w= .ok (goInt n) (w.setRow g (cur.toList.take o++Z3 (s.data.toList.take n)++cur.toList.drop (o+n)).toArray):=by
 have Z:s.data.toList.length=s.size:=by simp
 have hle:n<=s.size:=by rw[J];exact Nat.min_le_left _ _
 have hlen:(Z3 (s.data.toList.take n)).length=n:=by rw[Zj,Z5j,Z];omega
 have h1:∀v∈Z3 (s.data.toList.take n),v.oneCell'=true:=by intro v hv;obtain⟨x,_,rfl⟩:=List.mem_map.1 hv;rfl
 have h:=run_storeCells_at P g o t (Z3 (s.data.toList.take n)) 0 cur w hg (by rw[hlen];simpa using U) h1;have ae:List.take n (List.map (λb:UInt8=>Value.int IntKind.u8 (b.toNat:Int)) s.data.toList)=Z3 (s.data.toList.take n):=by unfold Z3;rw[List.map_take]
 rw[hlen] at h;simp only[Nat.add_zero] at h;cases M:P.info? elem with
 |none=>simp[M] at hs
 |some i=>simp[Builtin.copy_,run_underlying hu,Builtin.lenOf,Builtin.firstCells,sizeOf,typeInfo,M,<-J];rw[ae,h];simp[Result.andThen]
theorem CY{ops:Array Oper}{rest:List Oper}{o:Oper}{a:Act}{Q:Exit->Act->World->Prop}(ae:o.guard=none)(d s:Operand)(F U:TypeId)(ho:o.op=.call {callee:=.builtin .copy,args:= #[d,s],argTypes:= #[F,U]})(elem:TypeId)(hu:P.underlying F=some (.slice elem))(af:(P.info? elem).map (·.size)=some 1)(g off C J n:Nat)(t:ByteArray)(hd:a.eval d=.slice (some ⟨g,off,none⟩) C J)(hs:a.eval s=.string t)(T:TypeId)(L:List Value)(M:ZD w g T L)(hn:n=Nat.min t.size C)(Z:off+n<=L.length)(h:∀w',ZD w' g T (L.take off++Z3 (t.data.toList.take n)++L.drop (off+n))->Fr [g] w w'->wpList P ops Q rest (a.put o.dst (goInt n)) w'):wpList P ops Q (o::rest) a w:=by refine wpList_plain ae λK hK=> ?_;have O:=Oi (P:=P) w F U o.type elem g off C J n t L.toArray T hu af M hn (by simpa using Z);simp only[List.toList_toArray] at O;have hr:=M.setRow (L.take off++Z3 (t.data.toList.take n)++L.drop (off+n));have hF:=(Fr.refl [g] w).setRow (g:=g) (Or.inl (by simp)) (L.take off++Z3 (t.data.toList.take n)++L.drop (off+n)).toArray;have h9:=h _ hr hF;unfold Oper.wp execOp;simp only[ho,resolve,invoke,builtin,Sem.run_bind,Sem.run_pure,Result.andThen_ok,List.map_toArray,Z5t,List.map_nil,hd,hs,O];exact hK _ _ h9
end
theorem Px{H:Hs}(h:H.buf.length=64)(l:List UInt8)(hl:H.many+l.length<=64):(ZL gs c H).take (1+H.many)++Z3 l++(ZL gs c H).drop (1+H.many+l.length)=ZL gs c {H with buf:=QY H.buf H.many l}:=by
 unfold ZL;simp only[];have C:(Z3 H.buf).length=64:=by rw[Zj,h]
 generalize [Value.int .i64 (H.many:Int),.int .u64 (H.size:Int),.func (.func 275) #[] #[],.bool true]=tl;have e1:([Value.slice (some ⟨gs,0,none⟩) 8 c]++Z3 H.buf++tl).take (1+H.many)=[Value.slice (some ⟨gs,0,none⟩) 8 c]++Z3 (H.buf.take H.many):=by rw[Z5g,List.take_append,List.take_append];simp[Bc,h,show H.many-64=0 by omega,show 1+H.many-1=H.many by omega,Zj];rw[Z5o (by simp)];rfl
 have e2:([Value.slice (some ⟨gs,0,none⟩) 8 c]++Z3 H.buf++tl).drop (1+H.many+l.length)=Z3 (H.buf.drop (H.many+l.length))++tl:=by
  rw[Z5g,List.drop_append,List.drop_append];simp[Bb,h,Zj,show H.many+l.length-64=0 by omega,show 1+H.many+l.length-1=H.many+l.length by omega]
  try omega
 rw[e1,e2,QY,XM,XM];simp[Z5g]
theorem Lc{h:Nat}{H:Hs}(k:ZF w h gs c H):(Instr.loadAt 346 (.pointer (some ⟨h,1,none⟩))).run prog w=.ok (.agg (Z3 H.buf).toArray) w:=by
 have hl:(loadCells ⟨h,1,none⟩ (Z3 H.buf).length).run prog w=.ok (Z3 H.buf).toArray w:=
  run_loadCells_list (P:=prog) w ⟨h,1,none⟩ (Z3 H.buf) (λj v hv=>by
   have C:j<64:=by have:=(List.getElem?_eq_some_iff.1 hv).1;rw[Zj,k.len] at this;exact this
   have J:(⟨h,1,none⟩:Addr).add j=⟨h,j+1,none⟩:=by unfold Addr.add;split<;>simp_all [Nat.add_comm]
   rw[J,k.top.row.cell (Tr k.len j C)];rw[YV _ _ (by rw[k.len];exact C)] at hv;rw[Z59,Z5a (by rw[k.len];exact C)]
   exact hv)
 rw[Zj,k.len] at hl;have M:(isAgg 346).run prog w=.ok true w:=by kernel_rfl
 have F:(sizeOf 346).run prog w=.ok 64 w:=by kernel_rfl
 simp only[Instr.loadAt,Instr.sureAddr,Sem.run_bind,Sem.run_pure,Result.andThen_ok,loadVar,M,F];simp only[if_true,Sem.run_bind,F,Result.andThen_ok,hl];rfl
end
section
variable{H:Hs}{c gs h:Nat}
section
variable{P:Program}{ops:Array Oper}{w:World}
theorem OS{Q:Act->Prop}{a:Act}{o:Oper}{rest:List Oper}(F:o.guard=none)(ty:TypeId)(x:Operand)(J:o.op=.load ty x)(p v:Value)(hx:a.eval x=p)(C:(Instr.loadAt ty p).run P w=.ok v w)(h:wpStill P ops w Q rest (a.put o.dst v)):wpStill P ops w Q (o::rest) a:=by
 unfold wpStill;have hw:Region.wanted o (yielded ops a.tmps)=true:=by simp[Region.wanted,F]
 rw[if_pos hw];unfold Oper.still execOp;simp only[J,hx,Sem.run_bind,C,Result.andThen_ok,Sem.run_pure,Oper.stillUpon_value];exact h
end
def Z2l:Value->Nat
 |.string s=>s.size
 |_=>0
def Z2E:Prop:=∀ (g c:Nat) (st:List (BitVec 32)) (blk:List UInt8) (w:World),YI w g st->blk.length=64->
    Calls prog 275 #[.slice (some ⟨g,0,none⟩) 8 c,.agg (Z3 blk).toArray] w λe w'=>e=.returned (.tuple #[])/\YI w' g (mixed st blk)/\Fr [g] w w'
theorem ZF.over_{w w':World}(k:ZF w h gs c H)(l:List UInt8)(hl:H.many+l.length<=64)(C:ZD w' h 348 ((ZL gs c H).take (1+H.many)++Z3 l++(ZL gs c H).drop (1+H.many+l.length)))(F:Fr [h] w w'):ZF w' h gs c {H with buf:=QY H.buf H.many l}:=by rw[Px k.len l hl] at C;exact⟨C,k.st.fr F (by simpa using k.ne),by rw[<-k.len];exact PO _ _ _ (by rw[k.len];exact hl),k.lt,k.ne⟩
theorem ZF.drew_{w:World}(k:ZF w h gs c H):ZF w.drew h gs c H:=⟨k.top,⟨k.st.len,k.st.lt,k.st.cell,k.st.free⟩,k.len,k.lt,k.ne⟩
theorem ZF.mixed_{w w':World}(k:ZF w h gs c H)(hs:YI w' gs (mixed H.st H.buf))(C:Fr [gs] w w'):ZF w' h gs c {H with st:=mixed H.st H.buf}:=⟨(show ZD w' h _ (ZL gs c H) from k.top.fr C (by simpa using λe=>k.ne e.symm)),hs,k.len,k.lt,k.ne⟩
set_option maxRecDepth 1000000 in
theorem FB(aw:Z2E)(h gs c:Nat)(H:Hs)(s:ByteArray)(w:World)(k:ZF w h gs c H)(b9:H.many<64)(hs:s.size<=1000000000)(hz:H.size<=1000000000000):Calls prog 261 #[.pointer (some ⟨h,0,none⟩),.string s] w λe w'=>e=.returned (.tuple #[])/\ZF w' h gs c ({H with size:=H.size+s.size}.bytes s.data.toList)/\Fr [h,gs] w w':=by
 have c66:=k.c66;have f66:=k.free 66 (by omega);have k1:=k.setSize (H.size+s.size);rw[show((H.size+s.size:Nat):Int)=(H.size:Int)+(s.size:Int) from by omega] at k1;have b8:Fr [h,gs] w (w.setCell ⟨h,66,none⟩ (.int .u64 ((H.size:Int)+(s.size:Int)))):=(Fr.refl _ _).setCell (Or.inl (by simp)) _;obtain⟨H1,ak⟩:=Z5H {H with size:=H.size+s.size};rw[ak] at k1⊢;have aq:H1.many<64:=by rw[<-ak];exact b9
 have K:=Z5J k1 b8;clear k k1 b8 ak b9;go_enter func261,ntmps261;go_wp2_with fail;go_loopw [1] (λp wr=>∃ (r:ByteArray) (pre:List UInt8),p=.string r/\s.data.toList=pre++r.data.toList/\ZF wr h gs c (H1.bytes pre)/\Fr [h,gs] w wr) (λp _=>Z2l p)
 case atStart=>exact⟨s,[],rfl,rfl,K.out.1,K.out.2⟩
 case round=>
  obtain⟨r,pre,rfl,af,k,hf⟩:=hrel;have ct:r.size<=s.size:=by have:=We af;rw[Z5d,WB] at this;omega
  by_cases cr:0<r.size
  .obtain⟨G,hG⟩:=Z5H (H1.bytes pre);rw[hG] at k;obtain⟨m,hm⟩:=Z5H G.many;have c65:=k.c65;have f65:=k.free 65 (by omega);rw[hm] at c65;have au:m<64:=by rw[<-hm,<-hG];exact Hs.bytes_lt _ _ aq
   have cu:=Kl h 1 m au;obtain⟨n,hn⟩:=Z5H (Nat.min r.size (64-m));have bz:1<=n:=by rw[<-hn];show 1<=min r.size (64-m);omega
   have cj:n<=r.size:=by rw[<-hn];exact Nat.min_le_left _ _
   have cn:m+n<=64:=by
    have h9:n<=64-m:=by rw[<-hn];exact Nat.min_le_right _ _
    omega
   have bg:(r.data.toList.take n).length=n:=by rw[Z5j,WB];omega
   have C:=Z5K hG hm hn;have F:=Z5J k hf;have HP:=Z5F af;have O:=Z5F bg;clear k hf hG hm hn af bg;have ah:∀q,q<=n->True:=λ_ _=>trivial;have ag:s.data.toList=(pre++r.data.toList.take n)++(r.extract n r.size).data.toList:=(by rw[HP.out,Lib.extract_to_end,Z5g,Z5z]);have b7:=Z5F ag;clear ah ag;by_cases ae:m+n=64
   .have bq:(m:Int)+(n:Int)=64:=(by omega);have HF:=Z5F ae;clear ae;go_wp2_with fail;go_still_tail 9,(by kernel_rfl)
    repeat still_step
    change wpList _ _ _ _ _ wr.drew;go_wp2_with (refine CY rfl (.tmp 25) (.tmp 26) 75 9 rfl 5 underlying75 XR h (1+m) (64-m) (64-m) n r rfl rfl 348 (ZL gs c G) F.out.1.top C.out.2.2.symm (by rw[JO F.out.1.len];omega) ?_;intro w2 Z U;rw[<-C.out.2.1] at Z;have J:=F.out.1.drew_.over_ (r.data.toList.take n) (by rw[O.out,C.out.2.1];omega) (by rw[O.out];exact Z) U;have d65:=J.c65;have bj:=J.free 65 (by omega);rw[C.out.2.1] at d65;have S2:=Z5J J U;clear J Z U);have M:=S2.out.1.setMany 64 (by omega);have aj:Fr [h] wr (w2.setCell ⟨h,65,none⟩ (.int .i64 64)):=(((Fr.refl [h] wr).drew).trans S2.out.2 (λi hi _=>hi)).setCell (Or.inl (by simp)) _;generalize (w2.setCell ⟨h,65,none⟩ (.int .i64 64))=w3 at*
    have c0:=M.c0;have c67:=M.c67;have bu:=Lc M.drew_;have bh:=M.drew_;have S3:=Z5J bh aj;clear M bh aj;go_still_tail 12,(by kernel_rfl)
    repeat still_step
    refine OS rfl _ _ rfl _ _ rfl bu ?_;change wpList _ _ _ _ _ w3.drew;go_wp2_with (go_at_call 275;refine(aw gs c G.st (QY G.buf G.many (r.data.toList.take n)) _ S3.out.1.st S3.out.1.len).mono ?_;rintro e w5 ⟨rfl,ai,al⟩;have k5:=S3.out.1.mixed_ ai al;have f5:=k5.free 65 (by omega);have e5:=k5.c65;have S5:=Z5J k5 al;clear k5 ai al);go_roundw
    case measure=>simp only[Z2l,ByteArray.size_extract];omega
    case rel=>have k6:=S5.out.1.setMany 0 (by omega);have bm:Fr [h,gs] wr (w5.setCell ⟨h,65,none⟩ (.int .i64 ((0:Nat):Int))):=((((S3.out.2.mono (L':=[h,gs]) (λi hi _=>by simp at hi⊢;exact Or.inl hi)).drew).trans S5.out.2 (λi hi _=>by simp at hi⊢;exact Or.inr hi)).setCell (Or.inl (by simp)) _);refine⟨_,pre++r.data.toList.take n,rfl,b7.out,?_,F.out.2.trans bm (λi hi _=>hi)⟩;rw[Hs.bytes_append,C.out.1,Hs.bytes_full G _ F.out.1.len (by rw[O.out,C.out.2.1];exact HF.out) (λe=>by have:=O.out;rw[e] at this;simp at this;omega)];exact k6
   .have bq:((m:Int)+(n:Int)==64)=false:=by simp;omega
    have HF:=Z5F ae;clear ae;go_wp2_with fail;go_still_tail 9,(by kernel_rfl)
    repeat still_step
    change wpList _ _ _ _ _ wr.drew;go_wp2_with (refine CY rfl (.tmp 25) (.tmp 26) 75 9 rfl 5 underlying75 XR h (1+m) (64-m) (64-m) n r rfl rfl 348 (ZL gs c G) F.out.1.top C.out.2.2.symm (by rw[JO F.out.1.len];omega) ?_;intro w2 Z U;rw[<-C.out.2.1] at Z;have J:=F.out.1.drew_.over_ (r.data.toList.take n) (by rw[O.out,C.out.2.1];omega) (by rw[O.out];exact Z) U;have d65:=J.c65;have bj:=J.free 65 (by omega);rw[C.out.2.1] at d65;have S2:=Z5J J U;clear J Z U);go_roundw
    case measure=>simp only[Z2l,ByteArray.size_extract];omega
    case rel=>have M:=S2.out.1.setMany (m+n) (by omega);rw[show((m+n:Nat):Int)=(m:Int)+(n:Int) from by omega] at M;have aj:Fr [h,gs] wr (w2.setCell ⟨h,65,none⟩ (.int .i64 ((m:Int)+(n:Int)))):=((((Fr.refl [h] wr).drew).trans S2.out.2 (λi hi _=>hi)).setCell (Or.inl (by simp)) _).mono (λi hi _=>by simp at hi⊢;exact Or.inl hi);refine⟨_,pre++r.data.toList.take n,rfl,b7.out,?_,F.out.2.trans aj (λi hi _=>hi)⟩;rw[Hs.bytes_append,C.out.1,Hs.bytes_few G _ F.out.1.len (by rw[O.out,C.out.2.1];have:=HF.out;omega),O.out,C.out.2.1];rw[C.out.2.1] at M;exact M
  .have az:r.size=0:=(by omega);have bf:r.data.toList=[]:=List.eq_nil_of_length_eq_zero (by rw[WB];exact az);rw[bf,Z5C] at af;have F:=Z5J k hf;have HP:=Z5F af;clear k hf af bf;go_wp2;go_end0;exact⟨rfl,by rw[HP.out];exact F.out.1,F.out.2⟩
