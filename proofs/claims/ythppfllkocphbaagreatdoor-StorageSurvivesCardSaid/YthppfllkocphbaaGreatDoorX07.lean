/- Part 8: lemmas about what the program computes. -/
import Derived.Laws.Tables
import Derived.Laws.CopyRow
import Derived.Deep.Cut
import Derived.Test.YthppfllkocphbaaGreatDoorX02
namespace Go.Proofs.YthppfllkocphbaaGreatDoor
set_option linter.all false
set_option maxHeartbeats 25600000
set_option maxRecDepth 100000
open Tryz Go.RowKit
open Go renaming World->Qs,Value->Qt,TypeId->Qu,Ending->Qv
def WC(x:Qp)(n:Nat):Qp:=(x<<<(32-n))|||(x>>>n)
def Z5t(x:Qp)(n:Nat):bits BinOp.or IntKind.u32 (uv x*2^(32-n)%4294967296) (uv x / 2^n)=uv (WC x n):=by rw[Z7P,Ga,Z7O];rfl
def Z5s(x:Qp)(n:Int)(w:Qs)(C:n∈[2,6,7,11,13,17,18,19,22,25]):Calls prog 281 #[.int .u32 (uv x),(-n:Int)] w λe w'=>e=.returned (.int .u32 (uv (WC x n.toNat)))/\w=w':=by
 have F:=DJ x;have x1:=DI x;have e1:bits BinOp.and IntKind.u64 (IntKind.u64.wrap (-n)) 31=32-n:=by revert n;decide
 have h:=Z5t x n.toNat;simp only[Zk,Zdd,Zge] at C;rcases C with rfl|rfl|rfl|rfl|rfl|rfl|rfl|rfl|rfl|rfl
 all_goals
  simp only[Int.reduceSub] at e1;have H:=ZI h;clear h;go_enter func281,ntmps281;go_wp2;go_ret;exact⟨Ej (B4 H.o),rfl⟩
def ZaG(x:Qp)(n:Int)(w:Qs)(C:n∈[2,6,7,11,13,17,18,19,22,25]):Calls prog 280 #[.int .u32 (uv x),n] w λe w'=>e=.returned (.int .u32 (uv (WC x n.toNat)))/\w=w':=by
 have e1:IntKind.i64.wrap (-n)= -n:=by revert n;decide
 have h:=λw=>Z5s x n w C;go_enter func280,ntmps280;go_wp2_with (go_at_call 281;refine(h _).mono ?_;rintro e w' ⟨rfl,rfl⟩);go_ret;exact⟨rfl,rfl⟩
def C1(n:Nat):Code->Option Code
 |.region k ops d=>if k=n then some (.region k ops d) else none
 |.loop c=>C1 n c
 |.seq a b=>match C1 n a with
  |some c=>some c
  |none=>C1 n b
 |.block _ c=>C1 n c
 |.scope c=>C1 n c
 |.cond _ a b=>match C1 n a with
  |some c=>some c
  |none=>C1 n b
 |_=>none
def YY(l:List Qp):Qk:=l.map λx=>.int .u32 (uv x)
def CL(l:List Qp):(YY l).length=l.length:=by simp[YY]
def Cd(l:List Qp)(j:Nat)(h:j<l.length):(YY l)[j]? =some (.int .u32 (uv (l.getD j 0#32))):=by rw[Z7,Z8 h];simp[YY,h]
def Tx(l:List Qp)(j:Nat)(x:Qp):(YY l).set j (.int .u32 (uv x))=YY (l.set j x):=by simp[YY,Zgw]
def KL:Qj:=[1116352408,1899447441,3049323471,3921009573,961987163,1508970993,2453635748,2870763221,3624381080,310598401,607225278,1426881987,1925078388,2162078206,2614888103,3248222580,3835390401,4022224774,264347078,604807628,770255983,1249150122,1555081692,1996064986,2554220882,2821834349,2952996808,3210313671,3336571891,3584528711,113926993,338241895,666307205,773529912,1294757372,1396182291,1695183700,1986661051,2177026350,2456956037,2730485921,2820302411,3259730800,3345764771,3516065817,3600352804,4094571909,275423344,430227734,506948616,659060556,883997877,958139571,1322822218,1537002063,1747873779,1955562222,2024104815,2227730452,2361852424,2428436474,2756734187,3204031479,3329325298]
def Bm:List Qp:=KL.map (BitVec.ofNat 32)
def Z2T:Bm.length=64:=rfl
def Jx:Array Qt:= #[.int .u32 1116352408,.int .u32 1899447441,.int .u32 3049323471,.int .u32 3921009573,.int .u32 961987163,.int .u32 1508970993,.int .u32 2453635748,.int .u32 2870763221,.int .u32 3624381080,.int .u32 310598401,.int .u32 607225278,.int .u32 1426881987,.int .u32 1925078388,.int .u32 2162078206,.int .u32 2614888103,.int .u32 3248222580,.int .u32 3835390401,.int .u32 4022224774,.int .u32 264347078,.int .u32 604807628,.int .u32 770255983,.int .u32 1249150122,.int .u32 1555081692,.int .u32 1996064986,.int .u32 2554220882,.int .u32 2821834349,.int .u32 2952996808,.int .u32 3210313671,.int .u32 3336571891,.int .u32 3584528711,.int .u32 113926993,.int .u32 338241895,.int .u32 666307205,.int .u32 773529912,.int .u32 1294757372,.int .u32 1396182291,.int .u32 1695183700,.int .u32 1986661051,.int .u32 2177026350,.int .u32 2456956037,.int .u32 2730485921,.int .u32 2820302411,.int .u32 3259730800,.int .u32 3345764771,.int .u32 3516065817,.int .u32 3600352804,.int .u32 4094571909,.int .u32 275423344,.int .u32 430227734,.int .u32 506948616,.int .u32 659060556,.int .u32 883997877,.int .u32 958139571,.int .u32 1322822218,.int .u32 1537002063,.int .u32 1747873779,.int .u32 1955562222,.int .u32 2024104815,.int .u32 2227730452,.int .u32 2361852424,.int .u32 2428436474,.int .u32 2756734187,.int .u32 3204031479,.int .u32 3329325298]
def Z2S:∀n∈KL,n<4294967296:=Qz
def Z2R:Jx.toList=YY Bm:=by have h:Jx.toList=KL.map λ(n:Nat)=>Value.int .u32 (n:Int):=rfl;rw[h,YY,Bm,Zer];refine ZdG λn C=> ?_;show Value.int .u32 (n:Int)=.int .u32 (uv (BitVec.ofNat 32 n));rw[Ix (Z2S n C)]
def B6:Array Qt:= #[.int .u32 0,.int .u32 0,.int .u32 0,.int .u32 0,.int .u32 0,.int .u32 0,.int .u32 0,.int .u32 0,.int .u32 0,.int .u32 0,.int .u32 0,.int .u32 0,.int .u32 0,.int .u32 0,.int .u32 0,.int .u32 0,.int .u32 0,.int .u32 0,.int .u32 0,.int .u32 0,.int .u32 0,.int .u32 0,.int .u32 0,.int .u32 0,.int .u32 0,.int .u32 0,.int .u32 0,.int .u32 0,.int .u32 0,.int .u32 0,.int .u32 0,.int .u32 0,.int .u32 0,.int .u32 0,.int .u32 0,.int .u32 0,.int .u32 0,.int .u32 0,.int .u32 0,.int .u32 0,.int .u32 0,.int .u32 0,.int .u32 0,.int .u32 0,.int .u32 0,.int .u32 0,.int .u32 0,.int .u32 0,.int .u32 0,.int .u32 0,.int .u32 0,.int .u32 0,.int .u32 0,.int .u32 0,.int .u32 0,.int .u32 0,.int .u32 0,.int .u32 0,.int .u32 0,.int .u32 0,.int .u32 0,.int .u32 0,.int .u32 0,.int .u32 0]
def Z8D:B6.toList=YY (List.replicate 64 0#32):=by
 have h:B6.toList=List.replicate 64 (Value.int .u32 0):=rfl;have z:uv 0#32=0:=by rw[YU];rfl
 rw[h,YY,List.map_replicate,z]
noncomputable def Z3E:Code:=(Tryz.f275.body.bind (C1 1)).getD .skip
noncomputable def Z3F:Code:=(Tryz.f275.body.bind (C1 3)).getD .skip
def SK(w:Qs)(cs C:Array Qt)(t:Qu)(fr:Nat×Nat):(w.alloc (.cells cs t fr)).setRow w.heap.size C=w.alloc (.cells C t fr):=by
 unfold World.setRow World.alloc;congr 1;apply Zgz
 .simp
 .intro i F J;simp only[Array.getElem_modify,Array.getElem_push];simp at F;by_cases h:w.heap.size=i
  .subst h;simp
  .rw[Zw h];simp[show i<w.heap.size by omega]
set_option maxRecDepth 1000000 in
theorem Z3K(w:Qs)(K:Act->Qs->Prop)(Q:Exit->Act->Qs->Prop)(c0 c1 c2 c3 c4 c5 c6 c7 c8 c9 kt ku kx ky kz l5 l7 ld lh lj lk lq lr lu ly lz r8 ma mb me mf mg mh mi mj mn mo mq mu mw mx my mz n9 nf nj nr nt nu ny nz o4 o5 o7 oc og oh oi oj om oo oq ot ou ov c65 c66 c67 c68 ow oy oz p5 p6 p8 pj pq pr pt px py qb qd qe qg qh qj qk ql qm qn qo qp qs qt qu qv qw qx qy h C F J M O U Z ae af ag ah ai aj ak aq au aw ay az bf bg bh bj bm bq bu bz cj cn cr ct cu cw cy cz de df dh dj dm dp dq dt du dw dx dy dz ee ef eh ek eo er eu ew ey ez fa fc fe fg fh fi fj fm fo fp fq ft fu fw fx fy gj gy ia ib ic ie ig ij ik im iq ir iu iw ix iy iz j7 j8 j9 ja jb jc jd je jf jg jh ji jk jl jm jo jq jr js jt ju jw jx jy jz ke kf kg kh kj kq:Qt)(hK:K ⟨(List.toArray (c0::c1::c2::c3:: .pointer w.heap.size::c5::c6::c7::c8::c9::kt::ku::kx::ky::kz::l5::l7::ld::lh::lj::lk::lq::lr::lu::ly::lz:: .agg Jx::ma::mb::me::mf::mg::mh::mi::mj::mn::mo::mq::mu::mw::mx::my::mz::n9::nf::nj::nr::nt::nu::ny::nz::o4::o5::o7::oc::og::oh::oi::oj::om::oo::oq::ot::ou::ov::c65::c66::c67::c68::ow::oy::oz::p5::p6::p8::pj::pq::pr::pt::px::py::qb::qd::qe::qg::qh::qj::qk::ql::qm::qn::qo::qp::qs::qt::qu::qv::qw::qx::qy::h::C::F::J::M::O::U::Z::ae::af::ag::ah::ai::aj::ak::aq::au::aw::ay::az::bf::bg::bh::bj::bm::bq::bu::bz::cj::cn::cr::ct::cu::cw::cy::cz::de::df::dh::dj::dm::dp::dq::dt::du::dw::dx::dy::dz::ee::ef::eh::ek::eo::er::eu::ew::ey::ez::fa::fc::fe::fg::fh::fi::fj::fm::fo::fp::fq::ft::fu::fw::fx::fy::gj::gy::ia::ib::ic::ie::ig::ij::ik::im::iq::ir::iu::iw::ix::iy::iz::j7::j8::j9::ja::jb::jc::jd::je::jf::jg::jh::ji::jk::jl::jm::jo::jq::jr::js::jt::ju::jw::jx::jy::jz::ke::kf::kg::kh::kj::kq::[])),[]⟩ (w.alloc (.cells Jx 352))):Code.wp prog Z3E (Exit.then K Q) ⟨(List.toArray (c0::c1::c2::c3::c4::c5::c6::c7::c8::c9::kt::ku::kx::ky::kz::l5::l7::ld::lh::lj::lk::lq::lr::lu::ly::lz::r8::ma::mb::me::mf::mg::mh::mi::mj::mn::mo::mq::mu::mw::mx::my::mz::n9::nf::nj::nr::nt::nu::ny::nz::o4::o5::o7::oc::og::oh::oi::oj::om::oo::oq::ot::ou::ov::c65::c66::c67::c68::ow::oy::oz::p5::p6::p8::pj::pq::pr::pt::px::py::qb::qd::qe::qg::qh::qj::qk::ql::qm::qn::qo::qp::qs::qt::qu::qv::qw::qx::qy::h::C::F::J::M::O::U::Z::ae::af::ag::ah::ai::aj::ak::aq::au::aw::ay::az::bf::bg::bh::bj::bm::bq::bu::bz::cj::cn::cr::ct::cu::cw::cy::cz::de::df::dh::dj::dm::dp::dq::dt::du::dw::dx::dy::dz::ee::ef::eh::ek::eo::er::eu::ew::ey::ez::fa::fc::fe::fg::fh::fi::fj::fm::fo::fp::fq::ft::fu::fw::fx::fy::gj::gy::ia::ib::ic::ie::ig::ij::ik::im::iq::ir::iu::iw::ix::iy::iz::j7::j8::j9::ja::jb::jc::jd::je::jf::jg::jh::ji::jk::jl::jm::jo::jq::jr::js::jt::ju::jw::jx::jy::jz::ke::kf::kg::kh::kj::kq::[])),[]⟩ w:=by
 have HK:=ZI hK;clear hK
 conv=>arg 2;whnf
 refine wp_region_list ?_;refine wpList_build rfl _ _ rfl Qy ?_;refine Eq.mpr (ZF (λx=>wpList _ _ _ _ (Act.put _ _ (Value.agg x)) _) (show _=Jx from Qy)) ?_;refine MB (w':=w.alloc (.cells B6 352)) (v:=.pointer w.heap.size) rfl Qy ?_;refine wpList_store_row rfl _ _ _ rfl w.heap.size Jx rfl rfl 352 B6 (ZB w _) Qy rfl Qy ?_;rw[SK];refine wpList_nil ?_;exact HK.o
set_option maxRecDepth 1000000 in
theorem Z3L(w:Qs)(K:Act->Qs->Prop)(Q:Exit->Act->Qs->Prop)(c0 c1 c2 c3 c4 c5 c6 c7 c8 c9 kt ku kx ky kz l5 l7 ld lh lj lk lq lr lu ly lz ma mb me mf mg mh mi mj mn mo mq mu mw mx my mz n9 nf nj nr nt nu ny nz o4 o5 o7 oc og oh oi oj om oo oq ot ou ov ow c65 c66 c67 c68 oy oz p5 p6 p8 pj pq pr pt px py qb qd qe qg qh qj qk ql qm qn qo qp qs qt qu qv qw qx qy r8 h C F J M O U Z ae af ag ah ai aj ak aq au aw ay az bf bg bh bj bm bq bu bz cj cn cr ct cu cw cy cz de df dh dj dm dp dq dt du dw dx dy dz ee ef eh ek eo er eu ew ey ez fa fc fe fg fh fi fj fm fo fp fq ft fu fw fx fy gj gy ia ib ic ie ig ij ik im iq ir iu iw ix iy iz j7 j8 j9 ja jb jc jd je jf jg jh ji jk jl jm jo jq jr js jt ju jw jx jy jz ke kf kg kh kj kq:Qt)(hK:K ⟨(List.toArray (c0::c1::c2::c3::c4::c5:: .pointer w.heap.size::c7::c8::c9::kt::ku::kx::ky::kz::l5::l7::ld::lh::lj::lk::lq::lr::lu::ly::lz::ma::mb::me::mf::mg::mh::mi::mj::mn::mo::mq::mu::mw::mx::my::mz::n9::nf::nj::nr::nt::nu::ny::nz::o4::o5::o7::oc::og::oh::oi::oj::om::oo::oq::ot::ou::ov::ow::c65::c66::c67::c68::oy::oz::p5::p6::p8::pj::pq::pr::pt::px::py::qb::qd::qe::qg::qh::qj::qk::ql::qm::qn::qo::qp::qs::qt::qu::qv::qw::qx::qy::r8::h::C::F::J::M::O::U::Z::ae::af::ag::ah::ai::aj::ak::aq::au::aw::ay::az::bf::bg::bh::bj::bm::bq::bu::bz::cj::cn::cr::ct::cu::cw::cy::cz::de::df::dh::dj::dm::dp::dq::dt::du::dw::dx::dy::dz::ee::ef::eh::ek::eo::er::eu::ew::ey::ez::fa::fc::fe::fg::fh::fi::fj::fm::fo::fp::fq::ft::fu::fw::fx::fy::gj::gy::ia::ib::ic::ie::ig::ij::ik::im::iq::ir::iu::iw::ix::iy::iz::j7::j8::j9::ja::jb::jc::jd::je::jf::jg::jh::ji::jk::jl::jm::jo::jq::jr::js::jt::ju::jw::jx::jy::jz::ke::kf::kg::kh::kj::kq::[])),[]⟩ (w.alloc (.cells B6 352))):Code.wp prog Z3F (Exit.then K Q) ⟨(List.toArray (c0::c1::c2::c3::c4::c5::c6::c7::c8::c9::kt::ku::kx::ky::kz::l5::l7::ld::lh::lj::lk::lq::lr::lu::ly::lz::ma::mb::me::mf::mg::mh::mi::mj::mn::mo::mq::mu::mw::mx::my::mz::n9::nf::nj::nr::nt::nu::ny::nz::o4::o5::o7::oc::og::oh::oi::oj::om::oo::oq::ot::ou::ov::ow::c65::c66::c67::c68::oy::oz::p5::p6::p8::pj::pq::pr::pt::px::py::qb::qd::qe::qg::qh::qj::qk::ql::qm::qn::qo::qp::qs::qt::qu::qv::qw::qx::qy::r8::h::C::F::J::M::O::U::Z::ae::af::ag::ah::ai::aj::ak::aq::au::aw::ay::az::bf::bg::bh::bj::bm::bq::bu::bz::cj::cn::cr::ct::cu::cw::cy::cz::de::df::dh::dj::dm::dp::dq::dt::du::dw::dx::dy::dz::ee::ef::eh::ek::eo::er::eu::ew::ey::ez::fa::fc::fe::fg::fh::fi::fj::fm::fo::fp::fq::ft::fu::fw::fx::fy::gj::gy::ia::ib::ic::ie::ig::ij::ik::im::iq::ir::iu::iw::ix::iy::iz::j7::j8::j9::ja::jb::jc::jd::je::jf::jg::jh::ji::jk::jl::jm::jo::jq::jr::js::jt::ju::jw::jx::jy::jz::ke::kf::kg::kh::kj::kq::[])),[]⟩ w:=by
 have HK:=ZI hK;clear hK
 conv=>arg 2;whnf
 try simp only[List.append_eq,ZdK,Zdx]
 go_wp2;exact HK.o
section
variable{g:Nat}{st:List (BitVec 32)}{w w':World}
structure Wy(w:Qs)(g:Nat)(st:List Qp):Prop where
 len:st.length=8
 lt:g<w
 cell:∀j,j<8->w.cell? ⟨g,j,none⟩=some (.int .u32 (uv (st.getD j 0#32)))
 free:∀j,j<8->w.frozen? ⟨g,j,none⟩=false
def Wy.after(h:Wy w g st)(hb:Below w w w'):Wy w' g st:=⟨h.len,Zp h.lt hb.size,λj C=>(hb.cell (p:=⟨g,j,none⟩) h.lt).trans (h.cell j C),λj C=>(hb.frozen (p:=⟨g,j,none⟩) h.lt).trans (h.free j C)⟩
def be4(l:Ql)(i:Nat):Qp:=BitVec.ofNat 32 (Ww (l.drop (4*i)))
def EA(blk:Ql)(ws:List Qp)(i:Nat):Qp:=
 if i<16 then be4 blk i else
  ws.getD (i-16) 0#32+(WC (ws.getD (i-15) 0#32) 7^^^WC (ws.getD (i-15) 0#32) 18^^^(ws.getD (i-15) 0#32>>>3))+ws.getD (i-7) 0#32+(WC (ws.getD (i-2) 0#32) 17^^^WC (ws.getD (i-2) 0#32) 19^^^(ws.getD (i-2) 0#32>>>10))
def wl(blk:Ql):Nat->List Qp
 |0=>List.replicate 64 0#32
 |i+1=>(wl blk i).set i (EA blk (wl blk i) i)
def ED(h:Ql)(i:Nat):(wl h i).length=64:=by
 induction i with
 |zero=>simp[wl]
 |succ i ih=>simp[wl,ih]
def N1:prog.arrayLen 346=64:=Qy
def Uk:prog.elem 346=5:=Qy
def Sj(b o l:Nat)(hl:l<64)(W:Qs):(Instr.sliceAt 346 (.pointer (some ⟨b,o,none⟩)) (some (.int .i64 (l:Int))) none none).run prog W=.ok (.slice (some ⟨b,o+l,none⟩) (64-l) (64-l)) W:=by
 have h:prog.underlying 346=some (.array (prog.arrayLen 346) (prog.elem 346)):=Qy;rw[run_sliceAt_array_l W _ _ h .i64 (l:Int) Qw (by rw[N1];omega),Uk,N1];have C:(sizeOf 5).run prog W=.ok 1 W:=Tryz.sizeOf5 W;rw[C];simp only[Result.andThen,slicedAt,Ze6,Zfz];rw[Zw Qw];have e1:(⟨b,o,none⟩:Addr).add l=⟨b,o+l,none⟩:=by unfold Addr.add;split<;>simp_all
 rw[e1]
def Z4i(a b c d:Nat)(ha:a<256)(hb:b<256)(hc:c<256)(U:d<256):IntKind.u32.wrap (a:Int)=(a:Int)/\IntKind.u32.wrap (b:Int)=(b:Int)/\IntKind.u32.wrap (c:Int)=(c:Int)/\IntKind.u32.wrap (d:Int)=(d:Int)/\ IntKind.u32.wrap ((a:Int)*16777216)=(a:Int)*16777216/\IntKind.u32.wrap ((b:Int)*65536)=(b:Int)*65536/\IntKind.u32.wrap ((c:Int)*256)=(c:Int)*256/\ bits .or .u32 ((a:Int)*16777216) ((b:Int)*65536)=(a:Int)*16777216+(b:Int)*65536/\ bits .or .u32 ((a:Int)*16777216+(b:Int)*65536) ((c:Int)*256)=(a:Int)*16777216+(b:Int)*65536+(c:Int)*256/\ bits .or .u32 ((a:Int)*16777216+(b:Int)*65536+(c:Int)*256) (d:Int)=(a:Int)*16777216+(b:Int)*65536+(c:Int)*256+d:=by
 have h:∀n:Nat,n<4294967296->IntKind.u32.wrap (n:Int)=(n:Int):=λn Z=>by have:=IntKind.wrap_u32' (n:Int);omega
 have C:∀ (k x y:Nat),y<2^k->x*2^k<4294967296->y<4294967296->bits .or .u32 ((x*2^k:Nat):Int) (y:Int)=((x*2^k+y:Nat):Int):=λk x y J M O=>by rw[u32_or_nat _ _ M O,<-ZeL,ZeR J]
 have e1:=h (a*16777216) Qw;have e2:=h (b*65536) Qw;have F:=h (c*256) Qw;refine⟨h a Qw,h b Qw,h c Qw,h d Qw,by simpa using e1,by simpa using e2,by simpa using F,?_,?_,?_⟩
 .have:=C 24 a (b*65536) Qw Qw Qw;simpa using this
 .have:=C 16 (a*256+b) (c*256) Qw Qw Qw;have e:((a*256+b)*2^16:Nat)=a*16777216+b*65536:=Qw;rw[e] at this;simpa using this
 .have:=C 8 (a*65536+b*256+c) d Qw Qw Qw;have e:((a*65536+b*256+c)*2^8:Nat)=a*16777216+b*65536+c*256:=Qw;rw[e] at this;simpa using this
def G4{P:Program}{f:FuncId}{args:Array Qt}{v:Qt}(h:Calls P f args w λe w'=>e=.returned v/\w=w'):Calls P f args w λe w'=>e=.returned v/\w'=w:=h.mono λ_ _ ⟨he,hw⟩=>⟨he,hw.symm⟩
def Z7J(x y:Qp):IntKind.u32.wrap (uv x+uv y)=uv (x+y):=by rw[<-Ez];have:=IntKind.wrap_u32' (uv x+uv y);omega
structure R8 where
 a:Qp
 b:Qp
 c:Qp
 d:Qp
 e:Qp
 f:Qp
 g:Qp
 h:Qp
def R8.t(r:R8)(K W:Qp):Qp:=r.h+(WC r.e 6^^^WC r.e 11^^^WC r.e 25)+((r.e&&&r.f)^^^(~~~ r.e&&&r.g))+K+W
def R8.u(r:R8):Qp:=(WC r.a 2^^^WC r.a 13^^^WC r.a 22)+((r.a&&&r.b)^^^(r.a&&&r.c)^^^(r.b&&&r.c))
def R8.next(r:R8)(K W:Qp):R8:=⟨r.t K W+r.u,r.a,r.b,r.c,r.d+r.t K W,r.e,r.f,r.g⟩
def R8.of(st:List Qp):R8:=⟨st.getD 0 0#32,st.getD 1 0#32,st.getD 2 0#32,st.getD 3 0#32,st.getD 4 0#32,st.getD 5 0#32,st.getD 6 0#32,st.getD 7 0#32⟩
def R8.list(r:R8):List Qp:=[r.a,r.b,r.c,r.d,r.e,r.f,r.g,r.h]
def FR(blk:Ql)(st:List Qp):Nat->R8
 |0=>R8.of st
 |i+1=>(FR blk st i).next (Bm.getD i 0#32) ((wl blk 64).getD i 0#32)
def mixed(st:List Qp)(blk:Ql):List Qp:=List.zipWith (· + ·) st (FR blk st 64).list
section
variable{P:Program}
def Z8f{ops:Array Oper}{rest:List Oper}{o:Oper}{a:Act}{Q:Exit->Act->Qs->Prop}(ah:o.guard=none)(d s:Operand)(M sT:Qu)(ho:o.op=.call {callee:=.builtin .copy,args:= #[d,s],argTypes:= #[M,sT]})(elem:Qu)(hu:P.underlying M=some (.slice elem))(ai:(P.info? elem).map (·.size)=some 1)(g off F O gs os J ae:Nat)(hd:a.eval d=.slice (some ⟨g,off,none⟩) F O)(hs:a.eval s=.slice (some ⟨gs,os,none⟩) J ae)(t:Qu)(L C:Qk)(U:Y1 w g t L)(hn:C.length=Nat.min J F)(af:off+C.length<=L.length)(ag:∀j v,C[j]? =some v->w.cell? ⟨gs,os+j,none⟩=some v)(h1:∀v∈C,v.oneCell'=true)(h:∀w',Y1 w' g t (L.take off++C++L.drop (off+C.length))->Fr [g] w w'->wpList P ops Q rest (a.put o.dst (goInt C.length)) w'):wpList P ops Q (o::rest) a w:=by
 refine ZfL ah λK hK=> ?_;have Z:=run_copy_row (P:=P) w M sT o.type elem g off F O ⟨gs,os,none⟩ J ae L.toArray t C hu ai U hn
  (λj v hj=>by
   have e1:(⟨gs,os,none⟩:Addr).add j=⟨gs,os+j,none⟩:=by unfold Addr.add;split<;>simp_all
   rw[e1];exact ag j v hj)
  (by simpa using af) h1
 simp only[ZeI] at Z;have hr:=U.setRow (L.take off++C++L.drop (off+C.length));have hF:=(Fr.refl [g] w).setRow (g:=g) (Zv Qx) (L.take off++C++L.drop (off+C.length)).toArray;have h9:=h _ hr hF;unfold Oper.wp execOp;simp only[ho,resolve,invoke,builtin,Zf4,Zfh,Zep,Zfs,Zn,ZeC,hd,hs,Z];exact hK _ _ h9
end
def Tw(l:List Qp):∀v∈YY l,v.oneCell'=true:=by intro v hv;unfold YY at hv;obtain⟨x,_,rfl⟩:=Zz.1 hv;rfl
def Wy.news(h:Wy w g st):∀j v,(YY st)[j]? =some v->w.cell? ⟨g,0+j,none⟩=some v:=λj v C=>by
 have F:j<st.length:=by have:=(Zem.1 C).1;rwa[CL] at this
 rw[Cd st j F] at C;rw[Zdz,h.cell j (by have:=h.len;omega)];exact C
def Wy.fr(h:Wy w g st){L:Qj}(F:Fr L w w')(J:g∉L):Wy w' g st:=
 have hb:=F.block g h.lt J
 ⟨h.len,Zp h.lt F.size,λj C=>by rw[<-h.cell j C];simp[World.cell?,hb],λj C=>by rw[<-h.free j C];simp[World.frozen?,hb]⟩
def Z5P(a b c d e f g h:Qt)(W:Qs):(Instr.index 354 (.agg #[a,b,c,d,e,f,g,h]) (.int .i64 0)).run prog W=.ok a W:=Qy
def Z5Q(a b c d e f g h:Qt)(W:Qs):(Instr.index 354 (.agg #[a,b,c,d,e,f,g,h]) (.int .i64 1)).run prog W=.ok b W:=Qy
def Z5R(a b c d e f g h:Qt)(W:Qs):(Instr.index 354 (.agg #[a,b,c,d,e,f,g,h]) (.int .i64 2)).run prog W=.ok c W:=Qy
def Z5S(a b c d e f g h:Qt)(W:Qs):(Instr.index 354 (.agg #[a,b,c,d,e,f,g,h]) (.int .i64 3)).run prog W=.ok d W:=Qy
def Z5T(a b c d e f g h:Qt)(W:Qs):(Instr.index 354 (.agg #[a,b,c,d,e,f,g,h]) (.int .i64 4)).run prog W=.ok e W:=Qy
def Z5U(a b c d e f g h:Qt)(W:Qs):(Instr.index 354 (.agg #[a,b,c,d,e,f,g,h]) (.int .i64 5)).run prog W=.ok f W:=Qy
def Z5V(a b c d e f g h:Qt)(W:Qs):(Instr.index 354 (.agg #[a,b,c,d,e,f,g,h]) (.int .i64 6)).run prog W=.ok g W:=Qy
def Z5W(a b c d e f g h:Qt)(W:Qs):(Instr.index 354 (.agg #[a,b,c,d,e,f,g,h]) (.int .i64 7)).run prog W=.ok h W:=Qy
def Z5O(r:R8)(k:Nat)(C:k<8)(W:Qs):(Instr.index 354 (.agg #[.int .u32 (uv r.a),.int .u32 (uv r.b),.int .u32 (uv r.c),.int .u32 (uv r.d),.int .u32 (uv r.e),.int .u32 (uv r.f),.int .u32 (uv r.g),.int .u32 (uv r.h)]) (.int .i64 (k:Int))).run prog W=.ok (.int .u32 (uv (r.list.getD k 0#32))) W:=by
 have h:k=0∨k=1∨k=2∨k=3∨k=4∨k=5∨k=6∨k=7:=Qw;clear C;rcases h with rfl|rfl|rfl|rfl|rfl|rfl|rfl|rfl
 .exact Z5P _ _ _ _ _ _ _ _ W
 .exact Z5Q _ _ _ _ _ _ _ _ W
 .exact Z5R _ _ _ _ _ _ _ _ W
 .exact Z5S _ _ _ _ _ _ _ _ W
 .exact Z5T _ _ _ _ _ _ _ _ W
 .exact Z5U _ _ _ _ _ _ _ _ W
 .exact Z5V _ _ _ _ _ _ _ _ W
 .exact Z5W _ _ _ _ _ _ _ _ W
def Bp(st rl:List Qp)(k:Nat):List Qp:=(List.range 8).map λj=>if j<k then st.getD j 0#32+rl.getD j 0#32 else st.getD j 0#32
def Z3I(st h:List Qp)(k:Nat):(Bp st h k).length=8:=by simp[Bp]
def Hm(st h:List Qp)(k j:Nat)(C:j<8):(Bp st h k).getD j 0#32=if j<k then st.getD j 0#32+h.getD j 0#32 else st.getD j 0#32:=by unfold Bp;rw[Z7,ZdF,Zf9 C];rfl
def Z3H(st:List Qp)(r:R8)(h:st.length=8):Bp st r.list 8=List.zipWith (· + ·) st r.list:=by
 match st,h with
 |[s0,s1,s2,s3,s4,s5,s6,s7],_=>rfl
def Z3G(st C:List Qp)(h:st.length=8):Bp st C 0=st:=by
 match st,h with
 |[s0,s1,s2,s3,s4,s5,s6,s7],_=>rfl
def Wy.step{F:List Qp}{k:Nat}(h:Wy w g (Bp st F k))(O:k<8):Wy (w.setCell ⟨g,k,none⟩ (.int .u32 (uv (st.getD k 0#32+F.getD k 0#32)))) g (Bp st F (k+1)):=by
 refine⟨Z3I _ _ _,by simpa[World.setCell] using h.lt,λj C=> ?_,λj C=> ?_⟩
 .by_cases e:j=k
  .subst e;have M:=h.cell j C;rw[Hm _ _ _ _ C,Zx Qw];exact ZfT _ _ _ (by rw[M];rfl)
  .rw[ZfX _ _ _ _ (λx=>e (by injection x with _ x;exact x.symm)),h.cell j C,Hm _ _ _ _ C,Hm _ _ _ _ C];by_cases J:j<k
   .rw[Zx J,Zx Qw]
   .rw[Zw J,Zw Qw]
 .rw[World.frozen?_setCell];exact h.free j C
def Z7v:(prog.info? 161).map (·.size)=some 1:=Qy
def Z5K(b:Nat)(W:Qs):(Instr.sliceAt 354 (.pointer b) none none none).run prog W=.ok (.slice b 8 8) W:=Qy
end
section
variable{c gs h:Nat}{w w':World}
structure Hs where
 st:List Qp
 buf:Ql
 many:Nat
 size:Nat
def Yw(gs c:Nat)(H:Hs):Qk:=[.slice gs 8 c]++QJ H.buf++[.int .i64 (H.many:Int),.int .u64 (H.size:Int),.func (.func 275) #[] #[],.bool true]
structure Yq(w:Qs)(h gs c:Nat)(H:Hs):Prop where
 top:Y1 w h 348 (Yw gs c H)
 st:Wy w gs H.st
 len:H.buf.length=64
 lt:H.many<=64
 ne:gs≠h
def GU{H:Hs}(h:H.buf.length=64):(Yw gs c H).length=69:=by simp[Yw,W7,h]
def OL(gs c:Nat)(H:Hs):(Yw gs c H)[0]? =some (.slice gs 8 c):=rfl
def Z23{H:Hs}(h:H.buf.length=64)(j:Nat)(C:j<64):(Yw gs c H)[j+1]? =some (.int .u8 ((H.buf.getD j 0).toNat:Int)):=by unfold Yw;rw[Zd,Zda Qx,Za (by simp[W7,h,C])];rw[show j+1- [Value.slice gs 8 c].length=j from Qx,Bf _ _ Qw,Z7,Z8 Qw];rfl
def GT{H:Hs}(h:H.buf.length=64)(j:Nat):(Yw gs c H)[65+j]? =[Value.int .i64 (H.many:Int),.int .u64 (H.size:Int),.func (.func 275) #[] #[],.bool true][j]?:=by unfold Yw;rw[Zda (by simp[W7,h])];congr 1;simp[W7,h]
def Yq.c0{H:Hs}(k:Yq w h gs c H):w.cell? h=some (.slice gs 8 c):=k.top.row.cell (OL gs c H)
def Yq.c65{H:Hs}(k:Yq w h gs c H):w.cell? ⟨h,65,none⟩=(H.many:Int):=k.top.row.cell (GT k.len 0)
def Yq.c66{H:Hs}(k:Yq w h gs c H):w.cell? ⟨h,66,none⟩=some (.int .u64 (H.size:Int)):=k.top.row.cell (GT k.len 1)
def Yq.c67{H:Hs}(k:Yq w h gs c H):w.cell? ⟨h,67,none⟩=some (.func (.func 275) #[] #[]):=k.top.row.cell (GT k.len 2)
def Yq.c68{H:Hs}(k:Yq w h gs c H):w.cell? ⟨h,68,none⟩=true:=k.top.row.cell (GT k.len 3)
def Yq.free{H:Hs}(k:Yq w h gs c H)(j:Nat)(C:j<69):w.frozen? ⟨h,j,none⟩=false:=k.top.row.free (by rw[GU k.len];exact C)
def Yq.lt_{H:Hs}(k:Yq w h gs c H):h<w:=k.top.row.lt
def Yq.fr{H:Hs}(k:Yq w h gs c H){L:Qj}(C:Fr L w w')(F:h∉L)(J:gs∉L):Yq w' h gs c H:=⟨k.top.fr C F,k.st.fr C J,k.len,k.lt,k.ne⟩
def Yq.after{H:Hs}(k:Yq w h gs c H)(hb:Below w w w'):Yq w' h gs c H:=k.fr (Z1 (L:=[]) hb) Qx Qx
def Z26{H:Hs}(h:H.buf.length=64)(m:Nat):(Yw gs c H).set 65 (.int .i64 (m:Int))=Yw gs c {H with many:=m}:=by unfold Yw;rw[ZeV _ _ (by simp[W7,h])];congr 1;simp[W7,h]
def Z27{H:Hs}(h:H.buf.length=64)(m:Nat):(Yw gs c H).set 66 (.int .u64 (m:Int))=Yw gs c {H with size:=m}:=by unfold Yw;rw[ZeV _ _ (by simp[W7,h])];congr 1;simp[W7,h]
def Yq.setMany{H:Hs}(k:Yq w h gs c H)(m:Nat)(hm:m<=64):Yq (w.setCell ⟨h,65,none⟩ (.int .i64 (m:Int))) h gs c {H with many:=m}:=⟨by rw[<-Z26 k.len];exact k.top.set 65 _,k.st.fr ((Fr.refl [h] w).setCell (Zv Qx) _) (by simpa using k.ne),k.len,hm,k.ne⟩
def Yq.Zcl{H:Hs}(k:Yq w h gs c H)(m:Nat):Yq (w.setCell ⟨h,66,none⟩ (.int .u64 (m:Int))) h gs c {H with size:=m}:=⟨by rw[<-Z27 k.len];exact k.top.set 66 _,k.st.fr ((Fr.refl [h] w).setCell (Zv Qx) _) (by simpa using k.ne),k.len,k.lt,k.ne⟩
def st0:List Qp:=[0x6a09e667#32,0xbb67ae85#32,0x3c6ef372#32,0xa54ff53a#32,0x510e527f#32,0x9b05688c#32,0x1f83d9ab#32,0x5be0cd19#32]
def hs0:Hs:=⟨st0,List.replicate 64 0,0,0⟩
def G3:Array Qt:= #[.int .u32 1779033703,.int .u32 3144134277,.int .u32 1013904242,.int .u32 2773480762,.int .u32 1359893119,.int .u32 2600822924,.int .u32 528734635,.int .u32 1541459225]
def Z6Q:G3.toList=YY st0:=by
 have h:∀n:Nat,n<4294967296->Value.int .u32 (n:Int)=.int .u32 (uv (BitVec.ofNat 32 n)):=λn Z=>by rw[Ix Z]
 have e1:=h 1779033703 Qw;have e2:=h 3144134277 Qw;have C:=h 1013904242 Qw;have F:=h 2773480762 Qw;have J:=h 1359893119 Qw;have M:=h 2600822924 Qw;have O:=h 528734635 Qw;have U:=h 1541459225 Qw;show[Value.int .u32 ((1779033703:Nat):Int),.int .u32 ((3144134277:Nat):Int),.int .u32 ((1013904242:Nat):Int),.int .u32 ((2773480762:Nat):Int),.int .u32 ((1359893119:Nat):Int),.int .u32 ((2600822924:Nat):Int),.int .u32 ((528734635:Nat):Int),.int .u32 ((1541459225:Nat):Int)]=_;rw[e1,e2,C,F,J,M,O,U];rfl
def Z5A{g:Nat}{t:Qu}{st:List Qp}(h:Row w g t (YY st))(hl:st.length=8):Wy w g st:=⟨hl,h.lt,λj C=>h.cell (Cd st j Qw),λj C=>h.free (by rw[CL];omega)⟩
set_option maxRecDepth 1000000 in
theorem Z3S(w:Qs):Calls prog 260 #[] w λe w'=>∃h gs,e=.returned (h:Nat)/\w.heap.size<=h/\w.heap.size<=gs/\Yq w' h gs 8 hs0/\Below w w w':=by
 go_enter func260,ntmps260;go_wp2;go_ret;refine⟨w.heap.size+1,w.heap.size,rfl,Qw,Zt _,?_,(((Zu _ w).alloc (Zt _) _).alloc Qx _)⟩;have F:Row ((w.alloc (.cells G3 161)).alloc (.cells (Yw w 8 hs0).toArray 348)) w 161 (YY st0):=by have:=(Z2 w 161 (YY st0)).alloc (.cells (Yw w 8 hs0).toArray 348);rw[<-Z6Q] at this⊢;exact this
 have C:Y1 ((w.alloc (.cells G3 161)).alloc (.cells (Yw w 8 hs0).toArray 348)) (w.alloc (.cells G3 161)).heap.size 348 (Yw w 8 hs0):=Z95 _ _ _;rw[show(w.alloc (.cells G3 161)).heap.size=w.heap.size+1 from Qx] at C;exact⟨C,Z5A F rfl,rfl,Qz,Qw⟩
end
def F0(n many k:Nat):UInt8:=UInt8.ofNat (n / 2^(8*(many-1-k)))
def beN(n many:Nat):Ql:=(List.range many).map (F0 n many)
def Jf(n many i:Nat):Ql:=(List.range many).map λk=>if many-i<=k then F0 n many k else 0
def EV(n many:Nat):(beN n many).length=many:=by simp[beN]
def Nd(n many i:Nat):(Jf n many i).length=many:=by simp[Jf]
def V8(n many:Nat):Jf n many 0=List.replicate many 0:=by
 apply ZdX
 .simp[Jf]
 .intro j h C;have F:j<many:=by simpa[Jf] using h
  simp[Jf];omega
def V9(n many:Nat):Jf n many many=beN n many:=by unfold Jf beN;exact ZdG λk _=>by rw[Zx Qw]
def Va(n many i:Nat)(hi:i<many):(Jf n many i).set (many-1-i) (F0 n many (many-1-i))=Jf n many (i+1):=by
 apply ZdX
 .simp[Jf]
 .intro j F C;have J:j<many:=by simpa[Jf] using C
  rw[Zg9];simp only[Jf,ZeP,List.getElem_range];by_cases e:many-1-i=j
  .rw[Zx e,Zx Qw,e]
  .rw[Zw e];by_cases h:many-i<=j
   .rw[Zx h,Zx Qw]
   .rw[Zw h,Zw Qw]
set_option maxRecDepth 1000000 in
theorem OJ(h gs c n many:Nat)(H:Hs)(w:Qs)(k:Yq w h gs c H)(hn:n<18446744073709551616)(hm:many<=8):Calls prog 276 #[h,.int .u64 (n:Int),(many:Int)] w λe w'=>e=.returned (.string ⟨(beN n many).toArray⟩)/\Below w w w':=by
 obtain⟨i0,hi,ai,aj,ak⟩:=ZE B1;have U:=Eo (P:=prog) 75 5 i0 underlying75 hi ai aj ak many Qw;have c68:=k.c68;have F:=Z95 w 5 (QJ (List.replicate many 0));rw[<-V8 n many] at F U;have J:=(Zu w w).alloc (Zt _) (.cells (QJ (Jf n many 0)).toArray 5);have K:=ZI k;have HN:=ZI hn;obtain⟨w1,Z⟩:=ZK (w.alloc (.cells (QJ (Jf n many 0)).toArray 5));have ae:=U w;rw[Z] at ae F J;have ag:=k.lt_;obtain⟨gb,O⟩:=ZK w.heap.size;rw[O] at ae F J ag;have HW:=ZI Z;have HB:=ZM F J;have HG:=ZI O;clear k hn U Z F J O;go_enter func276,ntmps276;go_wp2;go_loopw [14] (λi wr=>∃j:Nat,j<=many/\i=(j:Int)/\Y1 wr gb 5 (QJ (Jf n many j))/\Below gb w wr) (λi _=>many- (intOf i).toNat)
 .exact⟨0,Qw,rfl,HB.1,HB.2⟩
 obtain⟨j,hj,rfl,C,hb⟩:=hrel;by_cases af:j<many
 .have c:=(hb.cell (p:=⟨h,68,none⟩) ag).trans c68;obtain⟨q,hq⟩:=ZK (many-1-j);have ah:q<many:=Qw;have hf:=C.row.free (j:=q) (by rw[W7,Nd];exact ah);have hc:=C.row.cell (j:=q) (Bf _ _ (by rw[Nd];exact ah));have M:=ZM C hb;clear C hb;have au:(many:Int)-1- (j:Int)=(q:Int):=Qw;have HQ:=ZI hq;clear hq;go_wp2;go_roundw
  .have hv:(n:Int) / 2^(8*j)%256=((F0 n many q).toNat:Int):=by unfold F0;rw[toNat_ofNat,show many-1-q=j from by have:=HQ.o;omega];simp
   refine⟨j+1,Qw,QC,?_,M.2.setCell (p:=⟨gb,q,none⟩) (Zt _) _⟩;rw[hv,<-Va n many j af,HQ.o,<-IT];exact M.1.set q _
  simp[intOf];omega
 .obtain rfl:j=many:=by omega
  rw[V9] at C;have aq:=BA (P:=prog) wr 75 9 5 underlying75 underlying5 underlying9 C.row 0 j j (beN n j) (EV n j) (by rw[Ze3,Zi (by rw[W7,EV];omega)]);have M:=ZM C hb;clear C hb;go_wp2;go_ret;refine⟨rfl,?_⟩;rw[HG.o];exact M.2
section
variable{c gs:Nat}{w:World}
def Hs.byte(H:Hs)(b:UInt8):Hs:=if H.many+1=64 then{H with st:=mixed H.st (H.buf.set H.many b),buf:=H.buf.set H.many b,many:=0} else{H with buf:=H.buf.set H.many b,many:=H.many+1}
def Hs.bytes(H:Hs)(l:Ql):Hs:=l.foldl Hs.byte H
def Z92(H:Hs)(a b:Ql):H.bytes (a++b)=(H.bytes a).bytes b:=by simp[Hs.bytes]
def YC(buf:Ql)(m:Nat)(l:Ql):Ql:=buf.take m++l++buf.drop (m+l.length)
def Z4k(buf:Ql)(m:Nat):YC buf m []=buf:=by simp[YC]
def Z4j(buf:Ql)(m:Nat)(l:Ql)(h:m+l.length<=buf.length):(YC buf m l).length=buf.length:=by simp[YC];omega
def Rs(buf:Ql)(m:Nat)(l:Ql)(b:UInt8)(h:m+l.length<buf.length):(YC buf m l).set (m+l.length) b=YC buf m (l++[b]):=by
 unfold YC;rw[ZeV _ _ (by simp;omega)];have e:m+l.length- (List.take m buf++l).length=0:=by simp;omega
 rw[e,Zdw h,Zdi];simp[ZeH]
def Z6D{α:Type}{P:List α->Prop}(C:P [])(F:∀l a,P l->P (l++[a]))(l:List α):P l:=by
 have h:∀t:List α,P t.reverse:=by
  intro t
  induction t with
  |nil=>exact C
  |cons a t ih=>rw[List.reverse_cons];exact F _ a ih
 have:=h l.reverse;rwa[List.reverse_reverse] at this
def Z9l(H:Hs):∀ (l:Ql),H.buf.length=64->H.many+l.length<64->H.bytes l={H with buf:=YC H.buf H.many l,many:=H.many+l.length}:=by
 intro l;refine Z6D (P:=λl=>H.buf.length=64->H.many+l.length<64->H.bytes l={H with buf:=YC H.buf H.many l,many:=H.many+l.length}) ?_ (λl b ih=> ?_) l
 .intro _ _;simp[Hs.bytes,Z4k]
 .intro hb hl;simp at hl;rw[Z92,ih hb Qw];show Hs.byte _ b=_;unfold Hs.byte;simp only[];rw[Zw Qw,Rs _ _ _ _ Qw];simp[ZeH]
def Z9B(H:Hs)(l:Ql)(hb:H.buf.length=64)(hl:H.many+l.length=64)(h:l≠[]):H.bytes l={H with st:=mixed H.st (YC H.buf H.many l),buf:=YC H.buf H.many l,many:=0}:=by obtain⟨a,b,rfl⟩:∃a b,l=a++[b]:=⟨l.dropLast,l.getLast h,(ZfG h).symm⟩;simp at hl;rw[Z92,Z9l H a hb Qw];show Hs.byte _ b=_;unfold Hs.byte;simp only[];rw[Zx Qw,Rs _ _ _ _ Qw]
def Z9N(H:Hs)(b:UInt8)(h:H.many<64):(H.byte b).many<64:=by
 unfold Hs.byte;split
 .simp
 .simp only[];omega
def Z9b(H:Hs)(l:Ql)(h:H.many<64):(H.bytes l).many<64:=by
 unfold Hs.bytes
 induction l generalizing H with
 |nil=>exact h
 |cons b l ih=>rw[Zdf];exact ih _ (Z9N H b h)
def Z9E(H:Hs)(b:UInt8):(H.byte b).size=H.size:=by unfold Hs.byte;split<;>rfl
def Z9j(H:Hs)(l:Ql):(H.bytes l).size=H.size:=by
 unfold Hs.bytes
 induction l generalizing H with
 |nil=>rfl
 |cons b l ih=>rw[Zdf,ih,Z9E]
section
variable{P:Program}
def Z5M(w:Qs)(F sT ty elem:Qu)(g o C O n:Nat)(s:Qq)(cur:Array Qt)(t:Qu)(hu:P.underlying F=some (.slice elem))(hs:(P.info? elem).map (·.size)=some 1)(hg:w.heap[g]? =some (.cells cur t (0,0)))(J:n=Nat.min s.size C)(U:o+n<=cur.size):(Builtin.copy_ #[F,sT] ty #[.slice (some ⟨g,o,none⟩) C O,.string s]).run P w= .ok (goInt n) (w.setRow g (cur.toList.take o++QJ (s.data.toList.take n)++cur.toList.drop (o+n)).toArray):=by
 have Z:s.data.toList.length=s.size:=Qx;have hle:n<=s.size:=by rw[J];exact Zgm _ _
 have hlen:(QJ (s.data.toList.take n)).length=n:=by rw[W7,Zg,Z];omega
 have h1:∀v∈QJ (s.data.toList.take n),v.oneCell'=true:=by intro v hv;obtain⟨x,_,rfl⟩:=Zz.1 hv;rfl
 have h:=run_storeCells_at P g o t (QJ (s.data.toList.take n)) 0 cur w hg (by rw[hlen];simpa using U) h1;have ae:List.take n (List.map (λb:UInt8=>Value.int IntKind.u8 (b.toNat:Int)) s.data.toList)=QJ (s.data.toList.take n):=by unfold QJ;rw[Zfa]
 rw[hlen] at h;simp only[ZeE] at h;cases M:P.info? elem with
 |none=>simp[M] at hs
 |some i=>simp[Builtin.copy_,run_underlying hu,Builtin.lenOf,Builtin.firstCells,sizeOf,typeInfo,M,<-J];rw[ae,h];simp[Result.andThen]
def TR{ops:Array Oper}{rest:List Oper}{o:Oper}{a:Act}{Q:Exit->Act->Qs->Prop}(ae:o.guard=none)(d s:Operand)(F U:Qu)(ho:o.op=.call {callee:=.builtin .copy,args:= #[d,s],argTypes:= #[F,U]})(elem:Qu)(hu:P.underlying F=some (.slice elem))(af:(P.info? elem).map (·.size)=some 1)(g off C J n:Nat)(t:Qq)(hd:a.eval d=.slice (some ⟨g,off,none⟩) C J)(hs:a.eval s=.string t)(T:Qu)(L:Qk)(M:Y1 w g T L)(hn:n=Nat.min t.size C)(Z:off+n<=L.length)(h:∀w',Y1 w' g T (L.take off++QJ (t.data.toList.take n)++L.drop (off+n))->Fr [g] w w'->wpList P ops Q rest (a.put o.dst (goInt n)) w'):wpList P ops Q (o::rest) a w:=by refine ZfL ae λK hK=> ?_;have O:=Z5M (P:=P) w F U o.type elem g off C J n t L.toArray T hu af M hn (by simpa using Z);simp only[ZeI] at O;have hr:=M.setRow (L.take off++QJ (t.data.toList.take n)++L.drop (off+n));have hF:=(Fr.refl [g] w).setRow (g:=g) (Zv Qx) (L.take off++QJ (t.data.toList.take n)++L.drop (off+n)).toArray;have h9:=h _ hr hF;unfold Oper.wp execOp;simp only[ho,resolve,invoke,builtin,Zf4,Zfh,Zep,Zfs,Zn,ZeC,hd,hs,O];exact hK _ _ h9
end
def Z25{H:Hs}(h:H.buf.length=64)(l:Ql)(hl:H.many+l.length<=64):(Yw gs c H).take (1+H.many)++QJ l++(Yw gs c H).drop (1+H.many+l.length)=Yw gs c {H with buf:=YC H.buf H.many l}:=by
 unfold Yw;simp only[];have hb:(QJ H.buf).length=64:=by rw[W7,h]
 generalize [Value.int .i64 (H.many:Int),.int .u64 (H.size:Int),.func (.func 275) #[] #[],.bool true]=tl;have e1:([Value.slice gs 8 c]++QJ H.buf++tl).take (1+H.many)=[Value.slice gs 8 c]++QJ (H.buf.take H.many):=by rw[Zd,Zfv,Zfv];simp[Gr,h,show H.many-64=0 by omega,show 1+H.many-1=H.many by omega,W7];rw[Zi Qx];rfl
 have e2:([Value.slice gs 8 c]++QJ H.buf++tl).drop (1+H.many+l.length)=QJ (H.buf.drop (H.many+l.length))++tl:=by
  rw[Zd,List.drop_append,List.drop_append];simp[Gq,h,W7,show H.many+l.length-64=0 by omega,show 1+H.many+l.length-1=H.many+l.length by omega]
  try omega
 rw[e1,e2,YC,EU,EU];simp[Zd]
def Z5X{h:Nat}{H:Hs}(k:Yq w h gs c H):(Instr.loadAt 346 (.pointer (some ⟨h,1,none⟩))).run prog w=.ok (.agg (QJ H.buf).toArray) w:=by
 have hl:(loadCells ⟨h,1,none⟩ (QJ H.buf).length).run prog w=.ok (QJ H.buf).toArray w:=
  run_loadCells_list (P:=prog) w ⟨h,1,none⟩ (QJ H.buf) (λj v hv=>by
   have C:j<64:=by have:=(Zem.1 hv).1;rw[W7,k.len] at this;exact this
   have J:(⟨h,1,none⟩:Addr).add j=⟨h,j+1,none⟩:=by unfold Addr.add;split<;>simp_all [Zfk]
   rw[J,k.top.row.cell (Z23 k.len j C)];rw[Bf _ _ (by rw[k.len];exact C)] at hv;rw[Z7,Z8 (by rw[k.len];exact C)]
   exact hv)
 rw[W7,k.len] at hl;have M:(isAgg 346).run prog w=.ok true w:=Qy;have F:(sizeOf 346).run prog w=.ok 64 w:=Qy;simp only[Instr.loadAt,Instr.sureAddr,Zf4,Zfh,Zep,loadVar,M,F];simp only[Zgj,Zf4,F,Zep,hl];rfl
end
section
variable{H:Hs}{c gs h:Nat}
section
variable{P:Program}{ops:Array Oper}{w:Qs}
def Z8j{Q:Act->Prop}{a:Act}{o:Oper}{rest:List Oper}(F:o.guard=none)(ty:Qu)(x:Operand)(J:o.op=.load ty x)(p v:Qt)(hx:a.eval x=p)(C:(Instr.loadAt ty p).run P w=.ok v w)(h:wpStill P ops w Q rest (a.put o.dst v)):wpStill P ops w Q (o::rest) a:=by
 unfold wpStill;have hw:Region.wanted o (yielded ops a.tmps)=true:=by simp[Region.wanted,F]
 rw[Zx hw];unfold Oper.still execOp;simp only[J,hx,Zf4,C,Zep,Zfh,Oper.stillUpon_value];exact h
end
def Ma:Qt->Nat
 |.string s=>s.size
 |_=>0
def MR:Prop:=∀ (g c:Nat) (st:List Qp) (blk:Ql) (w:Qs),Wy w g st->blk.length=64->
    Calls prog 275 #[.slice g 8 c,.agg (QJ blk).toArray] w λe w'=>e=.returned (.tuple #[])/\Wy w' g (mixed st blk)/\Fr [g] w w'
def Yq.Zce{w w':Qs}(k:Yq w h gs c H)(l:Ql)(hl:H.many+l.length<=64)(C:Y1 w' h 348 ((Yw gs c H).take (1+H.many)++QJ l++(Yw gs c H).drop (1+H.many+l.length)))(F:Fr [h] w w'):Yq w' h gs c {H with buf:=YC H.buf H.many l}:=by rw[Z25 k.len l hl] at C;exact⟨C,k.st.fr F (by simpa using k.ne),by rw[<-k.len];exact Z4j _ _ _ (by rw[k.len];exact hl),k.lt,k.ne⟩
def Yq.ZbH{w:Qs}(k:Yq w h gs c H):Yq w.drew h gs c H:=⟨k.top,⟨k.st.len,k.st.lt,k.st.cell,k.st.free⟩,k.len,k.lt,k.ne⟩
def Yq.Zct{w w':Qs}(k:Yq w h gs c H)(hs:Wy w' gs (mixed H.st H.buf))(C:Fr [gs] w w'):Yq w' h gs c {H with st:=mixed H.st H.buf}:=⟨(show Y1 w' h _ (Yw gs c H) from k.top.fr C (by simpa using λe=>k.ne e.symm)),hs,k.len,k.lt,k.ne⟩
set_option maxRecDepth 1000000 in
theorem KG(ay:MR)(h gs c:Nat)(H:Hs)(s:Qq)(w:Qs)(k:Yq w h gs c H)(bh:H.many<64)(hs:s.size<=1000000000)(hz:H.size<=1000000000000):Calls prog 261 #[h,.string s] w λe w'=>e=.returned (.tuple #[])/\Yq w' h gs c ({H with size:=H.size+s.size}.bytes s.data.toList)/\Fr [h,gs] w w':=by
 have c66:=k.c66;have f66:=k.free 66 Qw;have k1:=k.Zcl (H.size+s.size);rw[show((H.size+s.size:Nat):Int)=(H.size:Int)+(s.size:Int) from Qw] at k1;have bg:Fr [h,gs] w (w.setCell ⟨h,66,none⟩ (.int .u64 ((H.size:Int)+(s.size:Int)))):=(Fr.refl _ _).setCell (Zv Qx) _;obtain⟨H1,ak⟩:=ZK {H with size:=H.size+s.size};rw[ak] at k1⊢;have au:H1.many<64:=by rw[<-ak];exact bh
 have K:=ZM k1 bg;clear k k1 bg ak bh;go_enter func261,ntmps261;go_wp2_with fail;go_loopw [1] (λp wr=>∃ (r:Qq) (pre:Ql),p=.string r/\s.data.toList=pre++r.data.toList/\Yq wr h gs c (H1.bytes pre)/\Fr [h,gs] w wr) (λp _=>Ma p)
 .exact⟨s,[],rfl,rfl,K.1,K.2⟩
 obtain⟨r,pre,rfl,af,k,hf⟩:=hrel;have cy:r.size<=s.size:=by have:=CJ af;rw[Zb,BD] at this;omega
 by_cases cw:0<r.size
 .obtain⟨G,hG⟩:=ZK (H1.bytes pre);rw[hG] at k;obtain⟨m,hm⟩:=ZK G.many;have c65:=k.c65;have f65:=k.free 65 Qw;rw[hm] at c65;have aw:m<64:=by rw[<-hm,<-hG];exact Z9b _ _ au
  have cz:=Sj h 1 m aw;obtain⟨n,hn⟩:=ZK (Nat.min r.size (64-m));have cr:1<=n:=by rw[<-hn];show 1<=min r.size (64-m);omega
  have ct:n<=r.size:=by rw[<-hn];exact Zgm _ _
  have cu:m+n<=64:=by
   have h9:n<=64-m:=by rw[<-hn];exact Nat.min_le_right _ _
   omega
  have bm:(r.data.toList.take n).length=n:=by rw[Zg,BD];omega
  have C:=ZX hG hm hn;have F:=ZM k hf;have HP:=ZI af;have O:=ZI bm;clear k hf hG hm hn af bm;have ah:∀q,q<=n->True:=λ_ _=>trivial;have ag:s.data.toList=(pre++r.data.toList.take n)++(r.extract n r.size).data.toList:=by rw[HP.o,Lib.extract_to_end,Zd,Zde]
  have bf:=ZI ag;clear ah ag;by_cases ae:m+n=64
  .have cj:(m:Int)+(n:Int)=64:=(by omega);have HF:=ZI ae;clear ae;go_wp2_with fail;go_still_tail 9,Qy
   repeat still_step
   change wpList _ _ _ _ _ wr.drew;go_wp2_with (refine TR rfl (.tmp 25) (.tmp 26) 75 9 rfl 5 underlying75 AD h (1+m) (64-m) (64-m) n r rfl rfl 348 (Yw gs c G) F.1.top C.3.symm (by rw[GU F.1.len];omega) ?_;intro w2 Z U;rw[<-C.2] at Z;have J:=F.1.ZbH.Zce (r.data.toList.take n) (by rw[O.o,C.2];omega) (by rw[O.o];exact Z) U;have d65:=J.c65;have bu:=J.free 65 Qw;rw[C.2] at d65;have S2:=ZM J U;clear J Z U);have M:=S2.1.setMany 64 Qw;have aj:Fr [h] wr (w2.setCell ⟨h,65,none⟩ (.int .i64 64)):=(((Fr.refl [h] wr).drew).trans S2.2 (λi hi _=>hi)).setCell (Zv Qx) _;generalize (w2.setCell ⟨h,65,none⟩ (.int .i64 64))=w3 at*
   have c0:=M.c0;have c67:=M.c67;have cn:=Z5X M.ZbH;have bq:=M.ZbH;have S3:=ZM bq aj;clear M bq aj;go_still_tail 12,Qy
   repeat still_step
   refine Z8j rfl _ _ rfl _ _ rfl cn ?_;change wpList _ _ _ _ _ w3.drew;go_wp2_with (go_at_call 275;refine(ay gs c G.st (YC G.buf G.many (r.data.toList.take n)) _ S3.1.st S3.1.len).mono ?_;rintro e w5 ⟨rfl,ai,aq⟩;have k5:=S3.1.Zct ai aq;have f5:=k5.free 65 Qw;have e5:=k5.c65;have S5:=ZM k5 aq;clear k5 ai aq);go_roundw
   .have k6:=S5.1.setMany 0 Qw;have bz:Fr [h,gs] wr (w5.setCell ⟨h,65,none⟩ (.int .i64 ((0:Nat):Int))):=((((S3.2.mono (L':=[h,gs]) (λi hi _=>by simp at hi⊢;exact Zv hi)).drew).trans S5.2 (λi hi _=>by simp at hi⊢;exact Zy hi)).setCell (Zv Qx) _);refine⟨_,pre++r.data.toList.take n,rfl,bf.o,?_,F.2.trans bz (λi hi _=>hi)⟩;rw[Z92,C.1,Z9B G _ F.1.len (by rw[O.o,C.2];exact HF.o) (λe=>by have:=O.o;rw[e] at this;simp at this;omega)];exact k6
   simp only[Ma,Zdq];omega
  .have cj:((m:Int)+(n:Int)==64)=false:=by simp;omega
   have HF:=ZI ae;clear ae;go_wp2_with fail;go_still_tail 9,Qy
   repeat still_step
   change wpList _ _ _ _ _ wr.drew;go_wp2_with (refine TR rfl (.tmp 25) (.tmp 26) 75 9 rfl 5 underlying75 AD h (1+m) (64-m) (64-m) n r rfl rfl 348 (Yw gs c G) F.1.top C.3.symm (by rw[GU F.1.len];omega) ?_;intro w2 Z U;rw[<-C.2] at Z;have J:=F.1.ZbH.Zce (r.data.toList.take n) (by rw[O.o,C.2];omega) (by rw[O.o];exact Z) U;have d65:=J.c65;have bu:=J.free 65 Qw;rw[C.2] at d65;have S2:=ZM J U;clear J Z U);go_roundw
   .have M:=S2.1.setMany (m+n) Qw;rw[show((m+n:Nat):Int)=(m:Int)+(n:Int) from Qw] at M;have aj:Fr [h,gs] wr (w2.setCell ⟨h,65,none⟩ (.int .i64 ((m:Int)+(n:Int)))):=((((Fr.refl [h] wr).drew).trans S2.2 (λi hi _=>hi)).setCell (Zv Qx) _).mono (λi hi _=>by simp at hi⊢;exact Zv hi);refine⟨_,pre++r.data.toList.take n,rfl,bf.o,?_,F.2.trans aj (λi hi _=>hi)⟩;rw[Z92,C.1,Z9l G _ F.1.len (by rw[O.o,C.2];have:=HF.o;omega),O.o,C.2];rw[C.2] at M;exact M
   simp only[Ma,Zdq];omega
 .have az:r.size=0:=by omega
  have bj:r.data.toList=[]:=ZeS (by rw[BD];exact az);rw[bj,Zdg] at af;have F:=ZM k hf;have HP:=ZI af;clear k hf af bj;go_wp2;go_end0;exact⟨rfl,by rw[HP.o];exact F.1,F.2⟩
end
set_option maxRecDepth 1000000 in
theorem Z3J(g c:Nat)(st:List Qp)(C:Ql)(w:Qs)(hs:Wy w g st)(hb:C.length=64):Calls prog 275 #[.slice g 8 c,.agg (QJ C).toArray] w λe w'=>e=.returned (.tuple #[])/\Wy w' g (mixed st C)/\Fr [g] w w':=by
 have HS:=ZI hs;have HB:=ZI hb;clear hs hb;go_enter func275,ntmps275;go_upto_region 1 with fail;refine Z3K _ _ _ _ _ _ _ _ _ _ _ _ _ _ _ _ _ _ _ _ _ _ _ _ _ _ _ _ _ _ _ _ _ _ _ _ _ _ _ _ _ _ _ _ _ _ _ _ _ _ _ _ _ _ _ _ _ _ _ _ _ _ _ _ _ _ _ _ _ _ _ _ _ _ _ _ _ _ _ _ _ _ _ _ _ _ _ _ _ _ _ _ _ _ _ _ _ _ _ _ _ _ _ _ _ _ _ _ _ _ _ _ _ _ _ _ _ _ _ _ _ _ _ _ _ _ _ _ _ _ _ _ _ _ _ _ _ _ _ _ _ _ _ _ _ _ _ _ _ _ _ _ _ _ _ _ _ _ _ _ _ _ _ _ _ _ _ _ _ _ _ _ _ _ _ _ _ _ _ _ _ _ _ _ _ _ _ _ _ _ _ _ _ _ _ _ _ _ _ _ _ _ _ _ _ _ _ _ _ _ _ _ _ _ _ _ _ _ _ _ _ _ _ _ _ _ ?_;go_upto_region 3 with fail;refine Z3L _ _ _ _ _ _ _ _ _ _ _ _ _ _ _ _ _ _ _ _ _ _ _ _ _ _ _ _ _ _ _ _ _ _ _ _ _ _ _ _ _ _ _ _ _ _ _ _ _ _ _ _ _ _ _ _ _ _ _ _ _ _ _ _ _ _ _ _ _ _ _ _ _ _ _ _ _ _ _ _ _ _ _ _ _ _ _ _ _ _ _ _ _ _ _ _ _ _ _ _ _ _ _ _ _ _ _ _ _ _ _ _ _ _ _ _ _ _ _ _ _ _ _ _ _ _ _ _ _ _ _ _ _ _ _ _ _ _ _ _ _ _ _ _ _ _ _ _ _ _ _ _ _ _ _ _ _ _ _ _ _ _ _ _ _ _ _ _ _ _ _ _ _ _ _ _ _ _ _ _ _ _ _ _ _ _ _ _ _ _ _ _ _ _ _ _ _ _ _ _ _ _ _ _ _ _ _ _ _ _ _ _ _ _ _ _ _ _ _ _ _ _ _ _ _ _ ?_;go_wp2_with fail;have rb:Row (((w.alloc (.cells (QJ C).toArray 346)).alloc (.cells Jx 352)).alloc (.cells B6 352)) w 346 (QJ C):=((Z2 w _ _).alloc _).alloc _;have rk:Row (((w.alloc (.cells (QJ C).toArray 346)).alloc (.cells Jx 352)).alloc (.cells B6 352)) (w.alloc (.cells (QJ C).toArray 346)).heap.size 352 (YY Bm):=by have h:=(Z2 (w.alloc (.cells (QJ C).toArray 346)) 352 (YY Bm)).alloc (.cells B6 352);rw[<-Z2R] at h⊢;exact h
 have bj:Row (((w.alloc (.cells (QJ C).toArray 346)).alloc (.cells Jx 352)).alloc (.cells B6 352)) ((w.alloc (.cells (QJ C).toArray 346)).alloc (.cells Jx 352)).heap.size 352 (YY (wl C 0)):=by
  have h:=Z2 ((w.alloc (.cells (QJ C).toArray 346)).alloc (.cells Jx 352)) 352 (YY (List.replicate 64 0#32));rw[wl,<-Z8D] at*
  exact h
 have cw:Below w w (((w.alloc (.cells (QJ C).toArray 346)).alloc (.cells Jx 352)).alloc (.cells B6 352)):=(((Zu _ w).alloc (Zt _) _).alloc Qx _).alloc (by simp;omega) _;have ah:(w.alloc (.cells (QJ C).toArray 346)).heap.size=w.heap.size+1:=Qx;have ai:((w.alloc (.cells (QJ C).toArray 346)).alloc (.cells Jx 352)).heap.size=w.heap.size+2:=Qx;obtain⟨gk,cz⟩:=ZK (w.alloc (.cells (QJ C).toArray 346)).heap.size;obtain⟨J,de⟩:=ZK ((w.alloc (.cells (QJ C).toArray 346)).alloc (.cells Jx 352)).heap.size;obtain⟨w3,dp⟩:=ZK (((w.alloc (.cells (QJ C).toArray 346)).alloc (.cells Jx 352)).alloc (.cells B6 352));rw[cz] at rk ah;rw[de] at bj ai;rw[dp] at rb rk bj cw;rw[dp,cz,de];obtain⟨gb,bh⟩:=ZK w.heap.size;rw[bh] at rb ah ai;have F3:=ZO cw ah ai bh;have R0:=ZX rb rk bj;clear dp cz de rb rk bj cw ah ai;rw[bh];clear bh;go_loopw [27] (λi wr=>∃k:Nat,k<=64/\i=(k:Int)/\Row wr gb 346 (QJ C)/\Row wr J 352 (YY (wl C k))/\Fr [J] w3 wr) (λi _=>64- (intOf i).toNat)
 .exact⟨0,Qw,rfl,R0.1,R0.3,Fr.refl _ _⟩
 obtain⟨k,hk,rfl,rb,rr,F⟩:=hrel;by_cases ag:k<64
 .by_cases dx:k<16
  .have O:=ZX rb rr F;have df:=HB.o;have ak:∀j,j<4->∃u:UInt8,C.getD (4*k+j) 0=u/\wr.cell? ⟨gb,4*k+j,none⟩=some (.int .u8 (u.toNat:Int)):=λj hj=>by have h2:4*k+j<C.length:=Qw;refine⟨_,rfl,?_⟩;rw[Z7,Z8 h2];exact rb.cell (Bf C (4*k+j) h2)
   obtain⟨u0,fa,c0⟩:=ak 0 Qw;obtain⟨u1,fc,c1⟩:=ak 1 Qw;obtain⟨u2,fe,c2⟩:=ak 2 Qw;obtain⟨u3,fg,c3⟩:=ak 3 Qw;have HU:=ZY fa fc fe fg;obtain⟨e1,e2,e3,e4,e5,e6,e7,e8,e9,gy⟩:=Z4i u0.toNat u1.toNat u2.toNat u3.toNat u0.toNat_lt u1.toNat_lt u2.toNat_lt u3.toNat_lt;obtain⟨q,hq⟩:=ZK (4*k);rw[hq] at c0 c1 c2 c3;rw[ZeE] at c0;have ic:(4:Int)*(k:Int)=(q:Int):=Qw;have ez:=Sj gb 0 q Qw;rw[Zdz] at ez;have HQ:=ZI hq;have eu:(0:Int)<((64-q:Nat):Int)/\(1:Int)<((64-q:Nat):Int)/\(2:Int)<((64-q:Nat):Int)/\(3:Int)<((64-q:Nat):Int):=Qw;obtain⟨m,hm⟩:=ZK (64-q);rw[hm] at ez eu;obtain⟨b0,b1,b2,b3⟩:=eu;have n0:0<m:=Qw;have ki:(k:Int)<64:=Qw;have bg:=rr.free (j:=k) (by rw[CL,ED];omega);have cy:=rr.cell (Cd (wl C k) k (by rw[ED];omega));clear fa fc fe fg ak rb rr F df hq hm;go_wp2_with fail;go_still_tail 24,Qy
   repeat still_step
   change wpList _ _ _ _ _ wr.drew;go_wp2;go_roundw
   .have hF:Fr [J] wr (wr.drew.setCell ⟨J,k,none⟩ (.int .u32 ((u0.toNat:Int)*16777216+(u1.toNat:Int)*65536+(u2.toNat:Int)*256+(u3.toNat:Int)))):=((Fr.refl _ wr).drew).setCell (Zv Qx) _;have M:((u0.toNat:Int)*16777216+(u1.toNat:Int)*65536+(u2.toNat:Int)*256+(u3.toNat:Int))=uv (EA C (wl C k) k):=by unfold EA be4;rw[Zx dx,Ix (Z53 _)];unfold Ww;have g:∀j,(C.drop (4*k)).getD j 0=C.getD (4*k+j) 0:=λj=>(by simp[Z7]);rw[g 0,g 1,g 2,g 3,HU.1,HU.2,HU.3,HU.4];omega
    refine⟨k+1,Qw,QC,O.1.fr hF (by have:=F3.o;simp;omega),?_,O.3.trans hF (λi hi _=>hi)⟩;have h:=(O.2.drew).set k (.int .u32 ((u0.toNat:Int)*16777216+(u1.toNat:Int)*65536+(u2.toNat:Int)*256+(u3.toNat:Int)));rw[M,Tx] at h;rw[M];exact h
   simp[intOf];omega
  .obtain⟨i16,fj⟩:∃i,k=i+16:=⟨k-16,Qw⟩;obtain⟨ay,fi⟩:∃i,k=i+15:=⟨k-15,Qw⟩;obtain⟨i7,k7⟩:∃i,k=i+7:=⟨k-7,Qw⟩;obtain⟨i2,k2⟩:∃i,k=i+2:=⟨k-2,Qw⟩;have ij:IntKind.i64.wrap ((k:Int)-16)=(i16:Int):=by rw[show(k:Int)-16=(i16:Int) from Qw];exact Zr _ Qw
   have ig:IntKind.i64.wrap ((k:Int)-15)=(ay:Int):=by rw[show(k:Int)-15=(ay:Int) from Qw];exact Zr _ Qw
   have w7:IntKind.i64.wrap ((k:Int)-7)=(i7:Int):=by rw[show(k:Int)-7=(i7:Int) from Qw];exact Zr _ Qw
   have w2:IntKind.i64.wrap ((k:Int)-2)=(i2:Int):=by rw[show(k:Int)-2=(i2:Int) from Qw];exact Zr _ Qw
   have cx:∀i,i<64->∃x,(wl C k).getD i 0#32=x/\wr.cell? ⟨J,i,none⟩=some (.int .u32 (uv x)):=λi hi=>⟨_,rfl,rr.cell (Cd (wl C k) i (by rw[ED];exact hi))⟩;obtain⟨dq,du,dw⟩:=cx i16 Qw;obtain⟨Z,dt,fy⟩:=cx ay Qw;obtain⟨x7,X7,c7⟩:=cx i7 Qw;obtain⟨U,X2,c2⟩:=cx i2 Qw;have n16:i16<64:=Qw;have m16:(i16:Int)<64:=Qw;have m7:(i7:Int)<64:=Qw;have n15:ay<64:=Qw;have n7:i7<64:=Qw;have n2:i2<64:=Qw;have eX:=DK;have ia:uv Z / (8:Int)=uv (Z>>>3):=Ga Z 3;have ib:uv U / (1024:Int)=uv (U>>>10):=Ga U 10;have dy:(uv dq+uv (WC Z 7^^^WC Z 18^^^Z>>>3)+uv x7+uv (WC U 17^^^WC U 19^^^U>>>10))%4294967296=uv (EA C (wl C k) k):=by unfold EA;rw[Zw dx,show k-16=i16 from Qw,show k-15=ay from Qw,show k-7=i7 from Qw,show k-2=i2 from Qw,du,dt,X7,X2,<-Ez,<-Ez,<-Ez];omega
   have fp:=ZI dy;have t7:∀W,Calls prog 280 #[.int .u32 (uv Z),(7:Int)] W λe w'=>e=.returned (.int .u32 (uv (WC Z 7)))/\w'=W:=λW=>G4 (ZaG Z 7 W Qz);have t18:∀W,Calls prog 280 #[.int .u32 (uv Z),(18:Int)] W λe w'=>e=.returned (.int .u32 (uv (WC Z 18)))/\w'=W:=λW=>G4 (ZaG Z 18 W Qz);have t17:∀W,Calls prog 280 #[.int .u32 (uv U),(17:Int)] W λe w'=>e=.returned (.int .u32 (uv (WC U 17)))/\w'=W:=λW=>G4 (ZaG U 17 W Qz);have t19:∀W,Calls prog 280 #[.int .u32 (uv U),(19:Int)] W λe w'=>e=.returned (.int .u32 (uv (WC U 19)))/\w'=W:=λW=>G4 (ZaG U 19 W Qz);have T7:=ZI t7;have fw:=ZI t18;have fu:=ZI t17;have fx:=ZI t19;have O:=ZX rb rr F;have bg:=rr.free (j:=k) (by rw[CL,ED];omega);have cy:=rr.cell (Cd (wl C k) k (by rw[ED];omega));have ki:(k:Int)<64:=Qw;have HK:=ZO fj fi k7 k2;clear du dt X7 X2 dy t7 t18 t17 t19 rb rr F cx fj fi k7 k2;go_wp2_with fail;go_quiet ((go_at_call 280;(first|(with_reducible refine Calls.quiet_of_same (T7.o _))|(with_reducible refine Calls.quiet_of_same (fw.o _)))));go_wp2_with fail;generalize M:World.drewN wr _=wd;have q2:wd.cell? ⟨J,i2,none⟩=some (.int .u32 (uv U)):=by rw[<-M];exact c2
   have fo:wd.cell? ⟨J,i16,none⟩=some (.int .u32 (uv dq)):=by rw[<-M];exact dw
   have q7:wd.cell? ⟨J,i7,none⟩=some (.int .u32 (uv x7)):=by rw[<-M];exact c7
   have qz:wd.cell? ⟨J,k,none⟩=some (.int .u32 (uv ((wl C k).getD k 0#32))):=by rw[<-M];exact cy
   have qf:wd.frozen? ⟨J,k,none⟩=false:=by rw[<-M];exact bg
   have HW:=ZI M;clear M c2 dw c7 fy cy bg;go_quiet ((go_at_call 280;(first|(with_reducible refine Calls.quiet_of_same (fu.o _))|(with_reducible refine Calls.quiet_of_same (fx.o _)))));go_wp2_with fail;generalize M:World.drewN wd _=we;have ie:we.cell? ⟨J,i16,none⟩=some (.int .u32 (uv dq)):=by rw[<-M];exact fo
   have p7:we.cell? ⟨J,i7,none⟩=some (.int .u32 (uv x7)):=by rw[<-M];exact q7
   have pz:we.cell? ⟨J,k,none⟩=some (.int .u32 (uv ((wl C k).getD k 0#32))):=by rw[<-M];exact qz
   have pf:we.frozen? ⟨J,k,none⟩=false:=by rw[<-M];exact qf
   have ft:=ZI M;clear M q2 fo q7 qz qf;go_still_tail 15,Qy
   repeat still_step
   change wpList _ _ _ _ _ we.drew;go_wp2;go_roundw
   .obtain⟨n1,eo⟩:∃n,wd=wr.drewN n:=⟨_,HW.o.symm⟩;obtain⟨fm,er⟩:∃n,we=wd.drewN n:=⟨_,ft.o.symm⟩;rw[fp.o];have hF:∀v,Fr [J] wr (we.drew.setCell ⟨J,k,none⟩ v):=λv=>by rw[er,eo];exact(Fr.setCell (Fr.drew ((Z1 (L:=[]) (YE (YE (Zu _ wr) n1) fm)).mono (L':=[J]) Qx)) (Zv Qx) _)
    refine⟨k+1,Qw,QC,O.1.fr (hF _) (by have:=F3.o;simp;omega),?_,O.3.trans (hF _) (λi hi _=>hi)⟩;have h:=((O.2.drewN (n1)).drewN fm).drew.set k (.int .u32 (uv (EA C (wl C k) k)));rw[Tx] at h;rw[wl,er,eo];exact h
   simp[intOf];omega
 .obtain rfl:k=64:=by omega
  have rk:=R0.2.fr F (by have:=F3.o;simp;omega);have O:=ZX rk rr F;clear rb rr rk;obtain⟨gv,ef⟩:=ZK wr.heap.size;have rv:Y1 (wr.alloc (.cells #[.int .u32 0,.int .u32 0,.int .u32 0,.int .u32 0,.int .u32 0,.int .u32 0,.int .u32 0,.int .u32 0] 354)) gv 354 [.int .u32 0,.int .u32 0,.int .u32 0,.int .u32 0,.int .u32 0,.int .u32 0,.int .u32 0,.int .u32 0]:=by rw[<-ef];exact Z95 wr _ _
  have dm:Wy wr g st:=(HS.o.after F3.1).fr F (by have:=F3.2.2.1;have:=HS.o.lt;have:=F3.2.2.2;simp;omega);have au:Wy (wr.alloc (.cells #[.int .u32 0,.int .u32 0,.int .u32 0,.int .u32 0,.int .u32 0,.int .u32 0,.int .u32 0,.int .u32 0] 354)) g st:=dm.after ((Zu _ _).alloc (Zt _) _);have RV:=ZI rv;have aj:=ZI au;have ra:=Z5K gv;have bf:=ZI ef;have bm:=ZI dm;clear rv dm au F;go_wp2_with (refine Z8f rfl (.tmp 113) (.tmp 114) 344 344 rfl 161 underlying344 Z7v gv 0 8 8 g 0 8 c rfl rfl 354 _ (YY st) RV.o (by rw[CL,aj.o.len];rfl) (by rw[CL,aj.o.len];decide) aj.o.news (Tw st) ?_;intro w5 ew dz;have ey:Y1 w5 gv 354 (YY st):=(by simpa[CL,aj.o.len] using ew);clear ew);have cv:∀j,j<8->w5.cell? ⟨gv,j,none⟩=some (.int .u32 (uv (st.getD j 0#32))):=λj hj=>ey.row.cell (Cd st j (by rw[aj.o.len];exact hj));have v0:=cv 0 Qw;have v1:=cv 1 Qw;have v2:=cv 2 Qw;have v3:=cv 3 Qw;have v4:=cv 4 Qw;have v5:=cv 5 Qw;have v6:=cv 6 Qw;have v7:=cv 7 Qw;have az:=ZI dz;clear cv ey dz;go_wp2_with fail;go_quiet (fail);go_wp2_with fail;have ek:Row (w5.drewN nq) gk 352 (YY Bm):=((O.1.alloc _).fr az.o (by have:=O.1.lt;have:=bf.o;simp;omega)).drewN nq;have fh:Row (w5.drewN nq) J 352 (YY (wl C 64)):=((O.2.alloc _).fr az.o (by have:=O.2.lt;have:=bf.o;simp;omega)).drewN nq;have af:Wy (w5.drewN nq) g st:=(aj.o.fr az.o (by have:=bm.o.lt;have:=bf.o;simp;omega)).after (YE (Zu _ _) nq);have ee:Fr [] w (w5.drewN nq):=by have h1:Fr [] w wr:=(Z1 F3.1).trans O.3 (λi hi hl=>by have:=F3.o;simp at hi;omega);have h2:Fr [] w w5:=(h1.alloc _).trans az.o (λi hi hl=>by have:=h1.size;have:=bf.o;simp at hi;omega);exact h2.trans (Z1 (L:=[]) (YE (Zu _ _) nq)) Qx
  generalize aw:World.drewN w5 nq=w6 at*
  have R6:=ZY ek fh af ee;have gj:=ZI aw;clear ek fh af ee aw v0 v1 v2 v3 v4 v5 v6 v7;go_loopw [12,13,14,15,16,17,18,19,132] (λsa sb sc sd se sf sg sh i wr=>∃ (k:Nat) (r:R8),k<=64/\r=FR C st k/\i=(k:Int)/\sa=.int .u32 (uv r.a)/\sb=.int .u32 (uv r.b)/\sc=.int .u32 (uv r.c)/\sd=.int .u32 (uv r.d)/\se=.int .u32 (uv r.e)/\sf=.int .u32 (uv r.f)/\sg=.int .u32 (uv r.g)/\sh=.int .u32 (uv r.h)/\Fr [] w6 wr) (λ_ _ _ _ _ _ _ _ i _=>64- (intOf i).toNat)
  .exact⟨0,R8.of st,Qw,rfl,rfl,by simp[R8.of],by simp[R8.of],by simp[R8.of],by simp[R8.of],by simp[R8.of],by simp[R8.of],by simp[R8.of],by simp[R8.of],Fr.refl _ _⟩
  obtain⟨k,⟨a,b,c',d,e,f,g',h⟩,hk,hr,rfl,rfl,rfl,rfl,rfl,rfl,rfl,rfl,rfl,F⟩:=hrel;by_cases ag:k<64
  .have kK:=(R6.1.fr F Qx).cell (Cd Bm k (by rw[Z2T];exact ag));have kW:=(R6.2.fr F Qx).cell (Cd (wl C 64) k (by rw[ED];exact ag));have ae:FR C st (k+1)=R8.next ⟨a,b,c',d,e,f,g',h⟩ (Bm.getD k 0#32) ((wl C 64).getD k 0#32):=by rw[FR,<-hr]
   obtain⟨K,ct⟩:=ZK (Bm.getD k 0#32);obtain⟨W,cu⟩:=ZK ((wl C 64).getD k 0#32);rw[ct,cu] at ae;rw[ct] at kK;rw[cu] at kW;have eX:=DK;have eA:=TH;have eD:=Z7J;have eM:=Ez;have eN:∀x,bits .xor .u32 IntKind.u32.max (uv x)=uv (~~~x):=λx=>by rw[show IntKind.u32.max=uv 0xFFFFFFFF#32 from by rw[YU];rfl,DK];congr 1
   have eO:∀x,bits .xor .u32 (if IntKind.u32.signed=true then -1 else IntKind.u32.max) (uv x)=uv (~~~x):=eN;have eL:=DJ;have eH:=DI;have bq:Qi (∀W,Calls prog 280 #[.int .u32 (uv e),(6:Int)] W λE w'=>E=.returned (.int .u32 (uv (WC e 6)))/\W=w'):=ZI (λW=>ZaG e 6 W Qz);have bu:Qi (∀W,Calls prog 280 #[.int .u32 (uv e),(11:Int)] W λE w'=>E=.returned (.int .u32 (uv (WC e 11)))/\W=w'):=ZI (λW=>ZaG e 11 W Qz);have bz:Qi (∀W,Calls prog 280 #[.int .u32 (uv e),(25:Int)] W λE w'=>E=.returned (.int .u32 (uv (WC e 25)))/\W=w'):=ZI (λW=>ZaG e 25 W Qz);have cj:Qi (∀W,Calls prog 280 #[.int .u32 (uv a),(2:Int)] W λE w'=>E=.returned (.int .u32 (uv (WC a 2)))/\W=w'):=ZI (λW=>ZaG a 2 W Qz);have cn:Qi (∀W,Calls prog 280 #[.int .u32 (uv a),(13:Int)] W λE w'=>E=.returned (.int .u32 (uv (WC a 13)))/\W=w'):=ZI (λW=>ZaG a 13 W Qz);have cr:Qi (∀W,Calls prog 280 #[.int .u32 (uv a),(22:Int)] W λE w'=>E=.returned (.int .u32 (uv (WC a 22)))/\W=w'):=ZI (λW=>ZaG a 22 W Qz);have HN:=ZI ae;have ki:(k:Int)<64:=Qw;have S9:=ZI F;clear ae ct cu hr F;go_wp2_with (go_at_call 280;(first|(with_reducible refine(bq.o _).mono ?_)|(with_reducible refine(bu.o _).mono ?_)|(with_reducible refine(bz.o _).mono ?_));rintro E w' ⟨rfl,rfl⟩);go_quiet (fail);go_wp2_with (go_at_call 280;(first|(with_reducible refine(cj.o _).mono ?_)|(with_reducible refine(cn.o _).mono ?_)|(with_reducible refine(cr.o _).mono ?_));rintro E w' ⟨rfl,rfl⟩);go_roundw
   .exact⟨k+1,R8.next ⟨a,b,c',d,e,f,g',h⟩ K W,Qw,HN.o.symm,QC,rfl,rfl,rfl,rfl,rfl,rfl,rfl,rfl,S9.o.trans (Z1 (L:=[]) (YE (Zu _ _) _)) Qx⟩
   simp[intOf];omega
  .obtain rfl:k=64:=(by omega);have af:Wy wr g (Bp st (R8.list ⟨a,b,c',d,e,f,g',h⟩) 0):=by have h0:=R6.3.fr F Qx;rw[Z3G _ _ h0.len];exact h0
   have S9:=ZM af F;have HR:=ZI hr;clear hr F af;go_wp2_with fail;have eh:=Z5O ⟨a,b,c',d,e,f,g',h⟩;have fq:=ZI eh;clear eh;go_loopw [211] (λi wq=>∃k:Nat,k<=8/\i=(k:Int)/\Wy wq g (Bp st (R8.list ⟨a,b,c',d,e,f,g',h⟩) k)/\Fr [g] wr wq) (λi _=>8- (intOf i).toNat)
   .exact⟨0,Qw,rfl,S9.1,Fr.refl _ _⟩
   obtain⟨k,hk,rfl,hs,F⟩:=hrel;by_cases ag:k<8
   .have hx:=fq.o k ag;have hc:=hs.cell k ag;have bg:=hs.free k ag;rw[Hm _ _ _ _ ag,Zw Qw] at hc;obtain⟨sk,dj⟩:=ZK (st.getD k 0#32);obtain⟨rk,dh⟩:=ZK ((R8.list ⟨a,b,c',d,e,f,g',h⟩).getD k 0#32);rw[dj] at hc;rw[dh] at hx;have ea:(uv sk+uv rk)%4294967296=uv (sk+rk):=Ez _ _;have l1:=DJ sk;have l2:=DI sk;have l3:=DJ rk;have l4:=DI rk;have HH:=ZM dj dh;have S7:=ZM hs F;clear dj dh hs F;go_wp2_with fail;go_roundw
    .refine⟨k+1,Qw,QC,?_,S7.2.trans ((Fr.refl [g] _).setCell (Zv Qx) _) (λi hi _=>hi)⟩;have h9:=S7.1.step ag;rw[HH.1,HH.2] at h9;exact h9
    simp[intOf];omega
   .obtain rfl:k=8:=(by omega);have aq:Wy wr g (mixed st C):=by rw[Z3H _ _ HS.o.len] at hs;unfold mixed;rw[<-HR.o];exact hs
    have hF:Fr [g] w wr:=by have h1:=R6.4.trans S9.2 Qx;exact(h1.mono (L':=[g]) Qx).trans F (λi hi _=>hi)
    have S7:=ZM aq hF;clear hs F aq hF;go_wp2_with fail;go_end0;exact⟨rfl,S7.1,S7.2⟩
section
variable{base c g:Nat}{e:TypeId}{st:List (BitVec 32)}{w:World}
def La:MR:=λg c st h w hs hb=>Z3J g c st h w hs hb
def AY(st:List Qp):Ql:=st.flatMap λx=>beN x.toNat 4
def FG(H:Hs):Ql:=128::List.replicate ((119-H.many)%64) 0
def Hs.sum(H:Hs):Ql:=AY ((H.bytes (FG H)).bytes (beN (8*H.size) 8)).st
def Id(l:Ql):Ql:=({hs0 with size:=l.length}.bytes l).sum
def Tf(st:List Qp):(AY st).length=4*st.length:=by
 induction st with
 |nil=>rfl
 |cons x l ih=>simp only[AY,Zm,Zb,EV,Ze];unfold AY at ih;rw[ih];omega
def Z3M(st:List Qp)(C:Ql)(h:st.length=8):(mixed st C).length=8:=by simp[mixed,R8.list,h]
def Z9O(H:Hs)(b:UInt8)(h:H.st.length=8):(H.byte b).st.length=8:=by
 unfold Hs.byte;split
 .exact Z3M _ _ h
 .exact h
def Z9d(H:Hs)(l:Ql)(h:H.st.length=8):(H.bytes l).st.length=8:=by
 unfold Hs.bytes
 induction l generalizing H with
 |nil=>exact h
 |cons b l ih=>rw[Zdf];exact ih _ (Z9O H b h)
def Z6x(l:Ql):(Id l).length=32:=by unfold Id Hs.sum;rw[Tf,Z9d _ _ (Z9d _ _ (Z9d _ _ rfl))]
def Yq.Zcs{h gs:Nat}{H:Hs}(k:Yq w h gs c H)(o:Obj):Yq (w.alloc o) h gs c H:=k.after ((Zu _ _).alloc (Zt _) _)
def Ue(b j:Nat):(⟨b,0,none⟩:Addr).add j=⟨b,j,none⟩:=by unfold Addr.add;split<;>simp_all
def Wy.ZcB(h:Wy w g st):∀j v,(YY st)[j]? =some v->w.cell? ⟨g,j,none⟩=some v:=λj v C=>by have:=h.news j v C;rwa[Zdz] at this
def Z4o{v:Qt}{xs:Qk}(h:w.ownsRow base e 1 v (0+8) ([]++xs)):∃g cap,v=.slice (g:Nat) 8 cap/\base<=g:=by
 rcases h.2 with ⟨_,C⟩|⟨g,cap,cur,hv,hb,_⟩
 .omega
 .exact⟨g,cap,by simpa using hv,hb⟩
def Z4l(h:w.ownsRow base e 1 (.slice g 8 c) (0+8) ([]++YY st))(hl:st.length=8):Wy w g st:=by
 rcases h.2 with ⟨F,_⟩|⟨g',cap,cur,hv,hb,hh,U,O,M,Z⟩
 .cases F
 .injection hv with h1 h2 h3;injection h1 with h1;injection h1 with h1;subst h1;have C:g<w:=(Zdb.1 hh).1;refine⟨hl,C,λj J=> ?_,λj J=>by simp[World.frozen?,hh]⟩;exact BX h rfl (by rw[Zdx];exact Cd st j Qw)
def Z9w(H:Hs)(x:Nat)(b:UInt8):({H with size:=x}:Hs).byte b={H.byte b with size:=x}:=by unfold Hs.byte;split<;>rfl
def Z9s(H:Hs)(x:Nat)(l:Ql):({H with size:=x}:Hs).bytes l={H.bytes l with size:=x}:=by
 unfold Hs.bytes
 induction l generalizing H with
 |nil=>rfl
 |cons b l ih=>rw[Zdf,Zdf,Z9w,ih]
def Z6R(st:List Qp)(k:Nat)(h:k<st.length):AY (st.take (k+1))=AY (st.take k)++beN (st.getD k 0#32).toNat 4:=by unfold AY;rw[Zc h,Zdt,Z7,Z8 h];simp
def Hs.rs(H:Hs)(x:Nat):Hs:=⟨H.st,H.buf,H.many,x⟩
def Z9c(H:Hs)(x:Nat)(l:Ql):(H.rs x).bytes l=(H.bytes l).rs x:=Z9s H x l
def Z9Q(H:Hs)(a b:Nat)(p l:Ql):((((H.rs a).bytes p).rs b).bytes l).st=((H.bytes p).bytes l).st:=by rw[Z9c,Z9c,Z9c];rfl
def OH:(prog.info? 348).map (·.size)=some 69:=Qy
def Z7u:(prog.info? 161).map (λi=>(i.zero,i.size,i.bytes))=some (some (.int .u32 0),1,4):=Qy
def Z24(gs c:Nat)(H:Hs):(Yw gs c H).toArray.all (·.oneCell')=true:=by
 rw[Array.all_eq_true_iff_forall_mem];intro v hv;simp only[Yw,List.mem_toArray,Zj,Zk,Zdd,Zge] at hv;rcases hv with (rfl|hv)|hv
 .rfl
 .obtain⟨x,_,rfl⟩:=Zz.1 hv;rfl
 .rcases hv with rfl|rfl|rfl|rfl<;>rfl
set_option maxRecDepth 1000000 in
theorem Z2n(h gs c:Nat)(H:Hs)(w:Qs)(k:Yq w h gs c H)(cy:H.many<64)(hz:H.size<=1000000000):Calls prog 262 #[h] w λe w'=>e=.returned (.string ⟨H.sum.toArray⟩)/\Below w w w':=by
 have hlen:=GU (gs:=gs) (c:=c) k.len;obtain⟨i0,cw,dh,dj,dm⟩:=ZE Z7u;have K:=ZI k;clear k;go_enter func262,ntmps262;go_upto_region 3 with (first|(refine wpList_load_row rfl 348 (.tmp 9) rfl h rfl 348 (Yw gs c H).toArray (0,0) _ K.o.top underlying348 rfl (by rw[OH];simp[hlen]) ?_)|(refine wpList_store_row rfl 348 (.tmp 3) (.tmp 10) rfl w.heap.size (Yw gs c H).toArray rfl rfl 348 _ (ZB w _) (by rw[OH];simp[hlen]) (by simp[hlen]) (Z24 gs c H) ?_;rw[SK];have k1:=K.o.Zcs (.cells (Yw gs c H).toArray 348);have r1:Y1 (w.alloc (.cells (Yw gs c H).toArray 348)) w 348 (Yw gs c H):=Z95 w _ _;have c0:=k1.c0;have S1:=ZM k1 r1;clear k1 r1)|(at_builtin;have s1:=S1.o;clear S1 c0;refine ZdO _ rfl (.const (.slice none 0 0)) (.tmp 14) 344 rfl (w.heap.size+1) 161 i0 _ 1 4 underlying344 cw dh dj dm rfl Qw (.slice none 0 0) 0 [] rfl (ZA _ _ _ _) ⟨gs,0,none⟩ 8 c (YY H.st) rfl (by rw[CL,s1.1.st.len]) (λj u hj=>by rw[Ue];exact s1.1.st.ZcB j u hj) (Tw _) (by unfold maxLen;omega) Qw Qx ?_;intro v' J ae ah aj;clear aj;obtain⟨g7,C,rfl,cu⟩:=Z4o ae;have au:Fr [] (w.alloc (.cells (Yw gs c H).toArray 348)) J:=(Fr.refl _ _).grown ah (by simp[Value.ownBlock]);have dq:=s1.1.fr au Qx Qx;have r7:=s1.2.fr au Qx;have z0:=r7.row.cell (OL gs c H);have zf:=r7.row.free (j:=0) (by rw[hlen];omega);have F:=ZP r7 ae au cu dq;clear ae ah au cu r7 s1 dq));obtain⟨b,hb⟩:=ZK w.heap.size;rw[hb] at F⊢;have ak:Wy J g7 H.st:=Z4l F.2.1 K.o.st.len;have k8:Yq (J.setCell b (.slice g7 8 C)) b g7 C H:=
  ⟨by have:=F.1.set 0 (.slice g7 8 C);exact this,ak.fr ((Fr.refl [b] J).setCell (Zv Qx) _) (by have:=F.2.2.2.1;simp;omega),K.o.len,K.o.lt,by have:=F.2.2.2.1;omega⟩
 have dt:Yq (J.setCell b (.slice g7 8 C)) h gs c H:=
  F.2.2.2.2.fr ((Fr.refl [b] J).setCell (Zv Qx) _) (by have:=K.o.lt_;simp;omega) (by have:=K.o.st.lt;simp;omega)
 have af:Below b w (J.setCell b (.slice g7 8 C)):=by have h1:Below b w (w.alloc (.cells (Yw gs c H).toArray 348)):=(Zu b w).alloc Qw _;have h2:=F.2.2.1.below (B:=b) (by simp;omega) Qx;exact(h1.trans h2).setCell (p:=⟨b,0,none⟩) (Zt _) _
 generalize (J.setCell b (.slice g7 8 C))=w8 at*
 have ek:=k8.c66;have eh:=dt.c65;have S8:=ZM k8 af;have HB:=ZI hb;clear k8 af dt ak hb;have Z:∀{x:Qs},Below b w x->b<=x:=λh=>by have:=h.size;have:=HB.o;omega
 have er:0<=119- (H.many:Int):=Qw;obtain⟨z,aq⟩:=ZK ((119-H.many)%64);have dp:(119- (H.many:Int))%64=(z:Int):=Qw;have cj:z<64:=Qw;have HZ:=ZI aq;clear aq;have cat:∀W,(Op.stringOp .add ⟨#[128]⟩ (XG z)).run prog W=.ok (.string (⟨#[128]⟩++XG z)) W:=λW=>Zdl W _ _ (by rw[DN];show 1+z<=_;omega);have bm:(⟨#[128]⟩++XG z:Qq).data.toList=FG H:=by rw[data_append];unfold FG;rw[HZ.o];rfl
 have bq:(⟨#[128]⟩++XG z:Qq).size<=1000000000:=by rw[ZdS,DN];show 1+z<=_;omega
 obtain⟨P,hP⟩:=ZK (⟨#[128]⟩++XG z:Qq);rw[hP] at cat bm bq;have dw:=ZI bm;have du:Qi ((8:Int)*(H.size:Int)=((8*H.size:Nat):Int)):=ZI Qw;clear bm hP;go_wp2_with (first|(go_at_call 120;rw[dp];refine(Tryz.strings_Repeat ⟨#[0]⟩ z _ Qw (by show 1*z<=_;omega)).mono ?_;rw[FN];rintro e w9 ⟨rfl,bf⟩;have s8:=S8.o;clear S8;have S9:=ZM (s8.1.after bf) (s8.2.trans (bf.mono (Z s8.2)));clear bf s8)|(go_at_call 261;have s9:=S9.o;clear S9;refine(KG La b g7 C H P _ s9.1 cy bq Qw).mono ?_;rintro e wa ⟨rfl,bg,cr⟩;rw[dw.o] at bg;have SA:=ZM bg (s9.2.trans (cr.below (Z s9.2) (by intro i hi;have:=F.2.2.2.1;simp at hi;omega)));clear bg cr s9)|(go_at_call 276;have sa:=SA.o;clear SA;rw[du.o];refine(OJ b g7 C (8*H.size) 8 _ _ sa.1 Qw Qw).mono ?_;rintro e wb ⟨rfl,M⟩;have SB:=ZM (sa.1.after M) (sa.2.trans (M.mono (Z sa.2)));clear M sa)|(go_at_call 261;have sb:=SB.o;clear SB;refine(KG La b g7 C _ _ _ sb.1 (Z9b _ _ cy) (by show(beN (8*H.size) 8).toArray.size<=_;rw[Ze1,EV];omega) (by rw[Z9j];show H.size+P.size<=_;omega)).mono ?_;rintro e wc ⟨rfl,bh,ct⟩;have ef:=bh.c0;have SC:=ZM bh (sb.2.trans (ct.below (Z sb.2) (by intro i hi;have:=F.2.2.2.1;simp at hi;omega)));clear bh ct sb));have eo:∃O:Hs,O.st=((H.bytes (FG H)).bytes (beN (8*H.size) 8)).st/\Yq _ b g7 C O:=⟨_,Z9Q H (H.size+P.size) _ (FG H) (beN (8*H.size) 8),SC.1⟩;obtain⟨O,cn,az⟩:=eo;have ag:H.sum=AY O.st:=by unfold Hs.sum;rw[cn]
 have bj:O.st.length=8:=az.st.len;have SX:=ZM az SC.2;clear SC az cn;obtain⟨ST,hS⟩:=ZK O.st;rw[hS] at bj ag;have dy:=ZI ag;have dx:=ZI hS;have ay:=ZI bj;clear ag hS bj;generalize (Yw gs c H).toArray=AG;generalize (beN (8*H.size) 8).toArray=AB;go_loopw [5,35] (λt i wr=>∃j:Nat,j<=8/\i=(j:Int)/\t=.string ⟨(AY (ST.take j)).toArray⟩/\Yq wr b g7 C O/\Below b w wr) (λ_ i _=>8- (intOf i).toNat)
 .exact⟨0,Qw,rfl,rfl,SX.1,SX.2⟩
 obtain⟨j,hj,rfl,rfl,kr,hb⟩:=hrel;by_cases ai:j<8
 .have hc:=kr.st.cell j ai;rw[dx.o] at hc;obtain⟨x,hx⟩:=ZK (ST.getD j 0#32);have aw:=Z6R ST j (by rw[ay.o];exact ai);rw[hx] at hc aw;have l0:=DJ x;have l1:=DI x;have bu:uv x=((x.toNat:Nat):Int):=YU x;have bz:=x.isLt;obtain⟨n,hn⟩:=ZK x.toNat;rw[hn] at bu aw bz;rw[bu] at hc;have eu:n<4294967296:=bz;obtain⟨t,ht⟩:∃t:Qq,(⟨(AY (ST.take j)).toArray⟩:Qq)=t:=⟨_,rfl⟩;have cz:t.size=4*j:=by rw[<-ht];show(AY (ST.take j)).toArray.size=_;rw[Ze1,Tf,Zg,ay.o];omega
  rw[ht];obtain⟨y,hy⟩:∃y:Qq,(⟨(beN n 4).toArray⟩:Qq)=y:=⟨_,rfl⟩;have df:y.size=4:=by rw[<-hy];show(beN n 4).toArray.size=_;rw[Ze1,EV]
  have de:y.data.toList=beN n 4:=by rw[<-hy]
  have HY:=ZI hy;have dz:=ZI de;have ee:∀W,(Op.stringOp .add t y).run prog W=.ok (.string (t++y)) W:=λW=>Zdl W _ _ (by rw[cz,df];omega);clear hy de df;have U:=ZM kr hb;have HT:=ZM ht aw;clear kr hb ht aw cz l0 l1 bu bz hx;clear cat er dp cj bq eh ek ef cw dh dj dm hlen;go_wp2_with (go_at_call 276;refine(OJ b g7 C n 4 _ _ U.1 Qw Qw).mono ?_;rw[HY.o];rintro e wb ⟨rfl,M⟩;have SB:=ZM (U.1.after M) (U.2.trans (M.mono (Z U.2)));clear M);go_roundw
  .refine⟨j+1,Qw,QC,?_,SB.1,SB.2⟩;congr 1;apply IS;rw[data_append,<-HT.1,HT.2,dz.o]
  simp[intOf];omega
 .obtain rfl:j=8:=by omega
  rw[Zi (by rw[ay.o];omega)];have U:=ZM kr hb;clear kr hb;go_wp2;go_ret;exact⟨by rw[dy.o];rfl,by rw[HB.o];exact U.2⟩
end
def Z74(s:Qq)(w:Qs)(hs:s.size<=100000000):Calls prog 239 #[.string s] w λe w'=>e=.returned (.string ⟨(Id s.data.toList).toArray⟩)/\Below w w w':=by
 go_enter func239,ntmps239;go_wp2_with (first|(go_at_call 260;refine(Z3S _).mono ?_;rintro e w1 ⟨h,gs,rfl,F,J,k,hb⟩;have S1:=ZO k hb F J;clear k hb F J)|(go_at_call 261;have s1:=S1.o;clear S1;refine(KG La h gs 8 hs0 s _ s1.1 Qz Qw Qz).mono ?_;rintro e w2 ⟨rfl,k,M⟩;have C:=ZM k (s1.2.1.trans (M.below s1.2.1.size (by intro i hi;have:=s1.2.2;simp at hi;omega)));clear k M s1)|(go_at_call 262;have s2:=C.o;clear C;refine(Z2n h gs 8 _ _ s2.1 (Z9b _ _ (show hs0.many<64 by decide)) (by rw[Z9j];show 0+s.size<=_;omega)).mono ?_;rintro e w3 ⟨rfl,hb⟩;have O:=ZI (s2.2.trans (hb.mono s2.2.size));clear hb s2));go_ret;refine⟨?_,O.o⟩;have e:({hs0 with size:=hs0.size+s.size}:Hs)={hs0 with size:=s.data.toList.length}:=by rw[BD];simp[hs0]
 rw[e];rfl
