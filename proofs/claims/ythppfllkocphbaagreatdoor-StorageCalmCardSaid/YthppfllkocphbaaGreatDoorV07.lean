/- Part 8: lemmas about what the program computes. -/
import Derived.Laws.Tables
import Derived.Laws.CopyRow
import Derived.Deep.Cut
import Derived.Test.YthppfllkocphbaaGreatDoorV02
namespace Go.Proofs.YthppfllkocphbaaGreatDoor
set_option linter.all false
set_option maxHeartbeats 25600000
set_option maxRecDepth 100000
open Tryz Go.RowKit
open Go renaming World->Qs,Value->Qt,TypeId->Qu,Ending->Qv
def WG(x:Qp)(n:Nat):Qp:=(x<<<(32-n))|||(x>>>n)
def Z5Q(x:Qp)(n:Nat):bits BinOp.or IntKind.u32 (uv x*2^(32-n)%4294967296) (uv x / 2^n)=uv (WG x n):=by rw[Z8e,Gj,Z8d];rfl
def Z5P(x:Qp)(n:Int)(w:Qs)(C:n∈[2,6,7,11,13,17,18,19,22,25]):Calls prog 281 #[.int .u32 (uv x),(-n:Int)] w λe w'=>e=.returned (.int .u32 (uv (WG x n.toNat)))/\w=w':=by
 have:=DR x;have:=DQ x;have e1:bits BinOp.and IntKind.u64 (IntKind.u64.wrap (-n)) 31=32-n:=by revert n;decide
 have h:=Z5Q x n.toNat;simp[Zk,ZdG,ZgN] at C;rcases C with rfl|rfl|rfl|rfl|rfl|rfl|rfl|rfl|rfl|rfl
 all_goals
  simp[Int.reduceSub] at e1;have H:=ZI h;clear h;go_enter func281,ntmps281;go_wp2;go_ret;exact⟨Ex (Bf H.o),rfl⟩
def Zb6(x:Qp)(n:Int)(w:Qs)(C:n∈[2,6,7,11,13,17,18,19,22,25]):Calls prog 280 #[.int .u32 (uv x),n] w λe w'=>e=.returned (.int .u32 (uv (WG x n.toNat)))/\w=w':=by
 have:IntKind.i64.wrap (-n)= -n:=by revert n;decide
 have h:=λw=>Z5P x n w C;go_enter func280,ntmps280;go_wp2_with (go_at_call 281;go_fit (h _);rintro e w' ⟨rfl,rfl⟩);go_ret;exact⟨rfl,rfl⟩
def Cf(n:Nat):Code->Option Code
 |.region k ops d=>if k=n then some (.region k ops d) else none
 |.loop c=>Cf n c
 |.seq a b=>match Cf n a with
  |some c=>some c
  |none=>Cf n b
 |.block _ c=>Cf n c
 |.scope c=>Cf n c
 |.cond _ a b=>match Cf n a with
  |some c=>some c
  |none=>Cf n b
 |_=>none
def W6(l:List Qp):Qk:=l.map λx=>.int .u32 (uv x)
def CX(l:List Qp):(W6 l).length=l.length:=by simp[W6]
def Co(l:List Qp)(j:Nat)(h:j<l.length):(W6 l)[j]? =some (.int .u32 (uv (l.getD j 0#32))):=by rw[Z7,Z8 h];simp[W6,h]
def U4(l:List Qp)(j:Nat)(x:Qp):(W6 l).set j (.int .u32 (uv x))=W6 (l.set j x):=by simp[W6,Zh6]
def Lb:Qj:=[1116352408,1899447441,3049323471,3921009573,961987163,1508970993,2453635748,2870763221,3624381080,310598401,607225278,1426881987,1925078388,2162078206,2614888103,3248222580,3835390401,4022224774,264347078,604807628,770255983,1249150122,1555081692,1996064986,2554220882,2821834349,2952996808,3210313671,3336571891,3584528711,113926993,338241895,666307205,773529912,1294757372,1396182291,1695183700,1986661051,2177026350,2456956037,2730485921,2820302411,3259730800,3345764771,3516065817,3600352804,4094571909,275423344,430227734,506948616,659060556,883997877,958139571,1322822218,1537002063,1747873779,1955562222,2024104815,2227730452,2361852424,2428436474,2756734187,3204031479,3329325298]
def Bw:List Qp:=Lb.map (BitVec.ofNat 32)
def Z3j:Bw.length=64:=rfl
def JF:Array Qt:= #[.int .u32 1116352408,.int .u32 1899447441,.int .u32 3049323471,.int .u32 3921009573,.int .u32 961987163,.int .u32 1508970993,.int .u32 2453635748,.int .u32 2870763221,.int .u32 3624381080,.int .u32 310598401,.int .u32 607225278,.int .u32 1426881987,.int .u32 1925078388,.int .u32 2162078206,.int .u32 2614888103,.int .u32 3248222580,.int .u32 3835390401,.int .u32 4022224774,.int .u32 264347078,.int .u32 604807628,.int .u32 770255983,.int .u32 1249150122,.int .u32 1555081692,.int .u32 1996064986,.int .u32 2554220882,.int .u32 2821834349,.int .u32 2952996808,.int .u32 3210313671,.int .u32 3336571891,.int .u32 3584528711,.int .u32 113926993,.int .u32 338241895,.int .u32 666307205,.int .u32 773529912,.int .u32 1294757372,.int .u32 1396182291,.int .u32 1695183700,.int .u32 1986661051,.int .u32 2177026350,.int .u32 2456956037,.int .u32 2730485921,.int .u32 2820302411,.int .u32 3259730800,.int .u32 3345764771,.int .u32 3516065817,.int .u32 3600352804,.int .u32 4094571909,.int .u32 275423344,.int .u32 430227734,.int .u32 506948616,.int .u32 659060556,.int .u32 883997877,.int .u32 958139571,.int .u32 1322822218,.int .u32 1537002063,.int .u32 1747873779,.int .u32 1955562222,.int .u32 2024104815,.int .u32 2227730452,.int .u32 2361852424,.int .u32 2428436474,.int .u32 2756734187,.int .u32 3204031479,.int .u32 3329325298]
def Z3i:∀n∈Lb,n<4294967296:=Qz
def Z3h:JF.toList=W6 Bw:=by have h:JF.toList=Lb.map λ(n:Nat)=>Value.int .u32 (n:Int):=rfl;rw[h,W6,Bw,ZeW];refine Zea λn C=> ?_;show Value.int .u32 (n:Int)=.int .u32 (uv (BitVec.ofNat 32 n));rw[IG (Z3i n C)]
def Bh:Array Qt:= #[.int .u32 0,.int .u32 0,.int .u32 0,.int .u32 0,.int .u32 0,.int .u32 0,.int .u32 0,.int .u32 0,.int .u32 0,.int .u32 0,.int .u32 0,.int .u32 0,.int .u32 0,.int .u32 0,.int .u32 0,.int .u32 0,.int .u32 0,.int .u32 0,.int .u32 0,.int .u32 0,.int .u32 0,.int .u32 0,.int .u32 0,.int .u32 0,.int .u32 0,.int .u32 0,.int .u32 0,.int .u32 0,.int .u32 0,.int .u32 0,.int .u32 0,.int .u32 0,.int .u32 0,.int .u32 0,.int .u32 0,.int .u32 0,.int .u32 0,.int .u32 0,.int .u32 0,.int .u32 0,.int .u32 0,.int .u32 0,.int .u32 0,.int .u32 0,.int .u32 0,.int .u32 0,.int .u32 0,.int .u32 0,.int .u32 0,.int .u32 0,.int .u32 0,.int .u32 0,.int .u32 0,.int .u32 0,.int .u32 0,.int .u32 0,.int .u32 0,.int .u32 0,.int .u32 0,.int .u32 0,.int .u32 0,.int .u32 0,.int .u32 0,.int .u32 0]
def Z92:Bh.toList=W6 (List.replicate 64 0#32):=by
 have h:Bh.toList=List.replicate 64 (Value.int .u32 0):=rfl;have z:uv 0#32=0:=by rw[YX];rfl
 rw[h,W6,List.map_replicate,z]
noncomputable def Z41:Code:=(Tryz.f275.body.bind (Cf 1)).getD .skip
noncomputable def Z42:Code:=(Tryz.f275.body.bind (Cf 3)).getD .skip
def Tv(w:Qs)(cs C:Array Qt)(t:Qu)(fr:Nat×Nat):(w.alloc (.cells cs t fr)).setRow w.heap.size C=w.alloc (.cells C t fr):=by
 unfold World.setRow World.alloc;congr 1;apply Zh9
 .simp
 .intro i F J;simp[Array.getElem_modify,Array.getElem_push];simp at F;by_cases h:w.heap.size=i
  .subst h;simp
  .rw[Zw h];simp[show i<w.heap.size by omega]
set_option maxRecDepth 1000000 in
theorem Z47(w:Qs)(K:Act->Qs->Prop)(Q:Exit->Act->Qs->Prop)(c0 c1 c2 c3 c4 c5 c6 c7 c8 c9 kt ku kx ky kz l5 l7 ld lh lj lk lq lr lu ly lz r8 ma mb me mf mg mh mi mj mn mo mq mu mw mx my mz n9 nf nj nr nt nu ny nz o4 o5 o7 oc og oh oi oj om oo oq ot ou ov c65 c66 c67 c68 ow oy oz p5 p6 p8 pj pq pr pt px py qb qd qe qg qh qj qk ql qm qn qo qp qs qt qu qv qw qx qy h C F J M O U Z ae af ag ah ai aj ak aq au aw ay az bf bg bh bj bm bq bu bz cj cn cr ct cu cw cy cz de df dh dj dm dp dq dt du dw dx dy dz ee ef eh ek eo er eu ew ey ez fa fc fe fg fh fi fj fm fo fp fq ft fu fw fx fy gj gy ia ib ic ie ig ij ik im iq ir iu iw ix iy iz j7 j8 j9 ja jb jc jd je jf jg jh ji jk jl jm jo jq jr js jt ju jw jx jy jz ke kf kg kh kj kq:Qt)(hK:K ⟨(List.toArray (c0::c1::c2::c3:: .pointer w.heap.size::c5::c6::c7::c8::c9::kt::ku::kx::ky::kz::l5::l7::ld::lh::lj::lk::lq::lr::lu::ly::lz:: .agg JF::ma::mb::me::mf::mg::mh::mi::mj::mn::mo::mq::mu::mw::mx::my::mz::n9::nf::nj::nr::nt::nu::ny::nz::o4::o5::o7::oc::og::oh::oi::oj::om::oo::oq::ot::ou::ov::c65::c66::c67::c68::ow::oy::oz::p5::p6::p8::pj::pq::pr::pt::px::py::qb::qd::qe::qg::qh::qj::qk::ql::qm::qn::qo::qp::qs::qt::qu::qv::qw::qx::qy::h::C::F::J::M::O::U::Z::ae::af::ag::ah::ai::aj::ak::aq::au::aw::ay::az::bf::bg::bh::bj::bm::bq::bu::bz::cj::cn::cr::ct::cu::cw::cy::cz::de::df::dh::dj::dm::dp::dq::dt::du::dw::dx::dy::dz::ee::ef::eh::ek::eo::er::eu::ew::ey::ez::fa::fc::fe::fg::fh::fi::fj::fm::fo::fp::fq::ft::fu::fw::fx::fy::gj::gy::ia::ib::ic::ie::ig::ij::ik::im::iq::ir::iu::iw::ix::iy::iz::j7::j8::j9::ja::jb::jc::jd::je::jf::jg::jh::ji::jk::jl::jm::jo::jq::jr::js::jt::ju::jw::jx::jy::jz::ke::kf::kg::kh::kj::kq::[])),[]⟩ (w.alloc (.cells JF 352))):Code.wp prog Z41 (Exit.then K Q) ⟨(List.toArray (c0::c1::c2::c3::c4::c5::c6::c7::c8::c9::kt::ku::kx::ky::kz::l5::l7::ld::lh::lj::lk::lq::lr::lu::ly::lz::r8::ma::mb::me::mf::mg::mh::mi::mj::mn::mo::mq::mu::mw::mx::my::mz::n9::nf::nj::nr::nt::nu::ny::nz::o4::o5::o7::oc::og::oh::oi::oj::om::oo::oq::ot::ou::ov::c65::c66::c67::c68::ow::oy::oz::p5::p6::p8::pj::pq::pr::pt::px::py::qb::qd::qe::qg::qh::qj::qk::ql::qm::qn::qo::qp::qs::qt::qu::qv::qw::qx::qy::h::C::F::J::M::O::U::Z::ae::af::ag::ah::ai::aj::ak::aq::au::aw::ay::az::bf::bg::bh::bj::bm::bq::bu::bz::cj::cn::cr::ct::cu::cw::cy::cz::de::df::dh::dj::dm::dp::dq::dt::du::dw::dx::dy::dz::ee::ef::eh::ek::eo::er::eu::ew::ey::ez::fa::fc::fe::fg::fh::fi::fj::fm::fo::fp::fq::ft::fu::fw::fx::fy::gj::gy::ia::ib::ic::ie::ig::ij::ik::im::iq::ir::iu::iw::ix::iy::iz::j7::j8::j9::ja::jb::jc::jd::je::jf::jg::jh::ji::jk::jl::jm::jo::jq::jr::js::jt::ju::jw::jx::jy::jz::ke::kf::kg::kh::kj::kq::[])),[]⟩ w:=by
 have HK:=ZI hK;clear hK
 conv=>arg 2;whnf
 refine wp_region_list ?_;refine wpList_build rfl _ _ rfl Qy ?_;refine Eq.mpr (ZF (λx=>wpList _ _ _ _ (Act.put _ _ (Value.agg x)) _) (show _=JF from Qy)) ?_;refine MZ (w':=w.alloc (.cells Bh 352)) (v:=.pointer w.heap.size) rfl Qy ?_;refine wpList_store_row rfl _ _ _ rfl w.heap.size JF rfl rfl 352 Bh (ZB w _) Qy rfl Qy ?_;rw[Tv];refine wpList_nil ?_;exact HK.o
set_option maxRecDepth 1000000 in
theorem Z48(w:Qs)(K:Act->Qs->Prop)(Q:Exit->Act->Qs->Prop)(c0 c1 c2 c3 c4 c5 c6 c7 c8 c9 kt ku kx ky kz l5 l7 ld lh lj lk lq lr lu ly lz ma mb me mf mg mh mi mj mn mo mq mu mw mx my mz n9 nf nj nr nt nu ny nz o4 o5 o7 oc og oh oi oj om oo oq ot ou ov ow c65 c66 c67 c68 oy oz p5 p6 p8 pj pq pr pt px py qb qd qe qg qh qj qk ql qm qn qo qp qs qt qu qv qw qx qy r8 h C F J M O U Z ae af ag ah ai aj ak aq au aw ay az bf bg bh bj bm bq bu bz cj cn cr ct cu cw cy cz de df dh dj dm dp dq dt du dw dx dy dz ee ef eh ek eo er eu ew ey ez fa fc fe fg fh fi fj fm fo fp fq ft fu fw fx fy gj gy ia ib ic ie ig ij ik im iq ir iu iw ix iy iz j7 j8 j9 ja jb jc jd je jf jg jh ji jk jl jm jo jq jr js jt ju jw jx jy jz ke kf kg kh kj kq:Qt)(hK:K ⟨(List.toArray (c0::c1::c2::c3::c4::c5:: .pointer w.heap.size::c7::c8::c9::kt::ku::kx::ky::kz::l5::l7::ld::lh::lj::lk::lq::lr::lu::ly::lz::ma::mb::me::mf::mg::mh::mi::mj::mn::mo::mq::mu::mw::mx::my::mz::n9::nf::nj::nr::nt::nu::ny::nz::o4::o5::o7::oc::og::oh::oi::oj::om::oo::oq::ot::ou::ov::ow::c65::c66::c67::c68::oy::oz::p5::p6::p8::pj::pq::pr::pt::px::py::qb::qd::qe::qg::qh::qj::qk::ql::qm::qn::qo::qp::qs::qt::qu::qv::qw::qx::qy::r8::h::C::F::J::M::O::U::Z::ae::af::ag::ah::ai::aj::ak::aq::au::aw::ay::az::bf::bg::bh::bj::bm::bq::bu::bz::cj::cn::cr::ct::cu::cw::cy::cz::de::df::dh::dj::dm::dp::dq::dt::du::dw::dx::dy::dz::ee::ef::eh::ek::eo::er::eu::ew::ey::ez::fa::fc::fe::fg::fh::fi::fj::fm::fo::fp::fq::ft::fu::fw::fx::fy::gj::gy::ia::ib::ic::ie::ig::ij::ik::im::iq::ir::iu::iw::ix::iy::iz::j7::j8::j9::ja::jb::jc::jd::je::jf::jg::jh::ji::jk::jl::jm::jo::jq::jr::js::jt::ju::jw::jx::jy::jz::ke::kf::kg::kh::kj::kq::[])),[]⟩ (w.alloc (.cells Bh 352))):Code.wp prog Z42 (Exit.then K Q) ⟨(List.toArray (c0::c1::c2::c3::c4::c5::c6::c7::c8::c9::kt::ku::kx::ky::kz::l5::l7::ld::lh::lj::lk::lq::lr::lu::ly::lz::ma::mb::me::mf::mg::mh::mi::mj::mn::mo::mq::mu::mw::mx::my::mz::n9::nf::nj::nr::nt::nu::ny::nz::o4::o5::o7::oc::og::oh::oi::oj::om::oo::oq::ot::ou::ov::ow::c65::c66::c67::c68::oy::oz::p5::p6::p8::pj::pq::pr::pt::px::py::qb::qd::qe::qg::qh::qj::qk::ql::qm::qn::qo::qp::qs::qt::qu::qv::qw::qx::qy::r8::h::C::F::J::M::O::U::Z::ae::af::ag::ah::ai::aj::ak::aq::au::aw::ay::az::bf::bg::bh::bj::bm::bq::bu::bz::cj::cn::cr::ct::cu::cw::cy::cz::de::df::dh::dj::dm::dp::dq::dt::du::dw::dx::dy::dz::ee::ef::eh::ek::eo::er::eu::ew::ey::ez::fa::fc::fe::fg::fh::fi::fj::fm::fo::fp::fq::ft::fu::fw::fx::fy::gj::gy::ia::ib::ic::ie::ig::ij::ik::im::iq::ir::iu::iw::ix::iy::iz::j7::j8::j9::ja::jb::jc::jd::je::jf::jg::jh::ji::jk::jl::jm::jo::jq::jr::js::jt::ju::jw::jx::jy::jz::ke::kf::kg::kh::kj::kq::[])),[]⟩ w:=by
 have HK:=ZI hK;clear hK
 conv=>arg 2;whnf
 try simp[List.append_eq,Zef,Ze3]
 go_wp2;exact HK.o
variable{P:Program}{g:Nat}{st:List (BitVec 32)}{w w':World}
structure WC(w:Qs)(g:Nat)(st:List Qp):Prop where
 len:st.length=8
 lt:g<w
 cell:∀j,j<8->w.cell? ⟨g,j,none⟩=some (.int .u32 (uv (st.getD j 0#32)))
 free:∀j,j<8->w.frozen? ⟨g,j,none⟩=false
def WC.after(h:WC w g st)(hb:Below w w w'):WC w' g st:=⟨h.len,Zp h.lt hb.size,λj C=>(hb.cell (p:=⟨g,j,none⟩) h.lt).trans (h.cell j C),λj C=>(hb.frozen (p:=⟨g,j,none⟩) h.lt).trans (h.free j C)⟩
def be4(l:Ql)(i:Nat):Qp:=BitVec.ofNat 32 (Wz (l.drop (4*i)))
def EJ(blk:Ql)(ws:List Qp)(i:Nat):Qp:=
 if i<16 then be4 blk i else
  ws.getD (i-16) 0#32+(WG (ws.getD (i-15) 0#32) 7^^^WG (ws.getD (i-15) 0#32) 18^^^(ws.getD (i-15) 0#32>>>3))+ws.getD (i-7) 0#32+(WG (ws.getD (i-2) 0#32) 17^^^WG (ws.getD (i-2) 0#32) 19^^^(ws.getD (i-2) 0#32>>>10))
def wl(blk:Ql):Nat->List Qp
 |0=>List.replicate 64 0#32
 |i+1=>(wl blk i).set i (EJ blk (wl blk i) i)
def EM(h:Ql)(i:Nat):(wl h i).length=64:=by
 induction i with
 |zero=>simp[wl]
 |succ i ih=>simp[wl,ih]
def Nt:prog.arrayLen 346=64:=Qy
def UK:prog.elem 346=5:=Qy
def SV(b o l:Nat)(hl:l<64)(W:Qs):(Instr.sliceAt 346 (.pointer (some ⟨b,o,none⟩)) (some (.int .i64 (l:Int))) none none).run prog W=.ok (.slice (some ⟨b,o+l,none⟩) (64-l) (64-l)) W:=by
 have h:prog.underlying 346=some (.array (prog.arrayLen 346) (prog.elem 346)):=Qy;rw[run_sliceAt_array_l W _ _ h .i64 (l:Int) Qw (by rw[Nt];omega),UK,Nt];have C:(sizeOf 5).run prog W=.ok 1 W:=Tryz.sizeOf5 W;rw[C];simp[Result.andThen,slicedAt,ZeA,Zg7];rw[Zw Qw];have e1:(⟨b,o,none⟩:Addr).add l=⟨b,o+l,none⟩:=by unfold Addr.add;split<;>simp_all
 rw[e1]
def Z4G(a b c d:Nat)(ha:a<256)(hb:b<256)(hc:c<256)(U:d<256):IntKind.u32.wrap (a:Int)=(a:Int)/\IntKind.u32.wrap (b:Int)=(b:Int)/\IntKind.u32.wrap (c:Int)=(c:Int)/\IntKind.u32.wrap (d:Int)=(d:Int)/\ IntKind.u32.wrap ((a:Int)*16777216)=(a:Int)*16777216/\IntKind.u32.wrap ((b:Int)*65536)=(b:Int)*65536/\IntKind.u32.wrap ((c:Int)*256)=(c:Int)*256/\ bits .or .u32 ((a:Int)*16777216) ((b:Int)*65536)=(a:Int)*16777216+(b:Int)*65536/\ bits .or .u32 ((a:Int)*16777216+(b:Int)*65536) ((c:Int)*256)=(a:Int)*16777216+(b:Int)*65536+(c:Int)*256/\ bits .or .u32 ((a:Int)*16777216+(b:Int)*65536+(c:Int)*256) (d:Int)=(a:Int)*16777216+(b:Int)*65536+(c:Int)*256+d:=by
 have h:∀n:Nat,n<4294967296->IntKind.u32.wrap (n:Int)=(n:Int):=λn Z=>by have:=IntKind.wrap_u32' (n:Int);omega
 have C:∀ (k x y:Nat),y<2^k->x*2^k<4294967296->y<4294967296->bits .or .u32 ((x*2^k:Nat):Int) (y:Int)=((x*2^k+y:Nat):Int):=λk x y J M O=>by rw[u32_or_nat _ _ M O,<-Zfk,Zfo J]
 have e1:=h (a*16777216) Qw;have e2:=h (b*65536) Qw;have F:=h (c*256) Qw;refine⟨h a Qw,h b Qw,h c Qw,h d Qw,by simpa using e1,by simpa using e2,by simpa using F,?_,?_,?_⟩
 .have:=C 24 a (b*65536) Qw Qw Qw;simpa using this
 .have:=C 16 (a*256+b) (c*256) Qw Qw Qw;have e:((a*256+b)*2^16:Nat)=a*16777216+b*65536:=Qw;rw[e] at this;simpa using this
 .have:=C 8 (a*65536+b*256+c) d Qw Qw Qw;have e:((a*65536+b*256+c)*2^8:Nat)=a*16777216+b*65536+c*256:=Qw;rw[e] at this;simpa using this
def Gd{f:FuncId}{args:Array Qt}{v:Qt}(h:Calls P f args w λe w'=>e=.returned v/\w=w'):Calls P f args w λe w'=>e=.returned v/\w'=w:=h.mono λ_ _ ⟨he,hw⟩=>⟨he,hw.symm⟩
def Z88(x y:Qp):IntKind.u32.wrap (uv x+uv y)=uv (x+y):=by rw[<-EI];have:=IntKind.wrap_u32' (uv x+uv y);omega
structure R8 where
 a:Qp
 b:Qp
 c:Qp
 d:Qp
 e:Qp
 f:Qp
 g:Qp
 h:Qp
def R8.t(r:R8)(K W:Qp):Qp:=r.h+(WG r.e 6^^^WG r.e 11^^^WG r.e 25)+((r.e&&&r.f)^^^(~~~ r.e&&&r.g))+K+W
def R8.u(r:R8):Qp:=(WG r.a 2^^^WG r.a 13^^^WG r.a 22)+((r.a&&&r.b)^^^(r.a&&&r.c)^^^(r.b&&&r.c))
def R8.next(r:R8)(K W:Qp):R8:=⟨r.t K W+r.u,r.a,r.b,r.c,r.d+r.t K W,r.e,r.f,r.g⟩
def R8.of(st:List Qp):R8:=⟨st.getD 0 0#32,st.getD 1 0#32,st.getD 2 0#32,st.getD 3 0#32,st.getD 4 0#32,st.getD 5 0#32,st.getD 6 0#32,st.getD 7 0#32⟩
def R8.list(r:R8):List Qp:=[r.a,r.b,r.c,r.d,r.e,r.f,r.g,r.h]
def G0(blk:Ql)(st:List Qp):Nat->R8
 |0=>R8.of st
 |i+1=>(G0 blk st i).next (Bw.getD i 0#32) ((wl blk 64).getD i 0#32)
def mixed(st:List Qp)(blk:Ql):List Qp:=List.zipWith (· + ·) st (G0 blk st 64).list
def Z8E{ops:Array Oper}{rest:List Oper}{o:Oper}{a:Act}{Q:Exit->Act->Qs->Prop}(ah:o.guard=none)(d s:Operand)(M sT:Qu)(ho:o.op=.call {callee:=.builtin .copy,args:= #[d,s],argTypes:= #[M,sT]})(elem:Qu)(hu:P.underlying M=some (.slice elem))(ai:(P.info? elem).map (·.size)=some 1)(g off F O gs os J ae:Nat)(hd:a.eval d=.slice (some ⟨g,off,none⟩) F O)(hs:a.eval s=.slice (some ⟨gs,os,none⟩) J ae)(t:Qu)(L C:Qk)(U:Y2 w g t L)(hn:C.length=Nat.min J F)(af:off+C.length<=L.length)(ag:∀j v,C[j]? =some v->w.cell? ⟨gs,os+j,none⟩=some v)(h1:∀v∈C,v.oneCell'=true)(h:∀w',Y2 w' g t (L.take off++C++L.drop (off+C.length))->Fr [g] w w'->wpList P ops Q rest (a.put o.dst (goInt C.length)) w'):wpList P ops Q (o::rest) a w:=by
 refine Zgl ah λK hK=> ?_;have Z:=run_copy_row (P:=P) w M sT o.type elem g off F O ⟨gs,os,none⟩ J ae L.toArray t C hu ai U hn
  (λj v hj=>by
   have e1:(⟨gs,os,none⟩:Addr).add j=⟨gs,os+j,none⟩:=by unfold Addr.add;split<;>simp_all
   rw[e1];exact ag j v hj)
  (by simpa using af) h1
 simp only[Zfh] at Z;have hr:=U.setRow (L.take off++C++L.drop (off+C.length));have hF:=(Fr.refl [g] w).setRow (g:=g) (Zv Qx) (L.take off++C++L.drop (off+C.length)).toArray;have h9:=h _ hr hF;unfold Oper.wp execOp;simp only[ho,resolve,invoke,builtin,ZfB,ZfO,ZeU,ZfZ,Zn,Zf9,hd,hs,Z];exact hK _ _ h9
def U2(l:List Qp):∀v∈W6 l,v.oneCell'=true:=by intro v hv;unfold W6 at hv;obtain⟨x,_,rfl⟩:=Zz.1 hv;rfl
def WC.news(h:WC w g st):∀j v,(W6 st)[j]? =some v->w.cell? ⟨g,0+j,none⟩=some v:=λj v C=>by
 have F:j<st.length:=by have:=(ZeP.1 C).1;rwa[CX] at this
 rw[Co st j F] at C;rw[Ze5,h.cell j (by have:=h.len;omega)];exact C
def WC.fr(h:WC w g st){L:Qj}(F:Fr L w w')(J:g∉L):WC w' g st:=
 have hb:=F.block g h.lt J
 ⟨h.len,Zp h.lt F.size,λj C=>by rw[<-h.cell j C];simp[World.cell?,hb],λj C=>by rw[<-h.free j C];simp[World.frozen?,hb]⟩
def Z6d(a b c d e f g h:Qt)(W:Qs):(Instr.index 354 (.agg #[a,b,c,d,e,f,g,h]) (.int .i64 0)).run prog W=.ok a W:=Qy
def Z6e(a b c d e f g h:Qt)(W:Qs):(Instr.index 354 (.agg #[a,b,c,d,e,f,g,h]) (.int .i64 1)).run prog W=.ok b W:=Qy
def Z6f(a b c d e f g h:Qt)(W:Qs):(Instr.index 354 (.agg #[a,b,c,d,e,f,g,h]) (.int .i64 2)).run prog W=.ok c W:=Qy
def Z6g(a b c d e f g h:Qt)(W:Qs):(Instr.index 354 (.agg #[a,b,c,d,e,f,g,h]) (.int .i64 3)).run prog W=.ok d W:=Qy
def Z6h(a b c d e f g h:Qt)(W:Qs):(Instr.index 354 (.agg #[a,b,c,d,e,f,g,h]) (.int .i64 4)).run prog W=.ok e W:=Qy
def Z6i(a b c d e f g h:Qt)(W:Qs):(Instr.index 354 (.agg #[a,b,c,d,e,f,g,h]) (.int .i64 5)).run prog W=.ok f W:=Qy
def Z6j(a b c d e f g h:Qt)(W:Qs):(Instr.index 354 (.agg #[a,b,c,d,e,f,g,h]) (.int .i64 6)).run prog W=.ok g W:=Qy
def Z6k(a b c d e f g h:Qt)(W:Qs):(Instr.index 354 (.agg #[a,b,c,d,e,f,g,h]) (.int .i64 7)).run prog W=.ok h W:=Qy
def Z6c(r:R8)(k:Nat)(C:k<8)(W:Qs):(Instr.index 354 (.agg #[.int .u32 (uv r.a),.int .u32 (uv r.b),.int .u32 (uv r.c),.int .u32 (uv r.d),.int .u32 (uv r.e),.int .u32 (uv r.f),.int .u32 (uv r.g),.int .u32 (uv r.h)]) (.int .i64 (k:Int))).run prog W=.ok (.int .u32 (uv (r.list.getD k 0#32))) W:=by
 have h:k=0∨k=1∨k=2∨k=3∨k=4∨k=5∨k=6∨k=7:=Qw;clear C;rcases h with rfl|rfl|rfl|rfl|rfl|rfl|rfl|rfl
 .exact Z6d _ _ _ _ _ _ _ _ W
 .exact Z6e _ _ _ _ _ _ _ _ W
 .exact Z6f _ _ _ _ _ _ _ _ W
 .exact Z6g _ _ _ _ _ _ _ _ W
 .exact Z6h _ _ _ _ _ _ _ _ W
 .exact Z6i _ _ _ _ _ _ _ _ W
 .exact Z6j _ _ _ _ _ _ _ _ W
 .exact Z6k _ _ _ _ _ _ _ _ W
def Bz(st rl:List Qp)(k:Nat):List Qp:=(List.range 8).map λj=>if j<k then st.getD j 0#32+rl.getD j 0#32 else st.getD j 0#32
def Z45(st h:List Qp)(k:Nat):(Bz st h k).length=8:=by simp[Bz]
def Hw(st h:List Qp)(k j:Nat)(C:j<8):(Bz st h k).getD j 0#32=if j<k then st.getD j 0#32+h.getD j 0#32 else st.getD j 0#32:=by unfold Bz;rw[Z7,Ze8,ZfG C];rfl
def Z44(st:List Qp)(r:R8)(h:st.length=8):Bz st r.list 8=List.zipWith (· + ·) st r.list:=by
 match st,h with
 |[s0,s1,s2,s3,s4,s5,s6,s7],_=>rfl
def Z43(st C:List Qp)(h:st.length=8):Bz st C 0=st:=by
 match st,h with
 |[s0,s1,s2,s3,s4,s5,s6,s7],_=>rfl
def WC.step{F:List Qp}{k:Nat}(h:WC w g (Bz st F k))(O:k<8):WC (w.setCell ⟨g,k,none⟩ (.int .u32 (uv (st.getD k 0#32+F.getD k 0#32)))) g (Bz st F (k+1)):=by
 refine⟨Z45 _ _ _,by simpa[World.setCell] using h.lt,λj C=> ?_,λj C=> ?_⟩
 .by_cases e:j=k
  .subst e;have M:=h.cell j C;rw[Hw _ _ _ _ C,Zx Qw];exact Zgs _ _ _ (by rw[M];rfl)
  .rw[Zgw _ _ _ _ (λx=>e (by injection x with _ x;exact x.symm)),h.cell j C,Hw _ _ _ _ C,Hw _ _ _ _ C];by_cases J:j<k
   .rw[Zx J,Zx Qw]
   .rw[Zw J,Zw Qw]
 .rw[World.frozen?_setCell];exact h.free j C
def Z7U:(prog.info? 161).map (·.size)=some 1:=Qy
def Z68(b:Nat)(W:Qs):(Instr.sliceAt 354 (.pointer b) none none none).run prog W=.ok (.slice b 8 8) W:=Qy
variable{c gs h:Nat}
structure Hs where
 st:List Qp
 buf:Ql
 many:Nat
 size:Nat
def Yw(gs c:Nat)(H:Hs):Qk:=[.slice gs 8 c]++QJ H.buf++[.int .i64 (H.many:Int),.int .u64 (H.size:Int),.func (.func 275) #[] #[],.bool true]
structure Yq(w:Qs)(h gs c:Nat)(H:Hs):Prop where
 top:Y2 w h 348 (Yw gs c H)
 st:WC w gs H.st
 len:H.buf.length=64
 lt:H.many<=64
 ne:gs≠h
def He{H:Hs}(h:H.buf.length=64):(Yw gs c H).length=69:=by simp[Yw,Wd,h]
def Pf(gs c:Nat)(H:Hs):(Yw gs c H)[0]? =some (.slice gs 8 c):=rfl
def Z2u{H:Hs}(h:H.buf.length=64)(j:Nat)(C:j<64):(Yw gs c H)[j+1]? =some (.int .u8 ((H.buf.getD j 0).toNat:Int)):=by unfold Yw;rw[Zd,ZdD Qx,Za (by simp[Wd,h,C])];rw[show j+1- [Value.slice gs 8 c].length=j from Qx,Bq _ _ Qw,Z7,Z8 Qw];rfl
def Hd{H:Hs}(h:H.buf.length=64)(j:Nat):(Yw gs c H)[65+j]? =[Value.int .i64 (H.many:Int),.int .u64 (H.size:Int),.func (.func 275) #[] #[],.bool true][j]?:=by unfold Yw;rw[ZdD (by simp[Wd,h])];congr 1;simp[Wd,h]
def Yq.c0{H:Hs}(k:Yq w h gs c H):w.cell? h=some (.slice gs 8 c):=k.top.row.cell (Pf gs c H)
def Yq.c65{H:Hs}(k:Yq w h gs c H):w.cell? ⟨h,65,none⟩=(H.many:Int):=k.top.row.cell (Hd k.len 0)
def Yq.c66{H:Hs}(k:Yq w h gs c H):w.cell? ⟨h,66,none⟩=some (.int .u64 (H.size:Int)):=k.top.row.cell (Hd k.len 1)
def Yq.c67{H:Hs}(k:Yq w h gs c H):w.cell? ⟨h,67,none⟩=some (.func (.func 275) #[] #[]):=k.top.row.cell (Hd k.len 2)
def Yq.c68{H:Hs}(k:Yq w h gs c H):w.cell? ⟨h,68,none⟩=true:=k.top.row.cell (Hd k.len 3)
def Yq.free{H:Hs}(k:Yq w h gs c H)(j:Nat)(C:j<69):w.frozen? ⟨h,j,none⟩=false:=k.top.row.free (by rw[He k.len];exact C)
def Yq.lt_{H:Hs}(k:Yq w h gs c H):h<w:=k.top.row.lt
def Yq.fr{H:Hs}(k:Yq w h gs c H){L:Qj}(C:Fr L w w')(F:h∉L)(J:gs∉L):Yq w' h gs c H:=⟨k.top.fr C F,k.st.fr C J,k.len,k.lt,k.ne⟩
def Yq.after{H:Hs}(k:Yq w h gs c H)(hb:Below w w w'):Yq w' h gs c H:=k.fr (Z1 (L:=[]) hb) Qx Qx
def Z2x{H:Hs}(h:H.buf.length=64)(m:Nat):(Yw gs c H).set 65 (.int .i64 (m:Int))=Yw gs c {H with many:=m}:=by unfold Yw;rw[Zfu _ _ (by simp[Wd,h])];congr 1;simp[Wd,h]
def Z2y{H:Hs}(h:H.buf.length=64)(m:Nat):(Yw gs c H).set 66 (.int .u64 (m:Int))=Yw gs c {H with size:=m}:=by unfold Yw;rw[Zfu _ _ (by simp[Wd,h])];congr 1;simp[Wd,h]
def Yq.setMany{H:Hs}(k:Yq w h gs c H)(m:Nat)(hm:m<=64):Yq (w.setCell ⟨h,65,none⟩ (.int .i64 (m:Int))) h gs c {H with many:=m}:=⟨by rw[<-Z2x k.len];exact k.top.set 65 _,k.st.fr ((Fr.refl [h] w).setCell (Zv Qx) _) (by simpa using k.ne),k.len,hm,k.ne⟩
def Yq.ZcO{H:Hs}(k:Yq w h gs c H)(m:Nat):Yq (w.setCell ⟨h,66,none⟩ (.int .u64 (m:Int))) h gs c {H with size:=m}:=⟨by rw[<-Z2y k.len];exact k.top.set 66 _,k.st.fr ((Fr.refl [h] w).setCell (Zv Qx) _) (by simpa using k.ne),k.len,k.lt,k.ne⟩
def st0:List Qp:=[0x6a09e667#32,0xbb67ae85#32,0x3c6ef372#32,0xa54ff53a#32,0x510e527f#32,0x9b05688c#32,0x1f83d9ab#32,0x5be0cd19#32]
def hs0:Hs:=⟨st0,List.replicate 64 0,0,0⟩
def Gc:Array Qt:= #[.int .u32 1779033703,.int .u32 3144134277,.int .u32 1013904242,.int .u32 2773480762,.int .u32 1359893119,.int .u32 2600822924,.int .u32 528734635,.int .u32 1541459225]
def Z7f:Gc.toList=W6 st0:=by
 have h:∀n:Nat,n<4294967296->Value.int .u32 (n:Int)=.int .u32 (uv (BitVec.ofNat 32 n)):=λn Z=>by rw[IG Z]
 have e1:=h 1779033703 Qw;have e2:=h 3144134277 Qw;have C:=h 1013904242 Qw;have F:=h 2773480762 Qw;have J:=h 1359893119 Qw;have M:=h 2600822924 Qw;have O:=h 528734635 Qw;have U:=h 1541459225 Qw;show[Value.int .u32 ((1779033703:Nat):Int),.int .u32 ((3144134277:Nat):Int),.int .u32 ((1013904242:Nat):Int),.int .u32 ((2773480762:Nat):Int),.int .u32 ((1359893119:Nat):Int),.int .u32 ((2600822924:Nat):Int),.int .u32 ((528734635:Nat):Int),.int .u32 ((1541459225:Nat):Int)]=_;rw[e1,e2,C,F,J,M,O,U];rfl
def Z5Y{t:Qu}(h:Row w g t (W6 st))(hl:st.length=8):WC w g st:=⟨hl,h.lt,λj C=>h.cell (Co st j Qw),λj C=>h.free (by rw[CX];omega)⟩
set_option maxRecDepth 1000000 in
theorem Z4f(w:Qs):Calls prog 260 #[] w λe w'=>∃h gs,e=.returned (h:Nat)/\w.heap.size<=h/\w.heap.size<=gs/\Yq w' h gs 8 hs0/\Below w w w':=by
 go_enter func260,ntmps260;go_wp2;go_ret;refine⟨w.heap.size+1,w.heap.size,rfl,Qw,Zt _,?_,(((Zu _ w).alloc (Zt _) _).alloc Qx _)⟩;have F:Row ((w.alloc (.cells Gc 161)).alloc (.cells (Yw w 8 hs0).toArray 348)) w 161 (W6 st0):=by have:=(Z2 w 161 (W6 st0)).alloc (.cells (Yw w 8 hs0).toArray 348);rw[<-Z7f] at this⊢;exact this
 have C:Y2 ((w.alloc (.cells Gc 161)).alloc (.cells (Yw w 8 hs0).toArray 348)) (w.alloc (.cells Gc 161)).heap.size 348 (Yw w 8 hs0):=Z9u _ _ _;rw[show(w.alloc (.cells Gc 161)).heap.size=w.heap.size+1 from Qx] at C;exact⟨C,Z5Y F rfl,rfl,Qz,Qw⟩
def F9(n many k:Nat):UInt8:=UInt8.ofNat (n / 2^(8*(many-1-k)))
def beN(n many:Nat):Ql:=(List.range many).map (F9 n many)
def Jl(n many i:Nat):Ql:=(List.range many).map λk=>if many-i<=k then F9 n many k else 0
def F5(n many:Nat):(beN n many).length=many:=by simp[beN]
def NB(n many i:Nat):(Jl n many i).length=many:=by simp[Jl]
def VC(n many:Nat):Jl n many 0=List.replicate many 0:=by
 apply Zeu
 .simp[Jl]
 .intro j C F;have:j<many:=by simpa[Jl] using C
  simp[Jl];omega
def VD(n many:Nat):Jl n many many=beN n many:=by unfold Jl beN;exact Zea λk _=>by rw[Zx Qw]
def VE(n many i:Nat)(hi:i<many):(Jl n many i).set (many-1-i) (F9 n many (many-1-i))=Jl n many (i+1):=by
 apply Zeu
 .simp[Jl]
 .intro j F C;have J:j<many:=by simpa[Jl] using C
  rw[ZgH];simp only[Jl,Zf1,List.getElem_range];by_cases e:many-1-i=j
  .rw[Zx e,Zx Qw,e]
  .rw[Zw e];by_cases h:many-i<=j
   .rw[Zx h,Zx Qw]
   .rw[Zw h,Zw Qw]
set_option maxRecDepth 1000000 in
theorem Pe(h gs c n many:Nat)(H:Hs)(w:Qs)(k:Yq w h gs c H)(hn:n<18446744073709551616)(hm:many<=8):Calls prog 276 #[h,.int .u64 (n:Int),(many:Int)] w λe w'=>e=.returned (.string ⟨(beN n many).toArray⟩)/\Below w w w':=by
 have⟨i0,hi,ai,aj,ak⟩:=ZE Be;have U:=EA (P:=prog) 75 5 i0 underlying75 hi ai aj ak many Qw;have c68:=k.c68;have F:=Z9u w 5 (QJ (List.replicate many 0));rw[<-VC n many] at F U;have J:=(Zu w w).alloc (Zt _) (.cells (QJ (Jl n many 0)).toArray 5);have:=ZI k;have:=ZI hn;have⟨w1,Z⟩:=ZK (w.alloc (.cells (QJ (Jl n many 0)).toArray 5));have ae:=U w;rw[Z] at ae F J;have ag:=k.lt_;have⟨gb,O⟩:=ZK w.heap.size;rw[O] at ae F J ag;have:=ZI Z;have HB:=ZM F J;have HG:=ZI O;clear k hn U Z F J O;go_enter func276,ntmps276;go_wp2;go_loopw [14] (λi wr=>∃j:Nat,j<=many/\i=(j:Int)/\Y2 wr gb 5 (QJ (Jl n many j))/\Below gb w wr) (λi _=>many- (intOf i).toNat)
 .exact⟨0,Qw,rfl,HB.1,HB.2⟩
 obtain⟨j,hj,rfl,C,hb⟩:=hrel;by_cases af:j<many
 .have c:=(hb.cell (p:=⟨h,68,none⟩) ag).trans c68;have⟨q,hq⟩:=ZK (many-1-j);have ah:q<many:=Qw;have:=C.row.free (j:=q) (by rw[Wd,NB];exact ah);have:=C.row.cell (j:=q) (Bq _ _ (by rw[NB];exact ah));have M:=ZM C hb;clear C hb;have:(many:Int)-1- (j:Int)=(q:Int):=Qw;have HQ:=ZI hq;clear hq;go_wp2;go_roundw
  .have hv:(n:Int) / 2^(8*j)%256=((F9 n many q).toNat:Int):=by unfold F9;rw[toNat_ofNat,show many-1-q=j from by have:=HQ.o;omega];simp
   refine⟨j+1,Qw,QC,?_,M.2.setCell (p:=⟨gb,q,none⟩) (Zt _) _⟩;rw[hv,<-VE n many j af,HQ.o,<-K3];exact M.1.set q _
  simp[intOf];omega
 .obtain rfl:j=many:=by omega
  rw[VD] at C;have:=BJ (P:=prog) wr 75 9 5 underlying75 underlying5 underlying9 C.row 0 j j (beN n j) (F5 n j) (by rw[Zey,Zi (by rw[Wd,F5];omega)]);have M:=ZM C hb;clear C hb;go_wp2;go_ret;refine⟨rfl,?_⟩;rw[HG.o];exact M.2
def Hs.byte(H:Hs)(b:UInt8):Hs:=if H.many+1=64 then{H with st:=mixed H.st (H.buf.set H.many b),buf:=H.buf.set H.many b,many:=0} else{H with buf:=H.buf.set H.many b,many:=H.many+1}
def Hs.bytes(H:Hs)(l:Ql):Hs:=l.foldl Hs.byte H
def Z9r(H:Hs)(a b:Ql):H.bytes (a++b)=(H.bytes a).bytes b:=by simp[Hs.bytes]
def Yz(buf:Ql)(m:Nat)(l:Ql):Ql:=buf.take m++l++buf.drop (m+l.length)
def Z4I(buf:Ql)(m:Nat):Yz buf m []=buf:=by simp[Yz]
def Z4H(buf:Ql)(m:Nat)(l:Ql)(h:m+l.length<=buf.length):(Yz buf m l).length=buf.length:=by simp[Yz];omega
def RW(buf:Ql)(m:Nat)(l:Ql)(b:UInt8)(h:m+l.length<buf.length):(Yz buf m l).set (m+l.length) b=Yz buf m (l++[b]):=by
 unfold Yz;rw[Zfu _ _ (by simp;omega)];have e:m+l.length- (List.take m buf++l).length=0:=by simp;omega
 rw[e,Ze1 h,ZdL];simp[ZeS]
def Z71{α:Type}{P:List α->Prop}(C:P [])(F:∀l a,P l->P (l++[a]))(l:List α):P l:=by
 have h:∀t:List α,P t.reverse:=by
  intro t
  induction t with
  |nil=>exact C
  |cons a t ih=>rw[List.reverse_cons];exact F _ a ih
 have:=h l.reverse;rwa[List.reverse_reverse] at this
def Z9K(H:Hs):∀ (l:Ql),H.buf.length=64->H.many+l.length<64->H.bytes l={H with buf:=Yz H.buf H.many l,many:=H.many+l.length}:=by
 intro l;refine Z71 (P:=λl=>H.buf.length=64->H.many+l.length<64->H.bytes l={H with buf:=Yz H.buf H.many l,many:=H.many+l.length}) ?_ (λl b ih=> ?_) l
 .intro _ _;simp[Hs.bytes,Z4I]
 .intro hb hl;simp at hl;rw[Z9r,ih hb Qw];show Hs.byte _ b=_;unfold Hs.byte;simp[];rw[Zw Qw,RW _ _ _ _ Qw];simp[ZeS]
def Za0(H:Hs)(l:Ql)(hb:H.buf.length=64)(hl:H.many+l.length=64)(C:l≠[]):H.bytes l={H with st:=mixed H.st (Yz H.buf H.many l),buf:=Yz H.buf H.many l,many:=0}:=by obtain⟨a,b,rfl⟩:∃a b,l=a++[b]:=⟨l.dropLast,l.getLast C,(Zgg C).symm⟩;simp at hl;rw[Z9r,Z9K H a hb Qw];show Hs.byte _ b=_;unfold Hs.byte;simp[];rw[Zx Qw,RW _ _ _ _ Qw]
def Zac(H:Hs)(b:UInt8)(h:H.many<64):(H.byte b).many<64:=by
 unfold Hs.byte;split
 .simp
 .simp[];omega
def Z9A(H:Hs)(l:Ql)(h:H.many<64):(H.bytes l).many<64:=by
 unfold Hs.bytes
 induction l generalizing H with
 |nil=>exact h
 |cons b l ih=>rw[ZdI];exact ih _ (Zac H b h)
def Za3(H:Hs)(b:UInt8):(H.byte b).size=H.size:=by unfold Hs.byte;split<;>rfl
def Z9I(H:Hs)(l:Ql):(H.bytes l).size=H.size:=by
 unfold Hs.bytes
 induction l generalizing H with
 |nil=>rfl
 |cons b l ih=>rw[ZdI,ih,Za3]
def Z6a(w:Qs)(J sT ty elem:Qu)(g o F U n:Nat)(s:Qq)(cur:Array Qt)(t:Qu)(hu:P.underlying J=some (.slice elem))(hs:(P.info? elem).map (·.size)=some 1)(hg:w.heap[g]? =some (.cells cur t (0,0)))(M:n=Nat.min s.size F)(Z:o+n<=cur.size):(Builtin.copy_ #[J,sT] ty #[.slice (some ⟨g,o,none⟩) F U,.string s]).run P w= .ok (goInt n) (w.setRow g (cur.toList.take o++QJ (s.data.toList.take n)++cur.toList.drop (o+n)).toArray):=by
 have ae:s.data.toList.length=s.size:=Qx;have:n<=s.size:=by rw[M];exact ZgW _ _
 have hlen:(QJ (s.data.toList.take n)).length=n:=by rw[Wd,Zg,ae];omega
 have h1:∀v∈QJ (s.data.toList.take n),v.oneCell'=true:=by intro v hv;obtain⟨x,_,rfl⟩:=Zz.1 hv;rfl
 have C:=run_storeCells_at P g o t (QJ (s.data.toList.take n)) 0 cur w hg (by rw[hlen];simpa using Z) h1;have af:List.take n (List.map (λb:UInt8=>Value.int IntKind.u8 (b.toNat:Int)) s.data.toList)=QJ (s.data.toList.take n):=by unfold QJ;rw[ZfH]
 rw[hlen] at C;simp[Zfc] at C;cases O:P.info? elem with
 |none=>simp[O] at hs
 |some i=>simp[Builtin.copy_,run_underlying hu,Builtin.lenOf,Builtin.firstCells,sizeOf,typeInfo,O,<-M];rw[af,C];simp[Result.andThen]
def Ul{ops:Array Oper}{rest:List Oper}{o:Oper}{a:Act}{Q:Exit->Act->Qs->Prop}(ae:o.guard=none)(d s:Operand)(F U:Qu)(ho:o.op=.call {callee:=.builtin .copy,args:= #[d,s],argTypes:= #[F,U]})(elem:Qu)(hu:P.underlying F=some (.slice elem))(af:(P.info? elem).map (·.size)=some 1)(g off C J n:Nat)(t:Qq)(hd:a.eval d=.slice (some ⟨g,off,none⟩) C J)(hs:a.eval s=.string t)(T:Qu)(L:Qk)(M:Y2 w g T L)(hn:n=Nat.min t.size C)(Z:off+n<=L.length)(h:∀w',Y2 w' g T (L.take off++QJ (t.data.toList.take n)++L.drop (off+n))->Fr [g] w w'->wpList P ops Q rest (a.put o.dst (goInt n)) w'):wpList P ops Q (o::rest) a w:=by refine Zgl ae λK hK=> ?_;have O:=Z6a (P:=P) w F U o.type elem g off C J n t L.toArray T hu af M hn (by simpa using Z);simp only[Zfh] at O;have hr:=M.setRow (L.take off++QJ (t.data.toList.take n)++L.drop (off+n));have hF:=(Fr.refl [g] w).setRow (g:=g) (Zv Qx) (L.take off++QJ (t.data.toList.take n)++L.drop (off+n)).toArray;have h9:=h _ hr hF;unfold Oper.wp execOp;simp only[ho,resolve,invoke,builtin,ZfB,ZfO,ZeU,ZfZ,Zn,Zf9,hd,hs,O];exact hK _ _ h9
def Z2w{H:Hs}(h:H.buf.length=64)(l:Ql)(hl:H.many+l.length<=64):(Yw gs c H).take (1+H.many)++QJ l++(Yw gs c H).drop (1+H.many+l.length)=Yw gs c {H with buf:=Yz H.buf H.many l}:=by
 unfold Yw;simp only[];have hb:(QJ H.buf).length=64:=by rw[Wd,h]
 generalize [Value.int .i64 (H.many:Int),.int .u64 (H.size:Int),.func (.func 275) #[] #[],.bool true]=tl;have e1:([Value.slice gs 8 c]++QJ H.buf++tl).take (1+H.many)=[Value.slice gs 8 c]++QJ (H.buf.take H.many):=by rw[Zd,Zg3,Zg3];simp[GB,h,show H.many-64=0 by omega,show 1+H.many-1=H.many by omega,Wd];rw[Zi Qx];rfl
 have e2:([Value.slice gs 8 c]++QJ H.buf++tl).drop (1+H.many+l.length)=QJ (H.buf.drop (H.many+l.length))++tl:=by
  rw[Zd,List.drop_append,List.drop_append];simp[GA,h,Wd,show H.many+l.length-64=0 by omega,show 1+H.many+l.length-1=H.many+l.length by omega]
  try omega
 rw[e1,e2,Yz,F4,F4];simp[Zd]
def Z6l{H:Hs}(k:Yq w h gs c H):(Instr.loadAt 346 (.pointer (some ⟨h,1,none⟩))).run prog w=.ok (.agg (QJ H.buf).toArray) w:=by
 have hl:(loadCells ⟨h,1,none⟩ (QJ H.buf).length).run prog w=.ok (QJ H.buf).toArray w:=
  run_loadCells_list (P:=prog) w ⟨h,1,none⟩ (QJ H.buf) (λj v hv=>by
   have C:j<64:=by have:=(ZeP.1 hv).1;rw[Wd,k.len] at this;exact this
   have J:(⟨h,1,none⟩:Addr).add j=⟨h,j+1,none⟩:=by unfold Addr.add;split<;>simp_all [ZfD]
   rw[J,k.top.row.cell (Z2u k.len j C)];rw[Bq _ _ (by rw[k.len];exact C)] at hv;rw[Z7,Z8 (by rw[k.len];exact C)]
   exact hv)
 rw[Wd,k.len] at hl;have M:(isAgg 346).run prog w=.ok true w:=Qy;have F:(sizeOf 346).run prog w=.ok 64 w:=Qy;simp only[Instr.loadAt,Instr.sureAddr,ZfB,ZfO,ZeU,loadVar,M,F];simp only[ZgV,ZfB,F,ZeU,hl];rfl
variable{ops:Array Oper}
def Z8I{Q:Act->Prop}{a:Act}{o:Oper}{rest:List Oper}(F:o.guard=none)(ty:Qu)(x:Operand)(J:o.op=.load ty x)(p v:Qt)(hx:a.eval x=p)(C:(Instr.loadAt ty p).run P w=.ok v w)(h:wpStill P ops w Q rest (a.put o.dst v)):wpStill P ops w Q (o::rest) a:=by
 unfold wpStill;have hw:Region.wanted o (yielded ops a.tmps)=true:=by simp[Region.wanted,F]
 rw[Zx hw];unfold Oper.still execOp;simp[J,hx,ZfB,C,ZeU,ZfO,Oper.stillUpon_value];exact h
def My:Qt->Nat
 |.string s=>s.size
 |_=>0
def Ni:Prop:=∀ (g c:Nat) (st:List Qp) (blk:Ql) (w:Qs),WC w g st->blk.length=64->
    Calls prog 275 #[.slice g 8 c,.agg (QJ blk).toArray] w λe w'=>e=.returned (.tuple #[])/\WC w' g (mixed st blk)/\Fr [g] w w'
def Yq.ZcH{H:Hs}(k:Yq w h gs c H)(l:Ql)(hl:H.many+l.length<=64)(C:Y2 w' h 348 ((Yw gs c H).take (1+H.many)++QJ l++(Yw gs c H).drop (1+H.many+l.length)))(F:Fr [h] w w'):Yq w' h gs c {H with buf:=Yz H.buf H.many l}:=by rw[Z2w k.len l hl] at C;exact⟨C,k.st.fr F (by simpa using k.ne),by rw[<-k.len];exact Z4H _ _ _ (by rw[k.len];exact hl),k.lt,k.ne⟩
def Yq.Zc8{H:Hs}(k:Yq w h gs c H):Yq w.drew h gs c H:=⟨k.top,⟨k.st.len,k.st.lt,k.st.cell,k.st.free⟩,k.len,k.lt,k.ne⟩
def Yq.Zd0{H:Hs}(k:Yq w h gs c H)(hs:WC w' gs (mixed H.st H.buf))(C:Fr [gs] w w'):Yq w' h gs c {H with st:=mixed H.st H.buf}:=⟨(show Y2 w' h _ (Yw gs c H) from k.top.fr C (by simpa using λe=>k.ne e.symm)),hs,k.len,k.lt,k.ne⟩
set_option maxRecDepth 1000000 in
theorem KZ(ay:Ni)(h gs c:Nat)(H:Hs)(s:Qq)(w:Qs)(k:Yq w h gs c H)(bh:H.many<64)(hs:s.size<=1000000000)(hz:H.size<=1000000000000):Calls prog 261 #[h,.string s] w λe w'=>e=.returned (.tuple #[])/\Yq w' h gs c ({H with size:=H.size+s.size}.bytes s.data.toList)/\Fr [h,gs] w w':=by
 have c66:=k.c66;have f66:=k.free 66 Qw;have k1:=k.ZcO (H.size+s.size);rw[show((H.size+s.size:Nat):Int)=(H.size:Int)+(s.size:Int) from Qw] at k1;have bg:Fr [h,gs] w (w.setCell ⟨h,66,none⟩ (.int .u64 ((H.size:Int)+(s.size:Int)))):=(Fr.refl _ _).setCell (Zv Qx) _;have⟨H1,ak⟩:=ZK {H with size:=H.size+s.size};rw[ak] at k1⊢;have au:H1.many<64:=by rw[<-ak];exact bh
 have K:=ZM k1 bg;clear k k1 bg ak bh;go_enter func261,ntmps261;go_wp2;go_loopw [1] (λp wr=>∃ (r:Qq) (pre:Ql),p=.string r/\s.data.toList=pre++r.data.toList/\Yq wr h gs c (H1.bytes pre)/\Fr [h,gs] w wr) (λp _=>My p)
 .exact⟨s,[],rfl,rfl,K.1,K.2⟩
 obtain⟨r,pre,rfl,af,k,hf⟩:=hrel;have cy:r.size<=s.size:=by have:=CV af;rw[Zb,BM] at this;omega
 by_cases cw:0<r.size
 .have⟨G,hG⟩:=ZK (H1.bytes pre);rw[hG] at k;have⟨m,hm⟩:=ZK G.many;have c65:=k.c65;have f65:=k.free 65 Qw;rw[hm] at c65;have aw:m<64:=by rw[<-hm,<-hG];exact Z9A _ _ au
  have cz:=SV h 1 m aw;have⟨n,hn⟩:=ZK (Nat.min r.size (64-m));have cr:1<=n:=by rw[<-hn];show 1<=min r.size (64-m);omega
  have ct:n<=r.size:=by rw[<-hn];exact ZgW _ _
  have cu:m+n<=64:=by
   have h9:n<=64-m:=by rw[<-hn];exact Nat.min_le_right _ _
   omega
  have bm:(r.data.toList.take n).length=n:=by rw[Zg,BM];omega
  have C:=ZX hG hm hn;have F:=ZM k hf;have HP:=ZI af;have O:=ZI bm;clear k hf hG hm hn af bm;have ah:∀q,q<=n->True:=λ_ _=>trivial;have ag:s.data.toList=(pre++r.data.toList.take n)++(r.extract n r.size).data.toList:=by rw[HP.o,Lib.extract_to_end,Zd,ZdH]
  have bf:=ZI ag;clear ah ag;by_cases ae:m+n=64
  .have cj:(m:Int)+(n:Int)=64:=(by omega);have HF:=ZI ae;clear ae;go_wp2;go_still_tail 9,Qy
   repeat still_step
   change wpList _ _ _ _ _ wr.drew;go_wp2_with (refine Ul rfl (.tmp 25) (.tmp 26) 75 9 rfl 5 underlying75 AM h (1+m) (64-m) (64-m) n r rfl rfl 348 (Yw gs c G) F.1.top C.3.symm (by rw[He F.1.len];omega) ?_;intro w2 Z U;rw[<-C.2] at Z;have J:=F.1.Zc8.ZcH (r.data.toList.take n) (by rw[O.o,C.2];omega) (by rw[O.o];exact Z) U;have d65:=J.c65;have bu:=J.free 65 Qw;rw[C.2] at d65;have S2:=ZM J U;clear J Z U);have M:=S2.1.setMany 64 Qw;have aj:Fr [h] wr (w2.setCell ⟨h,65,none⟩ (.int .i64 64)):=(((Fr.refl [h] wr).drew).trans S2.2 (λi hi _=>hi)).setCell (Zv Qx) _;generalize (w2.setCell ⟨h,65,none⟩ (.int .i64 64))=w3 at*
   have c0:=M.c0;have c67:=M.c67;have cn:=Z6l M.Zc8;have bq:=M.Zc8;have S3:=ZM bq aj;clear M bq aj;go_still_tail 12,Qy
   repeat still_step
   refine Z8I rfl _ _ rfl _ _ rfl cn ?_;change wpList _ _ _ _ _ w3.drew;go_wp2_with (go_at_call 275;go_fit (ay gs c G.st (Yz G.buf G.many (r.data.toList.take n)) _ S3.1.st S3.1.len);rintro e w5 ⟨rfl,ai,aq⟩;have k5:=S3.1.Zd0 ai aq;have f5:=k5.free 65 Qw;have e5:=k5.c65;have S5:=ZM k5 aq;clear k5 ai aq);go_roundw
   .have k6:=S5.1.setMany 0 Qw;have bz:Fr [h,gs] wr (w5.setCell ⟨h,65,none⟩ (.int .i64 ((0:Nat):Int))):=((((S3.2.mono (L':=[h,gs]) (λi hi _=>by simp at hi⊢;exact Zv hi)).drew).trans S5.2 (λi hi _=>by simp at hi⊢;exact Zy hi)).setCell (Zv Qx) _);refine⟨_,pre++r.data.toList.take n,rfl,bf.o,?_,F.2.trans bz (λi hi _=>hi)⟩;rw[Z9r,C.1,Za0 G _ F.1.len (by rw[O.o,C.2];exact HF.o) (λe=>by have:=O.o;rw[e] at this;simp at this;omega)];exact k6
   simp[My,ZdU];omega
  .have cj:((m:Int)+(n:Int)==64)=false:=by simp;omega
   have HF:=ZI ae;clear ae;go_wp2;go_still_tail 9,Qy
   repeat still_step
   change wpList _ _ _ _ _ wr.drew;go_wp2_with (refine Ul rfl (.tmp 25) (.tmp 26) 75 9 rfl 5 underlying75 AM h (1+m) (64-m) (64-m) n r rfl rfl 348 (Yw gs c G) F.1.top C.3.symm (by rw[He F.1.len];omega) ?_;intro w2 Z U;rw[<-C.2] at Z;have J:=F.1.Zc8.ZcH (r.data.toList.take n) (by rw[O.o,C.2];omega) (by rw[O.o];exact Z) U;have d65:=J.c65;have bu:=J.free 65 Qw;rw[C.2] at d65;have S2:=ZM J U;clear J Z U);go_roundw
   .have M:=S2.1.setMany (m+n) Qw;rw[show((m+n:Nat):Int)=(m:Int)+(n:Int) from Qw] at M;have aj:Fr [h,gs] wr (w2.setCell ⟨h,65,none⟩ (.int .i64 ((m:Int)+(n:Int)))):=((((Fr.refl [h] wr).drew).trans S2.2 (λi hi _=>hi)).setCell (Zv Qx) _).mono (λi hi _=>by simp at hi⊢;exact Zv hi);refine⟨_,pre++r.data.toList.take n,rfl,bf.o,?_,F.2.trans aj (λi hi _=>hi)⟩;rw[Z9r,C.1,Z9K G _ F.1.len (by rw[O.o,C.2];have:=HF.o;omega),O.o,C.2];rw[C.2] at M;exact M
   simp[My,ZdU];omega
 .have az:r.size=0:=by omega
  have bj:r.data.toList=[]:=Zfq (by rw[BM];exact az);rw[bj,ZdJ] at af;have F:=ZM k hf;have HP:=ZI af;clear k hf af bj;go_wp2;go_end0;exact⟨rfl,by rw[HP.o];exact F.1,F.2⟩
set_option maxRecDepth 1000000 in
theorem Z46(g c:Nat)(st:List Qp)(C:Ql)(w:Qs)(hs:WC w g st)(hb:C.length=64):Calls prog 275 #[.slice g 8 c,.agg (QJ C).toArray] w λe w'=>e=.returned (.tuple #[])/\WC w' g (mixed st C)/\Fr [g] w w':=by
 have HS:=ZI hs;have HB:=ZI hb;clear hs hb;go_enter func275,ntmps275;go_upto_region 1 with fail;refine Z47 _ _ _ _ _ _ _ _ _ _ _ _ _ _ _ _ _ _ _ _ _ _ _ _ _ _ _ _ _ _ _ _ _ _ _ _ _ _ _ _ _ _ _ _ _ _ _ _ _ _ _ _ _ _ _ _ _ _ _ _ _ _ _ _ _ _ _ _ _ _ _ _ _ _ _ _ _ _ _ _ _ _ _ _ _ _ _ _ _ _ _ _ _ _ _ _ _ _ _ _ _ _ _ _ _ _ _ _ _ _ _ _ _ _ _ _ _ _ _ _ _ _ _ _ _ _ _ _ _ _ _ _ _ _ _ _ _ _ _ _ _ _ _ _ _ _ _ _ _ _ _ _ _ _ _ _ _ _ _ _ _ _ _ _ _ _ _ _ _ _ _ _ _ _ _ _ _ _ _ _ _ _ _ _ _ _ _ _ _ _ _ _ _ _ _ _ _ _ _ _ _ _ _ _ _ _ _ _ _ _ _ _ _ _ _ _ _ _ _ _ _ _ _ _ _ _ ?_;go_upto_region 3 with fail;refine Z48 _ _ _ _ _ _ _ _ _ _ _ _ _ _ _ _ _ _ _ _ _ _ _ _ _ _ _ _ _ _ _ _ _ _ _ _ _ _ _ _ _ _ _ _ _ _ _ _ _ _ _ _ _ _ _ _ _ _ _ _ _ _ _ _ _ _ _ _ _ _ _ _ _ _ _ _ _ _ _ _ _ _ _ _ _ _ _ _ _ _ _ _ _ _ _ _ _ _ _ _ _ _ _ _ _ _ _ _ _ _ _ _ _ _ _ _ _ _ _ _ _ _ _ _ _ _ _ _ _ _ _ _ _ _ _ _ _ _ _ _ _ _ _ _ _ _ _ _ _ _ _ _ _ _ _ _ _ _ _ _ _ _ _ _ _ _ _ _ _ _ _ _ _ _ _ _ _ _ _ _ _ _ _ _ _ _ _ _ _ _ _ _ _ _ _ _ _ _ _ _ _ _ _ _ _ _ _ _ _ _ _ _ _ _ _ _ _ _ _ _ _ _ _ _ _ _ ?_;go_wp2;have rb:Row (((w.alloc (.cells (QJ C).toArray 346)).alloc (.cells JF 352)).alloc (.cells Bh 352)) w 346 (QJ C):=((Z2 w _ _).alloc _).alloc _;have rk:Row (((w.alloc (.cells (QJ C).toArray 346)).alloc (.cells JF 352)).alloc (.cells Bh 352)) (w.alloc (.cells (QJ C).toArray 346)).heap.size 352 (W6 Bw):=by have h:=(Z2 (w.alloc (.cells (QJ C).toArray 346)) 352 (W6 Bw)).alloc (.cells Bh 352);rw[<-Z3h] at h⊢;exact h
 have bj:Row (((w.alloc (.cells (QJ C).toArray 346)).alloc (.cells JF 352)).alloc (.cells Bh 352)) ((w.alloc (.cells (QJ C).toArray 346)).alloc (.cells JF 352)).heap.size 352 (W6 (wl C 0)):=by
  have h:=Z2 ((w.alloc (.cells (QJ C).toArray 346)).alloc (.cells JF 352)) 352 (W6 (List.replicate 64 0#32));rw[wl,<-Z92] at*
  exact h
 have cw:Below w w (((w.alloc (.cells (QJ C).toArray 346)).alloc (.cells JF 352)).alloc (.cells Bh 352)):=(((Zu _ w).alloc (Zt _) _).alloc Qx _).alloc (by simp;omega) _;have ah:(w.alloc (.cells (QJ C).toArray 346)).heap.size=w.heap.size+1:=Qx;have ai:((w.alloc (.cells (QJ C).toArray 346)).alloc (.cells JF 352)).heap.size=w.heap.size+2:=Qx;have⟨gk,cz⟩:=ZK (w.alloc (.cells (QJ C).toArray 346)).heap.size;have⟨J,de⟩:=ZK ((w.alloc (.cells (QJ C).toArray 346)).alloc (.cells JF 352)).heap.size;have⟨w3,dp⟩:=ZK (((w.alloc (.cells (QJ C).toArray 346)).alloc (.cells JF 352)).alloc (.cells Bh 352));rw[cz] at rk ah;rw[de] at bj ai;rw[dp] at rb rk bj cw;rw[dp,cz,de];have⟨gb,bh⟩:=ZK w.heap.size;rw[bh] at rb ah ai;have F3:=ZO cw ah ai bh;have R0:=ZX rb rk bj;clear dp cz de rb rk bj cw ah ai;rw[bh];clear bh;go_loopw [27] (λi wr=>∃k:Nat,k<=64/\i=(k:Int)/\Row wr gb 346 (QJ C)/\Row wr J 352 (W6 (wl C k))/\Fr [J] w3 wr) (λi _=>64- (intOf i).toNat)
 .exact⟨0,Qw,rfl,R0.1,R0.3,Fr.refl _ _⟩
 obtain⟨k,hk,rfl,rb,rr,F⟩:=hrel;by_cases ag:k<64
 .by_cases dx:k<16
  .have O:=ZX rb rr F;have df:=HB.o;have ak:∀j,j<4->∃u:UInt8,C.getD (4*k+j) 0=u/\wr.cell? ⟨gb,4*k+j,none⟩=some (.int .u8 (u.toNat:Int)):=λj hj=>by have h2:4*k+j<C.length:=Qw;refine⟨_,rfl,?_⟩;rw[Z7,Z8 h2];exact rb.cell (Bq C (4*k+j) h2)
   have⟨u0,fa,c0⟩:=ak 0 Qw;have⟨u1,fc,c1⟩:=ak 1 Qw;have⟨u2,fe,c2⟩:=ak 2 Qw;have⟨u3,fg,c3⟩:=ak 3 Qw;have HU:=ZY fa fc fe fg;have⟨e1,e2,e3,e4,e5,e6,e7,e8,e9,gy⟩:=Z4G u0.toNat u1.toNat u2.toNat u3.toNat u0.toNat_lt u1.toNat_lt u2.toNat_lt u3.toNat_lt;have⟨q,hq⟩:=ZK (4*k);rw[hq] at c0 c1 c2 c3;rw[Zfc] at c0;have:(4:Int)*(k:Int)=(q:Int):=Qw;have ez:=SV gb 0 q Qw;rw[Ze5] at ez;have:=ZI hq;have eu:(0:Int)<((64-q:Nat):Int)/\(1:Int)<((64-q:Nat):Int)/\(2:Int)<((64-q:Nat):Int)/\(3:Int)<((64-q:Nat):Int):=Qw;have⟨m,hm⟩:=ZK (64-q);rw[hm] at ez eu;have⟨b0,b1,b2,b3⟩:=eu;have:0<m:=Qw;have ki:(k:Int)<64:=Qw;have bg:=rr.free (j:=k) (by rw[CX,EM];omega);have cy:=rr.cell (Co (wl C k) k (by rw[EM];omega));clear fa fc fe fg ak rb rr F df hq hm;go_wp2;go_still_tail 24,Qy
   repeat still_step
   change wpList _ _ _ _ _ wr.drew;go_wp2;go_roundw
   .have hF:Fr [J] wr (wr.drew.setCell ⟨J,k,none⟩ (.int .u32 ((u0.toNat:Int)*16777216+(u1.toNat:Int)*65536+(u2.toNat:Int)*256+(u3.toNat:Int)))):=((Fr.refl _ wr).drew).setCell (Zv Qx) _;have M:((u0.toNat:Int)*16777216+(u1.toNat:Int)*65536+(u2.toNat:Int)*256+(u3.toNat:Int))=uv (EJ C (wl C k) k):=by unfold EJ be4;rw[Zx dx,IG (Z5r _)];unfold Wz;have g:∀j,(C.drop (4*k)).getD j 0=C.getD (4*k+j) 0:=λj=>(by simp[Z7]);rw[g 0,g 1,g 2,g 3,HU.1,HU.2,HU.3,HU.4];omega
    refine⟨k+1,Qw,QC,O.1.fr hF (by have:=F3.o;simp;omega),?_,O.3.trans hF (λi hi _=>hi)⟩;have h:=(O.2.drew).set k (.int .u32 ((u0.toNat:Int)*16777216+(u1.toNat:Int)*65536+(u2.toNat:Int)*256+(u3.toNat:Int)));rw[M,U4] at h;rw[M];exact h
   simp[intOf];omega
  .obtain⟨i16,fj⟩:∃i,k=i+16:=⟨k-16,Qw⟩;obtain⟨ay,fi⟩:∃i,k=i+15:=⟨k-15,Qw⟩;obtain⟨i7,k7⟩:∃i,k=i+7:=⟨k-7,Qw⟩;obtain⟨i2,k2⟩:∃i,k=i+2:=⟨k-2,Qw⟩;have:IntKind.i64.wrap ((k:Int)-16)=(i16:Int):=by rw[show(k:Int)-16=(i16:Int) from Qw];exact Zr _ Qw
   have:IntKind.i64.wrap ((k:Int)-15)=(ay:Int):=by rw[show(k:Int)-15=(ay:Int) from Qw];exact Zr _ Qw
   have:IntKind.i64.wrap ((k:Int)-7)=(i7:Int):=by rw[show(k:Int)-7=(i7:Int) from Qw];exact Zr _ Qw
   have:IntKind.i64.wrap ((k:Int)-2)=(i2:Int):=by rw[show(k:Int)-2=(i2:Int) from Qw];exact Zr _ Qw
   have cx:∀i,i<64->∃x,(wl C k).getD i 0#32=x/\wr.cell? ⟨J,i,none⟩=some (.int .u32 (uv x)):=λi hi=>⟨_,rfl,rr.cell (Co (wl C k) i (by rw[EM];exact hi))⟩;have⟨dq,du,dw⟩:=cx i16 Qw;have⟨Z,dt,fy⟩:=cx ay Qw;have⟨x7,X7,c7⟩:=cx i7 Qw;have⟨U,X2,c2⟩:=cx i2 Qw;have:i16<64:=Qw;have:(i16:Int)<64:=Qw;have:(i7:Int)<64:=Qw;have:ay<64:=Qw;have:i7<64:=Qw;have:i2<64:=Qw;have eX:=DS;have:uv Z / (8:Int)=uv (Z>>>3):=Gj Z 3;have:uv U / (1024:Int)=uv (U>>>10):=Gj U 10;have dy:(uv dq+uv (WG Z 7^^^WG Z 18^^^Z>>>3)+uv x7+uv (WG U 17^^^WG U 19^^^U>>>10))%4294967296=uv (EJ C (wl C k) k):=by unfold EJ;rw[Zw dx,show k-16=i16 from Qw,show k-15=ay from Qw,show k-7=i7 from Qw,show k-2=i2 from Qw,du,dt,X7,X2,<-EI,<-EI,<-EI];omega
   have fp:=ZI dy;have t7:∀W,Calls prog 280 #[.int .u32 (uv Z),(7:Int)] W λe w'=>e=.returned (.int .u32 (uv (WG Z 7)))/\w'=W:=λW=>Gd (Zb6 Z 7 W Qz);have t18:∀W,Calls prog 280 #[.int .u32 (uv Z),(18:Int)] W λe w'=>e=.returned (.int .u32 (uv (WG Z 18)))/\w'=W:=λW=>Gd (Zb6 Z 18 W Qz);have t17:∀W,Calls prog 280 #[.int .u32 (uv U),(17:Int)] W λe w'=>e=.returned (.int .u32 (uv (WG U 17)))/\w'=W:=λW=>Gd (Zb6 U 17 W Qz);have t19:∀W,Calls prog 280 #[.int .u32 (uv U),(19:Int)] W λe w'=>e=.returned (.int .u32 (uv (WG U 19)))/\w'=W:=λW=>Gd (Zb6 U 19 W Qz);have T7:=ZI t7;have fw:=ZI t18;have fu:=ZI t17;have fx:=ZI t19;have O:=ZX rb rr F;have bg:=rr.free (j:=k) (by rw[CX,EM];omega);have cy:=rr.cell (Co (wl C k) k (by rw[EM];omega));have ki:(k:Int)<64:=Qw;have:=ZO fj fi k7 k2;clear du dt X7 X2 dy t7 t18 t17 t19 rb rr F cx fj fi k7 k2;go_wp2;go_quiet ((go_at_call 280;(first|(with_reducible refine Calls.quiet_of_same (T7.o _))|(with_reducible refine Calls.quiet_of_same (fw.o _)))));go_wp2;generalize M:World.drewN wr _=wd;have q2:wd.cell? ⟨J,i2,none⟩=some (.int .u32 (uv U)):=by rw[<-M];exact c2
   have fo:wd.cell? ⟨J,i16,none⟩=some (.int .u32 (uv dq)):=by rw[<-M];exact dw
   have q7:wd.cell? ⟨J,i7,none⟩=some (.int .u32 (uv x7)):=by rw[<-M];exact c7
   have qz:wd.cell? ⟨J,k,none⟩=some (.int .u32 (uv ((wl C k).getD k 0#32))):=by rw[<-M];exact cy
   have qf:wd.frozen? ⟨J,k,none⟩=false:=by rw[<-M];exact bg
   have HW:=ZI M;clear M c2 dw c7 fy cy bg;go_quiet ((go_at_call 280;(first|(with_reducible refine Calls.quiet_of_same (fu.o _))|(with_reducible refine Calls.quiet_of_same (fx.o _)))));go_wp2;generalize M:World.drewN wd _=we;have:we.cell? ⟨J,i16,none⟩=some (.int .u32 (uv dq)):=by rw[<-M];exact fo
   have:we.cell? ⟨J,i7,none⟩=some (.int .u32 (uv x7)):=by rw[<-M];exact q7
   have:we.cell? ⟨J,k,none⟩=some (.int .u32 (uv ((wl C k).getD k 0#32))):=by rw[<-M];exact qz
   have:we.frozen? ⟨J,k,none⟩=false:=by rw[<-M];exact qf
   have ft:=ZI M;clear M q2 fo q7 qz qf;go_still_tail 15,Qy
   repeat still_step
   change wpList _ _ _ _ _ we.drew;go_wp2;go_roundw
   .obtain⟨n1,eo⟩:∃n,wd=wr.drewN n:=⟨_,HW.o.symm⟩;obtain⟨fm,er⟩:∃n,we=wd.drewN n:=⟨_,ft.o.symm⟩;rw[fp.o];have hF:∀v,Fr [J] wr (we.drew.setCell ⟨J,k,none⟩ v):=λv=>by rw[er,eo];exact(Fr.setCell (Fr.drew ((Z1 (L:=[]) (YE (YE (Zu _ wr) n1) fm)).mono (L':=[J]) Qx)) (Zv Qx) _)
    refine⟨k+1,Qw,QC,O.1.fr (hF _) (by have:=F3.o;simp;omega),?_,O.3.trans (hF _) (λi hi _=>hi)⟩;have h:=((O.2.drewN (n1)).drewN fm).drew.set k (.int .u32 (uv (EJ C (wl C k) k)));rw[U4] at h;rw[wl,er,eo];exact h
   simp[intOf];omega
 .obtain rfl:k=64:=by omega
  have rk:=R0.2.fr F (by have:=F3.o;simp;omega);have O:=ZX rk rr F;clear rb rr rk;have⟨gv,ef⟩:=ZK wr.heap.size;have rv:Y2 (wr.alloc (.cells #[.int .u32 0,.int .u32 0,.int .u32 0,.int .u32 0,.int .u32 0,.int .u32 0,.int .u32 0,.int .u32 0] 354)) gv 354 [.int .u32 0,.int .u32 0,.int .u32 0,.int .u32 0,.int .u32 0,.int .u32 0,.int .u32 0,.int .u32 0]:=by rw[<-ef];exact Z9u wr _ _
  have dm:WC wr g st:=(HS.o.after F3.1).fr F (by have:=F3.2.2.1;have:=HS.o.lt;have:=F3.2.2.2;simp;omega);have au:WC (wr.alloc (.cells #[.int .u32 0,.int .u32 0,.int .u32 0,.int .u32 0,.int .u32 0,.int .u32 0,.int .u32 0,.int .u32 0] 354)) g st:=dm.after ((Zu _ _).alloc (Zt _) _);have RV:=ZI rv;have aj:=ZI au;have:=Z68 gv;have bf:=ZI ef;have bm:=ZI dm;clear rv dm au F;go_wp2_with (refine Z8E rfl (.tmp 113) (.tmp 114) 344 344 rfl 161 underlying344 Z7U gv 0 8 8 g 0 8 c rfl rfl 354 _ (W6 st) RV.o (by rw[CX,aj.o.len];rfl) (by rw[CX,aj.o.len];decide) aj.o.news (U2 st) ?_;intro w5 ew dz;have ey:Y2 w5 gv 354 (W6 st):=(by simpa[CX,aj.o.len] using ew);clear ew);have cv:∀j,j<8->w5.cell? ⟨gv,j,none⟩=some (.int .u32 (uv (st.getD j 0#32))):=λj hj=>ey.row.cell (Co st j (by rw[aj.o.len];exact hj));have v0:=cv 0 Qw;have v1:=cv 1 Qw;have v2:=cv 2 Qw;have v3:=cv 3 Qw;have v4:=cv 4 Qw;have v5:=cv 5 Qw;have v6:=cv 6 Qw;have v7:=cv 7 Qw;have az:=ZI dz;clear cv ey dz;go_wp2;go_quiet (fail);go_wp2;have ek:Row (w5.drewN nq) gk 352 (W6 Bw):=((O.1.alloc _).fr az.o (by have:=O.1.lt;have:=bf.o;simp;omega)).drewN nq;have fh:Row (w5.drewN nq) J 352 (W6 (wl C 64)):=((O.2.alloc _).fr az.o (by have:=O.2.lt;have:=bf.o;simp;omega)).drewN nq;have af:WC (w5.drewN nq) g st:=(aj.o.fr az.o (by have:=bm.o.lt;have:=bf.o;simp;omega)).after (YE (Zu _ _) nq);have ee:Fr [] w (w5.drewN nq):=by have h1:Fr [] w wr:=(Z1 F3.1).trans O.3 (λi hi hl=>by have:=F3.o;simp at hi;omega);have h2:Fr [] w w5:=(h1.alloc _).trans az.o (λi hi hl=>by have:=h1.size;have:=bf.o;simp at hi;omega);exact h2.trans (Z1 (L:=[]) (YE (Zu _ _) nq)) Qx
  generalize aw:World.drewN w5 nq=w6 at*
  have R6:=ZY ek fh af ee;have:=ZI aw;clear ek fh af ee aw v0 v1 v2 v3 v4 v5 v6 v7;go_loopw [12,13,14,15,16,17,18,19,132] (λsa sb sc sd se sf sg sh i wr=>∃ (k:Nat) (r:R8),k<=64/\r=G0 C st k/\i=(k:Int)/\sa=.int .u32 (uv r.a)/\sb=.int .u32 (uv r.b)/\sc=.int .u32 (uv r.c)/\sd=.int .u32 (uv r.d)/\se=.int .u32 (uv r.e)/\sf=.int .u32 (uv r.f)/\sg=.int .u32 (uv r.g)/\sh=.int .u32 (uv r.h)/\Fr [] w6 wr) (λ_ _ _ _ _ _ _ _ i _=>64- (intOf i).toNat)
  .exact⟨0,R8.of st,Qw,rfl,rfl,by simp[R8.of],by simp[R8.of],by simp[R8.of],by simp[R8.of],by simp[R8.of],by simp[R8.of],by simp[R8.of],by simp[R8.of],Fr.refl _ _⟩
  obtain⟨k,⟨a,b,c',d,e,f,g',h⟩,hk,hr,rfl,rfl,rfl,rfl,rfl,rfl,rfl,rfl,rfl,F⟩:=hrel;by_cases ag:k<64
  .have kK:=(R6.1.fr F Qx).cell (Co Bw k (by rw[Z3j];exact ag));have kW:=(R6.2.fr F Qx).cell (Co (wl C 64) k (by rw[EM];exact ag));have ae:G0 C st (k+1)=R8.next ⟨a,b,c',d,e,f,g',h⟩ (Bw.getD k 0#32) ((wl C 64).getD k 0#32):=by rw[G0,<-hr]
   have⟨K,ct⟩:=ZK (Bw.getD k 0#32);have⟨W,cu⟩:=ZK ((wl C 64).getD k 0#32);rw[ct,cu] at ae;rw[ct] at kK;rw[cu] at kW;have eX:=DS;have:=Ud;have:=Z88;have:=EI;have eN:∀x,bits .xor .u32 IntKind.u32.max (uv x)=uv (~~~x):=λx=>by rw[show IntKind.u32.max=uv 0xFFFFFFFF#32 from by rw[YX];rfl,DS];congr 1
   have:∀x,bits .xor .u32 (if IntKind.u32.signed=true then -1 else IntKind.u32.max) (uv x)=uv (~~~x):=eN;have:=DR;have:=DQ;have bq:Qi (∀W,Calls prog 280 #[.int .u32 (uv e),(6:Int)] W λE w'=>E=.returned (.int .u32 (uv (WG e 6)))/\W=w'):=ZI (λW=>Zb6 e 6 W Qz);have bu:Qi (∀W,Calls prog 280 #[.int .u32 (uv e),(11:Int)] W λE w'=>E=.returned (.int .u32 (uv (WG e 11)))/\W=w'):=ZI (λW=>Zb6 e 11 W Qz);have bz:Qi (∀W,Calls prog 280 #[.int .u32 (uv e),(25:Int)] W λE w'=>E=.returned (.int .u32 (uv (WG e 25)))/\W=w'):=ZI (λW=>Zb6 e 25 W Qz);have cj:Qi (∀W,Calls prog 280 #[.int .u32 (uv a),(2:Int)] W λE w'=>E=.returned (.int .u32 (uv (WG a 2)))/\W=w'):=ZI (λW=>Zb6 a 2 W Qz);have cn:Qi (∀W,Calls prog 280 #[.int .u32 (uv a),(13:Int)] W λE w'=>E=.returned (.int .u32 (uv (WG a 13)))/\W=w'):=ZI (λW=>Zb6 a 13 W Qz);have cr:Qi (∀W,Calls prog 280 #[.int .u32 (uv a),(22:Int)] W λE w'=>E=.returned (.int .u32 (uv (WG a 22)))/\W=w'):=ZI (λW=>Zb6 a 22 W Qz);have HN:=ZI ae;have ki:(k:Int)<64:=Qw;have S9:=ZI F;clear ae ct cu hr F;go_wp2_with (go_at_call 280;(first|(with_reducible refine(bq.o _).mono ?_)|(with_reducible refine(bu.o _).mono ?_)|(with_reducible refine(bz.o _).mono ?_));rintro E w' ⟨rfl,rfl⟩);go_quiet (fail);go_wp2_with (go_at_call 280;(first|(with_reducible refine(cj.o _).mono ?_)|(with_reducible refine(cn.o _).mono ?_)|(with_reducible refine(cr.o _).mono ?_));rintro E w' ⟨rfl,rfl⟩);go_roundw
   .exact⟨k+1,R8.next ⟨a,b,c',d,e,f,g',h⟩ K W,Qw,HN.o.symm,QC,rfl,rfl,rfl,rfl,rfl,rfl,rfl,rfl,S9.o.trans (Z1 (L:=[]) (YE (Zu _ _) _)) Qx⟩
   simp[intOf];omega
  .obtain rfl:k=64:=(by omega);have af:WC wr g (Bz st (R8.list ⟨a,b,c',d,e,f,g',h⟩) 0):=by have h0:=R6.3.fr F Qx;rw[Z43 _ _ h0.len];exact h0
   have S9:=ZM af F;have HR:=ZI hr;clear hr F af;go_wp2;have eh:=Z6c ⟨a,b,c',d,e,f,g',h⟩;have fq:=ZI eh;clear eh;go_loopw [211] (λi wq=>∃k:Nat,k<=8/\i=(k:Int)/\WC wq g (Bz st (R8.list ⟨a,b,c',d,e,f,g',h⟩) k)/\Fr [g] wr wq) (λi _=>8- (intOf i).toNat)
   .exact⟨0,Qw,rfl,S9.1,Fr.refl _ _⟩
   obtain⟨k,hk,rfl,hs,F⟩:=hrel;by_cases ag:k<8
   .have hx:=fq.o k ag;have hc:=hs.cell k ag;have bg:=hs.free k ag;rw[Hw _ _ _ _ ag,Zw Qw] at hc;have⟨sk,dj⟩:=ZK (st.getD k 0#32);have⟨rk,dh⟩:=ZK ((R8.list ⟨a,b,c',d,e,f,g',h⟩).getD k 0#32);rw[dj] at hc;rw[dh] at hx;have:(uv sk+uv rk)%4294967296=uv (sk+rk):=EI _ _;have:=DR sk;have:=DQ sk;have:=DR rk;have:=DQ rk;have HH:=ZM dj dh;have S7:=ZM hs F;clear dj dh hs F;go_wp2;go_roundw
    .refine⟨k+1,Qw,QC,?_,S7.2.trans ((Fr.refl [g] _).setCell (Zv Qx) _) (λi hi _=>hi)⟩;have h9:=S7.1.step ag;rw[HH.1,HH.2] at h9;exact h9
    simp[intOf];omega
   .obtain rfl:k=8:=(by omega);have aq:WC wr g (mixed st C):=by rw[Z44 _ _ HS.o.len] at hs;unfold mixed;rw[<-HR.o];exact hs
    have hF:Fr [g] w wr:=by have h1:=R6.4.trans S9.2 Qx;exact(h1.mono (L':=[g]) Qx).trans F (λi hi _=>hi)
    have S7:=ZM aq hF;clear hs F aq hF;go_wp2;go_end0;exact⟨rfl,S7.1,S7.2⟩
variable{base:Nat}{e:TypeId}
def Lw:Ni:=λg c st C w hs hb=>Z46 g c st C w hs hb
def Ba(st:List Qp):Ql:=st.flatMap λx=>beN x.toNat 4
def FP(H:Hs):Ql:=128::List.replicate ((119-H.many)%64) 0
def Hs.sum(H:Hs):Ql:=Ba ((H.bytes (FP H)).bytes (beN (8*H.size) 8)).st
def Il(l:Ql):Ql:=({hs0 with size:=l.length}.bytes l).sum
def TI(st:List Qp):(Ba st).length=4*st.length:=by
 induction st with
 |nil=>rfl
 |cons x l ih=>simp only[Ba,Zm,Zb,F5,Ze];unfold Ba at ih;rw[ih];omega
def Z49(st:List Qp)(C:Ql)(h:st.length=8):(mixed st C).length=8:=by simp[mixed,R8.list,h]
def Zad(H:Hs)(b:UInt8)(h:H.st.length=8):(H.byte b).st.length=8:=by
 unfold Hs.byte;split
 .exact Z49 _ _ h
 .exact h
def Z9C(H:Hs)(l:Ql)(h:H.st.length=8):(H.bytes l).st.length=8:=by
 unfold Hs.bytes
 induction l generalizing H with
 |nil=>exact h
 |cons b l ih=>rw[ZdI];exact ih _ (Zad H b h)
def Z6V(l:Ql):(Il l).length=32:=by unfold Il Hs.sum;rw[TI,Z9C _ _ (Z9C _ _ (Z9C _ _ rfl))]
def Yq.ZcZ{H:Hs}(k:Yq w h gs c H)(o:Obj):Yq (w.alloc o) h gs c H:=k.after ((Zu _ _).alloc (Zt _) _)
def UE(b j:Nat):(⟨b,0,none⟩:Addr).add j=⟨b,j,none⟩:=by unfold Addr.add;split<;>simp_all
def WC.Zd6(h:WC w g st):∀j v,(W6 st)[j]? =some v->w.cell? ⟨g,j,none⟩=some v:=λj v C=>by have:=h.news j v C;rwa[Ze5] at this
def Z4M{v:Qt}{xs:Qk}(h:w.ownsRow base e 1 v (0+8) ([]++xs)):∃g cap,v=.slice (g:Nat) 8 cap/\base<=g:=by
 rcases h.2 with ⟨_,C⟩|⟨g,cap,cur,hv,hb,_⟩
 .omega
 .exact⟨g,cap,by simpa using hv,hb⟩
def Z4J(h:w.ownsRow base e 1 (.slice g 8 c) (0+8) ([]++W6 st))(hl:st.length=8):WC w g st:=by
 rcases h.2 with ⟨F,_⟩|⟨g',cap,cur,hv,hb,hh,U,O,M,Z⟩
 .cases F
 .injection hv with h1 h2 h3;injection h1 with h1;injection h1 with h1;subst h1;have C:g<w:=(ZdE.1 hh).1;refine⟨hl,C,λj J=> ?_,λj J=>by simp[World.frozen?,hh]⟩;exact Cc h rfl (by rw[Ze3];exact Co st j Qw)
def Z9V(H:Hs)(x:Nat)(b:UInt8):({H with size:=x}:Hs).byte b={H.byte b with size:=x}:=by unfold Hs.byte;split<;>rfl
def Z9R(H:Hs)(x:Nat)(l:Ql):({H with size:=x}:Hs).bytes l={H.bytes l with size:=x}:=by
 unfold Hs.bytes
 induction l generalizing H with
 |nil=>rfl
 |cons b l ih=>rw[ZdI,ZdI,Z9V,ih]
def Z7g(st:List Qp)(k:Nat)(h:k<st.length):Ba (st.take (k+1))=Ba (st.take k)++beN (st.getD k 0#32).toNat 4:=by unfold Ba;rw[Zc h,ZdY,Z7,Z8 h];simp
def Hs.rs(H:Hs)(x:Nat):Hs:=⟨H.st,H.buf,H.many,x⟩
def Z9B(H:Hs)(x:Nat)(l:Ql):(H.rs x).bytes l=(H.bytes l).rs x:=Z9R H x l
def Zaf(H:Hs)(a b:Nat)(p l:Ql):((((H.rs a).bytes p).rs b).bytes l).st=((H.bytes p).bytes l).st:=by rw[Z9B,Z9B,Z9B];rfl
def Pc:(prog.info? 348).map (·.size)=some 69:=Qy
def Z7T:(prog.info? 161).map (λi=>(i.zero,i.size,i.bytes))=some (some (.int .u32 0),1,4):=Qy
def Z2v(gs c:Nat)(H:Hs):(Yw gs c H).toArray.all (·.oneCell')=true:=by
 rw[Array.all_eq_true_iff_forall_mem];intro v hv;simp only[Yw,List.mem_toArray,Zj,Zk,ZdG,ZgN] at hv;rcases hv with (rfl|hv)|hv
 .rfl
 .obtain⟨x,_,rfl⟩:=Zz.1 hv;rfl
 .rcases hv with rfl|rfl|rfl|rfl<;>rfl
set_option maxRecDepth 1000000 in
theorem Z2O(h gs c:Nat)(H:Hs)(w:Qs)(k:Yq w h gs c H)(cy:H.many<64)(hz:H.size<=1000000000):Calls prog 262 #[h] w λe w'=>e=.returned (.string ⟨H.sum.toArray⟩)/\Below w w w':=by
 have hlen:=He (gs:=gs) (c:=c) k.len;have⟨i0,cw,dh,dj,dm⟩:=ZE Z7T;have K:=ZI k;clear k;go_enter func262,ntmps262;go_upto_region 3 with (first|(refine wpList_load_row rfl 348 (.tmp 9) rfl h rfl 348 (Yw gs c H).toArray (0,0) _ K.o.top underlying348 rfl (by rw[Pc];simp[hlen]) ?_)|(refine wpList_store_row rfl 348 (.tmp 3) (.tmp 10) rfl w.heap.size (Yw gs c H).toArray rfl rfl 348 _ (ZB w _) (by rw[Pc];simp[hlen]) (by simp[hlen]) (Z2v gs c H) ?_;rw[Tv];have k1:=K.o.ZcZ (.cells (Yw gs c H).toArray 348);have r1:Y2 (w.alloc (.cells (Yw gs c H).toArray 348)) w 348 (Yw gs c H):=Z9u w _ _;have c0:=k1.c0;have S1:=ZM k1 r1;clear k1 r1)|(at_builtin;have s1:=S1.o;clear S1 c0;refine Zel _ rfl (.const (.slice none 0 0)) (.tmp 14) 344 rfl (w.heap.size+1) 161 i0 _ 1 4 underlying344 cw dh dj dm rfl Qw (.slice none 0 0) 0 [] rfl (ZA _ _ _ _) ⟨gs,0,none⟩ 8 c (W6 H.st) rfl (by rw[CX,s1.1.st.len]) (λj u hj=>by rw[UE];exact s1.1.st.Zd6 j u hj) (U2 _) (by unfold maxLen;omega) Qw Qx ?_;intro v' J ae ah aj;clear aj;obtain⟨g7,C,rfl,cu⟩:=Z4M ae;have au:Fr [] (w.alloc (.cells (Yw gs c H).toArray 348)) J:=(Fr.refl _ _).grown ah (by simp[Value.ownBlock]);have dq:=s1.1.fr au Qx Qx;have r7:=s1.2.fr au Qx;have z0:=r7.row.cell (Pf gs c H);have zf:=r7.row.free (j:=0) (by rw[hlen];omega);have F:=ZP r7 ae au cu dq;clear ae ah au cu r7 s1 dq));have⟨b,hb⟩:=ZK w.heap.size;rw[hb] at F⊢;have ak:WC J g7 H.st:=Z4J F.2.1 K.o.st.len;have k8:Yq (J.setCell b (.slice g7 8 C)) b g7 C H:=
  ⟨by have:=F.1.set 0 (.slice g7 8 C);exact this,ak.fr ((Fr.refl [b] J).setCell (Zv Qx) _) (by have:=F.2.2.2.1;simp;omega),K.o.len,K.o.lt,by have:=F.2.2.2.1;omega⟩
 have dt:Yq (J.setCell b (.slice g7 8 C)) h gs c H:=
  F.2.2.2.2.fr ((Fr.refl [b] J).setCell (Zv Qx) _) (by have:=K.o.lt_;simp;omega) (by have:=K.o.st.lt;simp;omega)
 have af:Below b w (J.setCell b (.slice g7 8 C)):=by have h1:Below b w (w.alloc (.cells (Yw gs c H).toArray 348)):=(Zu b w).alloc Qw _;have h2:=F.2.2.1.below (B:=b) (by simp;omega) Qx;exact(h1.trans h2).setCell (p:=⟨b,0,none⟩) (Zt _) _
 generalize (J.setCell b (.slice g7 8 C))=w8 at*
 have ek:=k8.c66;have eh:=dt.c65;have S8:=ZM k8 af;have HB:=ZI hb;clear k8 af dt ak hb;have Z:∀{x:Qs},Below b w x->b<=x:=λh=>by have:=h.size;have:=HB.o;omega
 have er:0<=119- (H.many:Int):=Qw;have⟨z,aq⟩:=ZK ((119-H.many)%64);have dp:(119- (H.many:Int))%64=(z:Int):=Qw;have cj:z<64:=Qw;have HZ:=ZI aq;clear aq;have cat:∀W,(Op.stringOp .add ⟨#[128]⟩ (XN z)).run prog W=.ok (.string (⟨#[128]⟩++XN z)) W:=λW=>ZdO W _ _ (by rw[DV];show 1+z<=_;omega);have bm:(⟨#[128]⟩++XN z:Qq).data.toList=FP H:=by rw[data_append];unfold FP;rw[HZ.o];rfl
 have bq:(⟨#[128]⟩++XN z:Qq).size<=1000000000:=by rw[Zep,DV];show 1+z<=_;omega
 have⟨P,hP⟩:=ZK (⟨#[128]⟩++XN z:Qq);rw[hP] at cat bm bq;have dw:=ZI bm;have du:Qi ((8:Int)*(H.size:Int)=((8*H.size:Nat):Int)):=ZI Qw;clear bm hP;go_wp2_with (first|(go_at_call 120;rw[dp];refine(Tryz.strings_Repeat ⟨#[0]⟩ z _ Qw (by show 1*z<=_;omega)).mono ?_;rw[FW];rintro e w9 ⟨rfl,bf⟩;have s8:=S8.o;clear S8;have S9:=ZM (s8.1.after bf) (s8.2.trans (bf.mono (Z s8.2)));clear bf s8)|(go_at_call 261;have s9:=S9.o;clear S9;go_fit (KZ Lw b g7 C H P _ s9.1 cy bq Qw);rintro e wa ⟨rfl,bg,cr⟩;rw[dw.o] at bg;have SA:=ZM bg (s9.2.trans (cr.below (Z s9.2) (by intro i hi;have:=F.2.2.2.1;simp at hi;omega)));clear bg cr s9)|(go_at_call 276;have sa:=SA.o;clear SA;rw[du.o];go_fit (Pe b g7 C (8*H.size) 8 _ _ sa.1 Qw Qw);rintro e wb ⟨rfl,M⟩;have SB:=ZM (sa.1.after M) (sa.2.trans (M.mono (Z sa.2)));clear M sa)|(go_at_call 261;have sb:=SB.o;clear SB;refine(KZ Lw b g7 C _ _ _ sb.1 (Z9A _ _ cy) (by show(beN (8*H.size) 8).toArray.size<=_;rw[Zex,F5];omega) (by rw[Z9I];show H.size+P.size<=_;omega)).mono ?_;rintro e wc ⟨rfl,bh,ct⟩;have ef:=bh.c0;have SC:=ZM bh (sb.2.trans (ct.below (Z sb.2) (by intro i hi;have:=F.2.2.2.1;simp at hi;omega)));clear bh ct sb));have eo:∃O:Hs,O.st=((H.bytes (FP H)).bytes (beN (8*H.size) 8)).st/\Yq _ b g7 C O:=⟨_,Zaf H (H.size+P.size) _ (FP H) (beN (8*H.size) 8),SC.1⟩;have⟨O,cn,az⟩:=eo;have ag:H.sum=Ba O.st:=by unfold Hs.sum;rw[cn]
 have bj:O.st.length=8:=az.st.len;have SX:=ZM az SC.2;clear SC az cn;have⟨ST,hS⟩:=ZK O.st;rw[hS] at bj ag;have dy:=ZI ag;have dx:=ZI hS;have ay:=ZI bj;clear ag hS bj;generalize (Yw gs c H).toArray=AG;generalize (beN (8*H.size) 8).toArray=AB;go_loopw [5,35] (λt i wr=>∃j:Nat,j<=8/\i=(j:Int)/\t=.string ⟨(Ba (ST.take j)).toArray⟩/\Yq wr b g7 C O/\Below b w wr) (λ_ i _=>8- (intOf i).toNat)
 .exact⟨0,Qw,rfl,rfl,SX.1,SX.2⟩
 obtain⟨j,hj,rfl,rfl,kr,hb⟩:=hrel;by_cases ai:j<8
 .have hc:=kr.st.cell j ai;rw[dx.o] at hc;have⟨x,hx⟩:=ZK (ST.getD j 0#32);have aw:=Z7g ST j (by rw[ay.o];exact ai);rw[hx] at hc aw;have l0:=DR x;have l1:=DQ x;have bu:uv x=((x.toNat:Nat):Int):=YX x;have bz:=x.isLt;have⟨n,hn⟩:=ZK x.toNat;rw[hn] at bu aw bz;rw[bu] at hc;have eu:n<4294967296:=bz;obtain⟨t,ht⟩:∃t:Qq,(⟨(Ba (ST.take j)).toArray⟩:Qq)=t:=⟨_,rfl⟩;have cz:t.size=4*j:=by rw[<-ht];show(Ba (ST.take j)).toArray.size=_;rw[Zex,TI,Zg,ay.o];omega
  rw[ht];obtain⟨y,hy⟩:∃y:Qq,(⟨(beN n 4).toArray⟩:Qq)=y:=⟨_,rfl⟩;have df:y.size=4:=by rw[<-hy];show(beN n 4).toArray.size=_;rw[Zex,F5]
  have de:y.data.toList=beN n 4:=by rw[<-hy]
  have HY:=ZI hy;have dz:=ZI de;have ee:∀W,(Op.stringOp .add t y).run prog W=.ok (.string (t++y)) W:=λW=>ZdO W _ _ (by rw[cz,df];omega);clear hy de df;have U:=ZM kr hb;have HT:=ZM ht aw;clear kr hb ht aw cz l0 l1 bu bz hx;clear cat er dp cj bq eh ek ef cw dh dj dm hlen;go_wp2_with (go_at_call 276;refine(Pe b g7 C n 4 _ _ U.1 Qw Qw).mono ?_;rw[HY.o];rintro e wb ⟨rfl,M⟩;have SB:=ZM (U.1.after M) (U.2.trans (M.mono (Z U.2)));clear M);go_roundw
  .refine⟨j+1,Qw,QC,?_,SB.1,SB.2⟩;congr 1;apply K2;rw[data_append,<-HT.1,HT.2,dz.o]
  simp[intOf];omega
 .obtain rfl:j=8:=by omega
  rw[Zi (by rw[ay.o];omega)];have U:=ZM kr hb;clear kr hb;go_wp2;go_ret;exact⟨by rw[dy.o];rfl,by rw[HB.o];exact U.2⟩
def Z7t(s:Qq)(w:Qs)(hs:s.size<=100000000):Calls prog 239 #[.string s] w λe w'=>e=.returned (.string ⟨(Il s.data.toList).toArray⟩)/\Below w w w':=by
 go_enter func239,ntmps239;go_wp2_with (first|(go_at_call 260;go_fit (Z4f _);rintro e w1 ⟨h,gs,rfl,F,J,k,hb⟩;have S1:=ZO k hb F J;clear k hb F J)|(go_at_call 261;have s1:=S1.o;clear S1;go_fit (KZ Lw h gs 8 hs0 s _ s1.1 Qz Qw Qz);rintro e w2 ⟨rfl,k,M⟩;have C:=ZM k (s1.2.1.trans (M.below s1.2.1.size (by intro i hi;have:=s1.2.2;simp at hi;omega)));clear k M s1)|(go_at_call 262;have s2:=C.o;clear C;refine(Z2O h gs 8 _ _ s2.1 (Z9A _ _ (show hs0.many<64 by decide)) (by rw[Z9I];show 0+s.size<=_;omega)).mono ?_;rintro e w3 ⟨rfl,hb⟩;have O:=ZI (s2.2.trans (hb.mono s2.2.size));clear hb s2));go_ret;refine⟨?_,O.o⟩;have e:({hs0 with size:=hs0.size+s.size}:Hs)={hs0 with size:=s.data.toList.length}:=by rw[BM];simp[hs0]
 rw[e];rfl
