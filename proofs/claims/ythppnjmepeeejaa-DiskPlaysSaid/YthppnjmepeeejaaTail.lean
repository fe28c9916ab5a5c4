/-
  The return of one step of the law DiskPlays: what is held against the document's is the same.
-/
import Derived.Test.YthppnjmepeeejaaPl2
import Derived.Deep.QuietTactic
import Derived.BigQuiet
namespace Go.Proofs.Ythppnjmepeeejaa
open Go.RowKit
/-- the law's world, and a step, as cells -/
def worldL (p d e q r s : Nat) : List Value := [.pointer (some ⟨p, 0, none⟩), .pointer (some ⟨d, 0, none⟩), .pointer (some ⟨e, 0, none⟩), .pointer (some ⟨q, 0, none⟩), .pointer (some ⟨r, 0, none⟩), .pointer (some ⟨s, 0, none⟩)]
def stepL (kind on at_ m : Int) (t : ByteArray) (kv : Value) : List Value := [.int .i64 kind, .int .i64 on, .int .i64 at_, .int .i64 m, .string t, kv]
theorem foreignWorld : Foreign 63 := ⟨by decide, by decide, by decide, by decide, by decide, by decide, by decide, by decide⟩
theorem foreignStep : Foreign 68 := ⟨by decide, by decide, by decide, by decide, by decide, by decide, by decide, by decide⟩
section
variable {X : List (Nat × TypeId × List Value)} {w0 : World} {p d g1 e g2 n1 n2 q r s : Nat} {P : Pw} {D1 D2 : Dk} {RP : Pw} {R1 R2 : Dk} {w w' : World}
theorem Pl.add (h : Pl X w0 p d g1 e g2 n1 n2 q r s P D1 D2 RP R1 R2 w) {k : Nat} {ty : TypeId} {L : List Value} (hr : Row w k ty L) (hf : Foreign ty) : Pl ((k, ty, L) :: X) w0 p d g1 e g2 n1 n2 q r s P D1 D2 RP R1 R2 w :=
  ⟨h.two, h.rtwo, h.rok, h.rk1, h.rk2, fun x hx => by
    rcases List.mem_cons.1 hx with rfl | hx
    · exact ⟨hr, hf⟩
    · exact h.rows x hx⟩
theorem Pl.drop {x : Nat × TypeId × List Value} (h : Pl (x :: X) w0 p d g1 e g2 n1 n2 q r s P D1 D2 RP R1 R2 w) : Pl X w0 p d g1 e g2 n1 n2 q r s P D1 D2 RP R1 R2 w :=
  ⟨h.two, h.rtwo, h.rok, h.rk1, h.rk2, fun x hx => h.rows x (List.mem_cons_of_mem _ hx)⟩
theorem Pl.fst {x : Nat × TypeId × List Value} (h : Pl (x :: X) w0 p d g1 e g2 n1 n2 q r s P D1 D2 RP R1 R2 w) : Row w x.1 x.2.1 x.2.2 := (h.rows x (by simp)).1
theorem Pl.snd {x y : Nat × TypeId × List Value} (h : Pl (x :: y :: X) w0 p d g1 e g2 n1 n2 q r s P D1 D2 RP R1 R2 w) : Row w y.1 y.2.1 y.2.2 := (h.rows y (by simp)).1
/-- the reference's power stored to -/
theorem Pl.rset (h : Pl X w0 p d g1 e g2 n1 n2 q r s P D1 D2 RP R1 R2 w) {RP' : Pw} (hp : RPowAt w' q RP') (ok : RP'.ok) (hf : Fr [q] w w') : Pl X w0 p d g1 e g2 n1 n2 q r s P D1 D2 RP' R1 R2 w' := by
  obtain ⟨h1, c1, v1, h2, c2, v2, k1, k2, k3⟩ := h.rtwo.dk
  refine ⟨h.two.keep h.rtwo.pw k1 hf (fun i hi => ?_) (fun i hi => ?_), ⟨hp, ⟨h1, c1, v1, h2, c2, v2, k1.power h.rtwo.pw hf, k2.power h.rtwo.pw hf, k3⟩, h.rtwo.q0, h.rtwo.r0, h.rtwo.s0, h.rtwo.rs, Nat.le_trans h.rtwo.sz hf.size⟩, ok, h.rk1, h.rk2, fun x hx => ⟨(h.rows x hx).1.fr hf (fun hm => ?_), (h.rows x hx).2⟩⟩
  · simp only [List.mem_singleton] at hi
    exact Or.inl hi
  · simp only [List.mem_singleton] at hi
    rw [hi]; exact h.rtwo.q0
  · simp only [List.mem_singleton] at hm
    exact (h.rows x hx).1.ne h.rtwo.pw (h.rows x hx).2.ra hm
/-- a list of Booleans in the arguments' memory -/
def BoolsIn (w : World) (ka : Option Addr) (keep : List Bool) : Prop := ∀ i (h : i < keep.length), ∃ kb ko, ka = some ⟨kb, ko, none⟩ ∧ kb < w.heap.size ∧ w.cell? ⟨kb, ko + i, none⟩ = some (.bool keep[i])
theorem BoolsIn.at_ {ka : Option Addr} {keep : List Bool} (h : BoolsIn w0 ka keep) (hb : Below w0.heap.size w0 w) : ∀ hg, w0.heap.size ≤ hg → BoolsAt w hg ka keep := by
  intro hg hhg i hi
  obtain ⟨kb, ko, he, hl, hc⟩ := h i hi
  exact ⟨kb, ko, he, by omega, by rw [hb.cell (p := ⟨kb, ko + i, none⟩) hl]; exact hc⟩
end
/-- the region of a number -/
def regionOf (n : Nat) : Code → Option Code
  | .region k ops d => if k = n then some (.region k ops d) else none
  | .loop c => regionOf n c
  | .seq a b => match regionOf n a with
    | some c => some c
    | none => regionOf n b
  | .block _ c => regionOf n c
  | .scope c => regionOf n c
  | .cond _ a b => match regionOf n a with
    | some c => some c
    | none => regionOf n b
  | _ => none
noncomputable def tailCode : Code := (Try.f32.body.bind (regionOf 45)).getD .skip
set_option maxRecDepth 1000000 in
set_option maxHeartbeats 6400000 in
theorem tail {X : List (Nat × TypeId × List Value)} (w0 : World) (p d g1 e g2 n1 n2 q r s b k0 d1 e1 r1 s1 : Nat) (SL : List Value) (P : Pw) (D1 D2 : Dk) (w : World) (K : Act → World → Prop) (Q : Exit → Act → World → Prop) (h : Pl ((k0, 68, SL) :: (b, 63, worldL p d1 e1 q r1 s1) :: X) w0 p d g1 e g2 n1 n2 q r s P D1 D2 P D1 D2 w)
    (c1 c2 c3 c4 c5 c9 c10 c11 c12 c13 c14 c15 c16 c17 c18 c19 c20 c21 c22 c23 c24 c25 c26 c27 c28 c29 c30 c31 c32 c33 c34 c35 c36 c37 c38 c39 c40 c41 c42 c43 c44 c45 c46 c47 c48 c49 c50 c51 c52 c53 c54 c55 c56 c57 c58 c59 c60 c61 c62 c63 c64 c65 c66 c67 c68 c69 c70 c71 c72 c73 c74 c75 c76 c77 c78 c79 c80 c81 c82 c83 c84 c85 c86 c87 c88 c89 c90 c91 c92 c93 c94 c95 c96 c97 c98 c99 c100 c101 c102 c103 c104 c105 c106 c107 c108 c109 c110 c111 c112 c113 c114 c115 c116 c117 c118 c119 c120 c121 c122 c123 c124 c125 c126 c127 c128 c129 c130 c131 c132 c133 c134 c135 c136 c137 c138 c139 c140 c141 c142 c143 c144 c145 c146 c147 c148 c149 c150 c151 c152 c153 c154 c155 c156 c157 c158 c159 c160 c161 c162 c163 c164 c165 c166 c167 c168 c169 c170 c171 c172 c173 c174 c175 c176 c177 c178 c179 c180 c181 c182 c183 c184 c185 c186 c187 c188 c189 c190 c191 c192 c193 c194 c195 c196 c197 c198 c199 c200 c201 c202 c203 c204 c205 c206 c207 c208 c209 c210 c211 c212 c213 c214 c215 c216 c217 c218 c219 c220 c221 c222 c223 c224 c225 c226 c227 c228 c229 c230 c231 c232 c233 c234 c235 c236 c237 c238 c239 c240 c241 c242 c243 c244 c245 c246 c247 c248 c249 c250 c251 c252 c253 c254 c255 c256 c257 c258 c259 c260 c261 c262 c263 c264 c265 c266 c267 c268 c269 c270 : Value)
    (hK : ∀ (x203 x204 x205 x206 x207 x208 x209 x210 x211 x212 x213 x214 x215 x216 x217 x218 x219 x220 x221 x222 x223 x224 x225 x226 x227 x228 x229 x230 x231 x232 x233 x234 x235 x236 x237 x238 x239 x240 x241 x242 x243 x244 x245 x246 x247 x248 x249 x250 x251 x252 x253 x254 x255 x256 x257 x258 x259 x260 x261 x262 x263 x264 x265 x266 x267 x268 x269 x270 : Value) (nq : Nat), K ⟨(List.toArray (.pointer (some ⟨b, 0, none⟩) :: c1 :: c2 :: c3 :: .bool true :: c5 :: .pointer (some ⟨d, 0, none⟩) :: .pointer (some ⟨r, 0, none⟩) :: .bool true :: c9 :: c10 :: c11 :: c12 :: c13 :: c14 :: c15 :: c16 :: c17 :: c18 :: c19 :: c20 :: c21 :: c22 :: c23 :: c24 :: c25 :: c26 :: c27 :: c28 :: c29 :: c30 :: c31 :: c32 :: c33 :: c34 :: c35 :: c36 :: c37 :: c38 :: c39 :: c40 :: c41 :: c42 :: c43 :: c44 :: c45 :: c46 :: c47 :: c48 :: c49 :: c50 :: c51 :: c52 :: c53 :: c54 :: c55 :: c56 :: c57 :: c58 :: c59 :: c60 :: c61 :: c62 :: c63 :: c64 :: c65 :: c66 :: c67 :: c68 :: c69 :: c70 :: c71 :: c72 :: c73 :: c74 :: c75 :: c76 :: c77 :: c78 :: c79 :: c80 :: c81 :: c82 :: c83 :: c84 :: c85 :: c86 :: c87 :: c88 :: c89 :: c90 :: c91 :: c92 :: c93 :: c94 :: c95 :: c96 :: c97 :: c98 :: c99 :: c100 :: c101 :: c102 :: c103 :: c104 :: c105 :: c106 :: c107 :: c108 :: c109 :: c110 :: c111 :: c112 :: c113 :: c114 :: c115 :: c116 :: c117 :: c118 :: c119 :: c120 :: c121 :: c122 :: c123 :: c124 :: c125 :: c126 :: c127 :: c128 :: c129 :: c130 :: c131 :: c132 :: c133 :: c134 :: c135 :: c136 :: c137 :: c138 :: c139 :: c140 :: c141 :: c142 :: c143 :: c144 :: c145 :: c146 :: c147 :: c148 :: c149 :: c150 :: c151 :: c152 :: c153 :: c154 :: c155 :: c156 :: c157 :: c158 :: c159 :: c160 :: c161 :: c162 :: c163 :: c164 :: c165 :: c166 :: c167 :: c168 :: c169 :: c170 :: c171 :: c172 :: c173 :: c174 :: c175 :: c176 :: c177 :: c178 :: c179 :: c180 :: c181 :: c182 :: c183 :: c184 :: c185 :: c186 :: c187 :: c188 :: c189 :: c190 :: c191 :: c192 :: c193 :: c194 :: c195 :: c196 :: c197 :: c198 :: c199 :: c200 :: c201 :: c202 :: x203 :: x204 :: x205 :: x206 :: x207 :: x208 :: x209 :: x210 :: x211 :: x212 :: x213 :: x214 :: x215 :: x216 :: x217 :: x218 :: x219 :: x220 :: x221 :: x222 :: x223 :: x224 :: x225 :: x226 :: x227 :: x228 :: x229 :: x230 :: x231 :: x232 :: x233 :: x234 :: x235 :: x236 :: x237 :: x238 :: x239 :: x240 :: x241 :: x242 :: x243 :: x244 :: x245 :: x246 :: x247 :: x248 :: x249 :: x250 :: x251 :: x252 :: x253 :: x254 :: x255 :: x256 :: x257 :: x258 :: x259 :: x260 :: x261 :: x262 :: x263 :: x264 :: x265 :: x266 :: x267 :: x268 :: x269 :: x270 :: [])), []⟩ (w.drewN nq)) :
    Code.wp Try.prog tailCode (Exit.then K Q) ⟨(List.toArray (.pointer (some ⟨b, 0, none⟩) :: c1 :: c2 :: c3 :: c4 :: c5 :: .pointer (some ⟨d, 0, none⟩) :: .pointer (some ⟨r, 0, none⟩) :: .bool true :: c9 :: c10 :: c11 :: c12 :: c13 :: c14 :: c15 :: c16 :: c17 :: c18 :: c19 :: c20 :: c21 :: c22 :: c23 :: c24 :: c25 :: c26 :: c27 :: c28 :: c29 :: c30 :: c31 :: c32 :: c33 :: c34 :: c35 :: c36 :: c37 :: c38 :: c39 :: c40 :: c41 :: c42 :: c43 :: c44 :: c45 :: c46 :: c47 :: c48 :: c49 :: c50 :: c51 :: c52 :: c53 :: c54 :: c55 :: c56 :: c57 :: c58 :: c59 :: c60 :: c61 :: c62 :: c63 :: c64 :: c65 :: c66 :: c67 :: c68 :: c69 :: c70 :: c71 :: c72 :: c73 :: c74 :: c75 :: c76 :: c77 :: c78 :: c79 :: c80 :: c81 :: c82 :: c83 :: c84 :: c85 :: c86 :: c87 :: c88 :: c89 :: c90 :: c91 :: c92 :: c93 :: c94 :: c95 :: c96 :: c97 :: c98 :: c99 :: c100 :: c101 :: c102 :: c103 :: c104 :: c105 :: c106 :: c107 :: c108 :: c109 :: c110 :: c111 :: c112 :: c113 :: c114 :: c115 :: c116 :: c117 :: c118 :: c119 :: c120 :: c121 :: c122 :: c123 :: c124 :: c125 :: c126 :: c127 :: c128 :: c129 :: c130 :: c131 :: c132 :: c133 :: c134 :: c135 :: c136 :: c137 :: c138 :: c139 :: c140 :: c141 :: c142 :: c143 :: c144 :: c145 :: c146 :: c147 :: c148 :: c149 :: c150 :: c151 :: c152 :: c153 :: c154 :: c155 :: c156 :: c157 :: c158 :: c159 :: c160 :: c161 :: c162 :: c163 :: c164 :: c165 :: c166 :: c167 :: c168 :: c169 :: c170 :: c171 :: c172 :: c173 :: c174 :: c175 :: c176 :: c177 :: c178 :: c179 :: c180 :: c181 :: c182 :: c183 :: c184 :: c185 :: c186 :: c187 :: c188 :: c189 :: c190 :: c191 :: c192 :: c193 :: c194 :: c195 :: c196 :: c197 :: c198 :: c199 :: c200 :: c201 :: c202 :: c203 :: c204 :: c205 :: c206 :: c207 :: c208 :: c209 :: c210 :: c211 :: c212 :: c213 :: c214 :: c215 :: c216 :: c217 :: c218 :: c219 :: c220 :: c221 :: c222 :: c223 :: c224 :: c225 :: c226 :: c227 :: c228 :: c229 :: c230 :: c231 :: c232 :: c233 :: c234 :: c235 :: c236 :: c237 :: c238 :: c239 :: c240 :: c241 :: c242 :: c243 :: c244 :: c245 :: c246 :: c247 :: c248 :: c249 :: c250 :: c251 :: c252 :: c253 :: c254 :: c255 :: c256 :: c257 :: c258 :: c259 :: c260 :: c261 :: c262 :: c263 :: c264 :: c265 :: c266 :: c267 :: c268 :: c269 :: c270 :: [])), []⟩ w := by
  have hd : ∀ nq, Pl ((k0, 68, SL) :: (b, 63, worldL p d1 e1 q r1 s1) :: X) w0 p d g1 e g2 n1 n2 q r s P D1 D2 P D1 D2 (w.drewN nq) := fun nq => h.after ⟨rfl, rfl, rfl, Nat.le_refl _, fun _ _ => rfl⟩
  obtain ⟨hh1, hc1, v1, hh2, hc2, v2, k1, _⟩ := h.rtwo.dk
  obtain ⟨av, cv, rfl⟩ : ∃ av cv, v1 = .slice av D1.wait.length cv := by
    rcases k1.late.2 with ⟨a1, a2⟩ | ⟨g, cap, cur, hv, _⟩
    · exact ⟨none, 0, by rw [a1, a2]⟩
    · exact ⟨_, cap, hv⟩
  have b0 := h.snd.cell (j := 0) rfl
  have b3 := h.snd.cell (j := 3) rfl
  have q0 := h.rtwo.pw.cell (j := 0) rfl
  have q2 := h.rtwo.pw.cell (j := 2) rfl
  have r1' := k1.top.cell (j := 1) rfl
  have r3' := k1.top.cell (j := 3) rfl
  have r4' := k1.top.cell (j := 4) rfl
  have r5' := k1.top.cell (j := 5) rfl
  have HD := Lib.hid hd
  have HK := Lib.hid hK
  clear hd h k1 hK
  conv => arg 2; whnf
  simp only [List.append_eq, List.cons_append, List.nil_append]
  refine wp_region_quiet_lit (by kernel_rfl) (by kernel_rfl) ?_
  repeat (any_goals (go_big_quiet_step ((first
    | (go_at_call 27; refine Calls.quiet_of_same (still_of (gone_any p P _ (HD.out _).two.pw)))
    | (go_at_call 29; refine Calls.quiet_of_same (still_of (acts_any p P _ (HD.out _).two.pw)))
    | (go_at_call 16; refine Calls.quiet_of_same (still_of ((HD.out _).two.pending)))
    | (go_at_call 24; refine Calls.quiet_of_same (still_of ((HD.out _).two.dead)))
    | (go_at_call 25; refine Calls.quiet_of_same (still_of ((HD.out _).two.life)))
    | (go_at_call 23; refine Calls.quiet_of_same (still_of ((HD.out _).two.sectors)))))))
  refine wpQuiet_nil ?_
  intro _ hw'
  obtain ⟨nq, hw''⟩ := hw'
  subst hw''
  exact HK.out _ _ _ _ _ _ _ _ _ _ _ _ _ _ _ _ _ _ _ _ _ _ _ _ _ _ _ _ _ _ _ _ _ _ _ _ _ _ _ _ _ _ _ _ _ _ _ _ _ _ _ _ _ _ _ _ _ _ _ _ _ _ _ _ _ _ _ _ nq
end Go.Proofs.Ythppnjmepeeejaa
