/-
  Part 18 of the proof: lemmas about what the program computes.
-/
import Derived.Test.YthppfllkocphbaaGreatDoorQ16
namespace Go.Proofs.YthppfllkocphbaaGreatDoor
set_option linter.unusedVariables false
set_option linter.unusedSimpArgs false
set_option maxHeartbeats 25600000
set_option maxRecDepth 100000
open Tryz
section
open Go.RowKit
theorem Zdd(s:ByteArray)(w:World)(hs:s.size<=100000000):
  Calls prog 239 #[.string s] w fun e w'=>e=.returned (.string ⟨(Zd8 s.data.toList).toArray⟩)/\Below w.heap.size w w':=by
 go_enter func239,ntmps239
 go_wp2_with (first
  |(go_at_call 260;refine(ZcI _).mono ?_;rintro e w1 ⟨h,gs,rfl,h1,h2,k,hb⟩;have S1:=Zka (Zkb k (Zkb hb (Zkb h1 h2)));clear k hb h1 h2)
  |(go_at_call 261;have s1:=S1.out;clear S1;refine(Z4s ZcH h gs 8 hs0 s _ s1.1 (by decide) (by omega) (by decide)).mono ?_;rintro e w2 ⟨rfl,k,hf⟩;have S2:=Zka (Zkb k (s1.2.1.trans (hf.below s1.2.1.size (by intro i hi;have:=s1.2.2;simp at hi;omega))));clear k hf s1)
  |(go_at_call 262;have s2:=S2.out;clear S2;refine(ZfC h gs 8 _ _ s2.1 (Hs.bytes_lt _ _ (show hs0.many<64 by decide)) (by rw[Hs.bytes_size];show 0+s.size<=_;omega)).mono ?_;rintro e w3 ⟨rfl,hb⟩;have S3:=Zka (s2.2.trans (hb.mono s2.2.size));clear hb s2))
 go_ret
 refine⟨?_,S3.out⟩
 have e:({hs0 with size:=hs0.size+s.size}:Hs)={hs0 with size:=s.data.toList.length}:=by rw[size_data];simp[hs0]
 rw[e]
 rfl
end
end Go.Proofs.YthppfllkocphbaaGreatDoor
