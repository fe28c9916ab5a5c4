/- Part 17: lemmas about what the program computes. -/
import Derived.Test.YthppfllkocphbaaGreatDoorY15
namespace Go.Proofs.YthppfllkocphbaaGreatDoor
set_option linter.unusedVariables false
set_option linter.unusedSimpArgs false
set_option maxHeartbeats 25600000
set_option maxRecDepth 100000
open Tryz Go.RowKit
theorem Uh(s:ByteArray)(w:World)(hs:s.size<=100000000):Calls prog 239 #[.string s] w λe w'=>e=.returned (.string ⟨(Uc s.data.toList).toArray⟩)/\Below w.heap.size w w':=by
 go_enter func239,ntmps239;go_wp2_with (first|(go_at_call 260;refine(TD _).mono ?_;rintro e w1 ⟨h,gs,rfl,J,M,k,C⟩;have S1:=Z5L k C J M;clear k C J M)|(go_at_call 261;have s1:=S1.out;clear S1;refine(FB TB h gs 8 hs0 s _ s1.1 (by decide) (by omega) (by decide)).mono ?_;rintro e w2 ⟨rfl,k,O⟩;have F:=Z5J k (s1.2.1.trans (O.below s1.2.1.size (by intro i hi;have:=s1.2.2;simp at hi;omega)));clear k O s1)|(go_at_call 262;have s2:=F.out;clear F;refine(Z1a h gs 8 _ _ s2.1 (Hs.bytes_lt _ _ (show hs0.many<64 by decide)) (by rw[Hs.bytes_size];show 0+s.size<=_;omega)).mono ?_;rintro e w3 ⟨rfl,C⟩;have U:=Z5F (s2.2.trans (C.mono s2.2.size));clear C s2));go_ret;refine⟨?_,U.out⟩;have e:({hs0 with size:=hs0.size+s.size}:Hs)={hs0 with size:=s.data.toList.length}:=by rw[WB];simp[hs0]
 rw[e];rfl
