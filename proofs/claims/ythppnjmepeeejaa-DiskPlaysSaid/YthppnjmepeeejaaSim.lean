/-
  One step of the law DiskPlays, whatever it is: both sides go on side by side.
-/
import Derived.Test.YthppnjmepeeejaaStepA
import Derived.Test.YthppnjmepeeejaaStepB
namespace Go.Proofs.Ythppnjmepeeejaa
open Go.RowKit
theorem act_acts (P : Pw) : P.act.acts ≤ P.acts + 1 := by
  unfold Pw.act; split
  · show P.acts ≤ _; omega
  · exact Int.le_refl _
theorem wpow_acts (P : Pw) (D : Dk) (a : Int) (s : ByteArray) : (wpow P D a s).acts ≤ P.acts + 1 := by
  unfold wpow; split
  · exact act_acts P
  · omega
theorem fpow_acts (P : Pw) (D : Dk) : (fpow P D).acts ≤ P.acts + 1 := by
  unfold fpow; split
  · exact act_acts P
  · omega
theorem wdk_small (P : Pw) (D : Dk) (a : Int) (s : ByteArray) : (wdk P D a s).wait.length ≤ D.wait.length + 1 ∧ (wdk P D a s).life = D.life := by
  unfold wdk; split
  · exact ⟨by simp, rfl⟩
  · exact ⟨by omega, rfl⟩
theorem fdk_small (P : Pw) (D : Dk) : (fdk P D).wait.length ≤ D.wait.length ∧ (fdk P D).life = D.life := by
  unfold fdk; split
  · exact ⟨by simp [Dk.flushed], rfl⟩
  · exact ⟨Nat.le_refl _, rfl⟩
theorem rotDk_small (D : Dk) (n : Nat) (a b : Int) : (rotDk D n a b).wait.length = D.wait.length ∧ (rotDk D n a b).life = D.life := by
  unfold rotDk; split
  · exact ⟨rfl, rfl⟩
  · exact ⟨rfl, rfl⟩
/-- both sides are alike, and no number in them is above B -/
def Sim (w0 : World) (p d g1 e g2 n1 n2 q r s b : Nat) (B : Nat) (w : World) : Prop :=
  ∃ P D1 D2, Pl [(b, 63, worldL p d e q r s)] w0 p d g1 e g2 n1 n2 q r s P D1 D2 P D1 D2 w ∧ P.acts ≤ B ∧ D1.wait.length ≤ B ∧ D2.wait.length ≤ B ∧ D1.life ≤ B ∧ D2.life ≤ B
/-- a step as the law has it -/
structure Stp where
  kind : Int
  on : Int
  at_ : Int
  num : Int
  txt : ByteArray
  ka : Option Addr
  kc : Nat
  keep : List Bool
def Stp.cells (o : Stp) : List Value := [.int .i64 o.kind, .int .i64 o.on, .int .i64 o.at_, .int .i64 o.num, .string o.txt, .slice o.ka o.keep.length o.kc]
structure Stp.ok (w0 : World) (o : Stp) : Prop where
  on0 : -9223372036854775808 ≤ o.on
  on1 : o.on ≤ 9223372036854775807
  num1 : o.num ≤ 9223372036854775807
  txt : o.txt.size ≤ maxLen
  keep : BoolsIn w0 o.ka o.keep
section
variable {w0 : World} {p d g1 e g2 n1 n2 q r s b B : Nat} {P P' : Pw} {D1 D2 D' : Dk} {w' : World} {kd on at_ m : Int} {t : ByteArray} {kv : Value} {x : Ending}
theorem sim0 (h : x = .returned (.bool true) ∧ Pl [(b, 63, worldL p d e q r s)] w0 p d g1 e g2 n1 n2 q r s P' D' D2 P' D' D2 w') (b1 : P.acts ≤ B) (b2 : D1.wait.length ≤ B) (b3 : D2.wait.length ≤ B) (b4 : D1.life ≤ B) (b5 : D2.life ≤ B) (c1 : P'.acts ≤ P.acts + 1) (c2 : D'.wait.length ≤ D1.wait.length + 1) (c3 : D'.life ≤ D1.life + 1) :
    x = .returned (.bool true) ∧ Sim w0 p d g1 e g2 n1 n2 q r s b (B + 1) w' := ⟨h.1, P', D', D2, h.2, by omega, by omega, by omega, by omega, by omega⟩
theorem sim1 (h : x = .returned (.bool true) ∧ Pl [(b, 63, worldL p d e q r s)] w0 p e g2 d g1 n2 n1 q s r P' D' D1 P' D' D1 w') (b1 : P.acts ≤ B) (b2 : D1.wait.length ≤ B) (b3 : D2.wait.length ≤ B) (b4 : D1.life ≤ B) (b5 : D2.life ≤ B) (c1 : P'.acts ≤ P.acts + 1) (c2 : D'.wait.length ≤ D2.wait.length + 1) (c3 : D'.life ≤ D2.life + 1) :
    x = .returned (.bool true) ∧ Sim w0 p d g1 e g2 n1 n2 q r s b (B + 1) w' := ⟨h.1, P', D1, D', h.2.swap, by omega, by omega, by omega, by omega, by omega⟩
end

set_option maxHeartbeats 800000 in
theorem step_any {w0 : World} {p d g1 e g2 n1 n2 q r s b B : Nat} {w : World} (hs : Sim w0 p d g1 e g2 n1 n2 q r s b B w) (hB : B ≤ 1000) (o : Stp) (ok : o.ok w0) :
    Calls Try.prog 32 #[.pointer (some ⟨b, 0, none⟩), .agg o.cells.toArray] w fun x w' => x = .returned (.bool true) ∧ Sim w0 p d g1 e g2 n1 n2 q r s b (B + 1) w' := by
  obtain ⟨P, D1, D2, h, b1, b2, b3, b4, b5⟩ := hs
  have hp := pickOf_lt o.on 2 (by omega)
  have o0 := ok.on0
  have o1 := ok.on1
  have m1 := ok.num1
  show Calls Try.prog 32 #[.pointer (some ⟨b, 0, none⟩), .agg #[.int .i64 o.kind, .int .i64 o.on, .int .i64 o.at_, .int .i64 o.num, .string o.txt, .slice o.ka o.keep.length o.kc]] w _
  have h2 := h.swap
  rcases (by omega : pickOf o.on 2 = 0 ∨ pickOf o.on 2 = 1) with hon | hon
  · by_cases c1 : o.kind = 1
    · rw [c1]
      exact (step_read0 _ _ _ _ _ _ _ _ _ _ _ _ _ _ _ o.on o.at_ o.num o.txt _ w h o0 o1 hon).mono fun x w' hx => sim0 hx b1 b2 b3 b4 b5 (by omega) (by omega) (by omega)
    by_cases c2 : o.kind = 2
    · rw [c2]
      exact (step_write0 _ _ _ _ _ _ _ _ _ _ _ _ _ _ _ o.on o.at_ o.num o.txt _ w h o0 o1 hon (by omega) (by omega) ok.txt).mono fun x w' hx => sim0 hx b1 b2 b3 b4 b5 (wpow_acts _ _ _ _) (wdk_small _ _ _ _).1 (by rw [(wdk_small _ _ _ _).2]; omega)
    by_cases c3 : o.kind = 3
    · rw [c3]
      exact (step_flush0 _ _ _ _ _ _ _ _ _ _ _ _ _ _ _ o.on o.at_ o.num o.txt _ w h o0 o1 hon (by omega)).mono fun x w' hx => sim0 hx b1 b2 b3 b4 b5 (fpow_acts _ _) (Nat.le_succ_of_le (fdk_small _ _).1) (by rw [(fdk_small _ _).2]; omega)
    by_cases c4 : o.kind = 4
    · rw [c4]
      exact (step_lose0 _ _ _ _ _ _ _ _ _ _ _ _ _ _ _ o.on o.at_ o.num o.txt _ w h o0 o1 hon o.ka o.kc o.keep rfl ok.keep).mono fun x w' hx => sim0 hx b1 b2 b3 b4 b5 (by omega) (by simp [Dk.lost]) (by simp only [Dk.lost]; omega)
    by_cases c5 : o.kind = 5
    · rw [c5]
      exact (step_kill0 _ _ _ _ _ _ _ _ _ _ _ _ _ _ _ o.on o.at_ o.num o.txt _ w h o0 o1 hon (by omega)).mono fun x w' hx => sim0 hx b1 b2 b3 b4 b5 (by omega) (by simp [Dk.killed]) (Int.le_refl _)
    by_cases c6 : o.kind = 6
    · rw [c6]
      exact (step_replace0 _ _ _ _ _ _ _ _ _ _ _ _ _ _ _ o.on o.at_ o.num o.txt _ w h o0 o1 hon (by omega)).mono fun x w' hx => sim0 hx b1 b2 b3 b4 b5 (by omega) (by simp [Dk.replaced]) (Int.le_refl _)
    by_cases c7 : o.kind = 7
    · rw [c7]
      exact (step_rot0 _ _ _ _ _ _ _ _ _ _ _ _ _ _ _ o.on o.at_ o.num o.txt _ w h o0 o1 hon).mono fun x w' hx => sim0 hx b1 b2 b3 b4 b5 (by omega) (by rw [(rotDk_small _ _ _ _).1]; omega) (by rw [(rotDk_small _ _ _ _).2]; omega)
    by_cases c8 : o.kind = 8
    · rw [c8]
      exact (step_image0 _ _ _ _ _ _ _ _ _ _ _ _ _ _ _ o.on o.at_ o.num o.txt _ w h o0 o1 hon).mono fun x w' hx => sim0 hx b1 b2 b3 b4 b5 (by omega) (by omega) (by omega)
    by_cases c10 : o.kind = 10
    · rw [c10]
      exact (step_cut0 _ _ _ _ _ _ _ _ _ _ _ _ _ _ _ o.on o.at_ o.num o.txt _ w h o0 o1 hon).mono fun x w' hx => sim0 hx b1 b2 b3 b4 b5 (by simp only []; omega) (by omega) (by omega)
    by_cases c11 : o.kind = 11
    · rw [c11]
      exact (step_on0 _ _ _ _ _ _ _ _ _ _ _ _ _ _ _ o.on o.at_ o.num o.txt _ w h o0 o1 hon).mono fun x w' hx => sim0 hx b1 b2 b3 b4 b5 (by simp only []; omega) (by omega) (by omega)
    by_cases c12 : o.kind = 12
    · rw [c12]
      exact (step_long0 _ _ _ _ _ _ _ _ _ _ _ _ _ _ _ o.on o.at_ o.num o.txt _ w h o0 o1 hon (by omega) (by omega)).mono fun x w' hx => sim0 hx b1 b2 b3 b4 b5 (wpow_acts _ _ _ _) (wdk_small _ _ _ _).1 (by rw [(wdk_small _ _ _ _).2]; omega)
    by_cases c9 : o.kind = 9
    · rw [c9]
      by_cases hm : o.num < -1
      · exact (step_fuseA0 _ _ _ _ _ _ _ _ _ _ _ _ _ _ _ o.on o.at_ o.num o.txt _ w h o0 o1 hon hm m1).mono fun x w' hx => sim0 hx b1 b2 b3 b4 b5 (by simp only []; omega) (by omega) (by omega)
      · exact (step_fuseB0 _ _ _ _ _ _ _ _ _ _ _ _ _ _ _ o.on o.at_ o.num o.txt _ w h o0 o1 hon hm m1).mono fun x w' hx => sim0 hx b1 b2 b3 b4 b5 (by simp only []; omega) (by omega) (by omega)
    exact (step_none0 _ _ _ _ _ _ _ _ _ _ _ _ _ _ _ o.kind o.on o.at_ o.num o.txt _ w h o0 o1 hon (by simpa using c1) (by simpa using c2) (by simpa using c3) (by simpa using c4) (by simpa using c5) (by simpa using c6) (by simpa using c7) (by simpa using c8) (by simpa using c9) (by simpa using c10) (by simpa using c11) (by simpa using c12)).mono fun x w' hx => sim0 hx b1 b2 b3 b4 b5 (by omega) (by omega) (by omega)
  · by_cases c1 : o.kind = 1
    · rw [c1]
      exact (step_read1 _ _ _ _ _ _ _ _ _ _ _ _ _ _ _ o.on o.at_ o.num o.txt _ w h2 o0 o1 hon).mono fun x w' hx => sim1 hx b1 b2 b3 b4 b5 (by omega) (by omega) (by omega)
    by_cases c2 : o.kind = 2
    · rw [c2]
      exact (step_write1 _ _ _ _ _ _ _ _ _ _ _ _ _ _ _ o.on o.at_ o.num o.txt _ w h2 o0 o1 hon (by omega) (by omega) ok.txt).mono fun x w' hx => sim1 hx b1 b2 b3 b4 b5 (wpow_acts _ _ _ _) (wdk_small _ _ _ _).1 (by rw [(wdk_small _ _ _ _).2]; omega)
    by_cases c3 : o.kind = 3
    · rw [c3]
      exact (step_flush1 _ _ _ _ _ _ _ _ _ _ _ _ _ _ _ o.on o.at_ o.num o.txt _ w h2 o0 o1 hon (by omega)).mono fun x w' hx => sim1 hx b1 b2 b3 b4 b5 (fpow_acts _ _) (Nat.le_succ_of_le (fdk_small _ _).1) (by rw [(fdk_small _ _).2]; omega)
    by_cases c4 : o.kind = 4
    · rw [c4]
      exact (step_lose1 _ _ _ _ _ _ _ _ _ _ _ _ _ _ _ o.on o.at_ o.num o.txt _ w h2 o0 o1 hon o.ka o.kc o.keep rfl ok.keep).mono fun x w' hx => sim1 hx b1 b2 b3 b4 b5 (by omega) (by simp [Dk.lost]) (by simp only [Dk.lost]; omega)
    by_cases c5 : o.kind = 5
    · rw [c5]
      exact (step_kill1 _ _ _ _ _ _ _ _ _ _ _ _ _ _ _ o.on o.at_ o.num o.txt _ w h2 o0 o1 hon (by omega)).mono fun x w' hx => sim1 hx b1 b2 b3 b4 b5 (by omega) (by simp [Dk.killed]) (Int.le_refl _)
    by_cases c6 : o.kind = 6
    · rw [c6]
      exact (step_replace1 _ _ _ _ _ _ _ _ _ _ _ _ _ _ _ o.on o.at_ o.num o.txt _ w h2 o0 o1 hon (by omega)).mono fun x w' hx => sim1 hx b1 b2 b3 b4 b5 (by omega) (by simp [Dk.replaced]) (Int.le_refl _)
    by_cases c7 : o.kind = 7
    · rw [c7]
      exact (step_rot1 _ _ _ _ _ _ _ _ _ _ _ _ _ _ _ o.on o.at_ o.num o.txt _ w h2 o0 o1 hon).mono fun x w' hx => sim1 hx b1 b2 b3 b4 b5 (by omega) (by rw [(rotDk_small _ _ _ _).1]; omega) (by rw [(rotDk_small _ _ _ _).2]; omega)
    by_cases c8 : o.kind = 8
    · rw [c8]
      exact (step_image1 _ _ _ _ _ _ _ _ _ _ _ _ _ _ _ o.on o.at_ o.num o.txt _ w h2 o0 o1 hon).mono fun x w' hx => sim1 hx b1 b2 b3 b4 b5 (by omega) (by omega) (by omega)
    by_cases c10 : o.kind = 10
    · rw [c10]
      exact (step_cut1 _ _ _ _ _ _ _ _ _ _ _ _ _ _ _ o.on o.at_ o.num o.txt _ w h2 o0 o1 hon).mono fun x w' hx => sim1 hx b1 b2 b3 b4 b5 (by simp only []; omega) (by omega) (by omega)
    by_cases c11 : o.kind = 11
    · rw [c11]
      exact (step_on1 _ _ _ _ _ _ _ _ _ _ _ _ _ _ _ o.on o.at_ o.num o.txt _ w h2 o0 o1 hon).mono fun x w' hx => sim1 hx b1 b2 b3 b4 b5 (by simp only []; omega) (by omega) (by omega)
    by_cases c12 : o.kind = 12
    · rw [c12]
      exact (step_long1 _ _ _ _ _ _ _ _ _ _ _ _ _ _ _ o.on o.at_ o.num o.txt _ w h2 o0 o1 hon (by omega) (by omega)).mono fun x w' hx => sim1 hx b1 b2 b3 b4 b5 (wpow_acts _ _ _ _) (wdk_small _ _ _ _).1 (by rw [(wdk_small _ _ _ _).2]; omega)
    by_cases c9 : o.kind = 9
    · rw [c9]
      by_cases hm : o.num < -1
      · exact (step_fuseA1 _ _ _ _ _ _ _ _ _ _ _ _ _ _ _ o.on o.at_ o.num o.txt _ w h2 o0 o1 hon hm m1).mono fun x w' hx => sim1 hx b1 b2 b3 b4 b5 (by simp only []; omega) (by omega) (by omega)
      · exact (step_fuseB1 _ _ _ _ _ _ _ _ _ _ _ _ _ _ _ o.on o.at_ o.num o.txt _ w h2 o0 o1 hon hm m1).mono fun x w' hx => sim1 hx b1 b2 b3 b4 b5 (by simp only []; omega) (by omega) (by omega)
    exact (step_none1 _ _ _ _ _ _ _ _ _ _ _ _ _ _ _ o.kind o.on o.at_ o.num o.txt _ w h2 o0 o1 hon (by simpa using c1) (by simpa using c2) (by simpa using c3) (by simpa using c4) (by simpa using c5) (by simpa using c6) (by simpa using c7) (by simpa using c8) (by simpa using c9) (by simpa using c10) (by simpa using c11) (by simpa using c12)).mono fun x w' hx => sim1 hx b1 b2 b3 b4 b5 (by omega) (by omega) (by omega)
end Go.Proofs.Ythppnjmepeeejaa
