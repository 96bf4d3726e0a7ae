/- WheelEnds comes to true. -/
import Derived.Test.YtkjojcepombhpaaXEnds
import Derived.Test.YtkjojcepombhpaaXEnds2
namespace Go.Proofs.Ytkjojcepombhpaa.L
set_option linter.unusedVariables false
set_option linter.unusedSimpArgs false
open Go.RowKit Go.Shelf Go.Proofs.YtkjojcepombhpaaW.PrintWords Go.Proofs.YtkjojcepombhpaaW.PrintLast Go.Proofs.YtkjojcepombhpaaW.PrintMore

theorem wheelEnds_calls (a0 : Int) (A1 : Option Addr) (c1 : Nat) (l1 : List Int) (A2 : Option Addr) (c2 : Nat) (l2 : List Int) (a3 a4 : Int) (w : World) (h1 : Kd.C (Kd.int .i64) w A1 l1.length l1) (hc1 : l1.length ≤ c1) (h2 : Kd.C (Kd.int .i64) w A2 l2.length l2) (hc2 : l2.length ≤ c2) :
    Calls Try.prog 9 #[.int .i64 a0, .slice A1 l1.length c1, .slice A2 l2.length c2, .int .i64 a3, .int .i64 a4] w fun e w' => e = .returned (.bool true) ∧ Below w.heap.size w w' := by
  obtain ⟨m, T, P, ht, hR⟩ := tame_f a0 l1 l2
  obtain ⟨kt, hkt⟩ := ht.get
  have hq := modW_in a3 1048576 (by decide)
  have hs := modW_in a4 100 (by decide)
  have hm1 := mod_f a3 1048576 (by decide) (by decide)
  have hm2 := mod_f a4 100 (by decide) (by decide)
  obtain ⟨x, hx⟩ : ∃ x, modW a3 1048576 = x + 524288 := ⟨modW a3 1048576 - 524288, by omega⟩
  rw [hx] at hm1 hq
  generalize modW a4 100 = steps at hm2 hs
  have hx2 : -524288 ≤ x ∧ x < 524288 := by omega
  have hg : (ruleB m T P && (smallB x && inB steps 0 500)) = true := by
    rw [ruleB_of hR, (small_iff x).2 (by omega), show inB steps 0 500 = true by simp [inB]; omega]
    rfl
  have hC : wheel_Cycle.f m T P x steps = some (cycleW m T P x steps) := by rw [wheel_Cycle.f, if_pos hg]
  cases ends (m := m) (t := T) (p := P) x steps hs.1 (by omega) with
  | full h3 h4 =>
    rw [h3] at hC
    have hO : wheel_Orbit.f m T P x steps = some ([], 5) := by rw [wheel_Orbit.f, if_pos hg, h4]
    exact ends_full a0 A1 c1 l1 A2 c2 l2 a3 a4 w h1 hc1 h2 hc2 kt m T P hkt hR x steps hx2 hm1 hs hm2 [] 0 hC [] hO
  | none h3 h4 h5 h6 =>
    rw [h3] at hC
    have hO : wheel_Orbit.f m T P x steps = some (orbTo m T P x (steps.toNat + 1), 0) := by rw [wheel_Orbit.f, if_pos hg, h4]
    exact ends_none a0 A1 c1 l1 A2 c2 l2 a3 a4 w h1 hc1 h2 hc2 kt m T P hkt hR x steps hx2 hm1 hs hm2 [] 0 hC _ hO (by rw [orbTo_length]; omega)
  | cycle N j hf h3 h4 =>
    rw [h3] at hC
    have hO : wheel_Orbit.f m T P x steps = some (orbTo m T P x (N + 1), 0) := by rw [wheel_Orbit.f, if_pos hg, h4]
    exact ends_cycle a0 A1 c1 l1 A2 c2 l2 a3 a4 w h1 hc1 h2 hc2 kt m T P hkt hR x steps hx2 hm1 hs hm2 _ j hC _ hO (endP hf (by omega))
end Go.Proofs.Ytkjojcepombhpaa.L
