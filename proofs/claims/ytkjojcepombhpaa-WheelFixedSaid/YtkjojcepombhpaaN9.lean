/- Plain law: the reference's Rests; the law WheelCourses. -/
import Derived.Test.YtkjojcepombhpaaN0
import Derived.Test.YtkjojcepombhpaaXCourse
import Derived.Test.YtkjojcepombhpaaL14
namespace Go.Proofs.Ytkjojcepombhpaa.L
set_option linter.unusedVariables false
set_option linter.unusedSimpArgs false
open Go.RowKit Go.Proofs.YtkjojcepombhpaaW.PrintWords Go.Proofs.YtkjojcepombhpaaW.PrintLast Go.Proofs.YtkjojcepombhpaaW.PrintMore

variable {m : Int} {t p : List Int}
/-- How the reference hands a course back. -/
def crsRes : Option (List Int) → List Int × Bool
  | some l => (l, true)
  | none => ([], false)
theorem courseW_none {n : Int} {K i : Nat} (hi : i < K) (h : smallB (iterW m t p i n) = false) : courseW m t p n K = none := by
  unfold courseW
  rw [if_neg]
  rw [Bool.not_eq_true, List.all_eq_false]
  exact ⟨iterW m t p i n, by simp only [orbTo, List.mem_map, List.mem_range]; exact ⟨i, hi, rfl⟩, by rw [h]; decide⟩
theorem courseW_some {n : Int} {K : Nat} (h : ∀ i, i < K → smallB (iterW m t p i n) = true) : courseW m t p n K = some (remW m t p n K) := by
  unfold courseW
  rw [if_pos]
  rw [List.all_eq_true]
  intro y hy
  simp only [orbTo, List.mem_map, List.mem_range] at hy
  obtain ⟨i, hi, rfl⟩ := hy
  exact h i hi
theorem courseW_is {n : Int} {K : Nat} {c : List Int} (h : courseW m t p n K = some c) : c = remW m t p n K ∧ ∀ i, i < K → smallB (iterW m t p i n) = true := by
  have hs : ∀ i, i < K → smallB (iterW m t p i n) = true := by
    intro i hi
    cases e : smallB (iterW m t p i n)
    · rw [courseW_none hi e] at h; cases h
    · rfl
  rw [courseW_some hs] at h
  exact ⟨(Option.some.inj h).symm, hs⟩
theorem rests_j1 (h : RuleIs m t p) (n : Int) (K : Nat) (hK : K ≤ 500) (i : Nat) (hi : i < K) (hs : ∀ j, j < i → smallB (iterW m t p j n) = true)
    (next : smallB (iterW m t p i n) = true → Ev (fun k => remouldref06_Rests.l0 k (iterW m t p i n) K (remW m t p n (i + 1)) ((i + 1 : Nat) : Int) m t p) (crsRes (courseW m t p n K))) :
    Ev (fun k => remouldref06_Rests.j1 k (iterW m t p i n) K (remW m t p n i) (i : Int) m t p) (crsRes (courseW m t p n K)) := by
  have ew : wrap64 ((i : Int) + 1) = ((i + 1 : Nat) : Int) := by rw [wrap64_id _ (by omega) (by omega)]; rfl
  refine Ev.step (fun k => by rw [remouldref06_Rests.j1]) (Ev.bind (Ev.of (large_f _)) ?_)
  cases h6 : smallB (iterW m t p i n)
  · rw [courseW_none hi h6]
    exact Ev.pos rfl (Ev.const _)
  · refine Ev.neg (by decide) (Ev.bind (Ev.of (Rest_f h _)) (Ev.pos (by rw [remW_length]; omega) ?_))
    have := next h6
    rw [remW_succ] at this
    rw [ew]
    exact this
theorem rests_l0 (h : RuleIs m t p) (n : Int) (K : Nat) (hK : K ≤ 500) : ∀ d i : Nat, i + 1 + d = K → (∀ j, j < i + 1 → smallB (iterW m t p j n) = true) →
    Ev (fun k => remouldref06_Rests.l0 k (iterW m t p i n) K (remW m t p n (i + 1)) ((i + 1 : Nat) : Int) m t p) (crsRes (courseW m t p n K)) := by
  intro d
  induction d with
  | zero =>
    intro i hi hs
    obtain rfl : i + 1 = K := by omega
    rw [courseW_some hs]
    exact Ev.step (h := fun _ => some (remW m t p n (i + 1), true)) (fun k => by rw [remouldref06_Rests.l0, if_neg (by omega)]) (Ev.const _)
  | succ d ih =>
    intro i hi hs
    have hm := small_mid (hs i (by omega))
    refine Ev.step (fun k => by rw [remouldref06_Rests.l0, if_pos (by omega), if_pos (by omega)]) (Ev.bind (Ev.of (Send_f h _ hm)) ?_)
    rw [← iterW_succ]
    exact rests_j1 h n K hK (i + 1) (by omega) hs (fun h6 => ih (i + 1) (by omega) (fun j hj => by
      by_cases e : j = i + 1
      · subst e; exact h6
      · exact hs j (by omega)))
theorem Rests_f (h : RuleIs m t p) (n : Int) (K : Nat) (hK : K ≤ 500) : Ev (fun k => remouldref06_Rests.f k m t p n K) (crsRes (courseW m t p n K)) := by
  unfold remouldref06_Rests.f
  cases K with
  | zero => exact Ev.step (h := fun _ => some ([], true)) (fun k => by rw [remouldref06_Rests.l0, if_neg (by omega)]) (Ev.const _)
  | succ K =>
    have := rests_j1 h n (K + 1) hK 0 (by omega) (by omega) (fun h6 => rests_l0 h n (K + 1) hK K 0 (by omega) (fun j hj => by
      obtain rfl : j = 0 := by omega
      exact h6))
    exact Ev.step (h := fun k => remouldref06_Rests.j1 k n ((K + 1 : Nat) : Int) [] 0 m t p) (fun k => by rw [remouldref06_Rests.l0, if_pos (by omega), if_neg (by decide)]) this
theorem wheel_Course_ok (n K : Int) (hR : RuleIs m t p) (hn : smallB n = true) (hK : 0 ≤ K ∧ K ≤ 500) : wheel_Course.f m t p n K = some (match courseW m t p n K.toNat with | some l => (l, 0) | none => ([], 5)) := by
  unfold wheel_Course.f
  rw [ruleB_of hR, hn, show inB K 0 500 = true by simp [inB, hK.1, hK.2]]
  rfl
end Go.Proofs.Ytkjojcepombhpaa.L
