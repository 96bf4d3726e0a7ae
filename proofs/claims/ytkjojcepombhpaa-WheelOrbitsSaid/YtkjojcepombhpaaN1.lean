/- Plain law: the reference's Orbit. -/
import Derived.Test.YtkjojcepombhpaaN0
namespace Go.Proofs.Ytkjojcepombhpaa.L
set_option linter.unusedVariables false
set_option linter.unusedSimpArgs false
open Go.RowKit Go.Proofs.YtkjojcepombhpaaW.PrintWords Go.Proofs.YtkjojcepombhpaaW.PrintLast Go.Proofs.YtkjojcepombhpaaW.PrintMore

theorem take_contains (out : List Int) (y : Int) (i : Nat) (hi : i < out.length) : (out.take (i + 1)).contains y = ((out.take i).contains y || (rd out (i : Int) == y)) := by
  have ho : rd out (i : Int) = out[i] := by simp [rd, List.getElem?_eq_getElem hi]
  rw [List.take_succ_eq_append_getElem hi, ho]
  rw [List.contains_eq_mem, List.contains_eq_mem]
  cases h : (out[i] == y)
  · rw [Bool.or_false]
    have : out[i] ≠ y := by simpa using h
    refine decide_eq_decide.2 ?_
    rw [List.mem_append, List.mem_singleton]
    exact ⟨fun h => h.resolve_right (fun e => this e.symm), .inl⟩
  · have : out[i] = y := by simpa using h
    rw [Bool.or_true, decide_eq_true_eq, List.mem_append, List.mem_singleton]
    exact .inr this.symm
theorem orbit_l1 (m : Int) (t p : List Int) (y steps : Int) (out : List Int) (j : Int) (hl : out.length ≤ 100000) (r : List Int × Bool)
    (h : Ev (fun k => if out.contains y = true then some (out ++ [y], true) else remouldref06_Orbit.l0 k y steps (out ++ [y]) (wrap64 (j + 1)) m t p) r) :
    ∀ d i : Nat, i + d = out.length → Ev (fun k => remouldref06_Orbit.l1 k y steps out j ((out.take i).contains y) (i : Int) m t p) r := by
  intro d
  induction d with
  | zero =>
    intro i hi
    rw [List.take_of_length_le (by omega)]
    exact Ev.step (fun k => by rw [remouldref06_Orbit.l1, if_neg (by omega), if_pos (by omega)]; rfl) h
  | succ d ih =>
    intro i hi
    have ih := ih (i + 1) (by omega)
    rw [take_contains out y i (by omega)] at ih
    have ew : wrap64 ((i : Int) + 1) = ((i + 1 : Nat) : Int) := by rw [wrap64_id _ (by omega) (by omega)]; rfl
    cases hf : (out.take i).contains y
    · rw [hf, Bool.false_or] at ih
      exact Ev.step (fun k => by rw [remouldref06_Orbit.l1, if_pos (by omega), if_neg (by decide), if_pos (by omega), ew]) ih
    · rw [hf, Bool.true_or] at ih
      exact Ev.step (fun k => by rw [remouldref06_Orbit.l1, if_pos (by omega), if_pos rfl, ew]) ih
/-- How the reference hands an orbit back. -/
def orbRes : Option (List Int) → List Int × Bool
  | some l => (l, true)
  | none => ([], false)
theorem orbit_l0 {m : Int} {t p : List Int} (hR : RuleIs m t p) (steps : Int) (hs : steps ≤ 500) : ∀ d f : Nat, ∀ (pre : List Int) (y : Int), steps ≤ (pre.length : Int) + d → d + 1 < f → pre.length ≤ 1000 → smallB y = true → y ∉ pre →
    Ev (fun k => remouldref06_Orbit.l0 k y steps (pre ++ [y]) (pre.length : Int) m t p) (orbRes (orbGo m t p steps f pre y)) := by
  intro d
  induction d with
  | zero =>
    intro f pre y h1 h2 h3 h4 h5
    obtain ⟨f, rfl⟩ : ∃ g, f = g + 1 := ⟨f - 1, by omega⟩
    rw [orbGo, if_pos h4, if_pos (by rw [decide_eq_true (by omega)]; simp)]
    exact Ev.step (h := fun _ => some (pre ++ [y], true)) (fun k => by rw [remouldref06_Orbit.l0, if_neg (by omega)]) (Ev.const _)
  | succ d ih =>
    intro f pre y h1 h2 h3 h4 h5
    obtain ⟨f, rfl⟩ : ∃ g, f = g + 1 := ⟨f - 1, by omega⟩
    have hc : pre.contains y = false := by simpa using h5
    rw [orbGo, if_pos h4, hc, Bool.false_or]
    by_cases hst : steps < (pre.length : Int) + 1
    · rw [if_pos (decide_eq_true hst)]
      exact Ev.step (h := fun _ => some (pre ++ [y], true)) (fun k => by rw [remouldref06_Orbit.l0, if_neg (by omega)]) (Ev.const _)
    · rw [decide_eq_false hst, if_neg (by decide)]
      have hm := small_mid h4
      refine Ev.step (fun k => by rw [remouldref06_Orbit.l0, if_pos (by omega)]) (Ev.bind (Ev.of (Send_f hR y hm)) (Ev.bind (Ev.of (large_f _)) ?_))
      obtain ⟨z, hz⟩ : ∃ z, sentW m t p y = z := ⟨_, rfl⟩
      rw [hz]
      obtain ⟨f, rfl⟩ : ∃ g, f = g + 1 := ⟨f - 1, by omega⟩
      have hlen : (pre ++ [y]).length = pre.length + 1 := by simp
      cases h6 : smallB z
      · rw [orbGo, h6, if_neg (by decide)]
        exact Ev.pos rfl (Ev.const _)
      · refine Ev.neg (by decide) ?_
        have hl1 := orbit_l1 m t p z steps (pre ++ [y]) (pre.length : Int) (by omega) (orbRes (orbGo m t p steps (f + 1) (pre ++ [y]) z)) ?_ (pre ++ [y]).length 0 (by omega)
        · exact hl1
        · cases h7 : (pre ++ [y]).contains z
          · refine Ev.neg (by decide) ?_
            rw [wrap64_id _ (by omega) (by omega)]
            have := ih (f + 1) (pre ++ [y]) z (by rw [hlen]; omega) (by omega) (by omega) h6 (by simpa using h7)
            rw [hlen] at this
            exact this
          · rw [orbGo, if_pos h6, h7, Bool.true_or, if_pos rfl]
            exact Ev.pos rfl (Ev.const _)
theorem Orbit_f {m : Int} {t p : List Int} (hR : RuleIs m t p) (n steps : Int) (hn : smallB n = true) (hs : 0 ≤ steps ∧ steps ≤ 500) : Ev (fun k => remouldref06_Orbit.f k m t p n steps) (orbRes (orbGo m t p steps 502 [] n)) :=
  orbit_l0 hR steps hs.2 500 502 [] n (by simp; omega) (by omega) (by simp) hn (by simp)
theorem orbGo_length (m : Int) (t p : List Int) (steps : Int) : ∀ f (pre : List Int) (y : Int) (l : List Int), orbGo m t p steps f pre y = some l → l.length ≤ pre.length + f := by
  intro f
  induction f with
  | zero => intro pre y l h; simp [orbGo] at h
  | succ f ih =>
    intro pre y l h
    rw [orbGo] at h
    split at h
    · split at h
      · cases h; simp
      · have := ih _ _ _ h; simp at this; omega
    · cases h
end Go.Proofs.Ytkjojcepombhpaa.L
