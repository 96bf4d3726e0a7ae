/- Plain law: orbit and cycle of a number together; courses. -/
import Derived.Test.YtkjojcepombhpaaN4
namespace Go.Proofs.Ytkjojcepombhpaa.L
set_option linter.unusedVariables false
set_option linter.unusedSimpArgs false
open Go.RowKit Go.Proofs.YtkjojcepombhpaaW.PrintWords Go.Proofs.YtkjojcepombhpaaW.PrintLast Go.Proofs.YtkjojcepombhpaaW.PrintMore

variable {m : Int} {t p : List Int}
/-- What Cycle and Orbit say of a number, each in three cases. -/
inductive Ends (m : Int) (t p : List Int) (x steps : Int) (cy : List Int × Int × Int) (o : Option (List Int)) : Prop
  | full : cy = ([], 0, 5) → o = none → Ends m t p x steps cy o
  | none : cy = ([], 0, 6) → o = some (orbTo m t p x (steps.toNat + 1)) → (orbTo m t p x (steps.toNat + 1)).Nodup → (∀ i, i < steps.toNat + 1 → smallB (iterW m t p i x) = true) → Ends m t p x steps cy o
  | cycle (N j : Nat) : Found m t p x steps N j → cy = (writtenL ((orbTo m t p x N).drop j), (j : Int), 0) → o = some (orbTo m t p x (N + 1)) → Ends m t p x steps cy o
theorem ends_go (x steps : Int) (h0 : 0 ≤ steps) : ∀ d n f g : Nat, steps = (n : Int) + d → d + 2 ≤ f → d + 2 ≤ g → (orbTo m t p x n).Nodup → (∀ i, i < n → smallB (iterW m t p i x) = true) →
    Ends m t p x steps (cycGo m t p steps f (orbTo m t p x n) (iterW m t p n x)) (orbGo m t p steps g (orbTo m t p x n) (iterW m t p n x)) := by
  intro d
  induction d with
  | zero =>
    intro n f g hd hf hg hn hs
    obtain ⟨f, rfl⟩ : ∃ f', f = f' + 1 + 1 := ⟨f - 2, by omega⟩
    obtain ⟨g, rfl⟩ : ∃ g', g = g' + 1 := ⟨g - 1, by omega⟩
    rw [cycGo, orbGo, if_neg (by rw [orbTo_length]; omega)]
    cases h1 : smallB (iterW m t p n x)
    · exact .full (if_neg (by decide)) (if_neg (by decide))
    · rw [if_pos rfl, if_pos rfl, if_pos (by rw [orbTo_length, decide_eq_true (by omega)]; simp), ← orbTo_succ]
      cases h2 : posOf (orbTo m t p x n) (iterW m t p n x) with
      | none =>
        have hno := posOf_none h2
        have e : steps.toNat = n := by omega
        refine .none ?_ (by rw [e]) ?_ ?_
        · rw [cycGo, if_pos (by rw [orbTo_length]; omega)]
        · rw [e, orbTo_succ, List.nodup_append]
          exact ⟨hn, by simp, fun a ha b hb => by rw [List.mem_singleton] at hb; subst hb; intro e; subst e; exact hno ha⟩
        · intro i hi
          by_cases e2 : i = n
          · rw [e2]; exact h1
          · exact hs i (by omega)
      | some k =>
        obtain ⟨_, _, j, rfl, h3, h4⟩ := posOf_some h2
        rw [orbTo_length] at h3
        rw [orbTo_get x n j h3] at h4
        exact .cycle n j ⟨hn, hs, h3, (Option.some.inj h4).symm, by omega⟩ rfl rfl
  | succ d ih =>
    intro n f g hd hf hg hn hs
    obtain ⟨f, rfl⟩ : ∃ f', f = f' + 1 := ⟨f - 1, by omega⟩
    obtain ⟨g, rfl⟩ : ∃ g', g = g' + 1 := ⟨g - 1, by omega⟩
    rw [cycGo, orbGo, if_neg (by rw [orbTo_length]; omega)]
    cases h1 : smallB (iterW m t p n x)
    · exact .full (if_neg (by decide)) (if_neg (by decide))
    · rw [if_pos rfl, if_pos rfl]
      cases h2 : posOf (orbTo m t p x n) (iterW m t p n x) with
      | none =>
        have hno := posOf_none h2
        rw [if_neg, ← orbTo_succ, ← iterW_succ]
        · refine ih (n + 1) f g (by omega) (by omega) (by omega) ?_ ?_
          · rw [orbTo_succ, List.nodup_append]
            exact ⟨hn, by simp, fun a ha b hb => by rw [List.mem_singleton] at hb; subst hb; intro e; subst e; exact hno ha⟩
          · intro i hi
            by_cases e2 : i = n
            · rw [e2]; exact h1
            · exact hs i (by omega)
        · rw [Bool.or_eq_true, not_or]
          exact ⟨fun hc => hno (List.contains_iff_mem.1 hc), by rw [orbTo_length]; simp; omega⟩
      | some k =>
        obtain ⟨_, _, j, rfl, h3, h4⟩ := posOf_some h2
        rw [orbTo_length] at h3
        rw [if_pos, ← orbTo_succ]
        · have h5 := h4
          rw [orbTo_get x n j h3] at h5
          exact .cycle n j ⟨hn, hs, h3, (Option.some.inj h5).symm, by omega⟩ rfl rfl
        · rw [List.contains_iff_mem.2 (List.mem_of_getElem? h4)]
          rfl
theorem ends (x steps : Int) (h0 : 0 ≤ steps) (h5 : steps ≤ 500) : Ends m t p x steps (cycleW m t p x steps) (orbGo m t p steps 502 [] x) :=
  ends_go x steps h0 steps.toNat 0 503 502 (by omega) (by omega) (by omega) (by simp [orbTo]) (by omega)
end Go.Proofs.Ytkjojcepombhpaa.L
