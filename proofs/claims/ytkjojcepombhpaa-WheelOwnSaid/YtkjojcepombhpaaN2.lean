/- Plain law: the reference's Cycle. -/
import Derived.Test.YtkjojcepombhpaaN0
import Derived.Test.YtkjojcepombhpaaN4
import Derived.Test.YtkjojcepombhpaaL7c
namespace Go.Proofs.Ytkjojcepombhpaa.L
set_option linter.unusedVariables false
set_option linter.unusedSimpArgs false
open Go.RowKit Go.Proofs.YtkjojcepombhpaaW.PrintWords Go.Proofs.YtkjojcepombhpaaW.PrintLast Go.Proofs.YtkjojcepombhpaaW.PrintMore

/-- The first one of the smallest. -/
theorem minAt_unique (l : List Int) (a : Nat) (ha : a < l.length) (h1 : ∀ j, j < l.length → rd l (a : Int) ≤ rd l (j : Int)) (h2 : ∀ j, j < a → rd l (a : Int) < rd l (j : Int)) : a = minAt l := by
  obtain ⟨m1, m2, m3⟩ := minAt_spec l (by omega)
  have e : rd l (a : Int) = minL l := by
    have := minL_le l a ha
    have := h1 _ m1
    omega
  rcases Nat.lt_trichotomy a (minAt l) with h | h | h
  · exact absurd e (m3 a h)
  · exact h
  · have := h2 _ h
    omega
theorem turned_l0 (l : List Int) (hl : l.length ≤ 100000) (h0 : 0 < l.length) : ∀ d i a : Nat, i + d = l.length → a < l.length → (a < i ∨ (a = 0 ∧ i = 0)) → (∀ j, j < i → rd l (a : Int) ≤ rd l (j : Int)) → (∀ j, j < a → rd l (a : Int) < rd l (j : Int)) → Ev (fun k => remouldref06_turned.l0 k l (a : Int) (i : Int)) (writtenL l) := by
  intro d
  induction d with
  | zero =>
    intro i a hi ha hai h1 h2
    have e := minAt_unique l a ha (fun j hj => h1 j (by omega)) h2
    refine Ev.step (h := fun _ => some (writtenL l)) (fun k => ?_) (Ev.const _)
    rw [remouldref06_turned.l0, if_neg (by omega), if_pos (by omega), if_pos (by omega), if_pos (by simp; omega), Option.bind_some, if_pos (by simp; omega)]
    rw [Int.toNat_natCast, e]
    rfl
  | succ d ih =>
    intro i a hi ha hai h1 h2
    have ew : wrap64 ((i : Int) + 1) = ((i + 1 : Nat) : Int) := by rw [wrap64_id _ (by omega) (by omega)]; rfl
    by_cases hlt : rd l (i : Int) < rd l (a : Int)
    · refine Ev.step (fun k => by rw [remouldref06_turned.l0, if_pos (by omega), if_pos (by omega), if_pos (by omega), if_pos (by omega), if_pos hlt, ew]) (ih (i + 1) i (by omega) (by omega) (.inl (by omega)) ?_ ?_)
      · intro j hj
        by_cases e : j = i
        · rw [e]; omega
        · have := h1 j (by omega); omega
      · intro j hj
        have := h1 j hj
        omega
    · refine Ev.step (fun k => by rw [remouldref06_turned.l0, if_pos (by omega), if_pos (by omega), if_pos (by omega), if_pos (by omega), if_neg hlt, ew]) (ih (i + 1) a (by omega) ha (.inl (by omega)) ?_ h2)
      intro j hj
      by_cases e : j = i
      · rw [e]; omega
      · exact h1 j (by omega)
theorem turned_f (l : List Int) (hl : l.length ≤ 100000) (h0 : 0 < l.length) : Ev (fun k => remouldref06_turned.f k l) (writtenL l) :=
  turned_l0 l hl h0 l.length 0 0 (by omega) h0 (.inr ⟨rfl, rfl⟩) (by omega) (by omega)

theorem cycle_l1 (m : Int) (t p : List Int) (y steps : Int) (out : List Int) (j : Int) (hl : out.length ≤ 100000) (r : List Int × Int × Int)
    (hno : posOf out y = none → Ev (fun k => remouldref06_Cycle.l0 k y steps (out ++ [y]) (wrap64 (j + 1)) m t p) r) (hyes : ∀ k, posOf out y = some k → r = (writtenL (out.drop k.toNat), k, 0)) :
    ∀ d i : Nat, i + d = out.length → y ∉ out.take i → Ev (fun k => remouldref06_Cycle.l1 k y steps out j (i : Int) m t p) r := by
  intro d
  induction d with
  | zero =>
    intro i hi hn
    rw [List.take_of_length_le (by omega)] at hn
    have hp : posOf out y = none := by unfold posOf; rw [if_neg hn]
    exact Ev.step (fun k => by rw [remouldref06_Cycle.l1, if_neg (by omega), if_pos (by omega)]) (hno hp)
  | succ d ih =>
    intro i hi hn
    have ew : wrap64 ((i : Int) + 1) = ((i + 1 : Nat) : Int) := by rw [wrap64_id _ (by omega) (by omega)]; rfl
    have ho : rd out (i : Int) = out[i] := by simp [rd, List.getElem?_eq_getElem (show i < out.length by omega)]
    by_cases he : rd out (i : Int) = y
    · have hidx : out.idxOf y = i := by
        have e1 : out = out.take i ++ out[i] :: out.drop (i + 1) := by rw [List.getElem_cons_drop (by omega), List.take_append_drop]
        have : (out.take i ++ out[i] :: out.drop (i + 1)).idxOf y = i := by
          rw [List.idxOf_append, if_neg hn, ← ho, he]
          simp
          omega
        rwa [← e1] at this
      have hp : posOf out y = some (i : Int) := by
        unfold posOf
        rw [if_pos (by rw [← he, ho]; exact List.getElem_mem _), hidx]
      have hr := hyes _ hp
      refine Ev.step (fun k => by rw [remouldref06_Cycle.l1, if_pos (by omega), if_pos (by omega), if_pos he, if_pos (by omega)]) ?_
      rw [hr, Int.toNat_natCast]
      exact Ev.bind (turned_f _ (by simp; omega) (by simp; omega)) (Ev.const _)
    · refine Ev.step (fun k => by rw [remouldref06_Cycle.l1, if_pos (by omega), if_pos (by omega), if_neg he, ew]) (ih (i + 1) (by omega) ?_)
      rw [List.take_succ_eq_append_getElem (by omega), List.mem_append, List.mem_singleton]
      rintro (h | h)
      · exact hn h
      · exact he (by rw [ho, h])
theorem cycle_l0 {m : Int} {t p : List Int} (hR : RuleIs m t p) (steps : Int) (hs : steps ≤ 500) : ∀ d f : Nat, ∀ (pre : List Int) (y : Int), steps ≤ (pre.length : Int) + d → (pre.length : Int) ≤ steps → d + 1 < f → pre.length ≤ 1000 → smallB y = true → y ∉ pre →
    Ev (fun k => remouldref06_Cycle.l0 k y steps (pre ++ [y]) (pre.length : Int) m t p) (cycGo m t p steps f pre y) := by
  have hstart : ∀ f (pre : List Int) (y : Int), (pre.length : Int) ≤ steps → smallB y = true → y ∉ pre → cycGo m t p steps (f + 1) pre y = cycGo m t p steps f (pre ++ [y]) (sentW m t p y) := by
    intro f pre y h1 h2 h3
    have hp : posOf pre y = none := by unfold posOf; rw [if_neg h3]
    rw [cycGo, if_neg (by omega), if_pos h2, hp]
  intro d
  induction d with
  | zero =>
    intro f pre y h1 h1' h2 h3 h4 h5
    obtain ⟨f, rfl⟩ : ∃ g, f = g + 1 + 1 := ⟨f - 2, by omega⟩
    rw [hstart _ _ _ h1' h4 h5, cycGo, if_pos (by simp; omega)]
    exact Ev.step (h := fun _ => some (([] : List Int), 0, 6)) (fun k => by rw [remouldref06_Cycle.l0, if_neg (by omega)]) (Ev.const _)
  | succ d ih =>
    intro f pre y h1 h1' h2 h3 h4 h5
    obtain ⟨f, rfl⟩ : ∃ g, f = g + 1 + 1 := ⟨f - 2, by omega⟩
    rw [hstart _ _ _ h1' h4 h5]
    have hlen : (pre ++ [y]).length = pre.length + 1 := by simp
    by_cases hst : steps < (pre.length : Int) + 1
    · rw [cycGo, if_pos (by rw [hlen]; omega)]
      exact Ev.step (h := fun _ => some (([] : List Int), 0, 6)) (fun k => by rw [remouldref06_Cycle.l0, if_neg (by omega)]) (Ev.const _)
    · have hm := small_mid h4
      refine Ev.step (fun k => by rw [remouldref06_Cycle.l0, if_pos (by omega)]) (Ev.bind (Ev.of (Send_f hR y hm)) (Ev.bind (Ev.of (large_f _)) ?_))
      obtain ⟨z, hz⟩ : ∃ z, sentW m t p y = z := ⟨_, rfl⟩
      rw [hz]
      cases h6 : smallB z
      · rw [cycGo, if_neg (by rw [hlen]; omega), h6, if_neg (by decide)]
        exact Ev.pos rfl (Ev.const _)
      · refine Ev.neg (by decide) ?_
        refine cycle_l1 m t p z steps (pre ++ [y]) (pre.length : Int) (by omega) _ (fun hp => ?_) (fun k hp => ?_) (pre ++ [y]).length 0 (by omega) (by simp)
        · rw [wrap64_id _ (by omega) (by omega)]
          have hz2 : z ∉ pre ++ [y] := posOf_none hp
          have := ih (f + 1) (pre ++ [y]) z (by rw [hlen]; omega) (by rw [hlen]; omega) (by omega) (by omega) h6 hz2
          rw [hlen] at this
          exact this
        · rw [cycGo, if_neg (by rw [hlen]; omega), if_pos h6, hp]
theorem Cycle_f {m : Int} {t p : List Int} (hR : RuleIs m t p) (n steps : Int) (hn : smallB n = true) (hs : 0 ≤ steps ∧ steps ≤ 500) : Ev (fun k => remouldref06_Cycle.f k m t p n steps) (cycleW m t p n steps) :=
  cycle_l0 hR steps hs.2 500 503 [] n (by simp; omega) (by simp; omega) (by omega) (by simp) hn (by simp)
theorem cycGo_length (m : Int) (t p : List Int) (steps : Int) : ∀ f (pre : List Int) (y : Int), (cycGo m t p steps f pre y).1.length ≤ pre.length + f := by
  intro f
  induction f with
  | zero => intro pre y; simp [cycGo]
  | succ f ih =>
    intro pre y
    rw [cycGo]
    split
    · simp
    · split
      · split
        · rename_i k hk
          simp only
          rw [writtenL_length, List.length_drop]
          omega
        · have := ih (pre ++ [y]) (sentW m t p y)
          simp at this
          omega
      · simp
end Go.Proofs.Ytkjojcepombhpaa.L
