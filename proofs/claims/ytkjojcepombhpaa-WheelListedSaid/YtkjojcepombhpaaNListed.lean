/- Plain law: the law WheelListed. -/
import Derived.Test.YtkjojcepombhpaaN6
import Derived.Test.YtkjojcepombhpaaN8
import Derived.Test.YtkjojcepombhpaaL33
namespace Go.Proofs.Ytkjojcepombhpaa.L
set_option linter.unusedVariables false
set_option linter.unusedSimpArgs false
open Go.RowKit Go.Proofs.YtkjojcepombhpaaW.PrintWords Go.Proofs.YtkjojcepombhpaaW.PrintLast Go.Proofs.YtkjojcepombhpaaW.PrintMore

theorem suc64 (i : Nat) (h : i ≤ 1000000) : wrap64 ((i : Int) + 1) = ((i + 1 : Nat) : Int) := by rw [wrap64_id _ (by omega) (by omega)]; rfl
section
variable {m : Int} {t p : List Int}
/-- A cycle that is found, from its smallest number on. -/
theorem row_is {x steps : Int} (h : (cycleW m t p x steps).2.2 = 0) : ∃ K : Nat, IsWhole m t p K (hd (cycleW m t p x steps).1) ∧ (cycleW m t p x steps).1 = orbTo m t p (hd (cycleW m t p x steps).1) K ∧ (K : Int) ≤ steps := by
  obtain ⟨cy, at', e⟩ : ∃ cy at', cycleW m t p x steps = (cy, at', 0) := ⟨(cycleW m t p x steps).1, (cycleW m t p x steps).2.1, by rw [← h]⟩
  rw [e]
  obtain ⟨n, j, hf, rfl, hcy⟩ := cycleW_found e
  have hc := hf.cyc
  have hlt := hf.lt
  have hle := hf.le
  rw [orbTo_drop] at hcy
  obtain ⟨a, ha, _, hw, hm⟩ := written_orb hc
  rw [hw] at hcy
  have e2 : hd cy = iterW m t p a (iterW m t p j x) := by rw [hcy]; exact orbTo_rd0 _ _ (by omega)
  refine ⟨n - j, ?_, ?_, by omega⟩
  · show IsWhole m t p (n - j) (hd cy)
    rw [e2]
    refine ⟨hc.turn a, fun i => ?_⟩
    rw [← iterW_add (m := m) (t := t) (p := p) i a (iterW m t p j x)]
    exact hm (i + a)
  · show cy = orbTo m t p (hd cy) (n - j)
    rw [e2]
    exact hcy
theorem whole_same {y : Int} {K1 K2 : Nat} (h1 : IsWhole m t p K1 y) (h2 : IsWhole m t p K2 y) : K1 = K2 := by
  have key : ∀ {A B : Nat}, IsWhole m t p A y → IsWhole m t p B y → ¬ A < B := by
    intro A B ha hb hlt
    have hp := ha.1.pos
    have := hb.1.inj (a := 0) (b := A) (by omega) hlt (by rw [ha.1.back]; rfl)
    omega
  have := key h1 h2
  have := key h2 h1
  omega
theorem cycGo_code (steps : Int) : ∀ f (pre : List Int) (y : Int), (cycGo m t p steps f pre y).2.2 = 0 ∨ (cycGo m t p steps f pre y).2.2 = 5 ∨ (cycGo m t p steps f pre y).2.2 = 6 := by
  intro f
  induction f with
  | zero => intro pre y; simp [cycGo]
  | succ f ih =>
    intro pre y
    rw [cycGo]
    split
    · simp
    · split
      · split
        · simp
        · exact ih _ _
      · simp
/-- The cycle of every number of the range is among the rows. -/
theorem cycRows_has (steps lo : Int) (k : Nat) : ∀ i, i < k → (cycleW m t p (lo + (i : Nat)) steps).2.2 = 0 → (cycleW m t p (lo + (i : Nat)) steps).1 ∈ cycRows m t p steps lo k := by
  induction k with
  | zero => intro i hi; omega
  | succ k ih =>
    intro i hi h0
    rw [cycRows, cycStep]
    by_cases e : i = k
    · subst e
      split
      · simp
      · rename_i h
        have hm : hd (cycleW m t p (lo + (i : Nat)) steps).1 ∈ (cycRows m t p steps lo i).map hd := by
          by_cases hm : hd (cycleW m t p (lo + (i : Nat)) steps).1 ∈ (cycRows m t p steps lo i).map hd
          · exact hm
          · exact absurd ⟨h0, hm⟩ h
        obtain ⟨r, hr, he⟩ := List.mem_map.1 hm
        obtain ⟨i', _, e1, e2⟩ := cycRows_row _ _ _ r hr
        obtain ⟨K1, a1, a2, _⟩ := row_is e2
        obtain ⟨K2, b1, b2, _⟩ := row_is h0
        rw [← e1] at a1 a2
        rw [he] at a1 a2
        have hK := whole_same a1 b1
        rw [b2, ← hK, ← a2]
        exact hr
    · have := ih i (by omega) h0
      split
      · exact List.mem_append_left _ this
      · exact this
end

section
variable {L : List (List Int)}
theorem li_l1 (hL : L.length ≤ 1000) (hr : ∀ r ∈ L, r.length ≤ 1000) (c : List Int) : ∀ d i : Nat, ∀ b : Bool, i + d = L.length → (b = true ∨ ∃ j, i ≤ j ∧ ∃ h : j < L.length, L[j] = c) → Ev (fun k => remouldlaw06_WheelListed.l1 k L c b (i : Int)) true := by
  intro d
  induction d with
  | zero =>
    intro i b hi hb
    rcases hb with rfl | ⟨j, h1, h2, _⟩
    · exact Ev.step (fun k => by rw [remouldlaw06_WheelListed.l1, if_neg (by omega), if_pos rfl]) awake_t
    · omega
  | succ d ih =>
    intro i b hi hb
    cases b with
    | true => exact Ev.step (fun k => by rw [remouldlaw06_WheelListed.l1, if_pos (by omega), if_pos rfl, suc64 _ (by omega)]) (ih (i + 1) true (by omega) (.inl rfl))
    | false =>
      have hg : rd_L1 L (i : Int) = L[i]'(by omega) := by simp [rd_L1, show i < L.length by omega]
      have hlen : (rd_L1 L (i : Int)).length ≤ 1000000 := by
        rw [hg]
        have := hr _ (List.getElem_mem (show i < L.length by omega))
        omega
      refine Ev.step (fun k => by rw [remouldlaw06_WheelListed.l1, if_pos (by omega), if_neg (by decide), if_pos (by omega)]) (Ev.bind (ints_f _ c hlen) ?_)
      rw [suc64 _ (by omega)]
      refine ih (i + 1) _ (by omega) ?_
      rcases hb with h | ⟨j, h1, h2, h3⟩
      · cases h
      · by_cases e : j = i
        · subst e
          left
          rw [hg, h3]
          simp
        · exact .inr ⟨j, by omega, h2, h3⟩
theorem li_l0 {m : Int} {t p : List Int} (hR : RuleIs m t p) {low wide steps : Int} (hst : 0 ≤ steps ∧ steps ≤ 500) (hL : L.length ≤ 1000) (hrow : ∀ r ∈ L, ∃ K : Nat, IsWhole m t p K (hd r) ∧ r = orbTo m t p (hd r) K ∧ (K : Int) ≤ steps) (hs : L.Pairwise fun a b => hd a < hd b)
    (hnext : Ev (fun k => remouldlaw06_WheelListed.l0 k low wide steps L (L.length : Int) m t p) true) :
    ∀ d i : Nat, i + d = L.length → Ev (fun k => remouldlaw06_WheelListed.l0 k low wide steps L (i : Int) m t p) true := by
  intro d
  induction d with
  | zero =>
    intro i hi
    obtain rfl : i = L.length := by omega
    exact hnext
  | succ d ih =>
    intro i hi
    have hlt : i < L.length := by omega
    have hg : rd_L1 L (i : Int) = L[i] := by simp [rd_L1, hlt]
    obtain ⟨K, hW, hrw, hK⟩ := hrow _ (List.getElem_mem hlt)
    rw [← hg] at hW hrw
    have hp := hW.1.pos
    have hlen : (rd_L1 L (i : Int)).length = K := by rw [hrw, orbTo_length]
    have hj : Ev (fun k => remouldlaw06_WheelListed.j1 k low wide steps L (i : Int) false m t p) true := by
      have hcy : wheel_Cycle.f m t p (rd (rd_L1 L (i : Int)) 0) ((rd_L1 L (i : Int)).length : Int) = some (rd_L1 L (i : Int), 0, 0) := by
        rw [wheel_Cycle.f, ruleB_of hR, show smallB (rd (rd_L1 L (i : Int)) 0) = true from hW.1.small 0, show inB ((rd_L1 L (i : Int)).length : Int) 0 500 = true by simp [inB]; omega]
        have := whole_cycle hW (Int.le_refl _) (by omega)
        rw [← hlen] at this
        rw [hlen, ← hrw] at this
        rw [hlen]
        exact congrArg some this
      refine Ev.step (fun k => by rw [remouldlaw06_WheelListed.j1, if_neg (by decide), if_pos (by omega), if_pos (by omega), if_pos (by omega), hcy, Option.bind_some, if_pos rfl, if_pos rfl]) (Ev.bind (ints_f (rd_L1 L (i : Int)) (rd_L1 L (i : Int)) (by omega)) (Ev.pos (show decide (rd_L1 L (i : Int) = rd_L1 L (i : Int)) = true by simp) ?_))
      rw [suc64 _ (by omega)]
      exact ih (i + 1) (by omega)
    by_cases h0 : i = 0
    · subst h0
      exact Ev.step (fun k => by rw [remouldlaw06_WheelListed.l0, if_pos (by omega), if_pos (by omega), if_neg (by omega), if_neg (by omega), if_neg (by omega)]) hj
    · have hlt2 : i - 1 < L.length := by omega
      have e1 : wrap64 ((i : Int) - 1) = ((i - 1 : Nat) : Int) := by rw [wrap64_id _ (by omega) (by omega)]; omega
      have hg2 : rd_L1 L ((i - 1 : Nat) : Int) = L[i - 1] := by simp [rd_L1, hlt2]
      obtain ⟨K2, hW2, hrw2, _⟩ := hrow _ (List.getElem_mem hlt2)
      rw [← hg2] at hW2 hrw2
      have hp2 := hW2.1.pos
      have hlen2 : (rd_L1 L ((i - 1 : Nat) : Int)).length = K2 := by rw [hrw2, orbTo_length]
      have hord := (List.pairwise_iff_getElem.1 hs) (i - 1) i hlt2 hlt (by omega)
      rw [← hg, ← hg2] at hord
      have hdec : decide ((rd (rd_L1 L ((i - 1 : Nat) : Int)) 0) ≥ (rd (rd_L1 L (i : Int)) 0)) = false := by
        rw [decide_eq_false_iff_not]
        show ¬ (hd (rd_L1 L ((i - 1 : Nat) : Int)) ≥ hd (rd_L1 L (i : Int)))
        omega
      refine Ev.step (fun k => by rw [remouldlaw06_WheelListed.l0, if_pos (by omega), if_pos (by omega), if_neg (by omega), if_neg (by omega), if_pos (by omega), e1, if_pos (by omega), if_pos (by omega), if_pos (by omega), if_pos (by omega), hdec]) hj
end

theorem pureListed : remouldlaw06_WheelListed.Pure := by
  intro a0 l1 l2 a3 a4 a5 _ _ _ _ _ _ _ _ _ _
  obtain ⟨m, T, P, ht, hR⟩ := tame_f a0 l1 l2
  apply Ev.get
  unfold remouldlaw06_WheelListed.f
  refine Ev.bind ht ?_
  have hq := modW_in a3 4000 (by decide)
  have hw := modW_in a4 40 (by decide)
  have hs := modW_in a5 60 (by decide)
  refine Ev.bind (Ev.of (mod_f a3 4000 (by decide) (by decide))) (Ev.bind (Ev.of (mod_f a4 40 (by decide) (by decide))) (Ev.bind (Ev.of (mod_f a5 60 (by decide) (by decide))) ?_))
  generalize modW a3 4000 = q at hq
  generalize modW a4 40 = wide at hw
  generalize modW a5 60 = steps at hs
  rw [wrap64_id (q - 2000) (by omega) (by omega), wrap64_id (q - 2000 + wide) (by omega) (by omega)]
  obtain ⟨lo, hlo⟩ : ∃ lo, lo = q - 2000 := ⟨_, rfl⟩
  rw [← hlo]
  have hst : 0 ≤ steps ∧ steps ≤ 500 := by omega
  have hC : wheel_Cycles.f m T P lo (lo + wide) steps = some (cyclesW m T P lo (lo + wide) steps, 0) := by
    rw [wheel_Cycles.f, ruleB_of hR, (small_iff lo).2 (by omega), (small_iff (lo + wide)).2 (by omega), wrap64_id _ (by omega) (by omega), show inB (lo + wide - lo) 0 500 = true by simp [inB]; omega, show inB steps 0 500 = true by simp [inB]; omega]
    rfl
  refine Ev.bind (Ev.of hC) (Ev.pos rfl ?_)
  have hK : (lo + wide - lo + 1).toNat = wide.toNat + 1 := by omega
  have hlen : (cyclesW m T P lo (lo + wide) steps).length ≤ 1000 := by
    unfold cyclesW
    rw [(sortRows_perm _).length_eq]
    have := cycRows_length (m := m) (t := T) (p := P) steps lo (lo + wide - lo + 1).toNat
    omega
  have hsrt : (cyclesW m T P lo (lo + wide) steps).Pairwise fun a b => hd a < hd b := sortRows_sorted _ (cycRows_nodup _ _ _)
  have hrow : ∀ r ∈ cyclesW m T P lo (lo + wide) steps, ∃ K : Nat, IsWhole m T P K (hd r) ∧ r = orbTo m T P (hd r) K ∧ (K : Int) ≤ steps := by
    intro r hr
    obtain ⟨i, _, e, e0⟩ := cycRows_row _ _ _ r ((sortRows_perm _).mem_iff.1 hr)
    rw [e]
    exact row_is e0
  have hrl : ∀ r ∈ cyclesW m T P lo (lo + wide) steps, r.length ≤ 1000 := by
    intro r hr
    obtain ⟨K, _, e, h3⟩ := hrow r hr
    rw [e, orbTo_length]
    omega
  have hmid : ∀ (n : Int), 0 ≤ n → n ≤ wide → (cycleW m T P (lo + n) steps).2.2 = 0 → (cycleW m T P (lo + n) steps).1 ∈ cyclesW m T P lo (lo + wide) steps := by
    intro n h1 h2 h3
    unfold cyclesW
    rw [(sortRows_perm _).mem_iff, hK]
    have e : ((n.toNat : Nat) : Int) = n := by omega
    have := cycRows_has (m := m) (t := T) (p := P) steps lo (wide.toNat + 1) n.toNat (by omega)
    rw [e] at this
    exact this h3
  generalize cyclesW m T P lo (lo + wide) steps = L at *
  refine li_l0 hR hst hlen hrow hsrt ?_ _ 0 (Nat.zero_add _)
  have hdiv : Int.tdiv wide 2 = wide / 2 := Int.tdiv_eq_ediv_of_nonneg hw.1
  have hd1 : 0 ≤ wide / 2 ∧ wide / 2 ≤ wide := by omega
  have hm2 := hmid (wide / 2) hd1.1 hd1.2
  have hcy : wheel_Cycle.f m T P (wrap64 (lo + wrap64 (Int.tdiv wide 2))) steps = some (cycleW m T P (lo + wide / 2) steps) := by
    rw [hdiv, wrap64_id (wide / 2) (by omega) (by omega), wrap64_id _ (by omega) (by omega), wheel_Cycle.f, ruleB_of hR, (small_iff _).2 (by omega), show inB steps 0 500 = true by simp [inB]; omega]
    rfl
  refine Ev.step (fun k => by rw [remouldlaw06_WheelListed.l0, if_neg (by omega), hcy, Option.bind_some]) ?_
  by_cases h0 : (cycleW m T P (lo + wide / 2) steps).2.2 = 0
  · refine Ev.pos h0 ?_
    obtain ⟨j, hj, hj2⟩ := List.mem_iff_getElem.1 (hm2 h0)
    exact li_l1 hlen hrl _ L.length 0 false (Nat.zero_add _) (.inr ⟨j, Nat.zero_le _, hj, hj2⟩)
  · refine Ev.neg h0 ?_
    by_cases h5 : (cycleW m T P (lo + wide / 2) steps).2.2 = 5
    · exact Ev.pos h5 awake_t
    · refine Ev.neg h5 (Ev.pos ?_ awake_t)
      rcases cycGo_code (m := m) (t := T) (p := P) steps 503 [] (lo + wide / 2) with h | h | h
      · exact absurd h h0
      · exact absurd h h5
      · exact h
end Go.Proofs.Ytkjojcepombhpaa.L
