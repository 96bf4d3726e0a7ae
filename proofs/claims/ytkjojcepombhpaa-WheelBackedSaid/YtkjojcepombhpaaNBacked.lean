/- Plain law: the law WheelBacked. -/
import Derived.Test.YtkjojcepombhpaaN11
import Derived.Test.YtkjojcepombhpaaN8
import Derived.Test.YtkjojcepombhpaaL29
namespace Go.Proofs.Ytkjojcepombhpaa.L
set_option linter.unusedVariables false
set_option linter.unusedSimpArgs false
open Go.RowKit Go.Proofs.YtkjojcepombhpaaW.PrintWords Go.Proofs.YtkjojcepombhpaaW.PrintLast Go.Proofs.YtkjojcepombhpaaW.PrintMore

variable {m : Int} {t p : List Int}
theorem sorted_get {l : List Int} (h : l.Pairwise (· < ·)) {i j : Nat} (hij : i < j) (hj : j < l.length) : rd l (i : Int) < rd l (j : Int) := by
  rw [rd_get' l i (by omega), rd_get' l j hj]
  exact List.pairwise_iff_getElem.1 h i j (by omega) hj hij
theorem backed_l1 (hR : RuleIs m t p) (n y : Int) (l : List Int) (hl : l.length ≤ 6) (hs : l.Pairwise (· < ·)) (hy : ∀ z ∈ l, sentW m t p z = y) (i : Nat) (hi : i < l.length) (fnd : Bool)
    (next : Ev (fun k => remouldlaw06_WheelBacked.l0 k n y l (fnd || (rd l (i : Int) == n)) ((i + 1 : Nat) : Int) m t p) true) :
    ∀ d j : Nat, j + d = i → Ev (fun k => remouldlaw06_WheelBacked.l1 k n y l fnd (i : Int) (j : Int) m t p) true := by
  intro d
  induction d with
  | zero =>
    intro j hj
    have ew : wrap64 ((i : Int) + 1) = ((i + 1 : Nat) : Int) := by rw [wrap64_id _ (by omega) (by omega)]; rfl
    cases fnd
    · exact Ev.step (fun k => by rw [remouldlaw06_WheelBacked.l1, if_neg (by omega), if_neg (by decide), if_pos (by omega), if_pos (by omega), ew]; rfl) next
    · exact Ev.step (fun k => by rw [remouldlaw06_WheelBacked.l1, if_neg (by omega), if_pos rfl, ew]; rfl) next
  | succ d ih =>
    intro j hj
    have ih := ih (j + 1) (by omega)
    have ew : wrap64 ((j : Int) + 1) = ((j + 1 : Nat) : Int) := by rw [wrap64_id _ (by omega) (by omega)]; rfl
    have hne : ¬ rd l (i : Int) % m = rd l (j : Int) % m := by
      intro e
      have e1 := hy (rd l (i : Int)) (by rw [rd_get' l i hi]; exact List.getElem_mem _)
      have e2 := hy (rd l (j : Int)) (by rw [rd_get' l j (by omega)]; exact List.getElem_mem _)
      have := back_inj hR (e1.trans e2.symm) e
      have := sorted_get hs (show j < i by omega) hi
      omega
    refine Ev.step (fun k => by rw [remouldlaw06_WheelBacked.l1, if_pos (by omega), if_pos (by omega), if_pos (by omega)]) (Ev.bind (Ev.of (Rest_f hR _)) ?_)
    refine Ev.pos (by omega) (Ev.pos (by omega) (Ev.bind (Ev.of (Rest_f hR _)) (Ev.neg hne ?_)))
    rw [ew]
    exact ih
theorem take_contains' (out : List Int) (y : Int) (i : Nat) (hi : i < out.length) : (out.take (i + 1)).contains y = ((out.take i).contains y || (rd out (i : Int) == y)) := by
  have ho := rd_get' out i hi
  rw [List.take_succ_eq_append_getElem hi, ho, List.contains_eq_mem, List.contains_eq_mem]
  cases h : (out[i] == y)
  · rw [Bool.or_false]
    have : out[i] ≠ y := by simpa using h
    refine decide_eq_decide.2 ?_
    rw [List.mem_append, List.mem_singleton]
    exact ⟨fun h => h.resolve_right (fun e => this e.symm), .inl⟩
  · have : out[i] = y := by simpa using h
    rw [Bool.or_true, decide_eq_true_eq, List.mem_append, List.mem_singleton]
    exact .inr this.symm
theorem backed_l0 (hR : RuleIs m t p) (n y : Int) (hsy : smallB y = true) (l : List Int) (hl : l.length ≤ 6) (hs : l.Pairwise (· < ·)) (hy : ∀ z ∈ l, sentW m t p z = y) (hsm : ∀ z ∈ l, smallB z = true) (hn : n ∈ l) :
    ∀ d i : Nat, i + d = l.length → Ev (fun k => remouldlaw06_WheelBacked.l0 k n y l ((l.take i).contains n) (i : Int) m t p) true := by
  intro d
  induction d with
  | zero =>
    intro i hi
    have e : (l.take i).contains n = true := by rw [List.take_of_length_le (by omega)]; exact List.contains_iff_mem.2 hn
    rw [e]
    exact Ev.step (fun k => by rw [remouldlaw06_WheelBacked.l0, if_neg (by omega), if_pos rfl]) awake_t
  | succ d ih =>
    intro i hi
    have ih := ih (i + 1) (by omega)
    rw [take_contains' l n i (by omega)] at ih
    have hmem : rd l (i : Int) ∈ l := by rw [rd_get' l i (by omega)]; exact List.getElem_mem _
    have hS : wheel_Send.f m t p (rd l (i : Int)) = some (y, 0) := by
      unfold wheel_Send.f
      rw [ruleB_of hR, hsm _ hmem, hy _ hmem, hsy]
      rfl
    have hl1 := backed_l1 hR n y l hl hs hy i (by omega) ((l.take i).contains n) ih i 0 (by omega)
    have hj2 : Ev (fun k => remouldlaw06_WheelBacked.j2 k n y l ((l.take i).contains n) (i : Int) false m t p) true :=
      Ev.step (fun k => by rw [remouldlaw06_WheelBacked.j2, if_neg (show ¬ (false = true) by decide)]; rfl) hl1
    have hlt : (i : Int) < (l.length : Int) := by omega
    have hge : (0 : Int) ≤ (i : Int) := by omega
    refine Ev.step (fun k => by rw [remouldlaw06_WheelBacked.l0, if_pos hlt, if_pos hge]) (Ev.bind (Ev.of hS) (Ev.pos rfl (Ev.pos rfl ?_)))
    by_cases h0 : (i : Int) > 0
    · obtain ⟨j, rfl⟩ : ∃ j, i = j + 1 := ⟨i - 1, by omega⟩
      have ew : wrap64 (((j + 1 : Nat) : Int) - 1) = (j : Int) := by rw [wrap64_id _ (by omega) (by omega)]; omega
      have hlt2 := sorted_get hs (show j < j + 1 by omega) (by omega)
      refine Ev.pos h0 ?_
      rw [ew]
      refine Ev.pos (by omega) (Ev.pos (by omega) ?_)
      rw [decide_eq_false (show ¬ (rd l (j : Int) ≥ rd l ((j + 1 : Nat) : Int)) by omega)]
      exact hj2
    · exact Ev.neg h0 hj2
theorem pureBacked : remouldlaw06_WheelBacked.Pure := by
  intro a0 l1 l2 a3 _ _ _ _ _ _ _ _
  apply Ev.get
  unfold remouldlaw06_WheelBacked.f
  obtain ⟨m, T, P, hT, hR⟩ := tame_f a0 l1 l2
  have hb := modW_in a3 1073741824 (by decide)
  refine Ev.bind hT (Ev.bind (Ev.of (mod_f a3 1073741824 (by decide) (by decide))) ?_)
  rw [wrap64_id _ (by omega) (by omega)]
  obtain ⟨n, hn⟩ : ∃ n, modW a3 1073741824 - 536870912 = n := ⟨_, rfl⟩
  rw [hn]
  have hsn : smallB n = true := by simp [smallB, inB]; omega
  obtain ⟨y, hy⟩ : ∃ y, sentW m T P n = y := ⟨_, rfl⟩
  have hB := hR.bound (x := n) (B := 536870912) (by omega) (by omega)
  rw [hy] at hB
  have hsy : smallB y = true := by simp [smallB, inB]; omega
  have hS : wheel_Send.f m T P n = some (y, 0) := by
    unfold wheel_Send.f
    rw [ruleB_of hR, hsn, hy, hsy]
    rfl
  have hm2 := hR.m2
  have hm6 := hR.m6
  have hsm : ∀ z ∈ backW m T P y, smallB z = true := by
    intro z hz
    have e := (backW_mem hR).1 hz
    have hmul := hR.mul z
    rw [e] at hmul
    have h0 := hR.rest z
    obtain ⟨t1, t2, _, p1, p2, _⟩ := hR.ok (z % m) h0.1 h0.2
    have b1 : m * y ≤ 6 * 5368709145 ∧ -(6 * 5368709145) ≤ m * y := by
      refine ⟨?_, ?_⟩
      · have e1 := Int.mul_le_mul_of_nonneg_left hB.2 (show 0 ≤ m by omega)
        have e2 := Int.mul_le_mul_of_nonneg_right hm6 (show (0 : Int) ≤ 5368709145 by decide)
        omega
      · have e1 := Int.mul_le_mul_of_nonneg_left hB.1 (show 0 ≤ m by omega)
        have e2 := Int.mul_le_mul_of_nonneg_right hm6 (show (0 : Int) ≤ 5368709145 by decide)
        have e : m * -(10 * 536870912 + 25) = -(m * 5368709145) := by rw [show (-(10 * 536870912 + 25) : Int) = -5368709145 by decide]; exact Int.mul_neg ..
        omega
    generalize rd T (z % m) = a at *
    generalize rd P (z % m) = b at *
    have b2 : a * z = m * y - b := by omega
    have b3 : (a * z).natAbs = a.natAbs * z.natAbs := Int.natAbs_mul a z
    have b4 : z.natAbs ≤ a.natAbs * z.natAbs := Nat.le_mul_of_pos_left _ (by omega)
    simp only [smallB, inB, Bool.and_eq_true, decide_eq_true_eq]
    omega
  have hany : (backW m T P y).any (fun n => !smallB n) = false := by
    rw [List.any_eq_false]
    intro z hz
    rw [hsm z hz]; decide
  have hBk := wheel_Back_ok hR hsy
  rw [hany, if_neg (by decide)] at hBk
  have hl := backW_length (m := m) (t := T) (p := P) y
  have htl := hR.tl
  refine Ev.bind (Ev.of hS) (Ev.bind (Ev.of hBk) (Ev.pos rfl (Ev.pos rfl ?_)))
  dsimp only
  rw [decide_eq_false (by omega)]
  refine Ev.step (fun k => by rw [remouldlaw06_WheelBacked.j0, if_neg (show ¬ (false = true) by decide)]) ?_
  have := backed_l0 hR n y hsy (backW m T P y) (by omega) (backW_sorted hR y) (fun z hz => (backW_mem hR).1 hz) hsm ((backW_mem hR).2 hy) (backW m T P y).length 0 (by omega)
  exact this
end Go.Proofs.Ytkjojcepombhpaa.L
