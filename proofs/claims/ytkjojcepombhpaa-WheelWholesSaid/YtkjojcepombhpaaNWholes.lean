/- Plain law: the law WheelWholes. -/
import Derived.Test.YtkjojcepombhpaaN6
import Derived.Test.YtkjojcepombhpaaL10
namespace Go.Proofs.Ytkjojcepombhpaa.L
set_option linter.unusedVariables false
set_option linter.unusedSimpArgs false
open Go.RowKit Go.Proofs.YtkjojcepombhpaaW.PrintWords Go.Proofs.YtkjojcepombhpaaW.PrintLast Go.Proofs.YtkjojcepombhpaaW.PrintMore

variable {m : Int} {t p : List Int}
/-- The first i digits of a number, the lowest first. -/
def digW (m c : Int) (i : Nat) : List Int := (List.range i).map fun j => c / powW m j % m
theorem digW_length (m c : Int) (i : Nat) : (digW m c i).length = i := by simp [digW]
theorem digW_succ (m c : Int) (i : Nat) : digW m c (i + 1) = digW m c i ++ [c / powW m i % m] := by simp [digW, List.range_succ]
theorem digW_course (h : RuleIs m t p) (c : Int) (i : Nat) : CourseIs m (digW m c i) := by
  intro r hr
  simp only [digW, List.mem_map, List.mem_range] at hr
  obtain ⟨j, _, rfl⟩ := hr
  exact h.rest _
theorem digW_cons (h : RuleIs m t p) (r c : Int) (hr : 0 ≤ r ∧ r < m) (i : Nat) : digW m (r + m * c) (i + 1) = r :: digW m c i := by
  have hm := h.mpos
  unfold digW
  rw [List.range_succ_eq_map, List.map_cons, List.map_map]
  have e0 : (r + m * c) / powW m 0 % m = r := by
    show (r + m * c) / 1 % m = r
    rw [Int.ediv_one, Int.add_mul_emod_self_left, Int.emod_eq_of_lt hr.1 hr.2]
  rw [e0]
  congr 1
  apply List.map_congr_left
  intro j _
  show (r + m * c) / (m * powW m j) % m = c / powW m j % m
  rw [← Int.ediv_ediv_of_nonneg (by omega), Int.add_mul_ediv_left _ _ (by omega), Int.ediv_eq_zero_of_lt hr.1 hr.2, Int.zero_add]
theorem dig_of (h : RuleIs m t p) : ∀ l : List Int, CourseIs m l → ∃ c, 0 ≤ c ∧ c < powW m l.length ∧ digW m c l.length = l := by
  intro l
  induction l with
  | nil => intro _; exact ⟨0, by decide, Int.zero_lt_one, rfl⟩
  | cons r l ih =>
    intro hl
    obtain ⟨hr, hl⟩ := hl.cons
    obtain ⟨c, c0, c1, hc⟩ := ih hl
    have hm := h.mpos
    refine ⟨r + m * c, ?_, ?_, ?_⟩
    · have := Int.mul_nonneg (show 0 ≤ m by omega) c0; omega
    · rw [List.length_cons, powW_succ]
      have := Int.mul_le_mul_of_nonneg_left (show c + 1 ≤ powW m l.length by omega) (show 0 ≤ m by omega)
      rw [Int.mul_add] at this
      omega
    · rw [List.length_cons, digW_cons h r c hr, hc]
/-- What the reference has found with the courses below c. -/
structure WhInv (m : Int) (t p : List Int) (K : Nat) (c : Int) (out : List Int) : Prop where
  sorted : out.Pairwise (· < ·)
  whole : ∀ y ∈ out, IsWhole m t p K y
  all : ∀ y, IsWhole m t p K y → ∀ c', 0 ≤ c' → c' < c → digW m c' K = remW m t p y K → y ∈ out
  len : (out.length : Int) ≤ c
theorem tdiv_pos {a b : Int} (h : 0 ≤ a) : a.tdiv b = a / b := Int.tdiv_eq_ediv_of_nonneg h
theorem pow_le5 (h : RuleIs m t p) {K : Nat} (hK : K ≤ 5) : powW m K ≤ 7776 := by
  have h1 := powW_le6 h K
  have h2 := pow6_le hK
  have : (6 : Int) ^ 5 = 7776 := by decide
  omega
theorem Whole_l2 (h : RuleIs m t p) {K : Nat} (h0 : 0 < K) (h5 : K ≤ 5) (out : List Int) (total c : Int) (c0 : 0 ≤ c) (c1 : c ≤ 100000) (r : List Int)
    (hr : Ev (fun k => remouldref06_Whole.j3 k K out total c (fixDen (formW m t p (digW m c K)).1 (formW m t p (digW m c K)).2.1 (formW m t p (digW m c K)).2.2 != 1) m t p (fixNum (formW m t p (digW m c K)).1 (formW m t p (digW m c K)).2.1 (formW m t p (digW m c K)).2.2) (fixDen (formW m t p (digW m c K)).1 (formW m t p (digW m c K)).2.1 (formW m t p (digW m c K)).2.2)) r) :
    ∀ d i : Nat, i + d = K → Ev (fun k => remouldref06_Whole.l2 k K out total c (digW m c i) (i : Int) (c / powW m i) m t p) r := by
  intro d
  induction d with
  | zero =>
    intro i hi
    obtain rfl : i = K := by omega
    have hne := form_ne h (digW_course h c i) (fun e => by have := digW_length m c i; rw [e] at this; simp at this; omega)
    have hX := Fixed_f h (digW_course h c i) (by rw [digW_length]; omega)
    unfold fixRes at hX
    rw [if_neg hne] at hX
    exact Ev.step (fun k => by rw [remouldref06_Whole.l2, if_neg (by omega)]) (Ev.bind hX (Ev.pos rfl hr))
  | succ d ih =>
    intro i hi
    have ih := ih (i + 1) (by omega)
    have hm := h.mpos
    have hp := powW_pos h i
    have hq : 0 ≤ c / powW m i := Int.ediv_nonneg c0 (by omega)
    have e1 : Int.tmod (c / powW m i) m = c / powW m i % m := Int.tmod_eq_emod_of_nonneg hq
    have e2 : Int.tdiv (c / powW m i) m = c / powW m (i + 1) := by
      rw [tdiv_pos hq, powW_succ, Int.mul_comm, Int.ediv_ediv_of_nonneg (by omega)]
    rw [digW_succ, ← e1, ← e2] at ih
    have hle : Int.tdiv (c / powW m i) m ≤ c := by
      rw [e2]
      exact Int.ediv_le_self _ c0
    have hge : 0 ≤ Int.tdiv (c / powW m i) m := by
      rw [e2]
      have := powW_pos h (i + 1)
      exact Int.ediv_nonneg c0 (by omega)
    exact Ev.step (fun k => by rw [remouldref06_Whole.l2, if_pos (by omega), if_neg (by omega), if_pos (by rw [digW_length]; omega), succ_id i (by omega), wrap64_id _ (by omega) (by omega)]) ih
theorem Whole_l1 (h : RuleIs m t p) {K : Nat} (h0 : 0 < K) (h5 : K ≤ 5) : ∀ d : Nat, ∀ (c : Int) (out : List Int), 0 ≤ c → c + d = powW m K → WhInv m t p K c out → Ev (fun k => remouldref06_Whole.l1 k K out (powW m K) c m t p) (wholeL m t p K) := by
  have hp5 := pow_le5 h h5
  intro d
  induction d with
  | zero =>
    intro c out c0 hc hI
    refine Ev.step (h := fun _ => some out) (fun k => by rw [remouldref06_Whole.l1, if_neg (by omega)]) (Ev.eqs ?_ (Ev.const _))
    refine sorted_unique _ _ hI.sorted (wholeL_sorted h K) (fun y => ?_)
    rw [wholeL_iff h h0 h5]
    refine ⟨hI.whole y, fun hy => ?_⟩
    obtain ⟨c', c1, c2, c3⟩ := dig_of h _ (remW_course h y K)
    rw [remW_length] at c2 c3
    exact hI.all y hy c' c1 (by omega) c3
  | succ d ih =>
    intro c out c0 hc hI
    have hlen := hI.len
    have ew : wrap64 (c + 1) = c + 1 := wrap64_id _ (by omega) (by omega)
    refine Ev.step (h := fun k => remouldref06_Whole.l2 k K out (powW m K) c [] 0 c m t p) (fun k => by rw [remouldref06_Whole.l1, if_pos (by omega)]) ?_
    have hl2 := Whole_l2 h h0 h5 out (powW m K) c c0 (by omega) (wholeL m t p K) ?_ K 0 (by omega)
    · rw [show c / powW m 0 = c from Int.ediv_one c] at hl2
      exact hl2
    have hC := digW_course h c K
    have hF := formIn h hC
    rw [digW_length] at hF
    have h20 := pow20_le h5
    have e20 : (20 : Int) ^ 5 = 3200000 := by decide
    have h6 := pow6_pos K
    have hb1 := hF.b1
    have hb2 := hF.b2
    have hnb := fixNum_bound (formW m t p (digW m c K)).1 (formW m t p (digW m c K)).2.1 (formW m t p (digW m c K)).2.2 20000000 (by omega) (by omega) (by omega)
    -- a number that this course gives
    have hgive : ∀ y, IsWhole m t p K y → digW m c K = remW m t p y K → fixNum (formW m t p (digW m c K)).1 (formW m t p (digW m c K)).2.1 (formW m t p (digW m c K)).2.2 = y ∧ fixDen (formW m t p (digW m c K)).1 (formW m t p (digW m c K)).2.1 (formW m t p (digW m c K)).2.2 = 1 := by
      intro y hy e
      rw [e]
      obtain ⟨e1, e2, _⟩ := whole_fix h h0 hy.1.back
      exact ⟨e1, e2⟩
    generalize fixNum (formW m t p (digW m c K)).1 (formW m t p (digW m c K)).2.1 (formW m t p (digW m c K)).2.2 = X at *
    generalize fixDen (formW m t p (digW m c K)).1 (formW m t p (digW m c K)).2.1 (formW m t p (digW m c K)).2.2 = D at *
    -- nothing new
    have hskip : (∀ y, IsWhole m t p K y → digW m c K = remW m t p y K → y ∈ out) → Ev (fun k => remouldref06_Whole.l1 k K out (powW m K) (c + 1) m t p) (wholeL m t p K) := by
      intro hno
      refine ih (c + 1) out (by omega) (by omega) ⟨hI.sorted, hI.whole, fun y hy c' c1 c2 c3 => ?_, by omega⟩
      by_cases e : c' = c
      · subst e; exact hno y hy c3
      · exact hI.all y hy c' c1 (by omega) c3
    cases hD : (D != 1)
    · have hD1 : D = 1 := by simpa using hD
      have hsm : smallB X = true := by simp [smallB, inB]; omega
      refine Ev.step (fun k => by rw [remouldref06_Whole.j3, if_neg (by decide)]) (Ev.bind (Cycle_f h X K hsm (by omega)) ?_)
      obtain ⟨⟨cy, at', e⟩, hcy⟩ : ∃ s, cycleW m t p X K = s := ⟨_, rfl⟩
      rw [hcy]
      simp only
      rw [ew]
      have hno : (e ≠ 0 ∨ (cy.length : Int) ≠ K) → ∀ y, IsWhole m t p K y → digW m c K = remW m t p y K → y ∈ out := by
        intro hor y hy hd
        obtain ⟨e1, _⟩ := hgive y hy hd
        subst e1
        have := whole_cycle hy (Int.le_refl _) (by omega)
        rw [hcy] at this
        simp only [Prod.mk.injEq] at this
        obtain ⟨a1, a2, a3⟩ := this
        rcases hor with hor | hor
        · exact absurd a3 hor
        · rw [a1, orbTo_length] at hor; exact absurd rfl hor
      by_cases he : e = 0
      · subst he
        by_cases hl : (cy.length : Int) = K
        · refine Ev.pos rfl (Ev.pos hl (Ev.pos (by omega) ?_))
          obtain ⟨hc1, a, hcy2, hmin⟩ := cycle_exact hcy (by omega)
          have hrd : rd cy 0 = iterW m t p a X := by rw [hcy2]; exact orbTo_rd0 _ _ h0
          rw [hrd]
          have hW : IsWhole m t p K (iterW m t p a X) := ⟨hc1.turn a, fun i => by rw [← iterW_add]; exact hmin _⟩
          obtain ⟨q, b, hins⟩ := insert_f out (iterW m t p a X) (by omega)
          refine Ev.bind hins (ih (c + 1) _ (by omega) (by omega) ⟨insU_sorted _ _ hI.sorted, fun y hy => ?_, fun y hy c' c1 c2 c3 => ?_, by have h9 := insU_length (iterW m t p a X) out; show ((insU (iterW m t p a X) out).length : Int) ≤ c + 1; omega⟩)
          · rcases (insU_mem _ _ y).1 hy with rfl | hy
            · exact hW
            · exact hI.whole y hy
          · rw [insU_mem]
            by_cases e : c' = c
            · subst e
              obtain ⟨e1, _⟩ := hgive y hy c3
              subst e1
              have h1 := hmin 0
              have h2 := hy.2 a
              have : iterW m t p 0 X = X := rfl
              exact .inl (by omega)
            · exact .inr (hI.all y hy c' c1 (by omega) c3)
        · exact Ev.pos rfl (Ev.neg hl (hskip (hno (.inr hl))))
      · exact Ev.neg he (hskip (hno (.inl he)))
    · have hD1 : D ≠ 1 := by simpa using hD
      refine Ev.step (h := fun k => remouldref06_Whole.l1 k K out (powW m K) (c + 1) m t p) (fun k => by rw [remouldref06_Whole.j3, if_pos rfl, ew]) (hskip (fun y hy hd => absurd (hgive y hy hd).2 hD1))
theorem Whole_l0 (h : RuleIs m t p) {K : Nat} (h0 : 0 < K) (h5 : K ≤ 5) : ∀ d i : Nat, i + d = K → Ev (fun k => remouldref06_Whole.l0 k K (powW m i) (i : Int) m t p) (wholeL m t p K) := by
  intro d
  induction d with
  | zero =>
    intro i hi
    obtain rfl : i = K := by omega
    have hp := powW_pos h i
    exact Ev.step (h := fun k => remouldref06_Whole.l1 k i [] (powW m i) 0 m t p) (fun k => by rw [remouldref06_Whole.l0, if_neg (by omega)]) (Whole_l1 h h0 h5 (powW m i).toNat 0 [] (by omega) (by omega) ⟨List.Pairwise.nil, by simp, by omega, by simp⟩)
  | succ d ih =>
    intro i hi
    have hp1 := powW_pos h i
    have hp := pow_le5 h (show i + 1 ≤ 5 by omega)
    have hp2 := powW_pos h (i + 1)
    rw [powW_succ, Int.mul_comm] at hp hp2
    have ih := ih (i + 1) (by omega)
    rw [powW_succ, Int.mul_comm] at ih
    exact Ev.step (fun k => by rw [remouldref06_Whole.l0, if_pos (by omega), succ_id i (by omega), wrap64_id _ (by omega) (by omega)]) ih
theorem Whole_f (h : RuleIs m t p) {K : Nat} (h0 : 0 < K) (h5 : K ≤ 5) : Ev (fun k => remouldref06_Whole.f k m t p K) (wholeL m t p K) :=
  Whole_l0 h h0 h5 K 0 (by omega)

theorem pureWholes (a0 : Int) (t p : List Int) (k1 : Int) : ∃ k, remouldlaw06_WheelWholes.f k a0 t p k1 = some true := by
  apply Ev.get
  unfold remouldlaw06_WheelWholes.f
  refine Ev.bind (Ev.of (rule_f a0 t p)) ?_
  generalize t.take 7 = T
  generalize p.take 7 = P
  show Ev (fun k => ((wheel_Whole.f a0 T P k1).bind _)) true
  have hbad : Ev (fun k => remouldlaw06_WheelWholes.j0 k k1 ([] : List Int) 2 true a0 T P) true :=
    Ev.step (fun k => by rw [remouldlaw06_WheelWholes.j0, if_pos rfl, if_pos (by rfl), if_pos rfl]) awake_t
  cases hR : ruleB a0 T P
  · refine Ev.bind (Ev.of (show wheel_Whole.f a0 T P k1 = some ([], 2) by rw [wheel_Whole.f, hR]; rfl)) (Ev.bind (Rule_f a0 T P) ?_)
    rw [hR]
    exact Ev.neg (by decide) hbad
  cases hs : inB k1 1 5
  · refine Ev.bind (Ev.of (show wheel_Whole.f a0 T P k1 = some ([], 2) by rw [wheel_Whole.f, hR, hs]; rfl)) (Ev.bind (Rule_f a0 T P) ?_)
    rw [hR]
    refine Ev.pos rfl ?_
    have hs' : ¬ (1 ≤ k1 ∧ k1 ≤ 5) := by intro h; rw [show inB k1 1 5 = true by simp [inB, h.1, h.2]] at hs; cases hs
    by_cases h1 : k1 < 1
    · exact Ev.pos h1 hbad
    · refine Ev.neg h1 ?_
      rw [decide_eq_true (by omega)]
      exact hbad
  have hs' : 1 ≤ k1 ∧ k1 ≤ 5 := by simpa [inB] using hs
  have hRI := ruleB_is hR
  obtain ⟨K, rfl⟩ : ∃ K : Nat, k1 = (K : Int) := ⟨k1.toNat, by omega⟩
  refine Ev.bind (Ev.of (show wheel_Whole.f a0 T P K = some (wholeL a0 T P K, 0) by rw [wheel_Whole.f, hR, hs]; rfl)) (Ev.bind (Rule_f a0 T P) ?_)
  rw [hR]
  refine Ev.pos rfl (Ev.neg (by omega) ?_)
  rw [decide_eq_false (by omega)]
  have hl := wholeL_length hRI (show K ≤ 5 by omega)
  refine Ev.step (fun k => by rw [remouldlaw06_WheelWholes.j0, if_neg (by decide)]) (Ev.bind (Whole_f hRI (by omega) (by omega)) (Ev.bind (ints_f (wholeL a0 T P K) (wholeL a0 T P K) (by omega)) ?_))
  exact Ev.pos (by simp) (Ev.pos rfl awake_t)
end Go.Proofs.Ytkjojcepombhpaa.L
