/- Plain law: the law WheelFew. -/
import Derived.Test.YtkjojcepombhpaaXFalls
import Derived.Test.YtkjojcepombhpaaN8
import Derived.Test.YtkjojcepombhpaaL20
namespace Go.Proofs.Ytkjojcepombhpaa.L
set_option linter.unusedVariables false
set_option linter.unusedSimpArgs false
open Go.RowKit Go.Proofs.YtkjojcepombhpaaW.PrintWords Go.Proofs.YtkjojcepombhpaaW.PrintLast Go.Proofs.YtkjojcepombhpaaW.PrintMore

variable {m : Int} {t p : List Int}
/-- How many factors are less, and how many are not. -/
def smallN (m : Int) (t : List Int) : Nat := (t.filter fun a => decide (a < m)).length
def greatN (m : Int) (t : List Int) : Nat := (t.filter fun a => !decide (a < m)).length
theorem smallN_take (t : List Int) (i : Nat) (hi : i < t.length) : smallN m (t.take (i + 1)) = smallN m (t.take i) + if rd t (i : Int) < m then 1 else 0 := by
  unfold smallN
  rw [List.take_succ_eq_append_getElem hi, List.filter_append, List.length_append, show rd t (i : Int) = t[i] by simp [rd, hi]]
  congr 1
  by_cases h : t[i] < m <;> simp [h]
theorem greatN_take (t : List Int) (i : Nat) (hi : i < t.length) : greatN m (t.take (i + 1)) = greatN m (t.take i) + if rd t (i : Int) < m then 0 else 1 := by
  unfold greatN
  rw [List.take_succ_eq_append_getElem hi, List.filter_append, List.length_append, show rd t (i : Int) = t[i] by simp [rd, hi]]
  congr 1
  by_cases h : t[i] < m <;> simp [h]
theorem powW_cast (h : RuleIs m t p) (k : Nat) : ((t.length ^ k : Nat) : Int) = powW m k := by
  induction k with
  | zero => rfl
  | succ k ih =>
    rw [powW_succ, ← ih, Nat.pow_succ, Int.natCast_mul, h.tl, Int.mul_comm]
theorem falls_le (h : RuleIs m t p) (k : Nat) : 0 ≤ fallsW m t k ∧ fallsW m t k ≤ powW m k := by
  have h1 := List.length_filter_le (fun a => decide (a < powW m k)) (prodsW t k)
  rw [prodsW_length] at h1
  have h2 := powW_cast h k
  unfold fallsW
  omega
theorem falls_one (h : RuleIs m t p) : fallsW m t 1 = (smallN m t : Int) := by
  have e : prodsW t 1 = t := by simp [prodsW]
  have e2 : powW m 1 = m := by show m * powW m 0 = m; show m * 1 = m; omega
  unfold fallsW smallN
  rw [e, e2]
theorem prods_small (h : RuleIs m t p) (hs : ∀ a ∈ t, a < m) : ∀ k, ∀ a ∈ prodsW t k, 1 ≤ a ∧ a ≤ powW m k ∧ (0 < k → a < powW m k) := by
  have ht : ∀ a ∈ t, 1 ≤ a := by
    intro a ha
    obtain ⟨j, hj, rfl⟩ := List.getElem_of_mem ha
    have := h.ok (j : Int) (by omega) (by have := h.tl; omega)
    rw [show rd t (j : Int) = t[j] by simp [rd, hj]] at this
    exact this.1
  intro k
  induction k with
  | zero => intro a ha; simp [prodsW] at ha; subst ha; exact ⟨by decide, show (1 : Int) ≤ powW m 0 from Int.le_refl 1, fun h => by omega⟩
  | succ k ih =>
    intro a ha
    simp only [prodsW, List.mem_flatMap, List.mem_map] at ha
    obtain ⟨b, hb, c, hc, rfl⟩ := ha
    obtain ⟨b1, b2, _⟩ := ih b hb
    have c1 := ht c hc
    have c2 := hs c hc
    have hp := powW_pos h k
    rw [powW_succ]
    have e1 : 1 ≤ b * c := by have := Int.mul_le_mul b1 c1 (by decide) (by omega); simpa using this
    have e2 : b * c ≤ powW m k * (m - 1) := Int.mul_le_mul b2 (by omega) (by omega) (by omega)
    have e3 : powW m k * (m - 1) = m * powW m k - powW m k := by rw [Int.mul_sub, Int.mul_one, Int.mul_comm]
    exact ⟨e1, by omega, fun _ => by omega⟩
theorem prods_great (h : RuleIs m t p) (hs : ∀ a ∈ t, m ≤ a) : ∀ k, ∀ a ∈ prodsW t k, powW m k ≤ a := by
  intro k
  induction k with
  | zero => intro a ha; simp [prodsW] at ha; subst ha; exact show powW m 0 ≤ 1 from Int.le_refl 1
  | succ k ih =>
    intro a ha
    simp only [prodsW, List.mem_flatMap, List.mem_map] at ha
    obtain ⟨b, hb, c, hc, rfl⟩ := ha
    have b1 := ih b hb
    have c1 := hs c hc
    have hp := powW_pos h k
    have hm := h.m2
    rw [powW_succ, Int.mul_comm]
    exact Int.mul_le_mul b1 c1 (by omega) (by omega)
theorem falls_all (h : RuleIs m t p) {k : Nat} (hk : 0 < k) (hg : greatN m t = 0) : fallsW m t k = powW m k := by
  have hs : ∀ a ∈ t, a < m := by
    intro a ha
    unfold greatN at hg
    rw [List.length_eq_zero_iff, List.filter_eq_nil_iff] at hg
    have := hg a ha
    simpa using this
  unfold fallsW
  rw [List.filter_eq_self.2 (fun a ha => by simpa using (prods_small h hs k a ha).2.2 hk), prodsW_length, powW_cast h]
theorem falls_none (h : RuleIs m t p) {k : Nat} (hg : smallN m t = 0) : fallsW m t k = 0 := by
  have hs : ∀ a ∈ t, m ≤ a := by
    intro a ha
    unfold smallN at hg
    rw [List.length_eq_zero_iff, List.filter_eq_nil_iff] at hg
    have := hg a ha
    simp at this
    omega
  unfold fallsW
  have : ((prodsW t k).filter fun a => decide (a < powW m k)) = [] := by
    rw [List.filter_eq_nil_iff]
    intro a ha
    have := prods_great h hs k a ha
    simp
    omega
  rw [this]; rfl
theorem falls_zero : fallsW m t 0 = 0 := by simp [fallsW, prodsW, powW]
theorem few_j2 (K n total s g : Int) (h1 : 0 < K → g = 0 → n = total) (h2 : s = 0 → n = 0) (h3 : K = 0 → n = 0) : Ev (fun k => remouldlaw06_WheelFew.j2 k K n total s g false) true := by
  refine Ev.step (fun k => by rw [remouldlaw06_WheelFew.j2, if_neg (show ¬ (false = true) by decide)]) ?_
  have tail : Ev (fun k => if s = 0 then (if n = 0 then (if K = 0 then ((remouldlaw06_awake.f k).bind fun t566 => (some t566)) else ((remouldlaw06_awake.f k).bind fun t567 => (some t567))) else (some false)) else (if K = 0 then (if n = 0 then ((remouldlaw06_awake.f k).bind fun t568 => (some t568)) else (some false)) else ((remouldlaw06_awake.f k).bind fun t569 => (some t569)))) true := by
    by_cases hs : s = 0
    · refine Ev.pos hs (Ev.pos (h2 hs) ?_)
      by_cases hK : K = 0
      · exact Ev.pos hK awake_t
      · exact Ev.neg hK awake_t
    · refine Ev.neg hs ?_
      by_cases hK : K = 0
      · exact Ev.pos hK (Ev.pos (h3 hK) awake_t)
      · exact Ev.neg hK awake_t
  by_cases hK : K > 0
  · refine Ev.pos hK ?_
    by_cases hg : g = 0
    · exact Ev.pos hg (Ev.pos (h1 hK hg) tail)
    · exact Ev.neg hg tail
  · exact Ev.neg hK tail
theorem few_l1 (h : RuleIs m t p) (K : Nat) (hK : K ≤ 12) : ∀ d i : Nat, (i : Int) + d = m → Ev (fun k => remouldlaw06_WheelFew.l1 k K (fallsW m t K) 0 (fallsW m t 1) 0 (powW m K) (smallN m (t.take i)) (greatN m (t.take i)) (i : Int) m t p) true := by
  have htl := h.tl
  have hm6 := h.m6
  intro d
  induction d with
  | zero =>
    intro i hi
    rw [List.take_of_length_le (by omega)]
    obtain ⟨f1, f2⟩ := falls_le h K
    have hj := few_j2 K (fallsW m t K) (powW m K) (smallN m t) (greatN m t) (fun hk hg => falls_all h (by omega) (by omega)) (fun hs => falls_none h (by omega)) (fun hk => by obtain rfl : K = 0 := (by omega); exact falls_zero)
    refine Ev.step (fun k => by rw [remouldlaw06_WheelFew.l1, if_neg (by omega), if_pos rfl, if_pos rfl, if_pos (falls_one h), if_neg (by omega), decide_eq_false (by omega)]) hj
  | succ d ih =>
    intro i hi
    have ih := ih (i + 1) (by omega)
    have ew : wrap64 ((i : Int) + 1) = ((i + 1 : Nat) : Int) := by rw [wrap64_id _ (by omega) (by omega)]; rfl
    have hlt : (i : Int) < m := by omega
    have hge : (0 : Int) ≤ (i : Int) := by omega
    have hlen : (i : Int) < (t.length : Int) := by omega
    have hit : i < t.length := by omega
    have b1 : smallN m (t.take i) ≤ 6 := Nat.le_trans (List.length_filter_le _ _) (by rw [List.length_take]; omega)
    have b2 : greatN m (t.take i) ≤ 6 := Nat.le_trans (List.length_filter_le _ _) (by rw [List.length_take]; omega)
    have e1 : wrap64 ((smallN m (t.take i) : Int) + 1) = ((smallN m (t.take i) + 1 : Nat) : Int) := by rw [wrap64_id _ (by omega) (by omega)]; rfl
    have e2 : wrap64 ((greatN m (t.take i) : Int) + 1) = ((greatN m (t.take i) + 1 : Nat) : Int) := by rw [wrap64_id _ (by omega) (by omega)]; rfl
    have hs := smallN_take (m := m) t i hit
    have hg := greatN_take (m := m) t i hit
    by_cases ha : rd t (i : Int) < m
    · rw [if_pos ha] at hs hg
      rw [hs, hg] at ih
      exact Ev.step (fun k => by rw [remouldlaw06_WheelFew.l1, if_pos hlt, if_pos hge, if_pos hlen, if_pos ha, e1, ew]; rfl) ih
    · rw [if_neg ha] at hs hg
      rw [hs, hg] at ih
      exact Ev.step (fun k => by rw [remouldlaw06_WheelFew.l1, if_pos hlt, if_pos hge, if_pos hlen, if_neg ha, e2, ew]; rfl) ih
theorem pow12_le (h : RuleIs m t p) {k : Nat} (hk : k ≤ 12) : powW m k ≤ 2176782336 := Int.le_trans (powW_le6 h k) (Int.le_trans (pow6_le hk) (by decide))
theorem few_l0 (h : RuleIs m t p) (K : Nat) (hK : K ≤ 12) : ∀ d i : Nat, i + d = K → Ev (fun k => remouldlaw06_WheelFew.l0 k K (fallsW m t K) 0 (fallsW m t 1) 0 (powW m i) 0 0 (i : Int) m t p) true := by
  intro d
  induction d with
  | zero =>
    intro i hi
    obtain rfl : i = K := by omega
    have hl1 := few_l1 h i hK m.toNat 0 (by have := h.m2; omega)
    exact Ev.step (fun k => by rw [remouldlaw06_WheelFew.l0, if_neg (by omega)]; rfl) hl1
  | succ d ih =>
    intro i hi
    have ih := ih (i + 1) (by omega)
    have hlt : (i : Int) < (K : Int) := by omega
    have ew : wrap64 ((i : Int) + 1) = ((i + 1 : Nat) : Int) := by rw [wrap64_id _ (by omega) (by omega)]; rfl
    have hi12 : i + 1 ≤ 12 := by omega
    have e1 : wrap64 (powW m i * m) = powW m (i + 1) := by
      rw [show powW m i * m = powW m (i + 1) by rw [powW_succ, Int.mul_comm]]
      have hp := powW_pos h (i + 1)
      have hle := pow12_le h hi12
      clear ih hi
      exact wrap64_id _ (by omega) (by omega)
    exact Ev.step (fun k => by rw [remouldlaw06_WheelFew.l0, if_pos hlt, e1, ew]) ih
theorem pureFew : remouldlaw06_WheelFew.Pure := by
  intro a0 l1 l2 a3 _ _ _ _ _ _ _ _
  apply Ev.get
  unfold remouldlaw06_WheelFew.f
  obtain ⟨m, T, P, hT, hR⟩ := tame_f a0 l1 l2
  have hk := modW_in a3 13 (by decide)
  refine Ev.bind hT (Ev.bind (Ev.of (mod_f a3 13 (by decide) (by decide))) ?_)
  obtain ⟨K, hK⟩ : ∃ K : Nat, modW a3 13 = (K : Int) := ⟨(modW a3 13).toNat, by omega⟩
  rw [hK] at hk ⊢
  have hF : ∀ k : Nat, k ≤ 12 → wheel_Falls.f m T P k = some (fallsW m T k, 0) := by
    intro k hk
    unfold wheel_Falls.f
    rw [ruleB_of hR, show inB (k : Int) 0 12 = true by simp [inB]; omega, Int.toNat_natCast]
    rfl
  have h1 := hF 1 (by decide)
  refine Ev.bind (Ev.of (hF K (by omega))) (Ev.bind (Ev.of h1) ?_)
  exact few_l0 hR K (by omega) K 0 (by omega)
end Go.Proofs.Ytkjojcepombhpaa.L
