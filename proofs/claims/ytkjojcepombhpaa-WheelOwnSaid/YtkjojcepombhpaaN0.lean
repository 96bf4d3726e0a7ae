/- Plain law: what the reference's printed functions come to when the figure that bounds their steps is great enough: rule, numbers, awake. -/
import Derived.Test.YtkjojcepombhpaaL4
import Derived.Test.YtkjojcepombhpaaL5
namespace Go.Proofs.Ytkjojcepombhpaa.L
set_option linter.unusedVariables false
set_option linter.unusedSimpArgs false
open Go.RowKit Go.Proofs.YtkjojcepombhpaaW.PrintWords Go.Proofs.YtkjojcepombhpaaW.PrintLast Go.Proofs.YtkjojcepombhpaaW.PrintMore

/-- From some figure on, it is r. -/
def Ev {α : Type} (g : Nat → Option α) (r : α) : Prop := ∃ K, ∀ k, K ≤ k → g k = some r
theorem Ev.const {α : Type} (r : α) : Ev (fun _ => some r) r := ⟨0, fun _ _ => rfl⟩
theorem Ev.of {α : Type} {g : Option α} {r : α} (h : g = some r) : Ev (fun _ => g) r := ⟨0, fun _ _ => h⟩
theorem Ev.step {α : Type} {g h : Nat → Option α} {r : α} (he : ∀ k, g (k + 1) = h k) (hh : Ev h r) : Ev g r := by
  obtain ⟨K, hK⟩ := hh
  refine ⟨K + 1, fun k hk => ?_⟩
  obtain ⟨j, rfl⟩ : ∃ j, k = j + 1 := ⟨k - 1, by omega⟩
  rw [he]; exact hK j (by omega)
theorem Ev.bind {α β : Type} {g : Nat → Option α} {h : Nat → α → Option β} {a : α} {b : β} (hg : Ev g a) (hh : Ev (fun k => h k a) b) : Ev (fun k => (g k).bind (h k)) b := by
  obtain ⟨K, hK⟩ := hg
  obtain ⟨M, hM⟩ := hh
  refine ⟨K + M, fun k hk => ?_⟩
  show (g k).bind (h k) = some b
  rw [hK k (by omega)]
  exact hM k (by omega)
theorem Ev.congr {α : Type} {g h : Nat → Option α} {r : α} (he : ∀ k, g k = h k) (hh : Ev h r) : Ev g r := by
  obtain ⟨K, hK⟩ := hh
  exact ⟨K, fun k hk => (he k).trans (hK k hk)⟩
theorem Ev.get {α : Type} {g : Nat → Option α} {r : α} (h : Ev g r) : ∃ k, g k = some r := by
  obtain ⟨K, hK⟩ := h
  exact ⟨K, hK K (Nat.le_refl _)⟩
theorem Ev.pos {α : Type} {c : Prop} [Decidable c] {g h : Nat → Option α} {r : α} (hc : c) (hh : Ev g r) : Ev (fun k => if c then g k else h k) r := Ev.congr (fun k => if_pos hc) hh
theorem Ev.neg {α : Type} {c : Prop} [Decidable c] {g h : Nat → Option α} {r : α} (hc : ¬ c) (hh : Ev h r) : Ev (fun k => if c then g k else h k) r := Ev.congr (fun k => if_neg hc) hh
theorem Ev.eqs {α : Type} {g : Nat → Option α} {r s : α} (e : r = s) (h : Ev g r) : Ev g s := e ▸ h
theorem wrap64_id (x : Int) (h1 : -9223372036854775808 ≤ x) (h2 : x ≤ 9223372036854775807) : wrap64 x = x := by
  unfold wrap64; omega

/-- A rule is cut as the law cuts it. -/
theorem cut_f (l : List Int) (B : Nat) (hB : B ≤ 1000) : (mn (l.length : Int) B).toNat = min l.length B ∧ 0 ≤ mn (l.length : Int) B ∧ mn (l.length : Int) B ≤ (l.length : Int) := by
  unfold mn
  split <;> omega
theorem take_cut (l : List Int) (B : Nat) (hB : B ≤ 1000) : l.take (mn (l.length : Int) B).toNat = l.take B := by
  rw [(cut_f l B hB).1]
  by_cases h : l.length ≤ B
  · rw [Nat.min_eq_left h, List.take_of_length_le (Nat.le_refl _), List.take_of_length_le h]
  · rw [Nat.min_eq_right (by omega)]
theorem rule_f (m : Int) (t p : List Int) : remouldlaw06_rule.f m t p = some (m, t.take 7, p.take 7) := by
  unfold remouldlaw06_rule.f
  have h1 := cut_f t 7 (by decide)
  have h2 := cut_f p 7 (by decide)
  have e1 := take_cut t 7 (by decide)
  have e2 := take_cut p 7 (by decide)
  change _ ∧ 0 ≤ mn (t.length : Int) 7 ∧ mn (t.length : Int) 7 ≤ (t.length : Int) at h1
  change _ ∧ 0 ≤ mn (p.length : Int) 7 ∧ mn (p.length : Int) 7 ≤ (p.length : Int) at h2
  change t.take (mn (t.length : Int) 7).toNat = _ at e1
  change p.take (mn (p.length : Int) 7).toNat = _ at e2
  rw [if_pos h1.2.1, if_pos h1.2.2, e1, if_pos (by simp; omega), if_pos h2.2.1, if_pos h2.2.2, e2, if_pos (by simp; omega)]
  simp
theorem large_f (x : Int) : remouldref06_Large.f x = some (!smallB x) := by
  unfold remouldref06_Large.f smallB inB
  by_cases h : x > 1099511627776
  · rw [if_pos h]; simp; omega
  · rw [if_neg h]
    have e1 : decide (x ≤ 1099511627776) = true := by simp; omega
    rw [e1, Bool.and_true]
    congr 1
    by_cases h2 : x < -1099511627776
    · rw [decide_eq_true h2, decide_eq_false (by omega)]; rfl
    · rw [decide_eq_false h2, decide_eq_true (by omega)]; rfl
theorem Gcd_l0 : ∀ n : Nat, ∀ a b : Int, b.toNat ≤ n → 0 ≤ a → 0 ≤ b → Ev (fun k => remouldref06_Gcd.l0 k a b) (Int.gcd a b : Int) := by
  intro n
  induction n using Nat.strongRecOn with
  | _ n ih =>
    intro a b hn ha hb
    by_cases h : b > 0
    · have hlt := Int.emod_lt_of_pos a h
      have hnn := Int.emod_nonneg a (show b ≠ 0 by omega)
      refine Ev.step (h := fun k => remouldref06_Gcd.l0 k b (Int.tmod a b)) (fun k => by rw [remouldref06_Gcd.l0, if_pos h, if_neg (by omega)]) ?_
      rw [Int.tmod_eq_emod_of_nonneg ha]
      have e : (Int.gcd b (a % b) : Int) = (Int.gcd a b : Int) := by have := gcd_step a b; rw [Int.tmod_eq_emod_of_nonneg ha] at this; rw [this]
      refine Ev.eqs e (ih (a % b).toNat (by omega) b (a % b) (Nat.le_refl _) (by omega) hnn)
    · have : b = 0 := by omega
      subst this
      refine Ev.step (h := fun k => some a) (fun k => by rw [remouldref06_Gcd.l0, if_neg (by omega)]) ?_
      refine Ev.eqs ?_ (Ev.const a)
      rw [Int.gcd_zero_right]
      omega
theorem mx_abs (a : Int) (h1 : -9223372036854775807 ≤ a) (h2 : a ≤ 9223372036854775807) : mx a (wrap64 (-a)) = (a.natAbs : Int) := by
  rw [wrap64_id _ (by omega) (by omega)]
  unfold mx
  split <;> omega
theorem Gcd_f (a b : Int) (ha : -9223372036854775807 ≤ a ∧ a ≤ 9223372036854775807) (hb : -9223372036854775807 ≤ b ∧ b ≤ 9223372036854775807) : Ev (fun k => remouldref06_Gcd.f k a b) (Int.gcd a b : Int) := by
  unfold remouldref06_Gcd.f
  rw [mx_abs a ha.1 ha.2, mx_abs b hb.1 hb.2]
  have := Gcd_l0 (b.natAbs : Int).toNat (a.natAbs : Int) (b.natAbs : Int) (Nat.le_refl _) (by omega) (by omega)
  rwa [show (Int.gcd (a.natAbs : Int) (b.natAbs : Int) : Int) = (Int.gcd a b : Int) by simp [Int.gcd]] at this
theorem Rule_l0 (m : Int) (t p : List Int) (hm : 2 ≤ m ∧ m ≤ 6) (ht : (t.length : Int) = m) (hp : (p.length : Int) = m) : ∀ d i : Nat, i + d = t.length → (∀ j, j < i → ruleAt m t p (j : Int) = true) → Ev (fun k => remouldref06_Rule.l0 k m (i : Int) m t p) ((List.range t.length).all fun k => ruleAt m t p (k : Int)) := by
  intro d
  induction d with
  | zero =>
    intro i hi hall
    refine Ev.step (h := fun k => some true) (fun k => by rw [remouldref06_Rule.l0, if_neg (by omega)]) ?_
    refine Ev.eqs ?_ (Ev.const true)
    symm
    rw [List.all_eq_true]
    intro j hj
    exact hall j (by rw [List.mem_range] at hj; omega)
  | succ d ih =>
    intro i hi hall
    have hno : ruleAt m t p (i : Int) = false → false = ((List.range t.length).all fun k => ruleAt m t p (k : Int)) := by
      intro h
      symm
      rw [List.all_eq_false]
      exact ⟨i, List.mem_range.2 (by omega), by rw [h]; decide⟩
    have hyes : ruleAt m t p (i : Int) = true → Ev (fun k => remouldref06_Rule.l0 k m ((i + 1 : Nat) : Int) m t p) ((List.range t.length).all fun k => ruleAt m t p (k : Int)) := fun h => ih (i + 1) (by omega) (fun j hj => by
      by_cases e : j = i
      · rw [e]; exact h
      · exact hall j (by omega))
    obtain ⟨a, ha⟩ : ∃ a, rd t (i : Int) = a := ⟨_, rfl⟩
    obtain ⟨b, hb⟩ : ∃ b, rd p (i : Int) = b := ⟨_, rfl⟩
    have hat : ruleAt m t p (i : Int) = (inB a 1 20 && (!decide (1 < (Int.gcd a m : Int)) && (inB b (-50) 50 && ((a * i + b).tmod m == 0)))) := by unfold ruleAt; rw [ha, hb]
    refine Ev.step (h := fun k => if a < 1 then (some false) else (if a > 20 then (some false) else ((remouldref06_Gcd.f k a m).bind fun t114 => (if t114 > 1 then (some false) else (if b < (-50) then (some false) else (if b > 50 then (some false) else (if m = 0 then (none) else (if (Int.tmod (wrap64 ((wrap64 (a * i)) + b)) m) = 0 then (remouldref06_Rule.l0 k m (wrap64 ((i : Int) + 1)) m t p) else (some false)))))))))
      (fun k => by rw [remouldref06_Rule.l0, if_pos (by omega), if_pos (by omega), if_pos (by omega), if_pos (by omega), ha, hb]) ?_
    by_cases h1 : a < 1
    · exact Ev.pos h1 (Ev.eqs (hno (by rw [hat]; simp [inB]; omega)) (Ev.const false))
    refine Ev.neg h1 ?_
    by_cases h2 : a > 20
    · exact Ev.pos h2 (Ev.eqs (hno (by rw [hat]; simp [inB]; omega)) (Ev.const false))
    refine Ev.neg h2 (Ev.bind (Gcd_f a m (by omega) (by omega)) ?_)
    by_cases h3 : (Int.gcd a m : Int) > 1
    · exact Ev.pos h3 (Ev.eqs (hno (by rw [hat, decide_eq_true h3]; simp)) (Ev.const false))
    refine Ev.neg h3 ?_
    by_cases h4 : b < -50
    · exact Ev.pos h4 (Ev.eqs (hno (by rw [hat, show inB b (-50) 50 = false by simp [inB]; omega]; simp)) (Ev.const false))
    refine Ev.neg h4 ?_
    by_cases h5 : b > 50
    · exact Ev.pos h5 (Ev.eqs (hno (by rw [hat, show inB b (-50) 50 = false by simp [inB]; omega]; simp)) (Ev.const false))
    refine Ev.neg h5 (Ev.neg (by omega) ?_)
    have hi6 : (i : Int) < 6 := by omega
    have hmul : 0 ≤ a * (i : Int) ∧ a * (i : Int) ≤ 20 * 6 := ⟨Int.mul_nonneg (by omega) (by omega), Int.mul_le_mul (by omega) (by omega) (by omega) (by omega)⟩
    have hw : wrap64 (wrap64 (a * i) + b) = a * i + b := by rw [wrap64_id (a * i) (by omega) (by omega), wrap64_id _ (by omega) (by omega)]
    rw [hw]
    by_cases h6 : (a * i + b).tmod m = 0
    · refine Ev.pos h6 ?_
      rw [wrap64_id _ (by omega) (by omega)]
      exact hyes (by rw [hat, h6, decide_eq_false h3, show inB b (-50) 50 = true by simp [inB]; omega, show inB a 1 20 = true by simp [inB]; omega]; rfl)
    · exact Ev.neg h6 (Ev.eqs (hno (by rw [hat, show ((a * i + b).tmod m == 0) = false by simpa using h6]; simp)) (Ev.const false))
theorem Rule_f (m : Int) (t p : List Int) : Ev (fun k => remouldref06_Rule.f k m t p) (ruleB m t p) := by
  have hbad : ruleB m t p = false → Ev (fun k => remouldref06_Rule.j0 k m true m t p) (ruleB m t p) := fun h => by
    rw [h]
    exact Ev.step (h := fun _ => some false) (fun k => by rw [remouldref06_Rule.j0, if_pos rfl]) (Ev.const false)
  unfold remouldref06_Rule.f
  by_cases h1 : m < 2
  · exact Ev.pos h1 (hbad (by unfold ruleB; rw [show inB m 2 6 = false by simp [inB]; omega]; rfl))
  refine Ev.neg h1 ?_
  by_cases h2 : m > 6
  · exact Ev.pos h2 (hbad (by unfold ruleB; rw [show inB m 2 6 = false by simp [inB]; omega]; rfl))
  refine Ev.neg h2 ?_
  have hm : inB m 2 6 = true := by simp [inB]; omega
  by_cases h3 : (t.length : Int) = m
  · refine Ev.pos h3 ?_
    by_cases h4 : (p.length : Int) = m
    · rw [show ((p.length : Int) != m) = false by simpa using h4]
      refine Ev.step (h := fun k => remouldref06_Rule.l0 k m 0 m t p) (fun k => by rw [remouldref06_Rule.j0, if_neg (by decide)]) ?_
      have := Rule_l0 m t p (by omega) h3 h4 t.length 0 (by omega) (by omega)
      unfold ruleB
      rw [hm, decide_eq_true h3, decide_eq_true h4]
      exact this
    · rw [show ((p.length : Int) != m) = true by simpa using h4]
      exact hbad (by unfold ruleB; rw [decide_eq_false h4]; simp)
  · exact Ev.neg h3 (hbad (by unfold ruleB; rw [decide_eq_false h3]; simp))
theorem ints_l0 (a b : List Int) (hl : a.length = b.length) (hb : a.length ≤ 1000000) : ∀ d i : Nat, i + d = a.length → a.take i = b.take i → Ev (fun k => remouldlaw06_ints.l0 k a b (i : Int)) (decide (a = b)) := by
  intro d
  induction d with
  | zero =>
    intro i hi he
    refine Ev.step (h := fun k => some true) (fun k => by rw [remouldlaw06_ints.l0, if_neg (by omega)]) (Ev.eqs ?_ (Ev.const true))
    rw [List.take_of_length_le (by omega), List.take_of_length_le (by omega)] at he
    rw [decide_eq_true he]
  | succ d ih =>
    intro i hi he
    have ha : rd a (i : Int) = a[i] := by simp [rd, List.getElem?_eq_getElem (show i < a.length by omega)]
    have hb' : rd b (i : Int) = b[i] := by simp [rd, List.getElem?_eq_getElem (show i < b.length by omega)]
    refine Ev.step (h := fun k => if rd a (i : Int) = rd b (i : Int) then remouldlaw06_ints.l0 k a b (wrap64 ((i : Int) + 1)) else some false) (fun k => by rw [remouldlaw06_ints.l0, if_pos (by omega), if_pos (by omega), if_pos (by omega)]) ?_
    by_cases h : rd a (i : Int) = rd b (i : Int)
    · refine Ev.pos h ?_
      rw [wrap64_id _ (by omega) (by omega)]
      refine ih (i + 1) (by omega) ?_
      rw [List.take_succ_eq_append_getElem (by omega), List.take_succ_eq_append_getElem (show i < b.length by omega), he, ← ha, ← hb', h]
    · refine Ev.neg h (Ev.eqs ?_ (Ev.const false))
      rw [decide_eq_false]
      intro e
      subst e
      exact h rfl
theorem ints_f (a b : List Int) (hb : a.length ≤ 1000000) : Ev (fun k => remouldlaw06_ints.f k a b) (decide (a = b)) := by
  unfold remouldlaw06_ints.f
  by_cases h : (a.length : Int) = (b.length : Int)
  · exact Ev.pos h (ints_l0 a b (by omega) hb a.length 0 (by omega) rfl)
  · refine Ev.neg h (Ev.eqs ?_ (Ev.const false))
    rw [decide_eq_false]
    intro e
    subst e
    exact h rfl
theorem Rest_f {m : Int} {t p : List Int} (h : RuleIs m t p) (x : Int) : remouldref06_Rest.f m t p x = some (x % m) := by
  unfold remouldref06_Rest.f
  rw [if_neg (by have := h.m2; omega), rest_eq h.m2 h.m6]
theorem Send_f {m : Int} {t p : List Int} (h : RuleIs m t p) (x : Int) (hx : midB x) : remouldref06_Send.f m t p x = some (sentW m t p x) := by
  unfold remouldref06_Send.f
  rw [Rest_f h]
  simp only [Option.bind_some]
  have h1 := h.rest x
  have h2 := h.tl
  have h3 := h.pl
  have h4 := h.m2
  obtain ⟨t1, t2, _, p1, p2, _⟩ := h.ok (x % m) h1.1 h1.2
  have hn := h.num (x := x) (B := 200000000000000000) hx.1 hx.2
  rw [if_pos h1.1, if_pos (by omega), if_pos (by omega), if_neg (by omega), wrap64_id (rd t (x % m) * x) (by omega) (by omega), wrap64_id (rd t (x % m) * x + rd p (x % m)) (by omega) (by omega), h.tdiv]
  have hb := h.bound (x := x) (B := 200000000000000000) hx.1 hx.2
  rw [wrap64_id _ (by omega) (by omega)]

theorem awake_f : Ev (fun k => remouldlaw06_awake.f k) true := Ev.const true
/-- awake at a law's end. -/
theorem awake_t : Ev (fun k => (remouldlaw06_awake.f k).bind fun t => some t) true := Ev.bind awake_f (Ev.const true)
end Go.Proofs.Ytkjojcepombhpaa.L
