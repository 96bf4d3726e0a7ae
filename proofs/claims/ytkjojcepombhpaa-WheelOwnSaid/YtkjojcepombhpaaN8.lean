/- Plain law: the rules and courses that a law makes out of any numbers. -/
import Derived.Test.YtkjojcepombhpaaN0
import Derived.Test.YtkjojcepombhpaaL16
namespace Go.Proofs.Ytkjojcepombhpaa.L
set_option linter.unusedVariables false
set_option linter.unusedSimpArgs false
open Go.RowKit Go.Proofs.YtkjojcepombhpaaW.PrintWords Go.Proofs.YtkjojcepombhpaaW.PrintLast Go.Proofs.YtkjojcepombhpaaW.PrintMore

/-- A number taken into 0 .. n - 1, as the laws do it. -/
def modW (x n : Int) : Int := x % 18446744073709551616 % n
theorem modW_in (x n : Int) (hn : 0 < n) : 0 ≤ modW x n ∧ modW x n < n := ⟨Int.emod_nonneg _ (by omega), Int.emod_lt_of_pos _ hn⟩
theorem u64_wrap (x : Int) : IntKind.u64.wrap x = x % 18446744073709551616 := by
  simp only [IntKind.wrap, IntKind.bits, IntKind.signed]
  simp
theorem mod_f (x n : Int) (h0 : 0 < n) (h1 : n ≤ 4611686018427387904) : remouldlaw06_mod.f x n = some (modW x n) := by
  unfold remouldlaw06_mod.f
  rw [u64_wrap, u64_wrap, Int.emod_eq_of_lt (show 0 ≤ n by omega) (show n < 18446744073709551616 by omega), if_neg (by omega)]
  have hx := Int.emod_nonneg x (show (18446744073709551616 : Int) ≠ 0 by decide)
  rw [Int.tmod_eq_emod_of_nonneg hx]
  have := modW_in x n h0
  unfold modW at this ⊢
  rw [wrap64_id _ (by omega) (by omega)]

/-- A rule, as far as it is made. -/
structure RuleTo (m : Int) (i : Nat) (T P : List Int) : Prop where
  tl : T.length = i
  pl : P.length = i
  ok : ∀ j : Nat, j < i → (1 ≤ rd T (j : Int) ∧ rd T (j : Int) ≤ 20 ∧ Int.gcd (rd T (j : Int)) m = 1) ∧ (-50 ≤ rd P (j : Int) ∧ rd P (j : Int) ≤ 50) ∧ m ∣ rd T (j : Int) * j + rd P (j : Int)
theorem RuleTo.is {m : Int} {T P : List Int} (h : RuleTo m m.toNat T P) (h2 : 2 ≤ m) (h6 : m ≤ 6) : RuleIs m T P := by
  refine ⟨h2, h6, by rw [h.tl]; omega, by rw [h.pl]; omega, fun k k0 k1 => ?_⟩
  obtain ⟨⟨a1, a2, a3⟩, ⟨b1, b2⟩, c⟩ := h.ok k.toNat (by omega)
  rw [Int.toNat_of_nonneg k0] at a1 a2 a3 b1 b2 c
  exact ⟨a1, a2, a3, b1, b2, c⟩
theorem RuleTo.snoc {m : Int} {i : Nat} {T P : List Int} (h : RuleTo m i T P) {a b : Int} (ha : 1 ≤ a ∧ a ≤ 20 ∧ Int.gcd a m = 1) (hb : -50 ≤ b ∧ b ≤ 50) (hd : m ∣ a * i + b) : RuleTo m (i + 1) (T ++ [a]) (P ++ [b]) := by
  refine ⟨by simp [h.tl], by simp [h.pl], fun j hj => ?_⟩
  by_cases e : j = i
  · subst e
    have e1 : rd (T ++ [a]) (j : Int) = a := by simp [rd, List.getElem?_append_right, h.tl]
    have e2 : rd (P ++ [b]) (j : Int) = b := by simp [rd, List.getElem?_append_right, h.pl]
    rw [e1, e2]
    exact ⟨ha, hb, hd⟩
  · have hj' : j < i := by omega
    have e1 : rd (T ++ [a]) (j : Int) = rd T (j : Int) := by simp [rd, List.getElem?_append_left, h.tl, hj']
    have e2 : rd (P ++ [b]) (j : Int) = rd P (j : Int) := by simp [rd, List.getElem?_append_left, h.pl, hj']
    rw [e1, e2]
    exact h.ok j hj'
/-- It comes to a rule of modulus m. -/
def ToRule (m : Int) (g : Nat → Option (Int × List Int × List Int)) : Prop := ∃ T P, Ev g (m, T, P) ∧ RuleIs m T P
theorem ToRule.step {m : Int} {g h : Nat → Option (Int × List Int × List Int)} (he : ∀ k, g (k + 1) = h k) (hh : ToRule m h) : ToRule m g := by
  obtain ⟨T, P, h1, h2⟩ := hh
  exact ⟨T, P, Ev.step he h1, h2⟩
theorem ToRule.bind {α : Type} {m : Int} {g : Nat → Option α} {h : Nat → α → Option (Int × List Int × List Int)} {a : α} (hg : Ev g a) (hh : ToRule m (fun k => h k a)) : ToRule m (fun k => (g k).bind (h k)) := by
  obtain ⟨T, P, h1, h2⟩ := hh
  exact ⟨T, P, Ev.bind hg h1, h2⟩
theorem ToRule.pos {m : Int} {c : Prop} [Decidable c] {g h : Nat → Option (Int × List Int × List Int)} (hc : c) (hh : ToRule m g) : ToRule m (fun k => if c then g k else h k) := by
  obtain ⟨T, P, h1, h2⟩ := hh
  exact ⟨T, P, Ev.pos hc h1, h2⟩
theorem ToRule.neg {m : Int} {c : Prop} [Decidable c] {g h : Nat → Option (Int × List Int × List Int)} (hc : ¬ c) (hh : ToRule m h) : ToRule m (fun k => if c then g k else h k) := by
  obtain ⟨T, P, h1, h2⟩ := hh
  exact ⟨T, P, Ev.neg hc h1, h2⟩
section
variable {m : Int} (h2 : 2 ≤ m) (h6 : m ≤ 6) (l1 l2 : List Int) (i : Nat) (him : (i : Int) < m) {T P : List Int} (hT : RuleTo m i T P)
    (next : ∀ T P, RuleTo m (i + 1) T P → ToRule m (fun k => remouldlaw06_tame.l0 k m l1 l2 ((i + 1 : Nat) : Int) m T P))
include h2 h6 him hT next
theorem tame_l2 {a : Int} (ha : 1 ≤ a ∧ a ≤ 20 ∧ Int.gcd a m = 1) : ∀ d : Nat, ∀ b : Int, (a * i + b) % m = d → -50 - m < b - d → b ≤ 50 → ToRule m (fun k => remouldlaw06_tame.l2 k m l1 l2 (i : Int) a b m T P) := by
  have hi6 : (i : Int) < 6 := by omega
  have hmul : 0 ≤ a * (i : Int) ∧ a * (i : Int) ≤ 20 * 6 := ⟨Int.mul_nonneg (by omega) (by omega), Int.mul_le_mul (by omega) (by omega) (by omega) (by omega)⟩
  have hl1 := hT.tl
  have hl2 := hT.pl
  have ew : wrap64 ((i : Int) + 1) = ((i + 1 : Nat) : Int) := by rw [wrap64_id _ (by omega) (by omega)]; rfl
  intro d
  induction d with
  | zero =>
    intro b hb h1 h3
    have hd : m ∣ a * i + b := Int.dvd_of_emod_eq_zero (by simpa using hb)
    by_cases hlt : b < -50
    · refine ToRule.step (fun k => by rw [remouldlaw06_tame.l2, if_neg (by omega), wrap64_id (a * i) (by omega) (by omega), wrap64_id (a * i + b) (by omega) (by omega), if_pos (Int.tmod_eq_zero_of_dvd hd), if_pos hlt, if_pos (by omega), if_pos (by omega), ew, wrap64_id (b + m) (by omega) (by omega)]) (next _ _ (hT.snoc ha (by omega) ?_))
      have := Int.dvd_add hd (Int.dvd_refl m)
      rw [Int.add_assoc] at this
      exact this
    · exact ToRule.step (fun k => by rw [remouldlaw06_tame.l2, if_neg (by omega), wrap64_id (a * i) (by omega) (by omega), wrap64_id (a * i + b) (by omega) (by omega), if_pos (Int.tmod_eq_zero_of_dvd hd), if_neg hlt, if_pos (by omega), if_pos (by omega), ew]) (next _ _ (hT.snoc ha (by omega) hd))
  | succ d ih =>
    intro b hb h1 h3
    have hd : ¬ Int.tmod (a * i + b) m = 0 := by
      intro e
      have := Int.emod_eq_zero_of_dvd (Int.dvd_of_tmod_eq_zero e)
      omega
    have hlt := Int.emod_lt_of_pos (a * i + b) (show 0 < m by omega)
    refine ToRule.step (fun k => by rw [remouldlaw06_tame.l2, if_neg (by omega), wrap64_id (a * i) (by omega) (by omega), wrap64_id (a * i + b) (by omega) (by omega), if_neg hd, wrap64_id (b - 1) (by omega) (by omega)]) (ih (b - 1) ?_ (by omega) (by omega))
    have e1 := Int.emod_add_mul_ediv (a * i + b) m
    rw [hb] at e1
    have e2 : a * i + (b - 1) = (d : Int) + m * ((a * i + b) / m) := by omega
    rw [e2, Int.add_mul_emod_self_left, Int.emod_eq_of_lt (by omega) (by omega)]
theorem tame_j3 {a b : Int} (ha : 1 ≤ a ∧ a ≤ 20 ∧ Int.gcd a m = 1) (hb : -50 ≤ b ∧ b ≤ 50) : ToRule m (fun k => remouldlaw06_tame.j3 k m l1 l2 (i : Int) a b m T P) := by
  have e0 := Int.emod_nonneg (a * i + b) (show m ≠ 0 by omega)
  have e1 := Int.emod_lt_of_pos (a * i + b) (show 0 < m by omega)
  exact ToRule.step (fun k => by rw [remouldlaw06_tame.j3]) (tame_l2 h2 h6 l1 l2 i him hT next ha ((a * i + b) % m).toNat b (by omega) (by omega) hb.2)
theorem tame_l1 : ∀ n : Nat, ∀ a : Int, a.toNat = n → 1 ≤ a → a ≤ 20 → ToRule m (fun k => remouldlaw06_tame.l1 k m l1 l2 (i : Int) a 0 m T P) := by
  intro n
  induction n with
  | zero => intro a e h; omega
  | succ n ih =>
    intro a e h1 h20
    have hg : Int.gcd a m ≠ 0 := by intro e; rw [Int.gcd_eq_zero_iff] at e; omega
    refine ToRule.step (fun k => by rw [remouldlaw06_tame.l1]) (ToRule.bind (Gcd_f a m (by omega) (by omega)) ?_)
    by_cases h3 : (Int.gcd a m : Int) > 1
    · refine ToRule.pos h3 ?_
      have hne : a ≠ 1 := by intro e; subst e; rw [Int.one_gcd] at h3; omega
      rw [wrap64_id (a - 1) (by omega) (by omega)]
      exact ih (a - 1) (by omega) (by omega) (by omega)
    · refine ToRule.neg h3 ?_
      have ha : 1 ≤ a ∧ a ≤ 20 ∧ Int.gcd a m = 1 := ⟨h1, h20, by omega⟩
      by_cases h4 : (i : Int) < (l2.length : Int)
      · refine ToRule.pos h4 (ToRule.pos (by omega) (ToRule.bind (Ev.of (mod_f _ 101 (by decide) (by decide))) ?_))
        have hb := modW_in (rd l2 (i : Int)) 101 (by decide)
        rw [wrap64_id _ (by omega) (by omega)]
        exact tame_j3 h2 h6 l1 l2 i him hT next ha (by omega)
      · exact ToRule.neg h4 (tame_j3 h2 h6 l1 l2 i him hT next ha (by omega))
end
theorem tame_l0 {m : Int} (h2 : 2 ≤ m) (h6 : m ≤ 6) (l1 l2 : List Int) : ∀ d i : Nat, ∀ T P, i + d = m.toNat → RuleTo m i T P → ToRule m (fun k => remouldlaw06_tame.l0 k m l1 l2 (i : Int) m T P) := by
  intro d
  induction d with
  | zero =>
    intro i T P hi hT
    refine ⟨T, P, Ev.step (h := fun _ => some (m, T, P)) (fun k => by rw [remouldlaw06_tame.l0, if_neg (by omega)]) (Ev.const _), ?_⟩
    obtain rfl : i = m.toNat := by omega
    exact hT.is h2 h6
  | succ d ih =>
    intro i T P hi hT
    have him : (i : Int) < m := by omega
    have next := fun T P hT => ih (i + 1) T P (by omega) hT
    by_cases h4 : (i : Int) < (l1.length : Int)
    · have hb := modW_in (rd l1 (i : Int)) 20 (by decide)
      refine ToRule.step (fun k => by rw [remouldlaw06_tame.l0, if_pos him, if_pos h4, if_pos (by omega)]) (ToRule.bind (Ev.of (mod_f _ 20 (by decide) (by decide))) ?_)
      rw [wrap64_id _ (by omega) (by omega)]
      exact ToRule.step (fun k => by rw [remouldlaw06_tame.j1]) (tame_l1 h2 h6 l1 l2 i him hT next _ _ rfl (by omega) (by omega))
    · refine ToRule.step (fun k => by rw [remouldlaw06_tame.l0, if_pos him, if_neg h4]) ?_
      exact ToRule.step (fun k => by rw [remouldlaw06_tame.j1]) (tame_l1 h2 h6 l1 l2 i him hT next _ 1 rfl (by omega) (by omega))
/-- What tame makes is a rule. -/
theorem tame_f (a0 : Int) (l1 l2 : List Int) : ∃ m T P, Ev (fun k => remouldlaw06_tame.f k a0 l1 l2) (m, T, P) ∧ RuleIs m T P := by
  have hb := modW_in a0 5 (by decide)
  have : ToRule (2 + modW a0 5) (fun k => remouldlaw06_tame.f k a0 l1 l2) := by
    unfold remouldlaw06_tame.f
    refine ToRule.bind (Ev.of (mod_f a0 5 (by decide) (by decide))) ?_
    rw [wrap64_id _ (by omega) (by omega)]
    exact tame_l0 (by omega) (by omega) l1 l2 (2 + modW a0 5).toNat 0 [] [] (by omega) ⟨rfl, rfl, by omega⟩
  obtain ⟨T, P, h1, h2⟩ := this
  exact ⟨_, T, P, h1, h2⟩
theorem course_l0 {m : Int} (h2 : 2 ≤ m) (h6 : m ≤ 6) (l : List Int) : ∀ d i : Nat, ∀ out : List Int, i + d = min l.length 12 → out.length = i → CourseIs m out → ∃ c, Ev (fun k => remouldlaw06_course.l0 k l m out (i : Int)) c ∧ CourseIs m c ∧ c.length ≤ 12 := by
  intro d
  induction d with
  | zero =>
    intro i out hi ho hc
    refine ⟨out, Ev.step (h := fun _ => some out) (fun k => ?_) (Ev.const _), hc, by omega⟩
    rw [remouldlaw06_course.l0]
    by_cases h : (i : Int) < (l.length : Int)
    · rw [if_pos h, if_neg (by omega)]
    · rw [if_neg h]
  | succ d ih =>
    intro i out hi ho hc
    have hb := modW_in (rd l (i : Int)) m (by omega)
    obtain ⟨c, h1, h3⟩ := ih (i + 1) (out ++ [modW (rd l (i : Int)) m]) (by omega) (by simp [ho]) (fun r hr => by
      rcases List.mem_append.1 hr with h | h
      · exact hc r h
      · rw [List.mem_singleton] at h; subst h; exact hb)
    have ew : wrap64 ((i : Int) + 1) = ((i + 1 : Nat) : Int) := by rw [wrap64_id _ (by omega) (by omega)]; rfl
    have hin : out.length < 17592186044416 := by omega
    refine ⟨c, Ev.step (fun k => by rw [remouldlaw06_course.l0, if_pos (by omega), if_pos (by omega), if_pos (by omega), mod_f _ m (by omega) (by omega), Option.bind_some, if_pos hin, ew]) h1, h3⟩
/-- What course makes is a course. -/
theorem course_f {m : Int} (h2 : 2 ≤ m) (h6 : m ≤ 6) (l : List Int) : ∃ c, Ev (fun k => remouldlaw06_course.f k l m) c ∧ CourseIs m c ∧ c.length ≤ 12 :=
  course_l0 h2 h6 l (min l.length 12) 0 [] (by omega) rfl (fun r hr => by cases hr)
end Go.Proofs.Ytkjojcepombhpaa.L
