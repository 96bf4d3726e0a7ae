/- Plain law: the form of a course, and the remainders that a number has in turn. -/
import Derived.Test.YtkjojcepombhpaaM1
namespace Go.Proofs.Ytkjojcepombhpaa.L
set_option linter.unusedVariables false
set_option linter.unusedSimpArgs false
open Go.Proofs.YtkjojcepombhpaaW.PrintWords

/-- One remainder more of a form. -/
def formStep (m : Int) (t p : List Int) (s : Int × Int × Int) (r : Int) : Int × Int × Int := (s.1 * rd t r, s.2.1 * rd t r + rd p r * s.2.2, s.2.2 * m)
def formW (m : Int) (t p : List Int) (l : List Int) : Int × Int × Int := l.foldl (formStep m t p) (1, 0, 1)
theorem formW_snoc (m : Int) (t p : List Int) (l : List Int) (r : Int) : formW m t p (l ++ [r]) = formStep m t p (formW m t p l) r := by simp [formW]

variable {m : Int} {t p : List Int}
theorem take_succ_rd (l : List Int) (k : Nat) (hk : k < l.length) : l.take (k + 1) = l.take k ++ [rd l (k : Int)] := by
  rw [List.take_succ_eq_append_getElem hk]
  simp [rd, List.getElem?_eq_getElem hk]
theorem CourseIs.take {l : List Int} (h : CourseIs m l) (k : Nat) : CourseIs m (l.take k) := fun r hr => h r (List.mem_of_mem_take hr)
theorem CourseIs.at {l : List Int} {n k : Nat} (h : CourseIs m (l.take n)) (hk : k < n) (hn : n ≤ l.length) : 0 ≤ rd l (k : Int) ∧ rd l (k : Int) < m := by
  have hl : k < l.length := by omega
  have : rd l (k : Int) = l[k] := by simp [rd, List.getElem?_eq_getElem hl]
  rw [this]
  refine h _ ?_
  rw [List.mem_take_iff_getElem]
  exact ⟨k, by omega, rfl⟩
theorem mul_le_20 {x y B : Int} (h1 : 1 ≤ y) (h2 : y ≤ 20) (hl : -B ≤ x) (hu : x ≤ B) : -(20 * B) ≤ x * y ∧ x * y ≤ 20 * B := by
  rw [Int.mul_comm x y]
  exact mul_bound h1 h2 hl hu
theorem mul_le_50 {x y S : Int} (h1 : -50 ≤ y) (h2 : y ≤ 50) (hl : 0 ≤ x) (hu : x ≤ S) : -(50 * S) ≤ y * x ∧ y * x ≤ 50 * S := by
  have a1 := Int.mul_le_mul_of_nonneg_right h2 hl
  have a2 := Int.mul_le_mul_of_nonneg_right h1 hl
  omega
/-- How great the numbers of a form are. -/
structure FormIn (k : Nat) (s : Int × Int × Int) : Prop where
  a1 : 1 ≤ s.1
  a2 : s.1 ≤ 20 ^ k
  b1 : -(4 * (20 ^ k - 6 ^ k)) ≤ s.2.1
  b2 : s.2.1 ≤ 4 * (20 ^ k - 6 ^ k)
  d1 : 1 ≤ s.2.2
  d2 : s.2.2 ≤ 6 ^ k
theorem formIn_step (h : RuleIs m t p) {k : Nat} {s : Int × Int × Int} {r : Int} (hs : FormIn k s) (hr : 0 ≤ r ∧ r < m) : FormIn (k + 1) (formStep m t p s r) := by
  obtain ⟨t1, t2, _, p1, p2, _⟩ := h.ok r hr.1 hr.2
  obtain ⟨a1, a2, b1, b2, d1, d2⟩ := hs
  have m2 := h.m2
  have m6 := h.m6
  have e20 : (20 : Int) ^ (k + 1) = 20 * 20 ^ k := by rw [Int.pow_succ, Int.mul_comm]
  have e6 : (6 : Int) ^ (k + 1) = 6 * 6 ^ k := by rw [Int.pow_succ, Int.mul_comm]
  obtain ⟨sa, sb, sd⟩ := s
  dsimp only at a1 a2 b1 b2 d1 d2
  have q1 := mul_le_20 (x := sa) (B := 20 ^ k) t1 t2 (by omega) a2
  have q2 : 1 * 1 ≤ sa * rd t r := Int.mul_le_mul a1 t1 (by omega) (by omega)
  have q3 := mul_le_20 (x := sb) t1 t2 b1 b2
  have q4 := mul_le_50 (x := sd) p1 p2 (by omega) d2
  have q5 : sd * m ≤ 6 ^ k * 6 := Int.mul_le_mul d2 m6 (by omega) (by omega)
  have q6 : 1 * 1 ≤ sd * m := Int.mul_le_mul d1 (show (1 : Int) ≤ m by omega) (by omega) (by omega)
  constructor <;> simp only [formStep] <;> (try rw [e20]) <;> (try rw [e6]) <;> omega
theorem formIn (h : RuleIs m t p) {l : List Int} (hl : CourseIs m l) : FormIn l.length (formW m t p l) := by
  have key : ∀ (l : List Int), CourseIs m l → ∀ (k : Nat) (s : Int × Int × Int), FormIn k s → FormIn (k + l.length) (l.foldl (formStep m t p) s) := by
    intro l
    induction l with
    | nil => intro _ k s hs; exact hs
    | cons r l ih =>
      intro hl k s hs
      obtain ⟨hr, hl⟩ := hl.cons
      have := ih hl (k + 1) _ (formIn_step h hs hr)
      rw [List.foldl_cons, List.length_cons, show k + (l.length + 1) = k + 1 + l.length by omega]
      exact this
  have := key l hl 0 (1, 0, 1) ⟨by decide, by decide, by decide, by decide, by decide, by decide⟩
  rw [Nat.zero_add] at this
  exact this
theorem pow_step (x : Int) (hx : 1 ≤ x) (k : Nat) : 1 ≤ x ^ k := by
  induction k with
  | zero => simp
  | succ k ih => rw [Int.pow_succ]; have := Int.mul_le_mul ih hx (by omega) (by omega); omega
theorem pow_mono (x : Int) (hx : 1 ≤ x) {k n : Nat} (h : k ≤ n) : x ^ k ≤ x ^ n := by
  obtain ⟨d, rfl⟩ := Nat.le.dest h
  rw [Int.pow_add]
  have := Int.mul_le_mul (Int.le_refl (x ^ k)) (pow_step x hx d) (by omega) (by have := pow_step x hx k; omega)
  omega
theorem pow20_le {k n : Nat} (h : k ≤ n) : (20 : Int) ^ k ≤ 20 ^ n := pow_mono 20 (by decide) h
theorem pow6_pos (k : Nat) : (1 : Int) ≤ 6 ^ k := by
  induction k with
  | zero => decide
  | succ k ih => rw [Int.pow_succ]; omega
theorem pow6_le {k n : Nat} (h : k ≤ n) : (6 : Int) ^ k ≤ 6 ^ n := pow_mono 6 (by decide) h
/-- With at most twelve remainders. -/
theorem FormIn.small {k : Nat} {s : Int × Int × Int} (h : FormIn k s) (hk : k ≤ 12) : s.1 ≤ 4096000000000000 ∧ -16384000000000000 ≤ s.2.1 ∧ s.2.1 ≤ 16384000000000000 ∧ s.2.2 ≤ 2176782336 := by
  have := pow20_le hk
  have e : (20 : Int) ^ 12 = 4096000000000000 := by decide
  have h6 := pow6_le hk
  have e6 : (6 : Int) ^ 12 = 2176782336 := by decide
  have hp := pow6_pos k
  obtain ⟨a1, a2, b1, b2, d1, d2⟩ := h
  refine ⟨by omega, by omega, by omega, by omega⟩
theorem FormIn.less {k : Nat} {s : Int × Int × Int} (h : FormIn k s) (hk : k < 12) : s.1 ≤ 204800000000000 ∧ -819200000000000 ≤ s.2.1 ∧ s.2.1 ≤ 819200000000000 := by
  have := pow20_le (show k ≤ 11 by omega)
  have e : (20 : Int) ^ 11 = 204800000000000 := by decide
  have hp := pow6_pos k
  obtain ⟨a1, a2, b1, b2, d1, d2⟩ := h
  refine ⟨by omega, by omega, by omega⟩
end Go.Proofs.Ytkjojcepombhpaa.L
