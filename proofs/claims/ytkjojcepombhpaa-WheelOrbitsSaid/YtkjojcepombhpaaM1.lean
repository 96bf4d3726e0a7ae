/- Plain law: what a rule does to numbers: sent, courses, forms. No program in sight. -/
import Derived.Test.YtkjojcepombhpaaWWords
namespace Go.Proofs.Ytkjojcepombhpaa.L
set_option linter.unusedVariables false
set_option linter.unusedSimpArgs false
open Go.Proofs.YtkjojcepombhpaaW.PrintWords

/-- A rule: modulus, factors, summands. -/
structure RuleIs (m : Int) (t p : List Int) : Prop where
  m2 : 2 ≤ m
  m6 : m ≤ 6
  tl : (t.length : Int) = m
  pl : (p.length : Int) = m
  ok : ∀ k, 0 ≤ k → k < m → 1 ≤ rd t k ∧ rd t k ≤ 20 ∧ Int.gcd (rd t k) m = 1 ∧ -50 ≤ rd p k ∧ rd p k ≤ 50 ∧ m ∣ rd t k * k + rd p k

def restW (m x : Int) : Int := x % m
def sentW (m : Int) (t p : List Int) (x : Int) : Int := (rd t (x % m) * x + rd p (x % m)) / m
def iterW (m : Int) (t p : List Int) : Nat → Int → Int
  | 0, x => x
  | k + 1, x => iterW m t p k (sentW m t p x)
def followsW (m : Int) (t p : List Int) : List Int → Int → Bool
  | [], _ => true
  | r :: l, x => x % m == r && followsW m t p l (sentW m t p x)
/-- The product of the factors of a course. -/
def prodW (t : List Int) : List Int → Int
  | [] => 1
  | r :: l => rd t r * prodW t l
def powW (m : Int) : Nat → Int
  | 0 => 1
  | n + 1 => m * powW m n
/-- The remainders of a course. -/
def CourseIs (m : Int) (l : List Int) : Prop := ∀ r ∈ l, 0 ≤ r ∧ r < m

variable {m : Int} {t p : List Int}

theorem RuleIs.mpos (h : RuleIs m t p) : 0 < m := by have := h.m2; omega
theorem RuleIs.rest (h : RuleIs m t p) (x : Int) : 0 ≤ x % m ∧ x % m < m := ⟨Int.emod_nonneg _ (by have := h.m2; omega), Int.emod_lt_of_pos _ h.mpos⟩
theorem RuleIs.dvd (h : RuleIs m t p) (x : Int) : m ∣ rd t (x % m) * x + rd p (x % m) := by
  obtain ⟨h0, h1⟩ := h.rest x
  have hd := (h.ok _ h0 h1).2.2.2.2.2
  have e : rd t (x % m) * x + rd p (x % m) = m * (rd t (x % m) * (x / m)) + (rd t (x % m) * (x % m) + rd p (x % m)) := by
    have hx : x = m * (x / m) + x % m := (Int.mul_ediv_add_emod x m).symm
    calc rd t (x % m) * x + rd p (x % m) = rd t (x % m) * (m * (x / m) + x % m) + rd p (x % m) := by rw [← hx]
      _ = _ := by rw [Int.mul_add, Int.mul_left_comm, Int.add_assoc]
  rw [e]
  exact Int.dvd_add (Int.dvd_mul_right _ _) hd
theorem RuleIs.mul (h : RuleIs m t p) (x : Int) : m * sentW m t p x = rd t (x % m) * x + rd p (x % m) :=
  Int.mul_ediv_cancel' (h.dvd x)
/-- The exact quotient, rounded any way. -/
theorem RuleIs.tdiv (h : RuleIs m t p) (x : Int) : Int.tdiv (rd t (x % m) * x + rd p (x % m)) m = sentW m t p x := by
  rw [← h.mul x, Int.mul_comm]
  exact Int.mul_tdiv_cancel _ (by have := h.m2; omega)
theorem mul_bound {a x B : Int} (h1 : 1 ≤ a) (h2 : a ≤ 20) (hl : -B ≤ x) (hu : x ≤ B) : -(20 * B) ≤ a * x ∧ a * x ≤ 20 * B := by
  have hB : 0 ≤ B := by omega
  have a1 : a * x ≤ a * B := Int.mul_le_mul_of_nonneg_left hu (by omega)
  have a2 : a * B ≤ 20 * B := Int.mul_le_mul_of_nonneg_right h2 hB
  have a3 : a * (-B) ≤ a * x := Int.mul_le_mul_of_nonneg_left hl (by omega)
  have a4 : a * (-B) = -(a * B) := Int.mul_neg _ _
  omega
theorem RuleIs.num (h : RuleIs m t p) {x B : Int} (hl : -B ≤ x) (hu : x ≤ B) : -(20 * B) ≤ rd t (x % m) * x ∧ rd t (x % m) * x ≤ 20 * B := by
  obtain ⟨h0, h1⟩ := h.rest x
  obtain ⟨t1, t2, _⟩ := h.ok _ h0 h1
  exact mul_bound t1 t2 hl hu
theorem RuleIs.bound (h : RuleIs m t p) {x B : Int} (hl : -B ≤ x) (hu : x ≤ B) : -(10 * B + 25) ≤ sentW m t p x ∧ sentW m t p x ≤ 10 * B + 25 := by
  obtain ⟨h0, h1⟩ := h.rest x
  obtain ⟨t1, t2, _, p1, p2, _⟩ := h.ok _ h0 h1
  obtain ⟨n1, n2⟩ := h.num hl hu
  have e := h.mul x
  have m2 := h.m2
  have m6 := h.m6
  generalize sentW m t p x = y at *
  generalize rd t (x % m) * x = z at *
  generalize rd p (x % m) = q at *
  constructor
  · by_cases hy : 0 ≤ y
    · omega
    · have : m * y ≤ 2 * y := by
        have := Int.mul_le_mul_of_nonneg_right m2 (show 0 ≤ -y by omega)
        rw [Int.mul_neg, Int.mul_neg] at this
        omega
      omega
  · by_cases hy : y ≤ 0
    · omega
    · have := Int.mul_le_mul_of_nonneg_right m2 (show 0 ≤ y by omega)
      omega

theorem powW_pos (h : RuleIs m t p) (n : Nat) : 0 < powW m n := by
  induction n with
  | zero => simp [powW]
  | succ n ih => exact Int.mul_pos h.mpos ih
theorem powW_succ (n : Nat) : powW m (n + 1) = m * powW m n := rfl
theorem powW_add (a b : Nat) : powW m (a + b) = powW m a * powW m b := by
  induction a with
  | zero => simp [powW]
  | succ a ih => rw [show a + 1 + b = (a + b) + 1 by omega, powW_succ, ih, powW_succ, Int.mul_assoc]
theorem CourseIs.cons {r : Int} {l : List Int} (h : CourseIs m (r :: l)) : (0 ≤ r ∧ r < m) ∧ CourseIs m l := ⟨h r List.mem_cons_self, fun x hx => h x (List.mem_cons_of_mem _ hx)⟩

theorem emod_shift (x j n : Int) : (x + m * n * j) % m = x % m := by
  rw [Int.mul_assoc, Int.add_mul_emod_self_left]
theorem sent_shift (h : RuleIs m t p) (x q : Int) : sentW m t p (x + m * q) = sentW m t p x + rd t (x % m) * q := by
  have hm : m ≠ 0 := by have := h.m2; omega
  apply Int.eq_of_mul_eq_mul_left hm
  rw [h.mul, Int.mul_add, Int.add_mul_emod_self_left, Int.mul_add, h.mul, Int.mul_left_comm m]
  omega
/-- A number with a course, moved by a multiple of the power: the same course, and the last number is moved by the product. -/
theorem follows_shift (h : RuleIs m t p) (l : List Int) : ∀ (x j : Int), followsW m t p l x = true →
    followsW m t p l (x + powW m l.length * j) = true ∧ iterW m t p l.length (x + powW m l.length * j) = iterW m t p l.length x + prodW t l * j := by
  induction l with
  | nil => intro x j _; simp [followsW, iterW, prodW, powW]
  | cons r l ih =>
    intro x j hf
    simp only [followsW, Bool.and_eq_true, beq_iff_eq] at hf
    obtain ⟨hr, hf⟩ := hf
    have e : x + powW m (r :: l).length * j = x + m * (powW m l.length * j) := by
      show x + m * powW m l.length * j = _
      rw [Int.mul_assoc]
    have es : sentW m t p (x + powW m (r :: l).length * j) = sentW m t p x + powW m l.length * (rd t r * j) := by
      rw [e, sent_shift h, hr, Int.mul_left_comm]
    obtain ⟨i1, i2⟩ := ih (sentW m t p x) (rd t r * j) hf
    constructor
    · simp only [followsW, Bool.and_eq_true, beq_iff_eq]
      refine ⟨?_, by rw [es]; exact i1⟩
      rw [e, Int.add_mul_emod_self_left]
      exact hr
    · show iterW m t p l.length (sentW m t p (x + powW m (r :: l).length * j)) = iterW m t p l.length (sentW m t p x) + rd t r * prodW t l * j
      rw [es, i2, Int.mul_left_comm, Int.mul_assoc]
theorem dvd_of_mul {n : Nat} (h : RuleIs m t p) {a q : Int} (hg : Int.gcd a m = 1) (hd : powW m n ∣ a * q) : powW m n ∣ q := by
  induction n generalizing q with
  | zero => simp [powW]
  | succ n ih =>
    have h1 : m ∣ a * q := Int.dvd_trans (Int.dvd_mul_right m (powW m n)) hd
    have h2 : m ∣ q := by
      rw [← Int.natAbs_dvd_natAbs] at h1 ⊢
      rw [Int.natAbs_mul] at h1
      exact Nat.Coprime.dvd_of_dvd_mul_left (Nat.Coprime.symm hg) h1
    obtain ⟨q', rfl⟩ := h2
    have h3 : powW m n ∣ a * q' := by
      obtain ⟨c, hc⟩ := hd
      refine ⟨c, ?_⟩
      apply Int.eq_of_mul_eq_mul_left (show m ≠ 0 by have := h.m2; omega)
      rw [Int.mul_left_comm m a q', hc, powW_succ, Int.mul_assoc]
    obtain ⟨c, hc⟩ := ih h3
    exact ⟨c, by rw [powW_succ, hc, Int.mul_assoc]⟩
/-- Two numbers with the same course differ by a multiple of the power. -/
theorem follows_apart (h : RuleIs m t p) (l : List Int) : ∀ (x y : Int), followsW m t p l x = true → followsW m t p l y = true → powW m l.length ∣ x - y := by
  induction l with
  | nil => intro x y _ _; simp [powW]
  | cons r l ih =>
    intro x y hx hy
    simp only [followsW, Bool.and_eq_true, beq_iff_eq] at hx hy
    obtain ⟨q, hq⟩ : ∃ q, x = y + m * q := ⟨x / m - y / m, by
      have e1 := Int.mul_ediv_add_emod x m
      have e2 := Int.mul_ediv_add_emod y m
      rw [Int.mul_sub]
      omega⟩
    have hd := ih _ _ hx.2 hy.2
    rw [hq, sent_shift h, hy.1] at hd
    have hrl := h.rest y
    rw [hy.1] at hrl
    have hg := (h.ok r hrl.1 hrl.2).2.2.1
    have e : sentW m t p y + rd t r * q - sentW m t p y = rd t r * q := by omega
    rw [e] at hd
    obtain ⟨c, hc⟩ := dvd_of_mul h hg hd
    exact ⟨c, by rw [hq, hc]; show _ = m * powW m l.length * c; rw [Int.mul_assoc]; omega⟩
theorem gcd_mul_one {a b : Int} (h1 : Int.gcd a m = 1) (h2 : Int.gcd b m = 1) : Int.gcd (a * b) m = 1 := by
  show Nat.gcd (a * b).natAbs m.natAbs = 1
  rw [Int.natAbs_mul]
  exact Nat.Coprime.mul_left h1 h2
theorem prodW_gcd (h : RuleIs m t p) {l : List Int} (hl : CourseIs m l) : Int.gcd (prodW t l) m = 1 := by
  induction l with
  | nil => simp [prodW]
  | cons r l ih =>
    obtain ⟨hr, hl⟩ := hl.cons
    exact gcd_mul_one (h.ok r hr.1 hr.2).2.2.1 (ih hl)
theorem prodW_bound (h : RuleIs m t p) {l : List Int} (hl : CourseIs m l) : 1 ≤ prodW t l := by
  induction l with
  | nil => simp [prodW]
  | cons r l ih =>
    obtain ⟨hr, hl⟩ := hl.cons
    have := (h.ok r hr.1 hr.2).1
    exact Int.mul_pos (by omega) (by have := ih hl; omega)
theorem inv_fin : ∀ m : Fin 7, ∀ a : Fin 7, 2 ≤ m.val → Nat.gcd a.val m.val = 1 → ∃ u : Fin 7, (a.val * u.val) % m.val = 1 := by decide
theorem gcd_emod (a m : Int) (hm : 0 < m) : Nat.gcd (a % m).toNat m.toNat = Int.gcd a m := by
  have h0 := Int.emod_nonneg a (show m ≠ 0 by omega)
  have e1 : Int.gcd a m = Int.gcd m a := Int.gcd_comm _ _
  have key : ∀ d : Nat, d ∣ Nat.gcd (a % m).toNat m.toNat ↔ d ∣ Int.gcd a m := by
    intro d
    rw [Nat.dvd_gcd_iff]
    have e2 : d ∣ Int.gcd a m ↔ d ∣ a.natAbs ∧ d ∣ m.natAbs := Nat.dvd_gcd_iff
    rw [e2]
    have c1 : ∀ x : Int, d ∣ x.natAbs ↔ (d : Int) ∣ x := fun x => by rw [← Int.natAbs_dvd_natAbs]; simp
    have c2 : d ∣ m.toNat ↔ (d : Int) ∣ m := by rw [← c1, show m.natAbs = m.toNat by omega]
    have c3 : d ∣ (a % m).toNat ↔ (d : Int) ∣ a % m := by rw [← c1, show (a % m).natAbs = (a % m).toNat by omega]
    rw [c1, c1, c2, c3]
    have e := Int.mul_ediv_add_emod a m
    constructor
    · rintro ⟨h1, h2⟩
      exact ⟨by rw [← e]; exact Int.dvd_add (Int.dvd_trans h2 (Int.dvd_mul_right _ _)) h1, h2⟩
    · rintro ⟨h1, h2⟩
      refine ⟨?_, h2⟩
      rw [show a % m = a - m * (a / m) by omega]
      exact Int.dvd_sub h1 (Int.dvd_trans h2 (Int.dvd_mul_right _ _))
  exact Nat.dvd_antisymm ((key _).1 (Nat.dvd_refl _)) ((key _).2 (Nat.dvd_refl _))
theorem inv_exists (h : RuleIs m t p) {A : Int} (hA : Int.gcd A m = 1) : ∃ u v : Int, A * u + m * v = 1 := by
  have hm := h.mpos
  have h2 := h.m2
  have h6 := h.m6
  obtain ⟨r0, r1⟩ := h.rest A
  have hg := gcd_emod A m hm
  rw [hA] at hg
  obtain ⟨u, hu⟩ := inv_fin ⟨m.toNat, by omega⟩ ⟨(A % m).toNat, by omega⟩ (by simp; omega) hg
  simp only at hu
  have e1 : ((A % m).toNat : Int) = A % m := by omega
  have e2 : (m.toNat : Int) = m := by omega
  have e3 : (A % m * (u.val : Int)) % m = 1 := by
    have : (((A % m).toNat * u.val % m.toNat : Nat) : Int) = 1 := by rw [hu]; rfl
    rw [Int.natCast_emod, Int.natCast_mul, e1, e2] at this
    exact this
  have e4 := Int.mul_ediv_add_emod (A % m * u.val) m
  rw [e3] at e4
  have e5 := Int.mul_ediv_add_emod A m
  refine ⟨u.val, -((A / m) * u.val + (A % m * u.val) / m), ?_⟩
  have e6 : A * u.val = m * (A / m * u.val) + A % m * u.val := by
    calc A * (u.val : Int) = (m * (A / m) + A % m) * u.val := by rw [e5]
      _ = _ := by rw [Int.add_mul, Int.mul_assoc]
  rw [Int.mul_neg, Int.mul_add]
  omega
/-- Among m numbers in steps of the power one has the next remainder. -/
theorem step_exists (h : RuleIs m t p) {A : Int} (hA : Int.gcd A m = 1) (y r : Int) (hr : 0 ≤ r ∧ r < m) : ∃ j, 0 ≤ j ∧ j < m ∧ (y + A * j) % m = r := by
  obtain ⟨u, v, huv⟩ := inv_exists h hA
  have hm := h.mpos
  refine ⟨(u * (r - y)) % m, Int.emod_nonneg _ (by omega), Int.emod_lt_of_pos _ hm, ?_⟩
  have e1 : u * (r - y) = m * ((u * (r - y)) / m) + (u * (r - y)) % m := (Int.mul_ediv_add_emod _ _).symm
  generalize (u * (r - y)) % m = j at e1 ⊢
  generalize (u * (r - y)) / m = q at e1
  have e2 : y + A * j = r + m * (-(v * (r - y)) - A * q) := by
    have e3 : A * (u * (r - y)) = (r - y) - m * (v * (r - y)) := by
      have : (A * u + m * v) * (r - y) = r - y := by rw [huv]; omega
      rw [Int.add_mul, Int.mul_assoc, Int.mul_assoc] at this
      omega
    rw [e1, Int.mul_add, Int.mul_left_comm] at e3
    rw [Int.mul_sub, Int.mul_neg]
    omega
  rw [e2, Int.add_mul_emod_self_left]
  exact Int.emod_eq_of_lt hr.1 hr.2
theorem follows_snoc (l : List Int) (r : Int) : ∀ x, followsW m t p (l ++ [r]) x = (followsW m t p l x && iterW m t p l.length x % m == r) := by
  induction l with
  | nil => intro x; simp [followsW, iterW]
  | cons k l ih => intro x; simp only [List.cons_append, followsW, List.length_cons, iterW, ih, Bool.and_assoc]
end Go.Proofs.Ytkjojcepombhpaa.L
