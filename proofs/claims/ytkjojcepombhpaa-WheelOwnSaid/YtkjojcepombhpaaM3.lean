import Derived.Test.YtkjojcepombhpaaWWords

/- Plain law: what a rule does to numbers: sent, courses, forms. No program in sight. -/
namespace Go.Proofs.Ytkjojcepombhpaa.L
set_option linter.unusedVariables false
set_option linter.unusedSimpArgs false
open Go.Proofs.YtkjojcepombhpaaW.PrintWords

/-- A rule: modulus, factors, summands. -/
structure RuleIs (m : Int) (t p : List Int) : Prop where
  m2 : 2 ≤ m
  m6 : m ≤ 6
  tl : (t.length : Int) = m
  pl : (p.length : Int) = m
  ok : ∀ k, 0 ≤ k → k < m → 1 ≤ rd t k ∧ rd t k ≤ 20 ∧ Int.gcd (rd t k) m = 1 ∧ -50 ≤ rd p k ∧ rd p k ≤ 50 ∧ m ∣ rd t k * k + rd p k

def restW (m x : Int) : Int := x % m
def sentW (m : Int) (t p : List Int) (x : Int) : Int := (rd t (x % m) * x + rd p (x % m)) / m
def iterW (m : Int) (t p : List Int) : Nat → Int → Int
  | 0, x => x
  | k + 1, x => iterW m t p k (sentW m t p x)
def followsW (m : Int) (t p : List Int) : List Int → Int → Bool
  | [], _ => true
  | r :: l, x => x % m == r && followsW m t p l (sentW m t p x)
/-- The product of the factors of a course. -/
def prodW (t : List Int) : List Int → Int
  | [] => 1
  | r :: l => rd t r * prodW t l
def powW (m : Int) : Nat → Int
  | 0 => 1
  | n + 1 => m * powW m n
/-- The remainders of a course. -/
def CourseIs (m : Int) (l : List Int) : Prop := ∀ r ∈ l, 0 ≤ r ∧ r < m

variable {m : Int} {t p : List Int}

theorem RuleIs.mpos (h : RuleIs m t p) : 0 < m := by have := h.m2; omega
theorem RuleIs.rest (h : RuleIs m t p) (x : Int) : 0 ≤ x % m ∧ x % m < m := ⟨Int.emod_nonneg _ (by have := h.m2; omega), Int.emod_lt_of_pos _ h.mpos⟩
theorem RuleIs.dvd (h : RuleIs m t p) (x : Int) : m ∣ rd t (x % m) * x + rd p (x % m) := by
  obtain ⟨h0, h1⟩ := h.rest x
  have hd := (h.ok _ h0 h1).2.2.2.2.2
  have e : rd t (x % m) * x + rd p (x % m) = m * (rd t (x % m) * (x / m)) + (rd t (x % m) * (x % m) + rd p (x % m)) := by
    have hx : x = m * (x / m) + x % m := (Int.mul_ediv_add_emod x m).symm
    calc rd t (x % m) * x + rd p (x % m) = rd t (x % m) * (m * (x / m) + x % m) + rd p (x % m) := by rw [← hx]
      _ = _ := by rw [Int.mul_add, Int.mul_left_comm, Int.add_assoc]
  rw [e]
  exact Int.dvd_add (Int.dvd_mul_right _ _) hd
theorem RuleIs.mul (h : RuleIs m t p) (x : Int) : m * sentW m t p x = rd t (x % m) * x + rd p (x % m) :=
  Int.mul_ediv_cancel' (h.dvd x)
/-- The exact quotient, rounded any way. -/
theorem RuleIs.tdiv (h : RuleIs m t p) (x : Int) : Int.tdiv (rd t (x % m) * x + rd p (x % m)) m = sentW m t p x := by
  rw [← h.mul x, Int.mul_comm]
  exact Int.mul_tdiv_cancel _ (by have := h.m2; omega)
theorem mul_bound {a x B : Int} (h1 : 1 ≤ a) (h2 : a ≤ 20) (hl : -B ≤ x) (hu : x ≤ B) : -(20 * B) ≤ a * x ∧ a * x ≤ 20 * B := by
  have hB : 0 ≤ B := by omega
  have a1 : a * x ≤ a * B := Int.mul_le_mul_of_nonneg_left hu (by omega)
  have a2 : a * B ≤ 20 * B := Int.mul_le_mul_of_nonneg_right h2 hB
  have a3 : a * (-B) ≤ a * x := Int.mul_le_mul_of_nonneg_left hl (by omega)
  have a4 : a * (-B) = -(a * B) := Int.mul_neg _ _
  omega
theorem RuleIs.num (h : RuleIs m t p) {x B : Int} (hl : -B ≤ x) (hu : x ≤ B) : -(20 * B) ≤ rd t (x % m) * x ∧ rd t (x % m) * x ≤ 20 * B := by
  obtain ⟨h0, h1⟩ := h.rest x
  obtain ⟨t1, t2, _⟩ := h.ok _ h0 h1
  exact mul_bound t1 t2 hl hu
theorem RuleIs.bound (h : RuleIs m t p) {x B : Int} (hl : -B ≤ x) (hu : x ≤ B) : -(10 * B + 25) ≤ sentW m t p x ∧ sentW m t p x ≤ 10 * B + 25 := by
  obtain ⟨h0, h1⟩ := h.rest x
  obtain ⟨t1, t2, _, p1, p2, _⟩ := h.ok _ h0 h1
  obtain ⟨n1, n2⟩ := h.num hl hu
  have e := h.mul x
  have m2 := h.m2
  have m6 := h.m6
  generalize sentW m t p x = y at *
  generalize rd t (x % m) * x = z at *
  generalize rd p (x % m) = q at *
  constructor
  · by_cases hy : 0 ≤ y
    · omega
    · have : m * y ≤ 2 * y := by
        have := Int.mul_le_mul_of_nonneg_right m2 (show 0 ≤ -y by omega)
        rw [Int.mul_neg, Int.mul_neg] at this
        omega
      omega
  · by_cases hy : y ≤ 0
    · omega
    · have := Int.mul_le_mul_of_nonneg_right m2 (show 0 ≤ y by omega)
      omega

theorem powW_pos (h : RuleIs m t p) (n : Nat) : 0 < powW m n := by
  induction n with
  | zero => simp [powW]
  | succ n ih => exact Int.mul_pos h.mpos ih
theorem powW_succ (n : Nat) : powW m (n + 1) = m * powW m n := rfl
theorem powW_add (a b : Nat) : powW m (a + b) = powW m a * powW m b := by
  induction a with
  | zero => simp [powW]
  | succ a ih => rw [show a + 1 + b = (a + b) + 1 by omega, powW_succ, ih, powW_succ, Int.mul_assoc]
theorem CourseIs.cons {r : Int} {l : List Int} (h : CourseIs m (r :: l)) : (0 ≤ r ∧ r < m) ∧ CourseIs m l := ⟨h r List.mem_cons_self, fun x hx => h x (List.mem_cons_of_mem _ hx)⟩

theorem emod_shift (x j n : Int) : (x + m * n * j) % m = x % m := by
  rw [Int.mul_assoc, Int.add_mul_emod_self_left]
theorem sent_shift (h : RuleIs m t p) (x q : Int) : sentW m t p (x + m * q) = sentW m t p x + rd t (x % m) * q := by
  have hm : m ≠ 0 := by have := h.m2; omega
  apply Int.eq_of_mul_eq_mul_left hm
  rw [h.mul, Int.mul_add, Int.add_mul_emod_self_left, Int.mul_add, h.mul, Int.mul_left_comm m]
  omega
/-- A number with a course, moved by a multiple of the power: the same course, and the last number is moved by the product. -/
theorem follows_shift (h : RuleIs m t p) (l : List Int) : ∀ (x j : Int), followsW m t p l x = true →
    followsW m t p l (x + powW m l.length * j) = true ∧ iterW m t p l.length (x + powW m l.length * j) = iterW m t p l.length x + prodW t l * j := by
  induction l with
  | nil => intro x j _; simp [followsW, iterW, prodW, powW]
  | cons r l ih =>
    intro x j hf
    simp only [followsW, Bool.and_eq_true, beq_iff_eq] at hf
    obtain ⟨hr, hf⟩ := hf
    have e : x + powW m (r :: l).length * j = x + m * (powW m l.length * j) := by
      show x + m * powW m l.length * j = _
      rw [Int.mul_assoc]
    have es : sentW m t p (x + powW m (r :: l).length * j) = sentW m t p x + powW m l.length * (rd t r * j) := by
      rw [e, sent_shift h, hr, Int.mul_left_comm]
    obtain ⟨i1, i2⟩ := ih (sentW m t p x) (rd t r * j) hf
    constructor
    · simp only [followsW, Bool.and_eq_true, beq_iff_eq]
      refine ⟨?_, by rw [es]; exact i1⟩
      rw [e, Int.add_mul_emod_self_left]
      exact hr
    · show iterW m t p l.length (sentW m t p (x + powW m (r :: l).length * j)) = iterW m t p l.length (sentW m t p x) + rd t r * prodW t l * j
      rw [es, i2, Int.mul_left_comm, Int.mul_assoc]
theorem dvd_of_mul {n : Nat} (h : RuleIs m t p) {a q : Int} (hg : Int.gcd a m = 1) (hd : powW m n ∣ a * q) : powW m n ∣ q := by
  induction n generalizing q with
  | zero => simp [powW]
  | succ n ih =>
    have h1 : m ∣ a * q := Int.dvd_trans (Int.dvd_mul_right m (powW m n)) hd
    have h2 : m ∣ q := by
      rw [← Int.natAbs_dvd_natAbs] at h1 ⊢
      rw [Int.natAbs_mul] at h1
      exact Nat.Coprime.dvd_of_dvd_mul_left (Nat.Coprime.symm hg) h1
    obtain ⟨q', rfl⟩ := h2
    have h3 : powW m n ∣ a * q' := by
      obtain ⟨c, hc⟩ := hd
      refine ⟨c, ?_⟩
      apply Int.eq_of_mul_eq_mul_left (show m ≠ 0 by have := h.m2; omega)
      rw [Int.mul_left_comm m a q', hc, powW_succ, Int.mul_assoc]
    obtain ⟨c, hc⟩ := ih h3
    exact ⟨c, by rw [powW_succ, hc, Int.mul_assoc]⟩
/-- Two numbers with the same course differ by a multiple of the power. -/
theorem follows_apart (h : RuleIs m t p) (l : List Int) : ∀ (x y : Int), followsW m t p l x = true → followsW m t p l y = true → powW m l.length ∣ x - y := by
  induction l with
  | nil => intro x y _ _; simp [powW]
  | cons r l ih =>
    intro x y hx hy
    simp only [followsW, Bool.and_eq_true, beq_iff_eq] at hx hy
    obtain ⟨q, hq⟩ : ∃ q, x = y + m * q := ⟨x / m - y / m, by
      have e1 := Int.mul_ediv_add_emod x m
      have e2 := Int.mul_ediv_add_emod y m
      rw [Int.mul_sub]
      omega⟩
    have hd := ih _ _ hx.2 hy.2
    rw [hq, sent_shift h, hy.1] at hd
    have hrl := h.rest y
    rw [hy.1] at hrl
    have hg := (h.ok r hrl.1 hrl.2).2.2.1
    have e : sentW m t p y + rd t r * q - sentW m t p y = rd t r * q := by omega
    rw [e] at hd
    obtain ⟨c, hc⟩ := dvd_of_mul h hg hd
    exact ⟨c, by rw [hq, hc]; show _ = m * powW m l.length * c; rw [Int.mul_assoc]; omega⟩
theorem gcd_mul_one {a b : Int} (h1 : Int.gcd a m = 1) (h2 : Int.gcd b m = 1) : Int.gcd (a * b) m = 1 := by
  show Nat.gcd (a * b).natAbs m.natAbs = 1
  rw [Int.natAbs_mul]
  exact Nat.Coprime.mul_left h1 h2
theorem prodW_gcd (h : RuleIs m t p) {l : List Int} (hl : CourseIs m l) : Int.gcd (prodW t l) m = 1 := by
  induction l with
  | nil => simp [prodW]
  | cons r l ih =>
    obtain ⟨hr, hl⟩ := hl.cons
    exact gcd_mul_one (h.ok r hr.1 hr.2).2.2.1 (ih hl)
theorem prodW_bound (h : RuleIs m t p) {l : List Int} (hl : CourseIs m l) : 1 ≤ prodW t l := by
  induction l with
  | nil => simp [prodW]
  | cons r l ih =>
    obtain ⟨hr, hl⟩ := hl.cons
    have := (h.ok r hr.1 hr.2).1
    exact Int.mul_pos (by omega) (by have := ih hl; omega)
theorem inv_fin : ∀ m : Fin 7, ∀ a : Fin 7, 2 ≤ m.val → Nat.gcd a.val m.val = 1 → ∃ u : Fin 7, (a.val * u.val) % m.val = 1 := by decide
theorem gcd_emod (a m : Int) (hm : 0 < m) : Nat.gcd (a % m).toNat m.toNat = Int.gcd a m := by
  have h0 := Int.emod_nonneg a (show m ≠ 0 by omega)
  have e1 : Int.gcd a m = Int.gcd m a := Int.gcd_comm _ _
  have key : ∀ d : Nat, d ∣ Nat.gcd (a % m).toNat m.toNat ↔ d ∣ Int.gcd a m := by
    intro d
    rw [Nat.dvd_gcd_iff]
    have e2 : d ∣ Int.gcd a m ↔ d ∣ a.natAbs ∧ d ∣ m.natAbs := Nat.dvd_gcd_iff
    rw [e2]
    have c1 : ∀ x : Int, d ∣ x.natAbs ↔ (d : Int) ∣ x := fun x => by rw [← Int.natAbs_dvd_natAbs]; simp
    have c2 : d ∣ m.toNat ↔ (d : Int) ∣ m := by rw [← c1, show m.natAbs = m.toNat by omega]
    have c3 : d ∣ (a % m).toNat ↔ (d : Int) ∣ a % m := by rw [← c1, show (a % m).natAbs = (a % m).toNat by omega]
    rw [c1, c1, c2, c3]
    have e := Int.mul_ediv_add_emod a m
    constructor
    · rintro ⟨h1, h2⟩
      exact ⟨by rw [← e]; exact Int.dvd_add (Int.dvd_trans h2 (Int.dvd_mul_right _ _)) h1, h2⟩
    · rintro ⟨h1, h2⟩
      refine ⟨?_, h2⟩
      rw [show a % m = a - m * (a / m) by omega]
      exact Int.dvd_sub h1 (Int.dvd_trans h2 (Int.dvd_mul_right _ _))
  exact Nat.dvd_antisymm ((key _).1 (Nat.dvd_refl _)) ((key _).2 (Nat.dvd_refl _))
theorem inv_exists (h : RuleIs m t p) {A : Int} (hA : Int.gcd A m = 1) : ∃ u v : Int, A * u + m * v = 1 := by
  have hm := h.mpos
  have h2 := h.m2
  have h6 := h.m6
  obtain ⟨r0, r1⟩ := h.rest A
  have hg := gcd_emod A m hm
  rw [hA] at hg
  obtain ⟨u, hu⟩ := inv_fin ⟨m.toNat, by omega⟩ ⟨(A % m).toNat, by omega⟩ (by simp; omega) hg
  simp only at hu
  have e1 : ((A % m).toNat : Int) = A % m := by omega
  have e2 : (m.toNat : Int) = m := by omega
  have e3 : (A % m * (u.val : Int)) % m = 1 := by
    have : (((A % m).toNat * u.val % m.toNat : Nat) : Int) = 1 := by rw [hu]; rfl
    rw [Int.natCast_emod, Int.natCast_mul, e1, e2] at this
    exact this
  have e4 := Int.mul_ediv_add_emod (A % m * u.val) m
  rw [e3] at e4
  have e5 := Int.mul_ediv_add_emod A m
  refine ⟨u.val, -((A / m) * u.val + (A % m * u.val) / m), ?_⟩
  have e6 : A * u.val = m * (A / m * u.val) + A % m * u.val := by
    calc A * (u.val : Int) = (m * (A / m) + A % m) * u.val := by rw [e5]
      _ = _ := by rw [Int.add_mul, Int.mul_assoc]
  rw [Int.mul_neg, Int.mul_add]
  omega
/-- Among m numbers in steps of the power one has the next remainder. -/
theorem step_exists (h : RuleIs m t p) {A : Int} (hA : Int.gcd A m = 1) (y r : Int) (hr : 0 ≤ r ∧ r < m) : ∃ j, 0 ≤ j ∧ j < m ∧ (y + A * j) % m = r := by
  obtain ⟨u, v, huv⟩ := inv_exists h hA
  have hm := h.mpos
  refine ⟨(u * (r - y)) % m, Int.emod_nonneg _ (by omega), Int.emod_lt_of_pos _ hm, ?_⟩
  have e1 : u * (r - y) = m * ((u * (r - y)) / m) + (u * (r - y)) % m := (Int.mul_ediv_add_emod _ _).symm
  generalize (u * (r - y)) % m = j at e1 ⊢
  generalize (u * (r - y)) / m = q at e1
  have e2 : y + A * j = r + m * (-(v * (r - y)) - A * q) := by
    have e3 : A * (u * (r - y)) = (r - y) - m * (v * (r - y)) := by
      have : (A * u + m * v) * (r - y) = r - y := by rw [huv]; omega
      rw [Int.add_mul, Int.mul_assoc, Int.mul_assoc] at this
      omega
    rw [e1, Int.mul_add, Int.mul_left_comm] at e3
    rw [Int.mul_sub, Int.mul_neg]
    omega
  rw [e2, Int.add_mul_emod_self_left]
  exact Int.emod_eq_of_lt hr.1 hr.2
theorem follows_snoc (l : List Int) (r : Int) : ∀ x, followsW m t p (l ++ [r]) x = (followsW m t p l x && iterW m t p l.length x % m == r) := by
  induction l with
  | nil => intro x; simp [followsW, iterW]
  | cons k l ih => intro x; simp only [List.cons_append, followsW, List.length_cons, iterW, ih, Bool.and_assoc]
end Go.Proofs.Ytkjojcepombhpaa.L

/- Plain law: the form of a course, and the remainders that a number has in turn. -/
namespace Go.Proofs.Ytkjojcepombhpaa.L
set_option linter.unusedVariables false
set_option linter.unusedSimpArgs false
open Go.Proofs.YtkjojcepombhpaaW.PrintWords

/-- One remainder more of a form. -/
def formStep (m : Int) (t p : List Int) (s : Int × Int × Int) (r : Int) : Int × Int × Int := (s.1 * rd t r, s.2.1 * rd t r + rd p r * s.2.2, s.2.2 * m)
def formW (m : Int) (t p : List Int) (l : List Int) : Int × Int × Int := l.foldl (formStep m t p) (1, 0, 1)
theorem formW_snoc (m : Int) (t p : List Int) (l : List Int) (r : Int) : formW m t p (l ++ [r]) = formStep m t p (formW m t p l) r := by simp [formW]

variable {m : Int} {t p : List Int}
theorem take_succ_rd (l : List Int) (k : Nat) (hk : k < l.length) : l.take (k + 1) = l.take k ++ [rd l (k : Int)] := by
  rw [List.take_succ_eq_append_getElem hk]
  simp [rd, List.getElem?_eq_getElem hk]
theorem CourseIs.take {l : List Int} (h : CourseIs m l) (k : Nat) : CourseIs m (l.take k) := fun r hr => h r (List.mem_of_mem_take hr)
theorem CourseIs.at {l : List Int} {n k : Nat} (h : CourseIs m (l.take n)) (hk : k < n) (hn : n ≤ l.length) : 0 ≤ rd l (k : Int) ∧ rd l (k : Int) < m := by
  have hl : k < l.length := by omega
  have : rd l (k : Int) = l[k] := by simp [rd, List.getElem?_eq_getElem hl]
  rw [this]
  refine h _ ?_
  rw [List.mem_take_iff_getElem]
  exact ⟨k, by omega, rfl⟩
theorem mul_le_20 {x y B : Int} (h1 : 1 ≤ y) (h2 : y ≤ 20) (hl : -B ≤ x) (hu : x ≤ B) : -(20 * B) ≤ x * y ∧ x * y ≤ 20 * B := by
  rw [Int.mul_comm x y]
  exact mul_bound h1 h2 hl hu
theorem mul_le_50 {x y S : Int} (h1 : -50 ≤ y) (h2 : y ≤ 50) (hl : 0 ≤ x) (hu : x ≤ S) : -(50 * S) ≤ y * x ∧ y * x ≤ 50 * S := by
  have a1 := Int.mul_le_mul_of_nonneg_right h2 hl
  have a2 := Int.mul_le_mul_of_nonneg_right h1 hl
  omega
/-- How great the numbers of a form are. -/
structure FormIn (k : Nat) (s : Int × Int × Int) : Prop where
  a1 : 1 ≤ s.1
  a2 : s.1 ≤ 20 ^ k
  b1 : -(4 * (20 ^ k - 6 ^ k)) ≤ s.2.1
  b2 : s.2.1 ≤ 4 * (20 ^ k - 6 ^ k)
  d1 : 1 ≤ s.2.2
  d2 : s.2.2 ≤ 6 ^ k
theorem formIn_step (h : RuleIs m t p) {k : Nat} {s : Int × Int × Int} {r : Int} (hs : FormIn k s) (hr : 0 ≤ r ∧ r < m) : FormIn (k + 1) (formStep m t p s r) := by
  obtain ⟨t1, t2, _, p1, p2, _⟩ := h.ok r hr.1 hr.2
  obtain ⟨a1, a2, b1, b2, d1, d2⟩ := hs
  have m2 := h.m2
  have m6 := h.m6
  have e20 : (20 : Int) ^ (k + 1) = 20 * 20 ^ k := by rw [Int.pow_succ, Int.mul_comm]
  have e6 : (6 : Int) ^ (k + 1) = 6 * 6 ^ k := by rw [Int.pow_succ, Int.mul_comm]
  obtain ⟨sa, sb, sd⟩ := s
  dsimp only at a1 a2 b1 b2 d1 d2
  have q1 := mul_le_20 (x := sa) (B := 20 ^ k) t1 t2 (by omega) a2
  have q2 : 1 * 1 ≤ sa * rd t r := Int.mul_le_mul a1 t1 (by omega) (by omega)
  have q3 := mul_le_20 (x := sb) t1 t2 b1 b2
  have q4 := mul_le_50 (x := sd) p1 p2 (by omega) d2
  have q5 : sd * m ≤ 6 ^ k * 6 := Int.mul_le_mul d2 m6 (by omega) (by omega)
  have q6 : 1 * 1 ≤ sd * m := Int.mul_le_mul d1 (show (1 : Int) ≤ m by omega) (by omega) (by omega)
  constructor <;> simp only [formStep] <;> (try rw [e20]) <;> (try rw [e6]) <;> omega
theorem formIn (h : RuleIs m t p) {l : List Int} (hl : CourseIs m l) : FormIn l.length (formW m t p l) := by
  have key : ∀ (l : List Int), CourseIs m l → ∀ (k : Nat) (s : Int × Int × Int), FormIn k s → FormIn (k + l.length) (l.foldl (formStep m t p) s) := by
    intro l
    induction l with
    | nil => intro _ k s hs; exact hs
    | cons r l ih =>
      intro hl k s hs
      obtain ⟨hr, hl⟩ := hl.cons
      have := ih hl (k + 1) _ (formIn_step h hs hr)
      rw [List.foldl_cons, List.length_cons, show k + (l.length + 1) = k + 1 + l.length by omega]
      exact this
  have := key l hl 0 (1, 0, 1) ⟨by decide, by decide, by decide, by decide, by decide, by decide⟩
  rw [Nat.zero_add] at this
  exact this
theorem pow_step (x : Int) (hx : 1 ≤ x) (k : Nat) : 1 ≤ x ^ k := by
  induction k with
  | zero => simp
  | succ k ih => rw [Int.pow_succ]; have := Int.mul_le_mul ih hx (by omega) (by omega); omega
theorem pow_mono (x : Int) (hx : 1 ≤ x) {k n : Nat} (h : k ≤ n) : x ^ k ≤ x ^ n := by
  obtain ⟨d, rfl⟩ := Nat.le.dest h
  rw [Int.pow_add]
  have := Int.mul_le_mul (Int.le_refl (x ^ k)) (pow_step x hx d) (by omega) (by have := pow_step x hx k; omega)
  omega
theorem pow20_le {k n : Nat} (h : k ≤ n) : (20 : Int) ^ k ≤ 20 ^ n := pow_mono 20 (by decide) h
theorem pow6_pos (k : Nat) : (1 : Int) ≤ 6 ^ k := by
  induction k with
  | zero => decide
  | succ k ih => rw [Int.pow_succ]; omega
theorem pow6_le {k n : Nat} (h : k ≤ n) : (6 : Int) ^ k ≤ 6 ^ n := pow_mono 6 (by decide) h
/-- With at most twelve remainders. -/
theorem FormIn.small {k : Nat} {s : Int × Int × Int} (h : FormIn k s) (hk : k ≤ 12) : s.1 ≤ 4096000000000000 ∧ -16384000000000000 ≤ s.2.1 ∧ s.2.1 ≤ 16384000000000000 ∧ s.2.2 ≤ 2176782336 := by
  have := pow20_le hk
  have e : (20 : Int) ^ 12 = 4096000000000000 := by decide
  have h6 := pow6_le hk
  have e6 : (6 : Int) ^ 12 = 2176782336 := by decide
  have hp := pow6_pos k
  obtain ⟨a1, a2, b1, b2, d1, d2⟩ := h
  refine ⟨by omega, by omega, by omega, by omega⟩
theorem FormIn.less {k : Nat} {s : Int × Int × Int} (h : FormIn k s) (hk : k < 12) : s.1 ≤ 204800000000000 ∧ -819200000000000 ≤ s.2.1 ∧ s.2.1 ≤ 819200000000000 := by
  have := pow20_le (show k ≤ 11 by omega)
  have e : (20 : Int) ^ 11 = 204800000000000 := by decide
  have hp := pow6_pos k
  obtain ⟨a1, a2, b1, b2, d1, d2⟩ := h
  refine ⟨by omega, by omega, by omega⟩
end Go.Proofs.Ytkjojcepombhpaa.L

/- Plain law: the remainders of a number, how great it becomes, the search for the first number with a course. -/
namespace Go.Proofs.Ytkjojcepombhpaa.L
set_option linter.unusedVariables false
set_option linter.unusedSimpArgs false
open Go.Proofs.YtkjojcepombhpaaW.PrintWords
variable {m : Int} {t p : List Int}

theorem iterW_snoc (m : Int) (t p : List Int) (k : Nat) : ∀ x, iterW m t p (k + 1) x = sentW m t p (iterW m t p k x) := by
  induction k with
  | zero => intro x; rfl
  | succ k ih => intro x; exact ih (sentW m t p x)
/-- The first k remainders of a number. -/
def remW (m : Int) (t p : List Int) (x : Int) (k : Nat) : List Int := (List.range k).map fun i => iterW m t p i x % m
theorem remW_length (m : Int) (t p : List Int) (x : Int) (k : Nat) : (remW m t p x k).length = k := by simp [remW]
theorem remW_succ (m : Int) (t p : List Int) (x : Int) (k : Nat) : remW m t p x (k + 1) = remW m t p x k ++ [iterW m t p k x % m] := by simp [remW, List.range_succ]
theorem remW_cons (m : Int) (t p : List Int) (x : Int) (k : Nat) : remW m t p x (k + 1) = x % m :: remW m t p (sentW m t p x) k := by
  simp only [remW, List.range_succ_eq_map, List.map_cons, List.map_map]
  rfl
theorem follows_iff (l : List Int) : ∀ x, followsW m t p l x = true ↔ remW m t p x l.length = l := by
  induction l with
  | nil => intro x; simp [followsW, remW]
  | cons r l ih =>
    intro x
    rw [List.length_cons, remW_cons, followsW, Bool.and_eq_true, ih, beq_iff_eq, List.cons.injEq]
theorem follows_remW (x : Int) (k : Nat) : followsW m t p (remW m t p x k) x = true := by
  rw [follows_iff, remW_length]
theorem remW_course (h : RuleIs m t p) (x : Int) (k : Nat) : CourseIs m (remW m t p x k) := by
  intro r hr
  simp only [remW, List.mem_map] at hr
  obtain ⟨i, _, rfl⟩ := hr
  exact h.rest _
theorem follows_take {l : List Int} {x : Int} (h : followsW m t p l x = true) (k : Nat) : followsW m t p (l.take k) x = true := by
  rw [follows_iff] at h ⊢
  rw [List.length_take, ← h, remW_length]
  apply List.ext_getElem?
  intro i
  simp only [remW, List.getElem?_map, List.getElem?_take]
  by_cases hi : i < k
  · rw [if_pos hi]
    by_cases h2 : i < l.length
    · rw [List.getElem?_range (by omega), List.getElem?_range h2]
    · rw [List.getElem?_eq_none (by simp; omega), List.getElem?_eq_none (by simp; omega)]
  · rw [if_neg hi, List.getElem?_eq_none (by simp; omega)]
    rfl

/-- How great the numbers become that follow a number below the power. -/
theorem iter_bound (h : RuleIs m t p) {x : Int} {k : Nat} (hl : -powW m k ≤ x) (hu : x ≤ powW m k) : ∀ i, i ≤ k → -(20 ^ i * (powW m (k - i) + 4)) ≤ iterW m t p i x ∧ iterW m t p i x ≤ 20 ^ i * (powW m (k - i) + 4) := by
  intro i
  induction i with
  | zero => intro _; simp [iterW]; omega
  | succ i ih =>
    intro hi
    obtain ⟨h1, h2⟩ := ih (by omega)
    rw [iterW_snoc]
    have e := h.mul (iterW m t p i x)
    obtain ⟨r0, r1⟩ := h.rest (iterW m t p i x)
    obtain ⟨t1, t2, _, p1, p2, _⟩ := h.ok _ r0 r1
    have m2 := h.m2
    have ep : powW m (k - i) = m * powW m (k - (i + 1)) := by rw [← powW_succ]; congr 1; omega
    have hp := powW_pos h (k - (i + 1))
    have q := mul_bound t1 t2 h1 h2
    have e20 : (20 : Int) ^ (i + 1) = 20 * 20 ^ i := by rw [Int.pow_succ, Int.mul_comm]
    have h20 := pow_step 20 (by decide) i
    rw [ep] at q
    have q3 : (20 : Int) ^ (i + 1) * (m * powW m (k - (i + 1)) + 4) + 50 ≤ m * (20 ^ (i + 1) * (powW m (k - (i + 1)) + 4)) := by
      have a1 : m * (20 ^ (i + 1) * (powW m (k - (i + 1)) + 4)) = 20 ^ (i + 1) * (m * powW m (k - (i + 1))) + 4 * (m * 20 ^ (i + 1)) := by
        rw [Int.mul_left_comm, Int.mul_add, Int.mul_add]
        congr 1
        rw [← Int.mul_assoc, Int.mul_comm ((20 : Int) ^ (i + 1)) m, Int.mul_comm _ 4]
      have a2 : 2 * (20 : Int) ^ (i + 1) ≤ m * 20 ^ (i + 1) := Int.mul_le_mul_of_nonneg_right m2 (by omega)
      rw [a1, Int.mul_add]
      omega
    have e21 : 20 * ((20 : Int) ^ i * (m * powW m (k - (i + 1)) + 4)) = 20 ^ (i + 1) * (m * powW m (k - (i + 1)) + 4) := by rw [e20, Int.mul_assoc]
    rw [e21] at q
    generalize sentW m t p (iterW m t p i x) = y at *
    generalize rd t (iterW m t p i x % m) * iterW m t p i x = u at *
    generalize (20 : Int) ^ (i + 1) * (powW m (k - (i + 1)) + 4) = B at *
    have hm : 0 < m := by omega
    constructor
    · apply Int.le_of_mul_le_mul_left _ hm
      rw [Int.mul_neg]; omega
    · apply Int.le_of_mul_le_mul_left _ hm
      omega
theorem powW_le6 (h : RuleIs m t p) : ∀ k, powW m k ≤ 6 ^ k := by
  intro k
  induction k with
  | zero => simp [powW]
  | succ k ih =>
    rw [powW_succ, Int.pow_succ, Int.mul_comm]
    exact Int.mul_le_mul ih h.m6 (by have := h.m2; omega) (by have := pow6_pos k; omega)
theorem mid12 : ∀ i : Fin 12, (20 : Int) ^ i.val * (6 ^ (12 - i.val) + 4) ≤ 200000000000000000 := by decide
theorem iter_mid (h : RuleIs m t p) {x : Int} {k : Nat} (hk : k ≤ 12) (hl : -powW m k ≤ x) (hu : x ≤ powW m k) (i : Nat) (hi : i < k) : -200000000000000000 ≤ iterW m t p i x ∧ iterW m t p i x ≤ 200000000000000000 := by
  obtain ⟨h1, h2⟩ := iter_bound h hl hu i (by omega)
  have h3 := mid12 ⟨i, by omega⟩
  have h4 : powW m (k - i) ≤ 6 ^ (12 - i) := Int.le_trans (powW_le6 h _) (pow6_le (by omega))
  have h20 := pow_step 20 (by decide) i
  have h5 : (20 : Int) ^ i * (powW m (k - i) + 4) ≤ 20 ^ i * (6 ^ (12 - i) + 4) := Int.mul_le_mul_of_nonneg_left (by omega) (by omega)
  simp only at h3
  omega
/-- .. of a number of at most seven digits, in at most five steps. -/
theorem iter_mid5 (h : RuleIs m t p) {x : Int} (hl : -20000000 ≤ x) (hu : x ≤ 20000000) (i : Nat) (hi : i ≤ 5) : -200000000000000000 ≤ iterW m t p i x ∧ iterW m t p i x ≤ 200000000000000000 := by
  have key : ∀ i : Nat, -(20000010 * 20 ^ i - 3) ≤ iterW m t p i x ∧ iterW m t p i x ≤ 20000010 * 20 ^ i - 3 := by
    intro i
    induction i with
    | zero => simp [iterW]; omega
    | succ i ih =>
      rw [iterW_snoc]
      obtain ⟨h1, h2⟩ := h.bound ih.1 ih.2
      have e20 : (20 : Int) ^ (i + 1) = 20 * 20 ^ i := by rw [Int.pow_succ, Int.mul_comm]
      have h20 := pow_step 20 (by decide) i
      rw [e20]
      omega
  have h1 := key i
  have h2 := pow20_le hi
  have e : (20 : Int) ^ 5 = 3200000 := by decide
  omega

/-- The first number from x on, in steps of the power, with the course; fuel for the number of steps. -/
def findW (m : Int) (t p l : List Int) (st : Int) : Nat → Int → Int
  | 0, x => x
  | f + 1, x => if followsW m t p l x then x else findW m t p l st f (x + st)
/-- The first number with the first k remainders of a course. -/
def startW (m : Int) (t p l : List Int) : Nat → Int
  | 0 => 0
  | k + 1 => findW m t p (l.take (k + 1)) (powW m k) 6 (startW m t p l k)
/-- Where the search ends. -/
theorem find_ends (h : RuleIs m t p) {l : List Int} {r x : Int} (hx : followsW m t p l x = true) (hl : CourseIs m l) (hr : 0 ≤ r ∧ r < m) : ∃ j : Nat, (j : Int) < m ∧ followsW m t p (l ++ [r]) (x + powW m l.length * j) = true ∧ ∀ i : Nat, i < j → followsW m t p (l ++ [r]) (x + powW m l.length * i) = false := by
  obtain ⟨j, j0, j1, hj⟩ := step_exists h (prodW_gcd h hl) (iterW m t p l.length x) r hr
  have key : ∀ i : Int, followsW m t p (l ++ [r]) (x + powW m l.length * i) = ((iterW m t p l.length x + prodW t l * i) % m == r) := by
    intro i
    obtain ⟨f1, f2⟩ := follows_shift h l x i hx
    rw [follows_snoc, f1, f2, Bool.true_and]
  have hex : ∃ n : Nat, (n : Int) < m ∧ ((iterW m t p l.length x + prodW t l * n) % m == r) = true := ⟨j.toNat, by omega, by rw [Int.toNat_of_nonneg j0, hj]; simp⟩
  have least : ∀ n : Nat, (∃ j : Nat, j ≤ n ∧ ((iterW m t p l.length x + prodW t l * j) % m == r) = true) → ∃ j : Nat, j ≤ n ∧ ((iterW m t p l.length x + prodW t l * j) % m == r) = true ∧ ∀ i : Nat, i < j → ((iterW m t p l.length x + prodW t l * i) % m == r) = false := by
    intro n
    induction n with
    | zero =>
      rintro ⟨j, hj, h⟩
      exact ⟨j, hj, h, fun i hi => by omega⟩
    | succ n ih =>
      rintro ⟨j, hj, h⟩
      by_cases hn : ∃ j : Nat, j ≤ n ∧ ((iterW m t p l.length x + prodW t l * j) % m == r) = true
      · obtain ⟨j, h1, h2, h3⟩ := ih hn
        exact ⟨j, by omega, h2, h3⟩
      · refine ⟨j, hj, h, fun i hi => ?_⟩
        cases hq : ((iterW m t p l.length x + prodW t l * (i : Int)) % m == r)
        · rfl
        · exact absurd ⟨i, by omega, hq⟩ hn
  obtain ⟨n, hn, hq⟩ := hex
  obtain ⟨j, h1, h2, h3⟩ := least n ⟨n, Nat.le_refl _, hq⟩
  exact ⟨j, by omega, by rw [key]; exact h2, fun i hi => by rw [key]; exact h3 i hi⟩
theorem findW_at (m : Int) (t p l : List Int) (st : Int) (j : Nat) : ∀ (f : Nat) (x : Int), j < f → followsW m t p l (x + st * j) = true → (∀ i : Nat, i < j → followsW m t p l (x + st * i) = false) → findW m t p l st f x = x + st * j := by
  induction j with
  | zero =>
    intro f x hf hx _
    obtain ⟨g, rfl⟩ : ∃ g, f = g + 1 := ⟨f - 1, by omega⟩
    simp only [Int.natCast_zero, Int.mul_zero, Int.add_zero] at hx ⊢
    rw [findW, if_pos hx]
  | succ j ih =>
    intro f x hf hx hno
    obtain ⟨g, rfl⟩ : ∃ g, f = g + 1 := ⟨f - 1, by omega⟩
    have h0 := hno 0 (by omega)
    simp only [Int.natCast_zero, Int.mul_zero, Int.add_zero] at h0
    have e : ∀ i : Nat, x + st + st * (i : Int) = x + st * ((i + 1 : Nat) : Int) := by
      intro i
      rw [Int.natCast_add, Int.mul_add, Int.natCast_one, Int.mul_one]
      omega
    rw [findW, if_neg (by rw [h0]; decide), ih g (x + st) (by omega) (by rw [e]; exact hx) (fun i hi => by rw [e]; exact hno (i + 1) (by omega)), e]
/-- Start's number has the course, and is below the power. -/
theorem startW_spec (h : RuleIs m t p) {l : List Int} (hl : CourseIs m l) : ∀ k, k ≤ l.length → followsW m t p (l.take k) (startW m t p l k) = true ∧ 0 ≤ startW m t p l k ∧ startW m t p l k < powW m k := by
  intro k
  induction k with
  | zero => intro _; simp [startW, followsW, powW]
  | succ k ih =>
    intro hk
    obtain ⟨h1, h2, h3⟩ := ih (by omega)
    have hlen : (l.take k).length = k := by rw [List.length_take]; omega
    have et := take_succ_rd l k (by omega)
    have hr := CourseIs.at (l := l) (n := l.length) (k := k) (by rw [List.take_length]; exact hl) (by omega) (Nat.le_refl _)
    obtain ⟨j, j1, hj, hno⟩ := find_ends h h1 (hl.take k) hr
    rw [hlen, ← et] at hj hno
    have m6 := h.m6
    have e : startW m t p l (k + 1) = startW m t p l k + powW m k * j := findW_at m t p (l.take (k + 1)) (powW m k) j 6 _ (by omega) hj hno
    rw [e]
    have hp := powW_pos h k
    refine ⟨hj, by have := Int.mul_nonneg (show 0 ≤ powW m k by omega) (show (0 : Int) ≤ j by omega); omega, ?_⟩
    rw [powW_succ]
    have : powW m k * j ≤ powW m k * (m - 1) := Int.mul_le_mul_of_nonneg_left (by omega) (by omega)
    rw [Int.mul_sub, Int.mul_one, Int.mul_comm (powW m k) m] at this
    omega
/-- It is the only one. -/
theorem start_unique (h : RuleIs m t p) {l : List Int} {x y : Int} (hx : followsW m t p l x = true) (hy : followsW m t p l y = true) (x0 : 0 ≤ x) (x1 : x < powW m l.length) (y0 : 0 ≤ y) (y1 : y < powW m l.length) : x = y := by
  have hd := follows_apart h l x y hx hy
  obtain ⟨c, hc⟩ := hd
  have hp := powW_pos h l.length
  generalize powW m l.length = P at *
  rcases Int.lt_trichotomy c 0 with hc0 | hc0 | hc0
  · have : P * c ≤ P * (-1) := Int.mul_le_mul_of_nonneg_left (by omega) (by omega)
    omega
  · subst hc0
    rw [Int.mul_zero] at hc
    omega
  · have : P * 1 ≤ P * c := Int.mul_le_mul_of_nonneg_left (by omega) (by omega)
    omega
end Go.Proofs.Ytkjojcepombhpaa.L
