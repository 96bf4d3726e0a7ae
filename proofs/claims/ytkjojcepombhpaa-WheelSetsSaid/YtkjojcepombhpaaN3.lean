/- Plain law: the reference's Course, Form, Fixed, Start. -/
import Derived.Test.YtkjojcepombhpaaN0
import Derived.Test.YtkjojcepombhpaaL8
import Derived.Test.YtkjojcepombhpaaL12
import Derived.Test.YtkjojcepombhpaaL7
namespace Go.Proofs.Ytkjojcepombhpaa.L
set_option linter.unusedVariables false
set_option linter.unusedSimpArgs false
open Go.RowKit Go.Proofs.YtkjojcepombhpaaW.PrintWords Go.Proofs.YtkjojcepombhpaaW.PrintLast Go.Proofs.YtkjojcepombhpaaW.PrintMore

theorem list_f (l : List Int) : remouldlaw06_list.f l = some (l.take 13) := by
  unfold remouldlaw06_list.f
  have h1 := cut_f l 13 (by decide)
  have e1 := take_cut l 13 (by decide)
  change _ ∧ 0 ≤ mn (l.length : Int) 13 ∧ mn (l.length : Int) 13 ≤ (l.length : Int) at h1
  change l.take (mn (l.length : Int) 13).toNat = _ at e1
  rw [if_pos h1.2.1, if_pos h1.2.2, e1, if_pos (by simp; omega)]
  simp
theorem rd_get (l : List Int) (i : Nat) (h : i < l.length) : rd l (i : Int) = l[i] := by simp [rd, List.getElem?_eq_getElem h]
theorem succ_id (i : Nat) (h : i ≤ 1000000) : wrap64 ((i : Int) + 1) = ((i + 1 : Nat) : Int) := by rw [wrap64_id _ (by omega) (by omega)]; rfl
theorem Course_l0 (m : Int) (t p l : List Int) (hl : l.length ≤ 1000) : ∀ d i : Nat, i + d = l.length → (∀ j, (hj : j < i) → (hl : j < l.length) → inCourse m l[j] = true) → Ev (fun k => remouldref06_Course.l0 k l (i : Int) m t p) (courseB m l) := by
  intro d
  induction d with
  | zero =>
    intro i hi hall
    refine Ev.step (h := fun _ => some (decide ((l.length : Int) ≤ 12))) (fun k => by rw [remouldref06_Course.l0, if_neg (by omega)]) (Ev.eqs ?_ (Ev.const _))
    unfold courseB
    have : l.all (inCourse m) = true := by
      rw [List.all_eq_true]
      intro x hx
      obtain ⟨j, hj, rfl⟩ := List.getElem_of_mem hx
      exact hall j (by omega) hj
    rw [this, Bool.and_true]
    exact decide_eq_decide.2 (by omega)
  | succ d ih =>
    intro i hi hall
    have hr := rd_get l i (by omega)
    have hno : inCourse m l[i] = false → false = courseB m l := by
      intro h
      unfold courseB
      have : l.all (inCourse m) = false := by
        rw [List.all_eq_false]
        exact ⟨l[i], List.getElem_mem _, by rw [h]; decide⟩
      rw [this, Bool.and_false]
    by_cases h1 : rd l (i : Int) < 0
    · exact Ev.step (h := fun _ => some false) (fun k => by rw [remouldref06_Course.l0, if_pos (by omega), if_pos (by omega), if_pos h1]) (Ev.eqs (hno (by rw [← hr]; simp [inCourse, inB]; omega)) (Ev.const _))
    by_cases h2 : rd l (i : Int) ≥ m
    · exact Ev.step (h := fun _ => some false) (fun k => by rw [remouldref06_Course.l0, if_pos (by omega), if_pos (by omega), if_neg h1, if_pos h2]) (Ev.eqs (hno (by rw [← hr]; simp [inCourse, inB]; omega)) (Ev.const _))
    refine Ev.step (fun k => by rw [remouldref06_Course.l0, if_pos (by omega), if_pos (by omega), if_neg h1, if_neg h2, succ_id i (by omega)]) (ih (i + 1) (by omega) (fun j hj hjl => ?_))
    by_cases e : j = i
    · subst e; rw [← hr]; simp [inCourse, inB]; omega
    · exact hall j (by omega) hjl
theorem Course_f (m : Int) (t p l : List Int) (hl : l.length ≤ 1000) : Ev (fun k => remouldref06_Course.f k m t p l) (courseB m l) :=
  Course_l0 m t p l hl l.length 0 (by omega) (by omega)

theorem Form_l0 {m : Int} {t p : List Int} (h : RuleIs m t p) {l : List Int} (hc : CourseIs m l) (hl : l.length ≤ 12) : ∀ d i : Nat, i + d = l.length → Ev (fun k => remouldref06_Form.l0 k l (formW m t p (l.take i)).1 (formW m t p (l.take i)).2.1 (formW m t p (l.take i)).2.2 (i : Int) m t p) (formW m t p l) := by
  intro d
  induction d with
  | zero =>
    intro i hi
    rw [List.take_of_length_le (by omega)]
    exact Ev.step (h := fun _ => some (formW m t p l)) (fun k => by rw [remouldref06_Form.l0, if_neg (by omega)]) (Ev.const _)
  | succ d ih =>
    intro i hi
    have ih := ih (i + 1) (by omega)
    have et := take_succ_rd l i (by omega)
    rw [et, formW_snoc] at ih
    have hr := CourseIs.at (l := l) (n := l.length) (k := i) (by rw [List.take_length]; exact hc) (by omega) (Nat.le_refl _)
    have hf := formIn h (hc.take i)
    have hf2 := formIn h (hc.take (i + 1))
    rw [et, formW_snoc, List.length_append, List.length_singleton] at hf2
    have hli : (l.take i).length = i := by rw [List.length_take]; omega
    rw [hli] at hf hf2
    have s1 := hf.small (by omega)
    have s2 := hf2.small (by omega)
    obtain ⟨⟨a, b, d'⟩, hs⟩ : ∃ s, formW m t p (l.take i) = s := ⟨_, rfl⟩
    rw [hs] at ih hf hf2 s1 s2 ⊢
    obtain ⟨r, hr'⟩ : ∃ r, rd l (i : Int) = r := ⟨_, rfl⟩
    rw [hr'] at ih hr hf2 s2
    simp only [formStep] at ih hf2 s2 s1 ⊢
    have q1 := hf.a1
    have q2 := hf.d1
    have q3 := hf2.a1
    have q4 := hf2.d1
    simp only at q1 q2 q3 q4
    obtain ⟨t1, t2, _, p1, p2, _⟩ := h.ok r hr.1 hr.2
    have htl := h.tl
    have hpl := h.pl
    have hm2 := h.m2
    have b1 := mul_le_20 (x := b) t1 t2 (B := 16384000000000000) s1.2.1 s1.2.2.1
    have b2 := mul_le_50 (x := d') p1 p2 (by omega) s1.2.2.2
    refine Ev.step (fun k => ?_) ih
    rw [remouldref06_Form.l0, if_pos (by omega), if_pos (by omega), hr', if_pos hr.1, if_pos (by omega), if_pos (by omega), succ_id i (by omega)]
    rw [Int.mul_comm (rd t r) a, Int.mul_comm (rd t r) b, wrap64_id (a * rd t r) (by omega) (by omega), wrap64_id (b * rd t r) (by omega) (by omega), wrap64_id (rd p r * d') (by omega) (by omega), wrap64_id (b * rd t r + rd p r * d') (by omega) (by omega), wrap64_id (d' * m) (by omega) (by omega)]
theorem Form_f {m : Int} {t p : List Int} (h : RuleIs m t p) {l : List Int} (hc : CourseIs m l) (hl : l.length ≤ 12) : Ev (fun k => remouldref06_Form.f k m t p l) (formW m t p l) :=
  Form_l0 h hc hl l.length 0 (by omega)
/-- How the reference hands the fraction back. -/
def fixRes (s : Int × Int × Int) : Int × Int × Bool := if s.1 = s.2.2 then (0, 0, false) else (fixNum s.1 s.2.1 s.2.2, fixDen s.1 s.2.1 s.2.2, true)
theorem Fixed_f {m : Int} {t p : List Int} (h : RuleIs m t p) {l : List Int} (hc : CourseIs m l) (hl : l.length ≤ 12) : Ev (fun k => remouldref06_Fixed.f k m t p l) (fixRes (formW m t p l)) := by
  unfold remouldref06_Fixed.f
  refine Ev.bind (Form_f h hc hl) ?_
  have hf := formIn h hc
  have s1 := hf.small hl
  have q1 := hf.a1
  have q2 := hf.d1
  generalize formW m t p l = s at *
  obtain ⟨a, b, d⟩ := s
  simp only at s1 q1 q2 ⊢
  unfold fixRes
  simp only
  by_cases e : a = d
  · rw [if_pos e]
    exact Ev.pos e (Ev.const _)
  rw [if_neg e]
  refine Ev.neg e ?_
  have hg0 : (Int.gcd b (d - a) : Int) ≠ 0 := by
    intro e0
    have : Int.gcd b (d - a) = 0 := by omega
    rw [Int.gcd_eq_zero_iff] at this
    omega
  have d1 : (Int.gcd b (d - a) : Int) ∣ b := Int.gcd_dvd_left ..
  have d2 : (Int.gcd b (d - a) : Int) ∣ d - a := Int.gcd_dvd_right ..
  have hgp : 0 ≤ (Int.gcd b (d - a) : Int) := by omega
  have bnd : ∀ x : Int, -100000000000000000 ≤ x → x ≤ 100000000000000000 → (Int.gcd b (d - a) : Int) ∣ x → wrap64 (Int.tdiv x (Int.gcd b (d - a) : Int)) = x / (Int.gcd b (d - a) : Int) := by
    intro x h1 h2 hd
    rw [tdiv_of_dvd hd]
    have a1 : x / (Int.gcd b (d - a) : Int) ≤ 100000000000000000 := by
      have h3 : x / (Int.gcd b (d - a) : Int) ≤ 100000000000000000 / (Int.gcd b (d - a) : Int) := Int.ediv_le_ediv (by omega) h2
      have h4 : 100000000000000000 / (Int.gcd b (d - a) : Int) ≤ 100000000000000000 := Int.ediv_le_self _ (by decide)
      omega
    have a2 : -100000000000000000 ≤ x / (Int.gcd b (d - a) : Int) := by
      rw [Int.le_ediv_iff_mul_le (by omega)]
      have := Int.mul_le_mul_of_nonneg_left (show (1 : Int) ≤ (Int.gcd b (d - a) : Int) by omega) (show (0 : Int) ≤ 100000000000000000 by decide)
      have e2 : -100000000000000000 * (Int.gcd b (d - a) : Int) = -(100000000000000000 * (Int.gcd b (d - a) : Int)) := Int.neg_mul _ _
      omega
    exact wrap64_id _ (by omega) (by omega)
  have w1 : wrap64 (d - a) = d - a := wrap64_id _ (by omega) (by omega)
  rw [w1]
  unfold fixNum fixDen
  by_cases hneg : d - a < 0
  · rw [if_pos hneg, if_pos hneg]
    refine Ev.pos hneg ?_
    have w2 : wrap64 (-b) = -b := wrap64_id _ (by omega) (by omega)
    have w3 : wrap64 (-(d - a)) = -(d - a) := wrap64_id _ (by omega) (by omega)
    rw [w2, w3]
    have hgc := Gcd_f (-b) (-(d - a)) (by omega) (by omega)
    rw [show (Int.gcd (-b) (-(d - a)) : Int) = (Int.gcd b (d - a) : Int) by rw [Int.gcd_neg, Int.neg_gcd]] at hgc
    refine Ev.bind hgc (Ev.neg hg0 ?_)
    rw [bnd (-b) (by omega) (by omega) ((Int.dvd_neg).2 d1), bnd (-(d - a)) (by omega) (by omega) ((Int.dvd_neg).2 d2)]
    exact Ev.const _
  · rw [if_neg hneg, if_neg hneg]
    refine Ev.neg hneg (Ev.bind (Gcd_f b (d - a) (by omega) (by omega)) (Ev.neg hg0 ?_))
    rw [bnd b (by omega) (by omega) d1, bnd (d - a) (by omega) (by omega) d2]
    exact Ev.const _

/-- The walk along the remainders. -/
theorem Start_l2 {m : Int} {t p : List Int} (h : RuleIs m t p) {l : List Int} (hl : l.length ≤ 12) (x st : Int) (K : Nat) (hK : K < l.length) (hmid : ∀ i, i < K → midB (iterW m t p i x)) (r : Int)
    (hyes : iterW m t p K x % m = rd l (K : Int) → Ev (fun k => remouldref06_Start.l0 k l x (wrap64 (st * m)) (wrap64 ((K : Int) + 1)) m t p) r)
    (hno : ¬ iterW m t p K x % m = rd l (K : Int) → Ev (fun k => remouldref06_Start.l1 k l (wrap64 (x + st)) st (K : Int) m t p) r) :
    ∀ d i : Nat, i + d = K → Ev (fun k => remouldref06_Start.l2 k l x st (K : Int) (iterW m t p i x) (i : Int) m t p) r := by
  intro d
  induction d with
  | zero =>
    intro i hi
    obtain rfl : i = K := by omega
    refine Ev.step (fun k => by rw [remouldref06_Start.l2, if_neg (by omega)]) (Ev.bind (Ev.of (Rest_f h _)) (Ev.pos (show (0 : Int) ≤ (i : Int) by omega) (Ev.pos (show (i : Int) < (l.length : Int) by omega) ?_)))
    by_cases e : iterW m t p i x % m = rd l (i : Int)
    · exact Ev.pos e (hyes e)
    · exact Ev.neg e (hno e)
  | succ d ih =>
    intro i hi
    have ih := ih (i + 1) (by omega)
    rw [iterW_succ] at ih
    exact Ev.step (fun k => by rw [remouldref06_Start.l2, if_pos (by omega), succ_id i (by omega)]) (Ev.bind (Ev.of (Send_f h _ (hmid i (by omega)))) ih)
theorem Start_l0 {m : Int} {t p : List Int} (h : RuleIs m t p) {l : List Int} (hc : CourseIs m l) (hl : l.length ≤ 12) : ∀ d K : Nat, K + d = l.length → Ev (fun k => remouldref06_Start.l0 k l (startW m t p l K) (powW m K) (K : Int) m t p) (startW m t p l l.length) := by
  intro d
  induction d with
  | zero =>
    intro K hK
    obtain rfl : K = l.length := by omega
    exact Ev.step (h := fun _ => some (startW m t p l l.length)) (fun k => by rw [remouldref06_Start.l0, if_neg (by omega)]) (Ev.const _)
  | succ d ih =>
    intro K hK
    have ih := ih (K + 1) (by omega)
    obtain ⟨h1, h2, h3⟩ := startW_spec h hc K (by omega)
    have hlen : (l.take K).length = K := by rw [List.length_take]; omega
    have et := take_succ_rd l K (by omega)
    have hr := CourseIs.at (l := l) (n := l.length) (k := K) (by rw [List.take_length]; exact hc) (by omega) (Nat.le_refl _)
    obtain ⟨j, j1, hj, hno⟩ := find_ends h h1 (hc.take K) hr
    rw [hlen, ← et] at hj hno
    have m6 := h.m6
    have hm2 := h.m2
    have e : startW m t p l (K + 1) = startW m t p l K + powW m K * j := findW_at m t p (l.take (K + 1)) (powW m K) j 6 _ (by omega) hj hno
    have hp := powW_pos h K
    have hps : powW m (K + 1) = powW m K * m := by rw [powW_succ, Int.mul_comm]
    have hp12 := powW_le6 h (K + 1)
    have h6 := pow6_le (show K + 1 ≤ 12 by omega)
    have e6 : (6 : Int) ^ 12 = 2176782336 := by decide
    refine Ev.step (h := fun k => remouldref06_Start.l1 k l (startW m t p l K) (powW m K) (K : Int) m t p) (fun k => by rw [remouldref06_Start.l0, if_pos (by omega)]) ?_
    -- the candidates
    have cand : ∀ i : Nat, i ≤ j → 0 ≤ startW m t p l K + powW m K * i ∧ startW m t p l K + powW m K * i < powW m (K + 1) := by
      intro i hi
      have a1 := Int.mul_nonneg (show 0 ≤ powW m K by omega) (show (0 : Int) ≤ i by omega)
      have a2 : powW m K * i ≤ powW m K * (m - 1) := Int.mul_le_mul_of_nonneg_left (by omega) (by omega)
      rw [Int.mul_sub, Int.mul_one] at a2
      omega
    have test : ∀ i : Nat, (iterW m t p K (startW m t p l K + powW m K * i) % m = rd l (K : Int)) ↔ followsW m t p (l.take (K + 1)) (startW m t p l K + powW m K * i) = true := by
      intro i
      have hs := (follows_shift h (l.take K) (startW m t p l K) i h1)
      rw [et, follows_snoc, hlen]
      have hs1 : followsW m t p (l.take K) (startW m t p l K + powW m K * i) = true := by
        have := hs.1
        rw [hlen] at this
        exact this
      rw [hs1, Bool.true_and, beq_iff_eq]
    have go : ∀ c i : Nat, i + c = j → Ev (fun k => remouldref06_Start.l1 k l (startW m t p l K + powW m K * i) (powW m K) (K : Int) m t p) (startW m t p l l.length) := by
      intro c
      induction c with
      | zero =>
        intro i hi
        obtain rfl : i = j := by omega
        have hb := cand i (Nat.le_refl _)
        refine Ev.step (h := fun k => remouldref06_Start.l2 k l (startW m t p l K + powW m K * i) (powW m K) (K : Int) (startW m t p l K + powW m K * i) 0 m t p) (fun k => by rw [remouldref06_Start.l1]) ?_
        refine Start_l2 h hl _ _ K (by omega) (fun q hq => iter_mid h (k := K + 1) (by omega) (by omega) (by omega) q (by omega)) _ (fun _ => ?_) (fun hn => absurd ((test i).2 hj) hn) K 0 (by omega)
        rw [wrap64_id (powW m K * m) (by omega) (by omega), ← hps, ← e, succ_id K (by omega)]
        exact ih
      | succ c ihc =>
        intro i hi
        have hb := cand i (by omega)
        have hb2 := cand (i + 1) (by omega)
        have hnext : startW m t p l K + powW m K * i + powW m K = startW m t p l K + powW m K * ((i + 1 : Nat) : Int) := by
          rw [Int.natCast_add, Int.mul_add]
          simp
          omega
        refine Ev.step (h := fun k => remouldref06_Start.l2 k l (startW m t p l K + powW m K * i) (powW m K) (K : Int) (startW m t p l K + powW m K * i) 0 m t p) (fun k => by rw [remouldref06_Start.l1]) ?_
        refine Start_l2 h hl _ _ K (by omega) (fun q hq => iter_mid h (k := K + 1) (by omega) (by omega) (by omega) q (by omega)) _ (fun hy => ?_) (fun _ => ?_) K 0 (by omega)
        · have := (test i).1 hy
          rw [hno i (by omega)] at this
          cases this
        · rw [wrap64_id _ (by omega) (by omega), hnext]
          exact ihc (i + 1) (by omega)
    have := go j 0 (by omega)
    rw [show ((0 : Nat) : Int) = 0 from rfl, Int.mul_zero, Int.add_zero] at this
    exact this
theorem Start_f {m : Int} {t p : List Int} (h : RuleIs m t p) {l : List Int} (hc : CourseIs m l) (hl : l.length ≤ 12) : Ev (fun k => remouldref06_Start.f k m t p l) (startW m t p l l.length) :=
  Start_l0 h hc hl l.length 0 (by omega)
end Go.Proofs.Ytkjojcepombhpaa.L
