/- Plain law: the reference's Course, Form, Fixed, Start. -/
import Derived.Test.YtkjojcepombhpaaN0
import Derived.Test.YtkjojcepombhpaaL8
import Derived.Test.YtkjojcepombhpaaL12l
import Derived.Test.YtkjojcepombhpaaL7
namespace Go.Proofs.Ytkjojcepombhpaa.L
set_option linter.unusedVariables false
set_option linter.unusedSimpArgs false
open Go.RowKit Go.Proofs.YtkjojcepombhpaaW.PrintWords Go.Proofs.YtkjojcepombhpaaW.PrintLast Go.Proofs.YtkjojcepombhpaaW.PrintMore

theorem list_f (l : List Int) : remouldlaw06_list.f l = some (l.take 13) := by
  unfold remouldlaw06_list.f
  have h1 := cut_f l 13 (by decide)
  have e1 := take_cut l 13 (by decide)
  change _ ∧ 0 ≤ mn (l.length : Int) 13 ∧ mn (l.length : Int) 13 ≤ (l.length : Int) at h1
  change l.take (mn (l.length : Int) 13).toNat = _ at e1
  rw [if_pos h1.2.1, if_pos h1.2.2, e1, if_pos (by simp; omega)]
  simp
theorem rd_get (l : List Int) (i : Nat) (h : i < l.length) : rd l (i : Int) = l[i] := by simp [rd, List.getElem?_eq_getElem h]
theorem succ_id (i : Nat) (h : i ≤ 1000000) : wrap64 ((i : Int) + 1) = ((i + 1 : Nat) : Int) := by rw [wrap64_id _ (by omega) (by omega)]; rfl
theorem Form_l0 {m : Int} {t p : List Int} (h : RuleIs m t p) {l : List Int} (hc : CourseIs m l) (hl : l.length ≤ 12) : ∀ d i : Nat, i + d = l.length → Ev (fun k => remouldref06_Form.l0 k l (formW m t p (l.take i)).1 (formW m t p (l.take i)).2.1 (formW m t p (l.take i)).2.2 (i : Int) m t p) (formW m t p l) := by
  intro d
  induction d with
  | zero =>
    intro i hi
    rw [List.take_of_length_le (by omega)]
    exact Ev.step (h := fun _ => some (formW m t p l)) (fun k => by rw [remouldref06_Form.l0, if_neg (by omega)]) (Ev.const _)
  | succ d ih =>
    intro i hi
    have ih := ih (i + 1) (by omega)
    have et := take_succ_rd l i (by omega)
    rw [et, formW_snoc] at ih
    have hr := CourseIs.at (l := l) (n := l.length) (k := i) (by rw [List.take_length]; exact hc) (by omega) (Nat.le_refl _)
    have hf := formIn h (hc.take i)
    have hf2 := formIn h (hc.take (i + 1))
    rw [et, formW_snoc, List.length_append, List.length_singleton] at hf2
    have hli : (l.take i).length = i := by rw [List.length_take]; omega
    rw [hli] at hf hf2
    have s1 := hf.small (by omega)
    have s2 := hf2.small (by omega)
    obtain ⟨⟨a, b, d'⟩, hs⟩ : ∃ s, formW m t p (l.take i) = s := ⟨_, rfl⟩
    rw [hs] at ih hf hf2 s1 s2 ⊢
    obtain ⟨r, hr'⟩ : ∃ r, rd l (i : Int) = r := ⟨_, rfl⟩
    rw [hr'] at ih hr hf2 s2
    simp only [formStep] at ih hf2 s2 s1 ⊢
    have q1 := hf.a1
    have q2 := hf.d1
    have q3 := hf2.a1
    have q4 := hf2.d1
    simp only at q1 q2 q3 q4
    obtain ⟨t1, t2, _, p1, p2, _⟩ := h.ok r hr.1 hr.2
    have htl := h.tl
    have hpl := h.pl
    have hm2 := h.m2
    have b1 := mul_le_20 (x := b) t1 t2 (B := 16384000000000000) s1.2.1 s1.2.2.1
    have b2 := mul_le_50 (x := d') p1 p2 (by omega) s1.2.2.2
    refine Ev.step (fun k => ?_) ih
    rw [remouldref06_Form.l0, if_pos (by omega), if_pos (by omega), hr', if_pos hr.1, if_pos (by omega), if_pos (by omega), succ_id i (by omega)]
    rw [Int.mul_comm (rd t r) a, Int.mul_comm (rd t r) b, wrap64_id (a * rd t r) (by omega) (by omega), wrap64_id (b * rd t r) (by omega) (by omega), wrap64_id (rd p r * d') (by omega) (by omega), wrap64_id (b * rd t r + rd p r * d') (by omega) (by omega), wrap64_id (d' * m) (by omega) (by omega)]
theorem Form_f {m : Int} {t p : List Int} (h : RuleIs m t p) {l : List Int} (hc : CourseIs m l) (hl : l.length ≤ 12) : Ev (fun k => remouldref06_Form.f k m t p l) (formW m t p l) :=
  Form_l0 h hc hl l.length 0 (by omega)
/-- How the reference hands the fraction back. -/
def fixRes (s : Int × Int × Int) : Int × Int × Bool := if s.1 = s.2.2 then (0, 0, false) else (fixNum s.1 s.2.1 s.2.2, fixDen s.1 s.2.1 s.2.2, true)
theorem Fixed_f {m : Int} {t p : List Int} (h : RuleIs m t p) {l : List Int} (hc : CourseIs m l) (hl : l.length ≤ 12) : Ev (fun k => remouldref06_Fixed.f k m t p l) (fixRes (formW m t p l)) := by
  unfold remouldref06_Fixed.f
  refine Ev.bind (Form_f h hc hl) ?_
  have hf := formIn h hc
  have s1 := hf.small hl
  have q1 := hf.a1
  have q2 := hf.d1
  generalize formW m t p l = s at *
  obtain ⟨a, b, d⟩ := s
  simp only at s1 q1 q2 ⊢
  unfold fixRes
  simp only
  by_cases e : a = d
  · rw [if_pos e]
    exact Ev.pos e (Ev.const _)
  rw [if_neg e]
  refine Ev.neg e ?_
  have hg0 : (Int.gcd b (d - a) : Int) ≠ 0 := by
    intro e0
    have : Int.gcd b (d - a) = 0 := by omega
    rw [Int.gcd_eq_zero_iff] at this
    omega
  have d1 : (Int.gcd b (d - a) : Int) ∣ b := Int.gcd_dvd_left ..
  have d2 : (Int.gcd b (d - a) : Int) ∣ d - a := Int.gcd_dvd_right ..
  have hgp : 0 ≤ (Int.gcd b (d - a) : Int) := by omega
  have bnd : ∀ x : Int, -100000000000000000 ≤ x → x ≤ 100000000000000000 → (Int.gcd b (d - a) : Int) ∣ x → wrap64 (Int.tdiv x (Int.gcd b (d - a) : Int)) = x / (Int.gcd b (d - a) : Int) := by
    intro x h1 h2 hd
    rw [tdiv_of_dvd hd]
    have a1 : x / (Int.gcd b (d - a) : Int) ≤ 100000000000000000 := by
      have h3 : x / (Int.gcd b (d - a) : Int) ≤ 100000000000000000 / (Int.gcd b (d - a) : Int) := Int.ediv_le_ediv (by omega) h2
      have h4 : 100000000000000000 / (Int.gcd b (d - a) : Int) ≤ 100000000000000000 := Int.ediv_le_self _ (by decide)
      omega
    have a2 : -100000000000000000 ≤ x / (Int.gcd b (d - a) : Int) := by
      rw [Int.le_ediv_iff_mul_le (by omega)]
      have := Int.mul_le_mul_of_nonneg_left (show (1 : Int) ≤ (Int.gcd b (d - a) : Int) by omega) (show (0 : Int) ≤ 100000000000000000 by decide)
      have e2 : -100000000000000000 * (Int.gcd b (d - a) : Int) = -(100000000000000000 * (Int.gcd b (d - a) : Int)) := Int.neg_mul _ _
      omega
    exact wrap64_id _ (by omega) (by omega)
  have w1 : wrap64 (d - a) = d - a := wrap64_id _ (by omega) (by omega)
  rw [w1]
  unfold fixNum fixDen
  by_cases hneg : d - a < 0
  · rw [if_pos hneg, if_pos hneg]
    refine Ev.pos hneg ?_
    have w2 : wrap64 (-b) = -b := wrap64_id _ (by omega) (by omega)
    have w3 : wrap64 (-(d - a)) = -(d - a) := wrap64_id _ (by omega) (by omega)
    rw [w2, w3]
    have hgc := Gcd_f (-b) (-(d - a)) (by omega) (by omega)
    rw [show (Int.gcd (-b) (-(d - a)) : Int) = (Int.gcd b (d - a) : Int) by rw [Int.gcd_neg, Int.neg_gcd]] at hgc
    refine Ev.bind hgc (Ev.neg hg0 ?_)
    rw [bnd (-b) (by omega) (by omega) ((Int.dvd_neg).2 d1), bnd (-(d - a)) (by omega) (by omega) ((Int.dvd_neg).2 d2)]
    exact Ev.const _
  · rw [if_neg hneg, if_neg hneg]
    refine Ev.neg hneg (Ev.bind (Gcd_f b (d - a) (by omega) (by omega)) (Ev.neg hg0 ?_))
    rw [bnd b (by omega) (by omega) d1, bnd (d - a) (by omega) (by omega) d2]
    exact Ev.const _

end Go.Proofs.Ytkjojcepombhpaa.L
