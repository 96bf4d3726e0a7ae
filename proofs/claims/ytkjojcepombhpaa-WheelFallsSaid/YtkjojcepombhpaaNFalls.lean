/- Plain law: the reference's Falls; the law WheelFalls. -/
import Derived.Test.YtkjojcepombhpaaXFalls
import Derived.Test.YtkjojcepombhpaaN0
import Derived.Test.YtkjojcepombhpaaL19
namespace Go.Proofs.Ytkjojcepombhpaa.L
set_option linter.unusedVariables false
set_option linter.unusedSimpArgs false
open Go.RowKit Go.Proofs.YtkjojcepombhpaaW.PrintWords Go.Proofs.YtkjojcepombhpaaW.PrintLast Go.Proofs.YtkjojcepombhpaaW.PrintMore

/-- In how many ways k of n places are chosen. -/
def chs : Nat → Nat → Nat
  | _, 0 => 1
  | 0, _ + 1 => 0
  | n + 1, k + 1 => chs n k + chs n (k + 1)
theorem chs_zero (n : Nat) : chs n 0 = 1 := by cases n <;> rfl
theorem chs_mul : ∀ n k : Nat, chs n (k + 1) * (k + 1) + chs n k * k = chs n k * n := by
  intro n
  induction n with
  | zero =>
    intro k
    cases k with
    | zero => rfl
    | succ k => simp [chs]
  | succ n ih =>
    intro k
    cases k with
    | zero =>
      have := ih 0
      rw [chs_zero] at this
      simp only [chs, chs_zero]
      omega
    | succ j =>
      have h1 := ih (j + 1)
      have h2 := ih j
      simp only [chs]
      simp only [Nat.mul_add, Nat.add_mul, Nat.mul_one] at h1 h2 ⊢
      omega
theorem chs_next (n k : Nat) (h : k ≤ n) : chs n k * (n - k) = chs n (k + 1) * (k + 1) := by
  have := chs_mul n k
  rw [Nat.mul_sub]
  omega
theorem chs_over : ∀ n k : Nat, n < k → chs n k = 0 := by
  intro n
  induction n with
  | zero => intro k h; cases k with | zero => omega | succ k => rfl
  | succ n ih =>
    intro k h
    cases k with
    | zero => omega
    | succ k => rw [chs, ih k (by omega), ih (k + 1) (by omega)]
theorem chs_le (n : Nat) (hn : n ≤ 12) : ∀ k : Nat, chs n k ≤ 12 ^ k := by
  intro k
  induction k with
  | zero => rw [chs_zero]; exact Nat.le_refl _
  | succ k ih =>
    have h := chs_mul n k
    have h1 : chs n (k + 1) ≤ chs n (k + 1) * (k + 1) := Nat.le_mul_of_pos_right _ (by omega)
    have h2 : chs n k * n ≤ 12 ^ k * 12 := Nat.mul_le_mul ih hn
    rw [Nat.pow_succ]
    exact Nat.le_trans h1 (Nat.le_trans (Nat.le_add_right _ _) (h ▸ h2))
def sumN : Nat → (Nat → Nat) → Nat
  | 0, _ => 0
  | K + 1, F => sumN K F + F K
theorem sumN_congr {F G : Nat → Nat} : ∀ K, (∀ k, k < K → F k = G k) → sumN K F = sumN K G := by
  intro K
  induction K with
  | zero => intro _; rfl
  | succ K ih => intro h; rw [sumN, sumN, ih (fun k hk => h k (by omega)), h K (by omega)]
theorem sumN_add (F G : Nat → Nat) : ∀ K, sumN K (fun k => F k + G k) = sumN K F + sumN K G := by
  intro K
  induction K with
  | zero => rfl
  | succ K ih => rw [sumN, sumN, sumN, ih]; omega
theorem sumN_shift (F : Nat → Nat) : ∀ K, sumN (K + 1) F = F 0 + sumN K (fun k => F (k + 1)) := by
  intro K
  induction K with
  | zero => simp [sumN]
  | succ K ih => rw [sumN, ih, sumN]; omega
theorem sumN_mono (F : Nat → Nat) : ∀ K k, k ≤ K → sumN k F ≤ sumN K F := by
  intro K
  induction K with
  | zero => intro k hk; obtain rfl : k = 0 := (by omega); exact Nat.le_refl _
  | succ K ih =>
    intro k hk
    by_cases e : k = K + 1
    · subst e; exact Nat.le_refl _
    · have := ih k (by omega)
      rw [sumN]
      omega
def sumP (ts : List Int) (j : Nat) (g : Int → Nat) : Nat := ((prodsW ts j).map g).sum
theorem sumP_succ (ts : List Int) (j : Nat) (g : Int → Nat) : sumP ts (j + 1) g = sumP ts j (fun x => (ts.map fun s => g (x * s)).sum) := by
  unfold sumP
  rw [prodsW]
  generalize prodsW ts j = P
  induction P with
  | nil => rfl
  | cons a P ih => rw [List.flatMap_cons, List.map_append, List.sum_append, ih, List.map_map, List.map_cons, List.sum_cons]; rfl
theorem sumP_add (ts : List Int) (j : Nat) (f g : Int → Nat) : sumP ts j (fun x => f x + g x) = sumP ts j f + sumP ts j g := by
  unfold sumP
  generalize prodsW ts j = P
  induction P with
  | nil => rfl
  | cons a P ih => simp only [List.map_cons, List.sum_cons, ih]; omega
theorem sumP_le (ts : List Int) (j : Nat) (g : Int → Nat) (hg : ∀ x, g x ≤ 1) : sumP ts j g ≤ ts.length ^ j := by
  rw [← prodsW_length]
  unfold sumP
  generalize prodsW ts j = P
  induction P with
  | nil => exact Nat.le_refl _
  | cons a P ih =>
    have := hg a
    simp only [List.map_cons, List.sum_cons, List.length_cons]
    omega
/-- One factor more: by how often it stands. -/
theorem sumP_cons (a : Int) (ts : List Int) : ∀ (n : Nat) (f : Int → Nat), sumP (a :: ts) n f = sumN (n + 1) (fun k => chs n k * sumP ts (n - k) (fun x => f (x * a ^ k))) := by
  intro n
  induction n with
  | zero =>
    intro f
    simp [sumN, sumP, prodsW, chs]
  | succ n ih =>
    intro f
    rw [sumP_succ]
    simp only [List.map_cons, List.sum_cons]
    rw [sumP_add, ih, ih, sumN_shift (fun k => chs (n + 1) k * sumP ts (n + 1 - k) (fun x => f (x * a ^ k))) (n + 1)]
    have e0 : chs (n + 1) 0 = 1 := rfl
    have e1 : ∀ k, k < n + 1 → (fun k => chs (n + 1) (k + 1) * sumP ts (n + 1 - (k + 1)) (fun x => f (x * a ^ (k + 1)))) k = (fun k => chs n k * sumP ts (n - k) (fun x => f (x * a ^ (k + 1))) + chs n (k + 1) * sumP ts (n - k) (fun x => f (x * a ^ (k + 1)))) k := by
      intro k _
      simp only [chs]
      rw [Nat.add_mul, Nat.add_sub_add_right]
    rw [sumN_congr _ e1, sumN_add]
    have e2 : ∀ k, k < n + 1 → (fun k => chs n k * sumP ts (n - k) (fun x => f (x * a ^ k * a))) k = (fun k => chs n k * sumP ts (n - k) (fun x => f (x * a ^ (k + 1)))) k := by
      intro k _
      simp only [Int.pow_succ, Int.mul_assoc]
    rw [sumN_congr _ e2]
    have e3 : ∀ k, k < n + 1 → (fun k => chs n k * sumP ts (n - k) (fun x => (ts.map fun s => f (x * a ^ k * s)).sum)) k = (fun k => chs n k * sumP ts (n + 1 - k) (fun x => f (x * a ^ k))) k := by
      intro k hk
      show chs n k * _ = chs n k * _
      rw [show n + 1 - k = (n - k) + 1 by omega, sumP_succ]
      congr 1
      congr 1
      funext x
      congr 1
      apply List.map_congr_left
      intro s _
      rw [Int.mul_assoc, Int.mul_assoc, Int.mul_comm s]
    rw [sumN_congr _ e3]
    have e4 := sumN_shift (fun k => chs n k * sumP ts (n + 1 - k) (fun x => f (x * a ^ k))) (n + 1)
    rw [sumN] at e4
    simp only [chs_over n (n + 1) (by omega), Nat.zero_mul, Nat.add_zero, chs_zero, Nat.one_mul, Nat.add_sub_add_right] at e4
    rw [e4, e0, Nat.one_mul]
    simp only [chs_zero, Nat.sub_zero]
    omega

variable {m : Int} {t p : List Int}
/-- How many courses from r on have a product less than d. -/
def lessW (t : List Int) (r places : Nat) (product d : Int) : Nat := sumP (t.drop r) places (fun x => if product * x < d then 1 else 0)
theorem pow20_split {a b : Nat} : (20 : Int) ^ a * 20 ^ b = 20 ^ (a + b) := (Int.pow_add 20 a b).symm
theorem fl_nums (r places k e tl : Nat) (hrt : r < tl) (ht6 : tl ≤ 12) (hp : places ≤ 12) (hk : k + (e + 1) = places + 1) :
    k ≤ places ∧ (k : Int) ≤ (places : Int) ∧ (0 : Int) ≤ (r : Int) ∧ (r : Int) < (tl : Int) ∧ wrap64 ((r : Int) + 1) = ((r + 1 : Nat) : Int) ∧ wrap64 ((places : Int) - (k : Int)) = ((places - k : Nat) : Int) ∧ wrap64 ((k : Int) + 1) = ((k + 1 : Nat) : Int) ∧ ¬ (((k + 1 : Nat) : Int) = 0) ∧
    12 - places + k = 12 - (places - k) ∧ places - k ≤ 12 ∧ 12 - places + (k + 1) ≤ 13 ∧ 12 - (places - k) ≤ 12 ∧ k + 1 ≤ places + 1 ∧ k + 1 + e = places + 1 := by
  refine ⟨by omega, by omega, by omega, by omega, ?_, ?_, ?_, by omega, by omega, by omega, by omega, by omega, by omega, by omega⟩
  · rw [wrap64_id _ (by omega) (by omega)]; rfl
  · rw [wrap64_id _ (by omega) (by omega)]; omega
  · rw [wrap64_id _ (by omega) (by omega)]; rfl
theorem pow_le20 {a : Int} (a1 : 1 ≤ a) (a2 : a ≤ 20) : ∀ k : Nat, a ^ k ≤ 20 ^ k := by
  intro k
  induction k with
  | zero => rw [Int.pow_zero, Int.pow_zero]; exact Int.le_refl _
  | succ k ih => rw [Int.pow_succ, Int.pow_succ]; exact Int.mul_le_mul ih a2 (Int.le_trans (by decide) a1) (Int.le_trans (by decide) (pow_step 20 (by decide) k))
theorem wrap_nat (x : Nat) (h : x ≤ 106993205379072) : wrap64 (x : Int) = (x : Int) := wrap64_id _ (by omega) (by omega)
theorem wrap_nat_add (x y : Nat) (h : x + y ≤ 8916100448256) : wrap64 ((x : Int) + (y : Int)) = ((x + y : Nat) : Int) := by rw [wrap64_id _ (by omega) (by omega)]; rfl
theorem wrap_le {x : Int} (h1 : 1 ≤ x) (h2 : x ≤ 81920000000000000) : wrap64 x = x := wrap64_id _ (by omega) (by omega)
theorem falls_l0 (h : RuleIs m t p) (d : Int) (r : Nat) (hr : (r : Int) < m) (places : Nat) (hp : places ≤ 12) (product : Int) (hp1 : 1 ≤ product) (hp2 : product ≤ 20 ^ (12 - places)) (ways : Nat) (hw : ways ≤ 12 ^ (12 - places))
    (rec' : ∀ (pl : Nat) (pr : Int) (wy : Nat), pl ≤ 12 → 1 ≤ pr → pr ≤ 20 ^ (12 - pl) → wy ≤ 12 ^ (12 - pl) → Ev (fun k => remouldref06_falls.f k m t p ((r + 1 : Nat) : Int) pl pr d wy) ((wy * lessW t (r + 1) pl pr d : Nat) : Int)) :
    ∀ e k : Nat, k + e = places + 1 → Ev (fun q => remouldref06_falls.l0 q r places (product * rd t (r : Int) ^ k) d ((ways * chs places k : Nat) : Int) ((ways * sumN k (fun j => chs places j * sumP (t.drop (r + 1)) (places - j) (fun x => if product * (x * rd t (r : Int) ^ j) < d then 1 else 0)) : Nat) : Int) (k : Int) m t p) ((ways * lessW t r places product d : Nat) : Int) := by
  have HW := Lib.hid hw
  have HP2 := Lib.hid hp2
  clear hw hp2
  have ha := h.ok (r : Int) (by omega) hr
  obtain ⟨a1, a2, _⟩ := ha
  have htl := h.tl
  have hm6 := h.m6
  have hrt : r < t.length := by omega
  have ht6 : t.length ≤ 12 := by omega
  have hpp : 12 - places + places = 12 := by omega
  have hdrop : t.drop r = rd t (r : Int) :: t.drop (r + 1) := by rw [show rd t (r : Int) = t[r] by simp [rd, hrt]]; exact (List.getElem_cons_drop hrt).symm
  generalize hra : rd t (r : Int) = a at *
  obtain ⟨F, hF⟩ : ∃ F : Nat → Nat, F = fun j => chs places j * sumP (t.drop (r + 1)) (places - j) (fun x => if product * (x * a ^ j) < d then 1 else 0) := ⟨_, rfl⟩
  have hsum : lessW t r places product d = sumN (places + 1) F := by
    unfold lessW
    rw [hdrop, sumP_cons, hF]
  have HTOT : Hid (ways * lessW t r places product d ≤ 12 ^ 12) := by
    refine Lib.hid ?_
    have hle : lessW t r places product d ≤ (t.drop r).length ^ places := sumP_le _ _ _ (fun x => by split <;> decide)
    have hle12 : lessW t r places product d ≤ 12 ^ places := Nat.le_trans hle (Nat.pow_le_pow_left (Nat.le_trans (by rw [List.length_drop]; exact Nat.sub_le _ _) ht6) places)
    have := Nat.mul_le_mul HW.out hle12
    rwa [← Nat.pow_add, hpp] at this
  rw [show (fun j => chs places j * sumP (t.drop (r + 1)) (places - j) (fun x => if product * (x * a ^ j) < d then 1 else 0)) = F from hF.symm]
  have HPK : Hid (∀ k, 1 ≤ product * a ^ k ∧ product * a ^ k ≤ 20 ^ (12 - places + k)) := by
    refine Lib.hid (fun k => ?_)
    have b1 : 1 ≤ a ^ k := pow_step a a1 k
    have b2 : a ^ k ≤ 20 ^ k := pow_le20 a1 a2 k
    refine ⟨?_, ?_⟩
    · have := Int.mul_le_mul hp1 b1 (by decide) (Int.le_trans (by decide) hp1)
      simpa using this
    · rw [Int.pow_add]
      exact Int.mul_le_mul HP2.out b2 (Int.le_trans (by decide) b1) (Int.le_trans (by decide) (pow_step 20 (by decide) _))
  have HSUM := Lib.hid hsum
  have HF := Lib.hid hF
  have HRA := Lib.hid hra
  clear hsum hF hdrop hra
  intro e
  induction e with
  | zero =>
    intro k hk
    obtain rfl : k = places + 1 := by omega
    have hno : ¬ (((places + 1 : Nat) : Int) ≤ (places : Int)) := by omega
    rw [HSUM.out]
    exact Ev.step (h := fun _ => some _) (fun q => by rw [remouldref06_falls.l0, if_neg hno]) (Ev.const _)
  | succ e ih =>
    intro k hk
    obtain ⟨hkp, hyes, hr0, hrl, w1, w2, w7, hne, x1, x2, x3, x4, x5, x6⟩ := fl_nums r places k e t.length hrt ht6 hp hk
    have ih := ih (k + 1) x6
    obtain ⟨p1, p2⟩ := HPK.out k
    have hch := chs_le places hp k
    have hwc : ways * chs places k ≤ 12 ^ (12 - (places - k)) := by
      have := Nat.mul_le_mul HW.out hch
      rwa [← Nat.pow_add, x1] at this
    have hrec := rec' (places - k) (product * a ^ k) (ways * chs places k) x2 p1 (x1 ▸ p2) hwc
    have eF : (ways * chs places k) * lessW t (r + 1) (places - k) (product * a ^ k) d = ways * F k := by
      rw [HF.out, Nat.mul_assoc]
      congr 2
      unfold lessW
      congr 1
      funext x
      rw [Int.mul_assoc, Int.mul_comm (a ^ k) x]
    rw [eF] at hrec
    have hsk : ways * sumN k F + ways * F k = ways * sumN (k + 1) F := by rw [sumN, Nat.mul_add]
    have hsb : ways * sumN (k + 1) F ≤ 8916100448256 := Nat.le_trans (Nat.mul_le_mul_left ways (by rw [HSUM.out]; exact sumN_mono F _ _ x5)) (Nat.le_trans HTOT.out (by decide))
    have w6 : wrap64 (((ways * sumN k F : Nat) : Int) + ((ways * F k : Nat) : Int)) = ((ways * sumN (k + 1) F : Nat) : Int) := by
      rw [← hsk] at hsb ⊢
      exact wrap_nat_add _ _ hsb
    have w3 : wrap64 (product * a ^ k * a) = product * a ^ (k + 1) := by
      obtain ⟨q1, q2⟩ := HPK.out (k + 1)
      have q3 : (20 : Int) ^ (12 - places + (k + 1)) ≤ 20 ^ 13 := pow_mono 20 (by decide) x3
      have q4 : product * a ^ (k + 1) ≤ 81920000000000000 := Int.le_trans q2 (Int.le_trans q3 (by decide))
      rw [Int.mul_assoc, ← Int.pow_succ]
      exact wrap_le q1 q4
    have hb12 : ways * chs places k ≤ 8916100448256 := Nat.le_trans hwc (Nat.le_trans (Nat.pow_le_pow_right (by decide) x4) (by decide))
    have w4 : wrap64 (((ways * chs places k : Nat) : Int) * ((places - k : Nat) : Int)) = ((ways * chs places (k + 1) * (k + 1) : Nat) : Int) := by
      have e1 : ways * chs places k * (places - k) = ways * chs places (k + 1) * (k + 1) := by rw [Nat.mul_assoc, chs_next places k hkp, Nat.mul_assoc]
      have e2 : ways * chs places k * (places - k) ≤ 8916100448256 * 12 := Nat.mul_le_mul hb12 x2
      rw [← e1, ← Int.natCast_mul]
      exact wrap_nat _ e2
    have w5 : wrap64 ((((ways * chs places (k + 1) * (k + 1) : Nat)) : Int).tdiv ((k + 1 : Nat) : Int)) = ((ways * chs places (k + 1) : Nat) : Int) := by
      have hch2 := chs_le places hp (k + 1)
      rw [Int.natCast_mul (ways * chs places (k + 1)) (k + 1), Int.mul_tdiv_cancel _ hne]
      have e3 : ways * chs places (k + 1) ≤ 12 ^ (12 - places) * 12 ^ (k + 1) := Nat.mul_le_mul HW.out hch2
      have e4 : 12 ^ (12 - places) * 12 ^ (k + 1) ≤ 12 ^ 13 := by rw [← Nat.pow_add]; exact Nat.pow_le_pow_right (by decide) x3
      exact wrap_nat _ (Nat.le_trans e3 (Nat.le_trans e4 (by decide)))
    refine Ev.step (fun q => by rw [remouldref06_falls.l0, if_pos hyes, w1, w2]) (Ev.bind hrec ?_)
    refine Ev.pos hr0 (Ev.pos hrl ?_)
    rw [w7]
    refine Ev.neg hne ?_
    rw [HRA.out, w3, w4, w5, w6]
    exact ih
theorem lessW_end (t : List Int) (r : Nat) (hr : t.length ≤ r) (places : Nat) (product d : Int) : lessW t r places product d = if places = 0 then (if product < d then 1 else 0) else 0 := by
  unfold lessW sumP
  rw [List.drop_eq_nil_of_le hr]
  cases places with
  | zero => simp [prodsW]
  | succ j =>
    rw [if_neg (Nat.succ_ne_zero j)]
    have hz : ∀ P : List Int, P.flatMap (fun _ => ([] : List Int)) = [] := by
      intro P; induction P with
      | nil => rfl
      | cons a P ih => rw [List.flatMap_cons, ih]; rfl
    simp [prodsW, hz]
theorem falls_f (h : RuleIs m t p) (d : Int) : ∀ q r : Nat, (r : Int) + q = m → ∀ (places : Nat) (product : Int) (ways : Nat), places ≤ 12 → 1 ≤ product → product ≤ 20 ^ (12 - places) → ways ≤ 12 ^ (12 - places) →
    Ev (fun k => remouldref06_falls.f k m t p (r : Int) places product d ways) ((ways * lessW t r places product d : Nat) : Int) := by
  have htl := h.tl
  intro q
  induction q with
  | zero =>
    intro r hr places product ways hp _ _ _
    have hrm : (r : Int) = m := by omega
    have hrl : t.length ≤ r := by omega
    rw [lessW_end t r hrl]
    by_cases h0 : places = 0
    · subst h0
      rw [if_pos rfl]
      by_cases hd : product < d
      · rw [if_pos hd, Nat.mul_one]
        exact Ev.step (h := fun _ => some (ways : Int)) (fun k => by rw [remouldref06_falls.f, if_pos hrm, if_pos (show ((0 : Nat) : Int) = 0 from rfl), if_pos hd]) (Ev.const _)
      · rw [if_neg hd, Nat.mul_zero]
        exact Ev.step (h := fun _ => some (0 : Int)) (fun k => by rw [remouldref06_falls.f, if_pos hrm, if_pos (show ((0 : Nat) : Int) = 0 from rfl), if_neg hd]) (Ev.const _)
    · have hp0 : ¬ ((places : Int) = 0) := by omega
      rw [if_neg h0, Nat.mul_zero]
      exact Ev.step (h := fun _ => some (0 : Int)) (fun k => by rw [remouldref06_falls.f, if_pos hrm, if_neg hp0]) (Ev.const _)
  | succ q ih =>
    intro r hr places product ways hp hp1 hp2 hw
    have hrm : (r : Int) < m := by omega
    have hne : ¬ ((r : Int) = m) := by omega
    have hr1 : ((r + 1 : Nat) : Int) + q = m := by omega
    have hl := falls_l0 h d r hrm places hp product hp1 hp2 ways hw (fun pl pr wy h1 h2 h3 h4 => ih (r + 1) hr1 pl pr wy h1 h2 h3 h4) (places + 1) 0 (Nat.zero_add _)
    rw [Int.pow_zero, Int.mul_one, chs_zero, Nat.mul_one, show sumN 0 _ = 0 from rfl, Nat.mul_zero] at hl
    exact Ev.step (fun k => by rw [remouldref06_falls.f, if_neg hne]; rfl) hl
theorem lessW_all (t : List Int) (k : Nat) (d : Int) : lessW t 0 k 1 d = ((prodsW t k).filter fun a => decide (a < d)).length := by
  unfold lessW sumP
  rw [List.drop_zero]
  generalize prodsW t k = P
  induction P with
  | nil => rfl
  | cons a P ih =>
    rw [List.map_cons, List.sum_cons, ih, Int.one_mul]
    by_cases ha : a < d
    · rw [if_pos ha, List.filter_cons_of_pos (by simpa using ha), List.length_cons]; omega
    · rw [if_neg ha, List.filter_cons_of_neg (by simpa using ha)]; omega
theorem Falls_l0 (h : RuleIs m t p) (K : Nat) (hK : K ≤ 12) : ∀ e i : Nat, i + e = K → Ev (fun k => remouldref06_Falls.l0 k K (powW m i) (i : Int) m t p) (fallsW m t K) := by
  intro e
  induction e with
  | zero =>
    intro i hi
    obtain rfl : i = K := by omega
    have hno : ¬ ((i : Int) < (i : Int)) := by omega
    have hm : ((0 : Nat) : Int) + (m.toNat : Nat) = m := by have := h.m2; omega
    have hf := falls_f h (powW m i) m.toNat 0 hm i 1 1 hK (Int.le_refl _) (pow_step 20 (by decide) _) (Nat.one_le_pow _ _ (by decide))
    rw [Nat.one_mul, lessW_all] at hf
    refine Ev.step (fun k => by rw [remouldref06_Falls.l0, if_neg hno]; rfl) (Ev.bind hf (Ev.const _))
  | succ e ih =>
    intro i hi
    have ih := ih (i + 1) (by omega)
    have hlt : (i : Int) < (K : Int) := by omega
    have hi12 : i + 1 ≤ 12 := by omega
    have ew : wrap64 ((i : Int) + 1) = ((i + 1 : Nat) : Int) := by rw [wrap64_id _ (by omega) (by omega)]; rfl
    have e1 : wrap64 (powW m i * m) = powW m (i + 1) := by
      rw [show powW m i * m = powW m (i + 1) by rw [powW_succ, Int.mul_comm]]
      exact wrap_le (powW_pos h (i + 1)) (Int.le_trans (powW_le6 h (i + 1)) (Int.le_trans (pow6_le hi12) (by decide)))
    exact Ev.step (fun k => by rw [remouldref06_Falls.l0, if_pos hlt, e1, ew]) ih
theorem pureFalls (a0 : Int) (t p : List Int) (k1 : Int) : ∃ k, remouldlaw06_WheelFalls.f k a0 t p k1 = some true := by
  apply Ev.get
  unfold remouldlaw06_WheelFalls.f
  refine Ev.bind (Ev.of (rule_f a0 t p)) ?_
  generalize t.take 7 = T
  generalize p.take 7 = P
  show Ev (fun k => ((wheel_Falls.f a0 T P k1).bind _)) true
  have hbad : Ev (fun k => remouldlaw06_WheelFalls.j0 k k1 0 2 true a0 T P) true :=
    Ev.step (fun k => by rw [remouldlaw06_WheelFalls.j0, if_pos rfl, if_pos rfl, if_pos rfl]) awake_t
  cases hR : ruleB a0 T P
  · refine Ev.bind (Ev.of (show wheel_Falls.f a0 T P k1 = some (0, 2) by rw [wheel_Falls.f, hR]; rfl)) (Ev.bind (Rule_f a0 T P) ?_)
    rw [hR]
    exact Ev.neg (by decide) hbad
  cases hs : inB k1 0 12
  · refine Ev.bind (Ev.of (show wheel_Falls.f a0 T P k1 = some (0, 2) by rw [wheel_Falls.f, hR, hs]; rfl)) (Ev.bind (Rule_f a0 T P) ?_)
    rw [hR]
    refine Ev.pos rfl ?_
    have hs' : ¬ (0 ≤ k1 ∧ k1 ≤ 12) := by intro h; rw [show inB k1 0 12 = true by simp [inB, h.1, h.2]] at hs; cases hs
    by_cases h1 : k1 < 0
    · exact Ev.pos h1 hbad
    · refine Ev.neg h1 ?_
      rw [decide_eq_true (show k1 > 12 by omega)]
      exact hbad
  have hs' : 0 ≤ k1 ∧ k1 ≤ 12 := by simpa [inB] using hs
  have hRI := ruleB_is hR
  obtain ⟨K, rfl⟩ : ∃ K : Nat, k1 = (K : Int) := ⟨k1.toNat, by omega⟩
  have hO := Falls_l0 hRI K (by omega) K 0 (by omega)
  have hF : wheel_Falls.f a0 T P K = some (fallsW a0 T K, 0) := by
    unfold wheel_Falls.f
    rw [hR, hs]
    rfl
  refine Ev.bind (Ev.of hF) (Ev.bind (Rule_f a0 T P) ?_)
  rw [hR]
  refine Ev.pos rfl (Ev.neg (show ¬ ((K : Int) < 0) by omega) ?_)
  rw [decide_eq_false (show ¬ ((K : Int) > 12) by omega)]
  have hO' : Ev (fun k => remouldref06_Falls.f k a0 T P K) (fallsW a0 T K) := hO
  refine Ev.step (fun k => by rw [remouldlaw06_WheelFalls.j0, if_neg (show ¬ (false = true) by decide)]) (Ev.bind hO' ?_)
  exact Ev.pos rfl (Ev.pos rfl awake_t)
end Go.Proofs.Ytkjojcepombhpaa.L
