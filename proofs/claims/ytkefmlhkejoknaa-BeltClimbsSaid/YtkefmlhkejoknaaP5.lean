/- Plain law: strings and sides; flips; gains. -/
import Derived.Test.YtkefmlhkejoknaaP3
import Derived.Test.YtkefmlhkejoknaaL6
import Derived.Test.YtkefmlhkejoknaaXClimb
namespace Go.Proofs.Ytkefmlhkejoknaa.L
set_option linter.unusedVariables false
set_option linter.unusedSimpArgs false
open Go.RowKit Go.Proofs.YtkefmlhkejoknaaW.PrintWords Go.Proofs.YtkefmlhkejoknaaW.PrintLast Go.Proofs.YtkefmlhkejoknaaW.PrintMore

/-- A string is cut as the law cuts it. -/
def cut13 (t : ByteArray) : ByteArray := t.extract 0 (min t.size 13)
theorem brief_f (t : ByteArray) : remouldlaw05_brief.f t = some (cut13 t) := by
  unfold remouldlaw05_brief.f mn cut13
  by_cases h : 13 < (t.size : Int)
  · rw [if_pos h, if_pos (by omega), if_pos (by omega)]
    congr 2
    omega
  · rw [if_neg h, if_pos (by omega), if_pos (by omega)]
    congr 2
    omega
theorem cut13_size (t : ByteArray) : (cut13 t).size ≤ 13 := by
  unfold cut13
  rw [ByteArray.size_extract]; omega

theorem hasB_flip (N s i : Nat) (hi : i < N) (v : Int) (h0 : 0 ≤ v) (h1 : v < N) : hasB N (s ^^^ 2 ^ ((N : Int) - 1 - (i : Int)).toNat) v = (hasB N s v != decide (v = (i : Int))) := by
  unfold hasB
  rw [Nat.testBit_xor, Nat.testBit_two_pow]
  by_cases e : v = (i : Int)
  · subst e; simp
  · rw [decide_eq_false e, decide_eq_false (by omega)]
theorem gain_flip (N s i : Nat) (hi : i < N) (l : List S49) (hl : ∀ e ∈ l, 0 ≤ e.f0 ∧ e.f0 < N ∧ 0 ≤ e.f1 ∧ e.f1 < N ∧ e.f0 ≠ e.f1) : valB N (s ^^^ 2 ^ ((N : Int) - 1 - (i : Int)).toNat) l - valB N s l = gainB N s i l := by
  induction l with
  | nil => rfl
  | cons e l ih =>
    have h := hl e List.mem_cons_self
    have ih' := ih (fun x hx => hl x (List.mem_cons_of_mem _ hx))
    have hc : cutB N (s ^^^ 2 ^ ((N : Int) - 1 - (i : Int)).toNat) e = (cutB N s e != decide (e.f0 = (i : Int) ∨ e.f1 = (i : Int))) := by
      unfold cutB
      rw [hasB_flip N s i hi _ h.1 h.2.1, hasB_flip N s i hi _ h.2.2.1 h.2.2.2.1]
      have hne := h.2.2.2.2
      by_cases a : e.f0 = (i : Int)
      · have b : ¬ e.f1 = (i : Int) := fun b => hne (a.trans b.symm)
        rw [decide_eq_true a, decide_eq_false b, decide_eq_true (Or.inl a)]
        cases hasB N s e.f0 <;> cases hasB N s e.f1 <;> rfl
      · by_cases b : e.f1 = (i : Int)
        · rw [decide_eq_false a, decide_eq_true b, decide_eq_true (Or.inr b)]
          cases hasB N s e.f0 <;> cases hasB N s e.f1 <;> rfl
        · rw [decide_eq_false a, decide_eq_false b, decide_eq_false (by rintro (h | h); exact a h; exact b h)]
          cases hasB N s e.f0 <;> cases hasB N s e.f1 <;> rfl
    generalize s ^^^ 2 ^ ((N : Int) - 1 - (i : Int)).toNat = T at ih' hc
    rw [valB, valB, gainB, hc]
    by_cases p : e.f0 = (i : Int) ∨ e.f1 = (i : Int)
    · rw [if_pos p, decide_eq_true p]
      cases cutB N s e <;> simp only [Bool.bne_true, Bool.not_false, Bool.not_true, if_true, if_false, Bool.false_eq_true] <;> omega
    · rw [if_neg p, decide_eq_false p]
      cases cutB N s e <;> simp only [Bool.bne_false, if_true, if_false, Bool.false_eq_true] <;> omega

end Go.Proofs.Ytkefmlhkejoknaa.L
