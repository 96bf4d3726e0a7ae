/- Plain law: turned; the opposite side. -/
import Derived.Test.YtkefmlhkejoknaaP17
import Derived.Test.YtkefmlhkejoknaaL17
namespace Go.Proofs.Ytkefmlhkejoknaa.L
set_option linter.unusedVariables false
set_option linter.unusedSimpArgs false
open Go.RowKit Go.Proofs.YtkefmlhkejoknaaW.PrintWords Go.Proofs.YtkefmlhkejoknaaW.PrintLast Go.Proofs.YtkefmlhkejoknaaW.PrintMore

/-- Flipping all vertices of a side, one after the other. -/
def trn (N s u : Nat) : Nat → Nat
  | 0 => s
  | i + 1 => if hasB N u (i : Int) then flipS N (trn N s u i) i else trn N s u i
theorem trn_lt (N s u : Nat) (hs : s < 2 ^ N) (i : Nat) (hi : i ≤ N) : trn N s u i < 2 ^ N := by
  induction i with
  | zero => exact hs
  | succ i ih =>
    rw [trn]
    split
    · exact flipS_lt N _ i (by omega) (ih (by omega))
    · exact ih (by omega)
theorem trn_has (N s u : Nat) (i : Nat) (hi : i ≤ N) (v : Nat) (hv : v < N) : hasB N (trn N s u i) (v : Int) = (hasB N s (v : Int) != (hasB N u (v : Int) && decide (v < i))) := by
  induction i with
  | zero => rw [trn]; simp
  | succ i ih =>
    have ih' := ih (by omega)
    rw [trn]
    by_cases hu : hasB N u (i : Int) = true
    · rw [if_pos hu]
      unfold flipS
      rw [hasB_flip N _ i (by omega) (v : Int) (by omega) (by omega), ih']
      by_cases e : v = i
      · subst e; simp [hu]
      · have h1 : decide (v < i + 1) = decide (v < i) := by congr 1; simp only [eq_iff_iff]; omega
        rw [h1, decide_eq_false (show ¬ (v : Int) = (i : Int) by omega), Bool.bne_false]
    · rw [if_neg hu, ih']
      by_cases e : v = i
      · subst e
        have : hasB N u (v : Int) = false := by simpa using hu
        rw [this]; rfl
      · have h1 : decide (v < i + 1) = decide (v < i) := by congr 1; simp only [eq_iff_iff]; omega
        rw [h1]
theorem trn_all (N s u : Nat) (hs : s < 2 ^ N) (hu : u < 2 ^ N) : trn N s u N = s ^^^ u := by
  apply comp_bits N _ _ (trn_lt N s u hs N (Nat.le_refl _)) (Nat.xor_lt_two_pow hs hu)
  intro v hv
  rw [trn_has N s u N (Nat.le_refl _) v hv, hasB_xor, decide_eq_true hv, Bool.and_true]
theorem turned_l0 (N s u : Nat) (hN : N ≤ 12) (hs : s < 2 ^ N) : ∀ d i : Nat, i + d = N → Ev (fun k => remouldlaw05_turned.l0 k (textB N (trn N s u i)) (textB N u) i) (textB N (trn N s u N)) := by
  intro d
  induction d with
  | zero =>
    intro i hi
    obtain rfl : i = N := by omega
    exact Ev.step (fun k => by rw [remouldlaw05_turned.l0, text_size, if_neg (by omega)]) (Ev.const _)
  | succ d ih =>
    intro i hi
    have hlt : i < N := by omega
    have ih' := ih (i + 1) (by omega)
    have hb := bt_text N u (i : Int) (by omega) (by omega)
    rw [trn] at ih'
    by_cases hu : hasB N u (i : Int) = true
    · rw [if_pos hu] at ih'
      rw [if_pos hu] at hb
      have b1 : Ev (fun _ : Nat => remouldref05_Flip.f (textB N (trn N s u i)) (i : Int)) _ := ⟨0, fun _ _ => flip_f N _ i hlt hN⟩
      refine Ev.step (fun k => by rw [remouldlaw05_turned.l0, text_size, text_size, if_pos (by omega), if_pos (by omega), if_pos (by omega), hb, if_pos rfl]) (Ev.bind b1 ?_)
      exact Ev.congr (fun k => by rw [wrap64_id _ (by omega) (by omega)]; rfl) ih'
    · rw [if_neg hu] at ih'
      rw [if_neg hu] at hb
      exact Ev.step (fun k => by rw [remouldlaw05_turned.l0, text_size, text_size, if_pos (by omega), if_pos (by omega), if_pos (by omega), hb, if_neg (by decide), wrap64_id _ (by omega) (by omega)]; rfl) ih'
theorem turned_f (N s u : Nat) (hN : N ≤ 12) (hs : s < 2 ^ N) (hu : u < 2 ^ N) : Ev (fun k => remouldlaw05_turned.f k (textB N s) (textB N u)) (textB N (s ^^^ u)) := by
  rw [← trn_all N s u hs hu]
  exact turned_l0 N s u hN hs N 0 (by omega)
theorem side_ones (N s : Nat) (hN : N ≤ 12) (hs : s < 2 ^ N) : s ^^^ sideN (-1) N = compS N s := by
  apply comp_bits N _ _ (Nat.xor_lt_two_pow hs (sideN_lt _ _)) (compS_lt N s)
  intro v hv
  have h1 : (modU (-1) 4096).toNat = 2 ^ 12 - 1 := by decide
  unfold compS
  rw [hasB_xor, has_flip N s hs _ (by omega) (by omega), sideN_has _ _ v hv, h1, Nat.testBit_two_pow_sub_one, decide_eq_true (by omega)]
  cases hasB N s (v : Int) <;> rfl

end Go.Proofs.Ytkefmlhkejoknaa.L
