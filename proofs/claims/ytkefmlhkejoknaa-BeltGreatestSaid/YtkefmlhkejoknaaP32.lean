/- Plain law: the values of all sides, as the reference tells them. -/
import Derived.Test.YtkefmlhkejoknaaP3
import Derived.Test.YtkefmlhkejoknaaXValues
import Derived.Test.YtkefmlhkejoknaaL29
namespace Go.Proofs.Ytkefmlhkejoknaa.L
set_option linter.unusedVariables false
set_option linter.unusedSimpArgs false
open Go.RowKit Go.Proofs.YtkefmlhkejoknaaW.PrintWords Go.Proofs.YtkefmlhkejoknaaW.PrintLast Go.Proofs.YtkefmlhkejoknaaW.PrintMore

theorem insU_at (v : Int) : ∀ (j : Nat) (xs : List Int), j ≤ xs.length → (∀ i, i < j → rd xs (i : Int) < v) → insU v xs = xs.take j ++ insU v (xs.drop j) := by
  intro j
  induction j with
  | zero => intro xs _ _; rfl
  | succ j ih =>
    intro xs hj h
    cases xs with
    | nil => simp at hj
    | cons x xs =>
      have h0 : x < v := h 0 (by omega)
      have ih' := ih xs (by simpa using hj) (fun i hi => by
        have := h (i + 1) (by omega)
        simp only [rd] at this ⊢
        have e : ((i + 1 : Nat) : Int).toNat = i + 1 := by omega
        rw [e] at this
        simpa using this)
      rw [insU, if_neg (by omega), if_neg (by omega), ih']
      rfl
/-- The values of the proper sides below i. -/
def valsTo (N : Nat) (l : List S49) (i : Nat) : List Int := valsOf N l (sidesUpTo (properB N) i)
theorem valsTo_succ (N : Nat) (l : List S49) (h0 : 1 ≤ N) (hN : N ≤ 12) (i : Nat) (hi : i < 2 ^ (N - 1)) : valsTo N l (i + 1) = insU (valB N i l) (valsTo N l i) := by
  have hp : 2 ^ (N - 1) ≤ 2 ^ 11 := Nat.pow_le_pow_right (by omega) (by omega)
  rw [valsTo, sidesUpTo_hit _ i (by omega) (proper_half N i h0 hi), valsOf_snoc]; rfl
theorem valsTo_all (N : Nat) (l : List S49) (h0 : 1 ≤ N) : ∀ d : Nat, 2 ^ (N - 1) + d ≤ 2 ^ N → valsTo N l (2 ^ (N - 1) + d) = valsTo N l (2 ^ (N - 1)) := by
  intro d
  induction d with
  | zero => intro _; rfl
  | succ d ih =>
    intro hd
    rw [← Nat.add_assoc, valsTo, sidesUpTo_miss _ _ (proper_not N _ h0 (by omega) (by omega))]
    exact ih (by omega)
theorem valsTo_length (N : Nat) (l : List S49) (i : Nat) : (valsTo N l i).length ≤ i := Nat.le_trans (valsOf_length _ _ _) (sidesUpTo_length _ _)

theorem values_l1 (l : List S49) (ss : List ByteArray) (xs : List Int) (hxs : xs.length ≤ 1000000) (i v : Int) (r : List Int) (hi0 : 0 ≤ i) (hi : i < 1000000)
    (hr : Ev (fun k => remouldref05_Values.l0 k l ss (insU v xs) (i + 1)) r) : ∀ d j : Nat, j + d = xs.length → (∀ i, i < j → rd xs (i : Int) < v) →
    Ev (fun k => remouldref05_Values.l1 k l ss xs i v (j : Int)) r := by
  have hw : wrap64 (i + 1) = i + 1 := wrap64_id _ (by omega) (by omega)
  intro d
  induction d with
  | zero =>
    intro j hj hb
    obtain rfl : j = xs.length := by omega
    have e := insU_at v xs.length xs (Nat.le_refl _) hb
    rw [List.drop_length] at e
    refine Ev.step (fun k => ?_) hr
    rw [remouldref05_Values.l1, if_neg (by omega), if_pos (by omega), if_pos (by omega), Option.bind_some, if_pos (by simp; omega), Option.bind_some, if_pos (by simp; omega), Option.bind_some, Option.bind_some, if_pos (by simp; omega), hw, e]
    congr 1
    simp [insU]
  | succ d ih =>
    intro j hj hb
    have hlt : j < xs.length := by omega
    by_cases c : rd xs (j : Int) < v
    · refine Ev.step (fun k => by rw [remouldref05_Values.l1, if_pos (by omega), if_pos (by omega), if_pos c, wrap64_id _ (by omega) (by omega)]; rfl) (ih (j + 1) (by omega) (fun i hi => ?_))
      by_cases e : i = j
      · subst e; exact c
      · exact hb i (by omega)
    · have e := insU_at v j xs (by omega) hb
      have hd : xs.drop j = rd xs (j : Int) :: xs.drop (j + 1) := by
        rw [List.drop_eq_getElem_cons hlt]
        congr 1
        simp [rd, hlt]
      rw [hd, insU] at e
      by_cases c2 : rd xs (j : Int) = v
      · rw [if_neg (by omega), if_pos c2.symm, ← hd, List.take_append_drop] at e
        rw [e] at hr
        exact Ev.step (fun k => by rw [remouldref05_Values.l1, if_pos (by omega), if_pos (by omega), if_neg c, if_pos c2, hw]) hr
      · rw [if_pos (by omega), ← hd] at e
        refine Ev.step (fun k => ?_) hr
        rw [remouldref05_Values.l1, if_pos (by omega), if_pos (by omega), if_neg c, if_neg c2, if_pos (by omega), Option.bind_some, if_pos (by simp; omega), Option.bind_some, if_pos (by simp; omega), Option.bind_some, Option.bind_some, if_pos (by simp; omega), hw, e]
        congr 1
        simp
theorem values_l0 (N : Nat) (h0 : 1 ≤ N) (hN : N ≤ 12) (l : List S49) (hl : l.length ≤ 41) (hE : EdgesIn N l) : ∀ d i : Nat, i + d = 2 ^ (N - 1) →
    Ev (fun k => remouldref05_Values.l0 k l (strs N) (valsTo N l i) (i : Int)) (valsTo N l (2 ^ (N - 1))) := by
  have hp : 2 ^ (N - 1) ≤ 2 ^ 11 := Nat.pow_le_pow_right (by omega) (by omega)
  have h3 : 2 ^ N = 2 ^ (N - 1) + 2 ^ (N - 1) := by
    obtain ⟨m, rfl⟩ : ∃ m, N = m + 1 := ⟨N - 1, by omega⟩
    rw [Nat.pow_succ]; simp; omega
  have hlen := strs_length N
  have hw : wrap64 (((strs N).length : Int) / 2) = ((2 ^ (N - 1) : Nat) : Int) := by rw [wrap64_id _ (by omega) (by omega), hlen, h3]; omega
  intro d
  induction d with
  | zero =>
    intro i hi
    obtain rfl : i = 2 ^ (N - 1) := by omega
    exact Ev.step (fun k => by rw [remouldref05_Values.l0, hw, if_neg (by omega)]) (Ev.const _)
  | succ d ih =>
    intro i hi
    have hlt : i < 2 ^ (N - 1) := by omega
    have hv := value_f N i l hl hE
    have hat := strs_at N i (by omega)
    have hvl := valsTo_length N l i
    refine Ev.step (fun k => by rw [remouldref05_Values.l0, hw, if_pos (by omega), if_pos (by omega), if_pos (by omega), hat]) (Ev.bind hv ?_)
    have ih' := ih (i + 1) (by omega)
    rw [valsTo_succ N l h0 hN i hlt] at ih'
    exact values_l1 l (strs N) (valsTo N l i) (by omega) i (valB N i l) _ (by omega) (by omega) ih' (valsTo N l i).length 0 (by omega) (fun i hi => by omega)
theorem values_f (N : Nat) (h0 : 1 ≤ N) (hN : N ≤ 12) (l : List S49) (hl : l.length ≤ 41) (hE : EdgesIn N l) : Ev (fun k => remouldref05_Values.f k N l) (valsTo N l (2 ^ N)) := by
  have h3 : 2 ^ N = 2 ^ (N - 1) + 2 ^ (N - 1) := by
    obtain ⟨m, rfl⟩ : ∃ m, N = m + 1 := ⟨N - 1, by omega⟩
    rw [Nat.pow_succ]; simp; omega
  have hv := values_l0 N h0 hN l hl hE (2 ^ (N - 1)) 0 (by omega)
  rw [h3, valsTo_all N l h0 (2 ^ (N - 1)) (by omega)]
  exact Ev.bind (all_f N (by omega) (by omega)) hv

end Go.Proofs.Ytkefmlhkejoknaa.L
