/- Plain law: all sides in order, and their values, as the reference tells them. -/
import Derived.Test.YtkefmlhkejoknaaP0
namespace Go.Proofs.Ytkefmlhkejoknaa.L
set_option linter.unusedVariables false
set_option linter.unusedSimpArgs false
open Go.RowKit Go.Proofs.YtkefmlhkejoknaaW.PrintWords Go.Proofs.YtkefmlhkejoknaaW.PrintLast Go.Proofs.YtkefmlhkejoknaaW.PrintMore

/-- All strings of 0 and 1 of a length, in order. -/
def strs : Nat → List ByteArray
  | 0 => [⟨#[]⟩]
  | i + 1 => (strs i).flatMap fun s => [s ++ (⟨#[48]⟩ : ByteArray), s ++ (⟨#[49]⟩ : ByteArray)]
theorem range_two (m : Nat) : List.range (2 * m) = (List.range m).flatMap fun s => [2 * s, 2 * s + 1] := by
  induction m with
  | zero => rfl
  | succ m ih =>
    rw [show 2 * (m + 1) = 2 * m + 1 + 1 by omega, List.range_succ, List.range_succ, ih, List.range_succ, List.flatMap_append]
    simp
theorem two_length (f g : ByteArray → ByteArray) (xs : List ByteArray) : (xs.flatMap fun s => [f s, g s]).length = 2 * xs.length := by
  induction xs with
  | nil => rfl
  | cons a l ih => rw [List.flatMap_cons, List.length_append, ih]; simp; omega
theorem text_bit (N s : Nat) (b : Nat) (hb : b < 2) : textB ((N + 1 : Nat) : Int) (2 * s + b) = textB (N : Int) s ++ (⟨#[if b = 1 then 49 else 48]⟩ : ByteArray) := by
  have e : charsB ((N + 1 : Nat) : Int) (2 * s + b) = charsB (N : Int) s ++ [if b = 1 then 49 else 48] := by
    unfold charsB
    rw [Int.toNat_natCast, Int.toNat_natCast, List.range_succ, List.map_append]
    congr 1
    · apply List.map_congr_left
      intro v hv
      have hv' : v < N := by simpa using hv
      have h1 : (((N + 1 : Nat) : Int) - 1 - (v : Int)).toNat = ((N : Int) - 1 - (v : Int)).toNat + 1 := by omega
      unfold hasB
      rw [h1, Nat.testBit_succ, show (2 * s + b) / 2 = s by omega]
    · have h1 : (((N + 1 : Nat) : Int) - 1 - (N : Int)).toNat = 0 := by omega
      simp only [List.map_cons, List.map_nil, hasB, h1, Nat.testBit_zero]
      have : b = 0 ∨ b = 1 := by omega
      rcases this with h | h <;> subst h <;> simp <;> omega
  unfold textB
  rw [e]
  apply ByteArray.ext
  simp
theorem strs_eq (N : Nat) : strs N = (List.range (2 ^ N)).map (textB (N : Int)) := by
  induction N with
  | zero => rfl
  | succ N ih =>
    rw [strs, ih, Nat.pow_succ, Nat.mul_comm, range_two, List.map_flatMap, List.flatMap_map]
    congr 1
    funext s
    simp only [List.map_cons, List.map_nil]
    have h0 : textB ((N + 1 : Nat) : Int) (2 * s) = textB (N : Int) s ++ (⟨#[48]⟩ : ByteArray) := text_bit N s 0 (by omega)
    have h1 : textB ((N + 1 : Nat) : Int) (2 * s + 1) = textB (N : Int) s ++ (⟨#[49]⟩ : ByteArray) := text_bit N s 1 (by omega)
    rw [h0, h1]
theorem strs_length (N : Nat) : (strs N).length = 2 ^ N := by rw [strs_eq]; simp
theorem text_size (N s : Nat) : (textB (N : Int) s).size = N := by simp [textB, charsB, ByteArray.size]
theorem strs_at (N s : Nat) (h : s < 2 ^ N) : rdOf ByteArray.empty (strs N) (s : Int) = textB (N : Int) s := by
  simp [rdOf, strs_eq, h]
theorem strs_size (N : Nat) (i : Nat) (h : i < 2 ^ N) : (rdOf ByteArray.empty (strs N) (i : Int)).size = N := by rw [strs_at N i h, text_size]

/-- The inner loop of All. -/
theorem all_l1 (n : Int) (i : Nat) (hi : i < 12) (r : List ByteArray) (hr : Ev (fun k => remouldref05_All.l0 k n (strs (i + 1)) ((i : Int) + 1)) r) :
    ∀ d j : Nat, j + d = 2 ^ i → Ev (fun k => remouldref05_All.l1 k n (strs i) (i : Int) (((strs i).take j).flatMap fun s => [s ++ (⟨#[48]⟩ : ByteArray), s ++ (⟨#[49]⟩ : ByteArray)]) (j : Int)) r := by
  have hp : 2 ^ i ≤ 2 ^ 11 := Nat.pow_le_pow_right (by omega) (by omega)
  have hlen := strs_length i
  intro d
  induction d with
  | zero =>
    intro j hj
    obtain rfl : j = 2 ^ i := by omega
    rw [List.take_of_length_le (by omega)]
    exact Ev.step (fun k => by rw [remouldref05_All.l1, if_neg (by omega), wrap64_id _ (by omega) (by omega)]; rfl) hr
  | succ d ih =>
    intro j hj
    have hlt : j < 2 ^ i := by omega
    have hsz := strs_size i j hlt
    have hl2 : (((strs i).take j).flatMap fun s => [s ++ (⟨#[48]⟩ : ByteArray), s ++ (⟨#[49]⟩ : ByteArray)]).length = 2 * j := by
      rw [two_length, List.length_take]; omega
    have e : (((strs i).take (j + 1)).flatMap fun s => [s ++ (⟨#[48]⟩ : ByteArray), s ++ (⟨#[49]⟩ : ByteArray)]) = (((strs i).take j).flatMap fun s => [s ++ (⟨#[48]⟩ : ByteArray), s ++ (⟨#[49]⟩ : ByteArray)]) ++ [rdOf ByteArray.empty (strs i) (j : Int) ++ (⟨#[48]⟩ : ByteArray), rdOf ByteArray.empty (strs i) (j : Int) ++ (⟨#[49]⟩ : ByteArray)] := by
      rw [List.take_succ_eq_append_getElem (by omega), List.flatMap_append]
      simp [rdOf, List.getElem?_eq_getElem (by omega : j < (strs i).length)]
    refine Ev.step (h := fun k => remouldref05_All.l1 k n (strs i) (i : Int) (((strs i).take (j + 1)).flatMap fun s => [s ++ (⟨#[48]⟩ : ByteArray), s ++ (⟨#[49]⟩ : ByteArray)]) ((j + 1 : Nat) : Int)) (fun k => ?_) (ih (j + 1) (by omega))
    rw [remouldref05_All.l1, if_pos (by omega), if_pos (by omega), if_pos (by omega)]
    simp only [Option.bind_some]
    rw [if_pos (by simp [hl2]; omega), wrap64_id _ (by omega) (by omega), e]
    rfl
theorem all_l0 (N : Nat) (hN : N ≤ 12) : ∀ d i : Nat, i + d = N → Ev (fun k => remouldref05_All.l0 k (N : Int) (strs i) (i : Int)) (strs N) := by
  intro d
  induction d with
  | zero =>
    intro i hi
    obtain rfl : i = N := by omega
    exact Ev.step (fun k => by rw [remouldref05_All.l0, if_neg (by omega)]) (Ev.const _)
  | succ d ih =>
    intro i hi
    refine Ev.step (fun k => by rw [remouldref05_All.l0, if_pos (by omega)]) ?_
    have := all_l1 N i (by omega) (strs N) (ih (i + 1) (by omega)) (2 ^ i) 0 (by omega)
    exact this
theorem all_f (n : Int) (h0 : 1 ≤ n) (hn : n ≤ 12) : Ev (fun k => remouldref05_All.f k n) (strs n.toNat) := by
  obtain ⟨N, rfl⟩ := Int.eq_ofNat_of_zero_le (show 0 ≤ n by omega)
  exact all_l0 N (by omega) N 0 (by omega)

theorem bt_text (N s : Nat) (v : Int) (h0 : 0 ≤ v) (h1 : v < N) : bt (textB (N : Int) s) v = if hasB (N : Int) s v then 49 else 48 := by
  obtain ⟨v, rfl⟩ := Int.eq_ofNat_of_zero_le h0
  have hv : v < N := by omega
  unfold bt
  rw [dif_pos (by rw [text_size]; omega)]
  have e : (textB (N : Int) s)[(v : Int).toNat]'(by rw [text_size]; omega) = (if hasB (N : Int) s (v : Int) then (49 : UInt8) else 48) := by
    simp [textB, charsB, ByteArray.getElem_eq_getElem_data]
  rw [e]
  split <;> rfl
theorem bt_cut (N s : Nat) (a b : Int) (ha : 0 ≤ a ∧ a < N) (hb : 0 ≤ b ∧ b < N) : bt (textB (N : Int) s) a = bt (textB (N : Int) s) b ↔ (hasB (N : Int) s a != hasB (N : Int) s b) = false := by
  rw [bt_text N s a ha.1 ha.2, bt_text N s b hb.1 hb.2]
  cases hasB (N : Int) s a <;> cases hasB (N : Int) s b <;> simp

theorem value_l0 (N s : Nat) (l : List S49) (hl : l.length ≤ 41) (hE : EdgesIn N l) : ∀ d i : Nat, i + d = l.length → Ev (fun k => remouldref05_Value.l0 k l (textB (N : Int) s) (valB N s (l.take i)) (i : Int)) (valB N s l) := by
  intro d
  induction d with
  | zero =>
    intro i hi
    obtain rfl : i = l.length := by omega
    rw [List.take_of_length_le (Nat.le_refl _)]
    exact Ev.step (fun k => by rw [remouldref05_Value.l0, if_neg (by omega)]) (Ev.const _)
  | succ d ih =>
    intro i hi
    have hlt : i < l.length := by omega
    have hb := hE i hlt
    have hbd := valB_bound N s l hE i (by omega)
    have ht := valB_take N s l i hlt
    have hcut := bt_cut N s (rd_T49 l (i : Int)).f0 (rd_T49 l (i : Int)).f1 ⟨hb.1, hb.2.1⟩ ⟨hb.2.2.1, hb.2.2.2.1⟩
    refine Ev.step (h := fun k => remouldref05_Value.l0 k l (textB (N : Int) s) (valB N s (l.take (i + 1))) ((i + 1 : Nat) : Int)) (fun k => ?_) (ih (i + 1) (by omega))
    rw [remouldref05_Value.l0, text_size, if_pos (by omega), if_pos (by omega), if_pos hb.1, if_pos hb.2.1, if_pos hb.2.2.1, if_pos hb.2.2.2.1, wrap64_id ((i : Int) + 1) (by omega) (by omega), ht]
    by_cases hc : cutB N s (rd_T49 l (i : Int)) = true
    · rw [if_neg (fun h => by have := hcut.1 h; rw [cutB] at hc; rw [hc] at this; cases this), if_pos hc, wrap64_id _ (by omega) (by omega)]
      rfl
    · have hc' : cutB N s (rd_T49 l (i : Int)) = false := by simpa using hc
      rw [if_pos (hcut.2 hc'), if_neg hc, Int.add_zero]
      rfl
theorem value_f (N s : Nat) (l : List S49) (hl : l.length ≤ 41) (hE : EdgesIn N l) : Ev (fun k => remouldref05_Value.f k l (textB (N : Int) s)) (valB N s l) := by
  have := value_l0 N s l hl hE l.length 0 (by omega)
  exact this

end Go.Proofs.Ytkefmlhkejoknaa.L
