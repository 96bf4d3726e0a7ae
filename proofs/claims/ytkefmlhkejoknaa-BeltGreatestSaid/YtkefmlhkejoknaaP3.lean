import Derived.Test.YtkefmlhkejoknaaP1
import Derived.Test.YtkefmlhkejoknaaL3

/- Plain law: the best side, as the reference tells it; the law BeltBests. -/
namespace Go.Proofs.Ytkefmlhkejoknaa.L
set_option linter.unusedVariables false
set_option linter.unusedSimpArgs false
open Go.RowKit Go.Proofs.YtkefmlhkejoknaaW.PrintWords Go.Proofs.YtkefmlhkejoknaaW.PrintLast Go.Proofs.YtkefmlhkejoknaaW.PrintMore

/-- The sides of the first half are the proper ones. -/
theorem proper_half (N s : Nat) (h0 : 1 ≤ N) (hs : s < 2 ^ (N - 1)) : properB (N : Int) s = true := by
  have e : ((N : Int) - 1 - 0).toNat = N - 1 := by omega
  rw [properB, hasB, e, Nat.testBit_lt_two_pow hs]; rfl
theorem proper_not (N s : Nat) (h0 : 1 ≤ N) (h1 : 2 ^ (N - 1) ≤ s) (h2 : s < 2 ^ N) : properB (N : Int) s = false := by
  have e : ((N : Int) - 1 - 0).toNat = N - 1 := by omega
  obtain ⟨t, rfl⟩ : ∃ t, s = 2 ^ (N - 1) + t := ⟨s - 2 ^ (N - 1), by omega⟩
  have h3 : 2 ^ N = 2 ^ (N - 1) + 2 ^ (N - 1) := by
    obtain ⟨m, rfl⟩ : ∃ m, N = m + 1 := ⟨N - 1, by omega⟩
    rw [Nat.pow_succ]; simp; omega
  rw [properB, hasB, e, Nat.testBit_two_pow_add_eq, Nat.testBit_lt_two_pow (by omega)]; rfl
theorem best_half (N : Nat) (l : List S49) (h0 : 1 ≤ N) (d : Nat) (hd : 2 ^ (N - 1) + d ≤ 2 ^ N) : bestB N l (properB N) (2 ^ (N - 1) + d) = bestB N l (properB N) (2 ^ (N - 1)) := by
  induction d with
  | zero => rfl
  | succ d ih =>
    rw [← Nat.add_assoc, bestB, bestStep, proper_not N _ h0 (by omega) (by omega), ih (by omega)]
    rfl
theorem val_zero (n : Int) (l : List S49) : valB n 0 l = 0 := by
  induction l with
  | nil => rfl
  | cons e l ih => simp [valB, ih, cutB, hasB]
/-- What the reference holds behind i sides. -/
theorem best_ref (N : Nat) (l : List S49) (h0 : 1 ≤ N) : ∀ i : Nat, 1 ≤ i → i ≤ 2 ^ (N - 1) → 1 ≤ (bestB N l (properB N) i).2.2 ∧ (bestB N l (properB N) i).2.2 ≤ i ∧ 0 ≤ (bestB N l (properB N) i).2.1 ∧ (bestB N l (properB N) i).1 < i := by
  intro i
  induction i with
  | zero => intro h; omega
  | succ i ih =>
    intro _ hi
    have hp := proper_half N i h0 (by omega)
    by_cases hz : i = 0
    · subst hz
      simp [bestB, bestStep, hp, val_zero]
    · obtain ⟨a1, a2, a3, a4⟩ := ih (by omega) (by omega)
      rw [bestB, bestStep, if_pos hp]
      split
      · rename_i h
        refine ⟨by simp, by simp; omega, ?_, by simp⟩
        rcases h with h | h
        · omega
        · show 0 ≤ valB N i l; omega
      · split
        · exact ⟨by simp; omega, by simp; omega, a3, by simp; omega⟩
        · exact ⟨a1, by omega, a3, by omega⟩

/-- The reference's state: the same but for the count before the first side. -/
def refSt (N : Nat) (l : List S49) (i : Nat) : Nat × Int × Int := if i = 0 then (0, 0, 0) else bestB N l (properB N) i
theorem refSt_step (N : Nat) (l : List S49) (h0 : 1 ≤ N) (i : Nat) (hi : i < 2 ^ (N - 1)) :
    refSt N l (i + 1) = if valB N i l > (refSt N l i).2.1 then (i, valB N i l, 1) else if valB N i l = (refSt N l i).2.1 then ((refSt N l i).1, (refSt N l i).2.1, (refSt N l i).2.2 + 1) else refSt N l i := by
  have hp := proper_half N i h0 hi
  by_cases hz : i = 0
  · subst hz
    simp [refSt, bestB, bestStep, hp, val_zero]
  · have a := best_ref N l h0 i (by omega) (by omega)
    rw [refSt, if_neg (by omega), bestB, bestStep, if_pos hp, refSt, if_neg hz]
    by_cases c : valB N i l > (bestB N l (properB N) i).2.1
    · rw [if_pos (.inr c), if_pos c]
    · rw [if_neg (by omega), if_neg c]
theorem refSt_many (N : Nat) (l : List S49) (h0 : 1 ≤ N) (i : Nat) (hi : i ≤ 2 ^ (N - 1)) : 0 ≤ (refSt N l i).2.2 ∧ (refSt N l i).2.2 ≤ i ∧ ((refSt N l i).1 < i ∨ (refSt N l i).1 = 0) := by
  by_cases hz : i = 0
  · subst hz; simp [refSt]
  · have a := best_ref N l h0 i (by omega) hi
    rw [refSt, if_neg hz]; omega

theorem best_l0 (N : Nat) (h0 : 1 ≤ N) (hN : N ≤ 12) (l : List S49) (hl : l.length ≤ 41) (hE : EdgesIn N l) : ∀ d i : Nat, i + d = 2 ^ (N - 1) →
    Ev (fun k => remouldref05_Best.l0 k l (strs N) (textB N (refSt N l i).1) (refSt N l i).2.1 (refSt N l i).2.2 (i : Int)) (textB N (refSt N l (2 ^ (N - 1))).1, (refSt N l (2 ^ (N - 1))).2.1, (refSt N l (2 ^ (N - 1))).2.2) := by
  have hp : 2 ^ (N - 1) ≤ 2 ^ 11 := Nat.pow_le_pow_right (by omega) (by omega)
  have h3 : 2 ^ N = 2 ^ (N - 1) + 2 ^ (N - 1) := by
    obtain ⟨m, rfl⟩ : ∃ m, N = m + 1 := ⟨N - 1, by omega⟩
    rw [Nat.pow_succ]; simp; omega
  have hlen := strs_length N
  have hw : wrap64 (((strs N).length : Int) / 2) = ((2 ^ (N - 1) : Nat) : Int) := by rw [wrap64_id _ (by omega) (by omega), hlen, h3]; omega
  intro d
  induction d with
  | zero =>
    intro i hi
    obtain rfl : i = 2 ^ (N - 1) := by omega
    exact Ev.step (fun k => by rw [remouldref05_Best.l0, hw, if_neg (by omega)]) (Ev.const _)
  | succ d ih =>
    intro i hi
    have hlt : i < 2 ^ (N - 1) := by omega
    have hv := value_f N i l hl hE
    have hs := refSt_step N l h0 i hlt
    have hm := refSt_many N l h0 i (by omega)
    have hat := strs_at N i (by omega)
    refine Ev.step (fun k => by rw [remouldref05_Best.l0, hw, if_pos (by omega), if_pos (by omega), if_pos (by omega), hat]) ?_
    refine Ev.bind hv ?_
    have ih' := ih (i + 1) (by omega)
    rw [hs] at ih'
    by_cases c : valB N i l > (refSt N l i).2.1
    · rw [if_pos c] at ih'
      exact Ev.congr (fun k => by rw [if_pos c, wrap64_id ((i : Int) + 1) (by omega) (by omega)]; rfl) ih'
    · rw [if_neg c] at ih'
      refine Ev.congr (fun k => if_neg c) ?_
      by_cases c2 : valB N i l = (refSt N l i).2.1
      · rw [if_pos c2] at ih'
        exact Ev.congr (fun k => by rw [if_pos c2, wrap64_id ((i : Int) + 1) (by omega) (by omega), wrap64_id ((refSt N l i).2.2 + 1) (by omega) (by omega)]; rfl) ih'
      · rw [if_neg c2] at ih'
        exact Ev.congr (fun k => by rw [if_neg c2, wrap64_id ((i : Int) + 1) (by omega) (by omega)]; rfl) ih'
theorem best_f (n : Int) (l : List S49) (hl : l.length ≤ 41) (h0 : 1 ≤ n) (hn : n ≤ 12) (hE : EdgesIn n l) :
    Ev (fun k => remouldref05_Best.f k n l) (textB n (bestB n l (properB n) (2 ^ n.toNat)).1, (bestB n l (properB n) (2 ^ n.toNat)).2.1, (bestB n l (properB n) (2 ^ n.toNat)).2.2) := by
  obtain ⟨N, rfl⟩ := Int.eq_ofNat_of_zero_le (show 0 ≤ n by omega)
  have hlen := strs_length N
  have hpos : 0 < 2 ^ N := Nat.two_pow_pos N
  have hpos' : 0 < 2 ^ (N - 1) := Nat.two_pow_pos (N - 1)
  have h3 : 2 ^ N = 2 ^ (N - 1) + 2 ^ (N - 1) := by
    obtain ⟨m, rfl⟩ : ∃ m, N = m + 1 := ⟨N - 1, by omega⟩
    rw [Nat.pow_succ]; simp; omega
  have hst : refSt N l (2 ^ (N - 1)) = bestB N l (properB N) (2 ^ N) := by
    rw [refSt, if_neg (by omega)]
    have := best_half N l (by omega) (2 ^ (N - 1)) (by omega)
    rw [h3, this]
  refine Ev.bind (all_f N h0 hn) ?_
  refine Ev.congr (fun k => if_pos (by show 0 < ((strs N).length : Int); omega)) ?_
  have := best_l0 N (by omega) (by omega) l hl hE (2 ^ (N - 1)) 0 (by omega)
  rw [hst] at this
  refine Ev.congr (fun k => ?_) this
  have hz : rdOf ByteArray.empty (strs N) 0 = textB N 0 := strs_at N 0 hpos
  show remouldref05_Best.l0 k l (strs N) (rdOf ByteArray.empty (strs N) 0) 0 0 0 = _
  rw [hz]
  rfl

end Go.Proofs.Ytkefmlhkejoknaa.L

/- Plain law: awake; the law BeltBests. -/
namespace Go.Proofs.Ytkefmlhkejoknaa.L
set_option linter.unusedVariables false
set_option linter.unusedSimpArgs false
open Go.RowKit Go.Proofs.YtkefmlhkejoknaaW.PrintWords Go.Proofs.YtkefmlhkejoknaaW.PrintLast Go.Proofs.YtkefmlhkejoknaaW.PrintMore

theorem ints_l0 (a b : List Int) (hl : a.length = b.length) (hs : a.length ≤ 1000000) : ∀ d i : Nat, i + d = a.length → a.take i = b.take i → Ev (fun k => remouldlaw05_ints.l0 k a b (i : Int)) (decide (a = b)) := by
  intro d
  induction d with
  | zero =>
    intro i hi h
    obtain rfl : i = a.length := by omega
    rw [List.take_of_length_le (Nat.le_refl _), List.take_of_length_le (by omega)] at h
    rw [decide_eq_true h]
    exact Ev.step (fun k => by rw [remouldlaw05_ints.l0, if_neg (by omega)]) (Ev.const true)
  | succ d ih =>
    intro i hi h
    have hia : i < a.length := by omega
    have hib : i < b.length := by omega
    have ea : rd a (i : Int) = a[i] := by simp [rd, List.getElem?_eq_getElem hia]
    have eb : rd b (i : Int) = b[i] := by simp [rd, List.getElem?_eq_getElem hib]
    by_cases c : rd a (i : Int) = rd b (i : Int)
    · refine Ev.step (fun k => by rw [remouldlaw05_ints.l0, if_pos (by omega), if_pos (by omega), if_pos (by omega), if_pos c, wrap64_id _ (by omega) (by omega)]) ?_
      refine ih (i + 1) (by omega) ?_
      rw [List.take_succ_eq_append_getElem hia, List.take_succ_eq_append_getElem hib, h, ← ea, ← eb, c]
    · have hne : a ≠ b := by
        intro e; subst e; exact c rfl
      rw [decide_eq_false hne]
      exact Ev.step (fun k => by rw [remouldlaw05_ints.l0, if_pos (by omega), if_pos (by omega), if_pos (by omega), if_neg c]) (Ev.const false)
theorem ints_f (a b : List Int) (hs : a.length ≤ 1000000) : Ev (fun k => remouldlaw05_ints.f k a b) (decide (a = b)) := by
  by_cases hl : a.length = b.length
  · exact Ev.congr (fun k => by rw [remouldlaw05_ints.f, if_pos (by omega)]; rfl) (ints_l0 a b hl hs a.length 0 (by omega) rfl)
  · rw [decide_eq_false (fun e => hl (by rw [e]))]
    exact Ev.congr (fun k => by rw [remouldlaw05_ints.f, if_neg (by omega)]) (Ev.const false)

def tri : List S49 := [⟨0, 1, 1⟩, ⟨0, 2, 1⟩, ⟨1, 2, 1⟩]
theorem tri_best : belt_Best.f 3 tri = some (⟨#[48, 48, 49]⟩, 2, 0) := by rfl
theorem tri_count : belt_Count.f 3 tri = some (3, 0) := by rfl
theorem tri_odd : belt_Odd.f 3 tri = some ([0, 1, 2], 0) := by rfl
theorem tri_climb : belt_Climb.f 3 tri ⟨#[48, 48, 48]⟩ = some (⟨#[49, 48, 48]⟩, 1, 0) := by rfl

theorem awake_f : Ev (fun k => remouldlaw05_awake.f k) true := by
  have hi := ints_f [0, 1, 2] [0, 1, 2] (by simp)
  refine Ev.congr (h := fun k => (remouldlaw05_ints.f k [0, 1, 2] [0, 1, 2]).bind fun t150 => (if t150 = true then remouldlaw05_awake.j0 k false else remouldlaw05_awake.j0 k true)) (fun k => ?_) ?_
  · unfold remouldlaw05_awake.f remouldlaw05_triangle.f
    simp only [Option.bind_some]
    rw [show ([⟨0, 1, 1⟩, ⟨0, 2, 1⟩, ⟨1, 2, 1⟩] : List S49) = tri from rfl, tri_best, tri_count, tri_odd, tri_climb]
    simp only [Option.bind_some, ByteArray.toList_eq]
    rfl
  · refine Ev.bind hi ?_
    exact Ev.step (fun k => rfl) (Ev.const true)

end Go.Proofs.Ytkefmlhkejoknaa.L
