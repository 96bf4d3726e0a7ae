/- Plain law: Flip, Gains and Climb, as the reference tells them; the law BeltClimbs. -/
import Derived.Test.YtkefmlhkejoknaaP6
namespace Go.Proofs.Ytkefmlhkejoknaa.L
set_option linter.unusedVariables false
set_option linter.unusedSimpArgs false
open Go.RowKit Go.Proofs.YtkefmlhkejoknaaW.PrintWords Go.Proofs.YtkefmlhkejoknaaW.PrintLast Go.Proofs.YtkefmlhkejoknaaW.PrintMore

/-- The side with a vertex flipped. -/
def flipS (N s i : Nat) : Nat := s ^^^ 2 ^ ((N : Int) - 1 - (i : Int)).toNat
theorem chars_flip (N s i : Nat) (hi : i < N) : charsB N (flipS N s i) = (charsB N s).set i (if hasB N s (i : Int) then 48 else 49) := by
  apply List.ext_getElem
  · simp [charsB]
  · intro v h1 h2
    have hv : v < N := by simpa [charsB] using h1
    simp only [charsB, Int.toNat_natCast, List.getElem_map, List.getElem_range, List.getElem_set, flipS]
    rw [hasB_flip N s i hi (v : Int) (by omega) (by omega)]
    by_cases e : i = v
    · subst e
      simp only [decide_true, Bool.bne_true, if_true]
      cases hasB N s (i : Int) <;> rfl
    · rw [if_neg e, decide_eq_false (by omega), Bool.bne_false]
theorem set_parts {α : Type} (l : List α) (i : Nat) (x : α) (h : i < l.length) : (l.take i ++ [x]) ++ (l.drop (i + 1)).take (l.length - (i + 1)) = l.set i x := by
  have e : (l.drop (i + 1)).take (l.length - (i + 1)) = l.drop (i + 1) := List.take_of_length_le (by simp)
  rw [e, List.set_eq_take_append_cons_drop, if_pos h, List.append_assoc]
  rfl
theorem flip_f (N s i : Nat) (hi : i < N) (hN : N ≤ 12) : remouldref05_Flip.f (textB N s) (i : Int) = some (textB N (flipS N s i)) := by
  have hsz := text_size N s
  have hlen : (charsB N s).length = N := by simp [charsB]
  have key : ∀ x : UInt8, ((textB (N : Int) s).extract 0 i ++ (⟨#[x]⟩ : ByteArray)) ++ (textB (N : Int) s).extract (i + 1) (textB (N : Int) s).size = ⟨((charsB N s).set i x).toArray⟩ := by
    intro x
    rw [hsz]
    apply ByteArray.ext
    apply Array.ext'
    have := set_parts (charsB N s) i x (by omega)
    rw [hlen] at this
    simp only [ByteArray.data_append, ByteArray.data_extract, Array.toList_append, Array.toList_extract, List.extract, List.drop_zero, Nat.sub_zero]
    exact this
  rw [remouldref05_Flip.f, if_pos ⟨by omega, by omega, by omega⟩, bt_text N s (i : Int) (by omega) (by omega), Int.toNat_natCast]
  have hf := chars_flip N s i hi
  have e2 : textB (N : Int) (flipS N s i) = ⟨((charsB N s).set i (if hasB N s (i : Int) then 48 else 49)).toArray⟩ := by
    unfold textB; rw [hf]
  rw [e2]
  cases hh : hasB N s (i : Int)
  · simp only [Bool.false_eq_true, if_false, if_true]
    exact congrArg some (key 49)
  · simp only [if_true]
    rw [if_neg (by decide)]
    exact congrArg some (key 48)

/-- What is known of the edges of a graph. -/
def EdgesNe (N : Nat) (l : List S49) : Prop := ∀ e ∈ l, 0 ≤ e.f0 ∧ e.f0 < N ∧ 0 ≤ e.f1 ∧ e.f1 < N ∧ e.f0 ≠ e.f1
theorem edgesNe_of {N : Nat} {l : List S49} (h : graphOk N l = true) : EdgesNe N l := by
  intro e he
  obtain ⟨i, hi, rfl⟩ := List.getElem_of_mem he
  have := (edgeOk_iff ..).1 (graphOk_edge h i hi).1
  rw [rd_at l i hi] at this
  omega
theorem val_all_bound (n : Int) (s : Nat) (l : List S49) (hl : l.length ≤ 41) (hE : EdgesIn n l) : -2050 ≤ valB n s l ∧ valB n s l ≤ 2050 := by
  have := valB_bound n s l hE l.length (Nat.le_refl _)
  rw [List.take_length] at this
  omega
theorem gains_l0 (N s : Nat) (hN : N ≤ 12) (l : List S49) (hl : l.length ≤ 41) (hE : EdgesIn N l) (hne : EdgesNe N l) : ∀ d i : Nat, i + d = N →
    Ev (fun k => remouldref05_Gains.l0 k l (textB N s) ((List.range i).map fun j => gainB N s j l) (i : Int)) ((List.range N).map fun j => gainB N s j l) := by
  have hsz := text_size N s
  intro d
  induction d with
  | zero =>
    intro i hi
    obtain rfl : i = N := by omega
    exact Ev.step (fun k => by rw [remouldref05_Gains.l0, hsz, if_neg (by omega)]) (Ev.const _)
  | succ d ih =>
    intro i hi
    have hlt : i < N := by omega
    have b1 : Ev (fun _ : Nat => remouldref05_Flip.f (textB N s) (i : Int)) (textB N (flipS N s i)) := ⟨0, fun _ _ => flip_f N s i hlt hN⟩
    refine Ev.step (fun k => by rw [remouldref05_Gains.l0, hsz, if_pos (by omega)]) (Ev.bind b1 (Ev.bind (value_f N (flipS N s i) l hl hE) (Ev.bind (value_f N s l hl hE) ?_)))
    have ih' := ih (i + 1) (by omega)
    have h1 := val_all_bound N (flipS N s i) l hl hE
    have h2 := val_all_bound N s l hl hE
    have hg : valB N (flipS N s i) l - valB N s l = gainB N s i l := gain_flip N s i hlt l hne
    refine Ev.congr (fun k => ?_) ih'
    rw [if_pos (by simp; omega), wrap64_id _ (by omega) (by omega), wrap64_id _ (by omega) (by omega), hg, List.range_succ, List.map_append]
    rfl
theorem gains_f (N s : Nat) (hN : N ≤ 12) (l : List S49) (hl : l.length ≤ 41) (hE : EdgesIn N l) (hne : EdgesNe N l) : Ev (fun k => remouldref05_Gains.f k l (textB N s)) ((List.range N).map fun j => gainB N s j l) :=
  gains_l0 N s hN l hl hE hne N 0 (by omega)

theorem climb_l1 (N s : Nat) (hN : N ≤ 12) (l : List S49) (f : Int) (hf : 0 ≤ f) (hf2 : f ≤ 100000) (r : ByteArray × Int)
    (hnone : firstGain N l s = none → r = (textB N s, f)) (hsome : ∀ v, firstGain N l s = some v → Ev (fun k => remouldref05_Climb.l0 k l (textB N (flipS N s v)) (f + 1)) r) :
    ∀ d i : Nat, i + d = N → (∀ j, j < i → decide (0 < gainB N s j l) = false) → Ev (fun k => remouldref05_Climb.l1 k l (textB N s) f ((List.range N).map fun j => gainB N s j l) (i : Int)) r := by
  have hsz := text_size N s
  intro d
  induction d with
  | zero =>
    intro i hi hno
    obtain rfl : i = N := by omega
    have h0 : firstGain i l s = none := find_none _ _ hno
    rw [hnone h0]
    exact Ev.step (fun k => by rw [remouldref05_Climb.l1, hsz, if_neg (by omega), if_pos rfl]) (Ev.const _)
  | succ d ih =>
    intro i hi hno
    have hlt : i < N := by omega
    have hrd : rd ((List.range N).map fun j => gainB N s j l) (i : Int) = gainB N s i l := by simp [rd, hlt]
    by_cases c : gainB N s i l ≤ 0
    · refine Ev.step (fun k => by rw [remouldref05_Climb.l1, hsz, if_pos (by omega), if_pos (by omega), if_pos (by simp; omega), hrd, if_pos c, wrap64_id _ (by omega) (by omega)]; rfl) (ih (i + 1) (by omega) (fun j hj => ?_))
      by_cases e : j = i
      · subst e; simp; omega
      · exact hno j (by omega)
    · have h1 : firstGain N l s = some i := find_upTo _ N i hlt hno (by simp; omega)
      have b1 : Ev (fun _ : Nat => remouldref05_Flip.f (textB N s) (i : Int)) (textB N (flipS N s i)) := ⟨0, fun _ _ => flip_f N s i hlt hN⟩
      refine Ev.step (fun k => by rw [remouldref05_Climb.l1, hsz, if_pos (by omega), if_pos (by omega), if_pos (by simp; omega), hrd, if_neg c, if_neg (by omega)]) (Ev.bind b1 ?_)
      exact Ev.congr (fun k => by rw [wrap64_id _ (by omega) (by omega)]) (hsome i h1)
theorem climb_l0 (N : Nat) (hN : N ≤ 12) (l : List S49) (hl : l.length ≤ 41) (hE : EdgesIn N l) (hne : EdgesNe N l) (rr : Nat × Int) : ∀ (fu s : Nat) (f : Int), 0 ≤ f → f + fu ≤ 100000 → climbB N l fu s f = some rr → Ev (fun k => remouldref05_Climb.l0 k l (textB N s) f) (textB N rr.1, rr.2) := by
  intro fu
  induction fu with
  | zero => intro s f _ _ h; simp [climbB] at h
  | succ fu ih =>
    intro s f hf hf2 h
    refine Ev.step (fun k => by rw [remouldref05_Climb.l0]) (Ev.bind (gains_f N s hN l hl hE hne) ?_)
    refine climb_l1 N s hN l f hf (by omega) _ (fun h0 => ?_) (fun v hv => ?_) N 0 (by omega) (fun j hj => by omega)
    · rw [climbB, h0] at h
      simp only [Option.some.injEq] at h
      rw [← h]
    · rw [climbB, hv] at h
      exact ih (flipS N s v) (f + 1) (by omega) (by omega) h
theorem val_bound40 (n : Int) (s : Nat) (l : List S49) (hl : l.length ≤ 40) (hE : EdgesIn n l) : -2000 ≤ valB n s l ∧ valB n s l ≤ 2000 := by
  have := valB_bound n s l hE l.length (Nat.le_refl _)
  rw [List.take_length] at this
  omega
/-- Climbing comes to an end. -/
theorem climb_ends (N : Nat) (hN : N ≤ 12) (l : List S49) (hl : l.length ≤ 40) (hE : EdgesIn N l) (hne : EdgesNe N l) : ∀ (fu s : Nat) (f : Int), 2000 - valB N s l < fu → ∃ rr, climbB N l fu s f = some rr := by
  intro fu
  induction fu with
  | zero => intro s f h; have := val_bound40 N s l hl hE; omega
  | succ fu ih =>
    intro s f h
    rw [climbB]
    cases hv : firstGain N l s with
    | none => exact ⟨_, rfl⟩
    | some v =>
      have hp : 0 < gainB N s v l := by have := List.find?_some hv; simpa using this
      have hvN : v < N := by have := List.mem_of_find?_eq_some hv; simpa using this
      have hg := gain_flip N s v hvN l hne
      exact ih (flipS N s v) (f + 1) (by show 2000 - valB N (flipS N s v) l < fu; unfold flipS; omega)

end Go.Proofs.Ytkefmlhkejoknaa.L
