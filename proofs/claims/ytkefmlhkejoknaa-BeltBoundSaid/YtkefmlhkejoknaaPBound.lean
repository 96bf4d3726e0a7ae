/- Plain law: the law BeltBound. -/
import Derived.Test.YtkefmlhkejoknaaP39
import Derived.Test.YtkefmlhkejoknaaL32
namespace Go.Proofs.Ytkefmlhkejoknaa.L
set_option linter.unusedVariables false
set_option linter.unusedSimpArgs false
open Go.RowKit Go.Proofs.YtkefmlhkejoknaaW.PrintWords Go.Proofs.YtkefmlhkejoknaaW.PrintLast Go.Proofs.YtkefmlhkejoknaaW.PrintMore

/-- The edges with the weight 1 in the first i. -/
def onesE (g : List S49) (i : Nat) : List S49 := (g.take i).map (fun e => (⟨e.f0, e.f1, 1⟩ : S49)) ++ g.drop i
theorem onesE_len (g : List S49) (i : Nat) : (onesE g i).length = g.length := by
  unfold onesE
  simp
  omega
theorem onesE_step (g : List S49) (i : Nat) (hi : i < g.length) : (onesE g i).set i (⟨(rd_T49 (onesE g i) (i : Int)).f0, (rd_T49 (onesE g i) (i : Int)).f1, 1⟩ : S49) = onesE g (i + 1) := by
  have h1 : i < (onesE g i).length := by rw [onesE_len]; exact hi
  have h2 : (onesE g i)[i]? = some g[i] := by
    unfold onesE
    rw [List.getElem?_append_right (by simp; omega)]
    simp [Nat.min_eq_left (Nat.le_of_lt hi), hi]
  have h3 : (onesE g i)[i]'h1 = g[i] := by
    rw [List.getElem?_eq_getElem h1] at h2
    exact Option.some.inj h2
  rw [rd_at _ i h1, h3]
  unfold onesE
  have hl : ((g.take i).map (fun e => (⟨e.f0, e.f1, 1⟩ : S49))).length = i := by simp; omega
  rw [List.take_succ_eq_append_getElem hi, List.map_append, List.set_append, if_neg (by omega), List.drop_eq_getElem_cons hi, hl]
  simp only [Nat.sub_self, List.set_cons_zero, List.map_cons, List.map_nil, List.append_assoc, List.cons_append, List.nil_append]
theorem edgesOk_ones (n : Int) (g : List S49) (h : ∀ i (hi : i < g.length), True) : ∀ k, k ≤ g.length → edgesOk n (onesE g g.length) k = true ∨ edgesOk n g k = false := by
  intro k
  induction k with
  | zero => intro _; exact .inl rfl
  | succ k ih =>
    intro hk
    have hlt : k < g.length := hk
    have e : onesE g g.length = g.map (fun e => (⟨e.f0, e.f1, 1⟩ : S49)) := by
      unfold onesE
      rw [List.take_length, List.drop_length, List.append_nil]
    rcases ih (by omega) with h1 | h1
    · rw [edgesOk, edgesOk, h1, Bool.true_and]
      cases hq : edgesOk n g k
      · right; rfl
      · rw [Bool.true_and, e, List.getElem?_map, List.getElem?_eq_getElem hlt]
        simp only [Option.map_some]
        cases h3 : (edgeOk n g[k] && !hasEdge (g.take k) g[k].f0 g[k].f1)
        · right; rfl
        · left
          rw [Bool.and_eq_true] at h3 ⊢
          refine ⟨?_, ?_⟩
          · have := (edgeOk_iff ..).1 h3.1
            refine (edgeOk_iff ..).2 ⟨this.1, this.2.1, ?_⟩
            show -50 ≤ (1 : Int) ∧ (1 : Int) ≤ 50
            omega
          · have h4 := h3.2
            rw [Bool.not_eq_true'] at h4 ⊢
            unfold hasEdge at h4 ⊢
            rw [← List.map_take, List.any_map]
            exact h4
    · right
      rw [edgesOk, h1, Bool.false_and]
theorem bound_l0 (N : Nat) (h0 : 1 ≤ N) (hN : N ≤ 12) (g : List S49) (hg : graphOk N g = true) (hlen : g.length ≤ 12) : ∀ d i : Nat, i + d = g.length → Ev (fun k => remouldlaw05_BeltBound.l0 k N (onesE g i) i) true := by
  have haw : Ev (fun k => (remouldlaw05_awake.f k).bind fun t => some t) true := Ev.bind awake_f (Ev.const true)
  intro d
  induction d with
  | zero =>
    intro i hi
    obtain rfl : i = g.length := by omega
    have hlo := onesE_len g g.length
    have h1 : ∀ e ∈ onesE g g.length, e.f2 = 1 := by
      unfold onesE
      rw [List.take_length, List.drop_length, List.append_nil]
      intro e he
      obtain ⟨x, _, rfl⟩ := List.mem_map.1 he
      rfl
    have hgo : graphOk N (onesE g g.length) = true := by
      unfold graphOk at hg ⊢
      rw [Bool.and_eq_true, Bool.and_eq_true] at hg ⊢
      refine ⟨hg.1, by rw [hlo]; exact hg.2.1, ?_⟩
      rw [hlo]
      rcases edgesOk_ones N g (fun _ _ => trivial) g.length (Nat.le_refl _) with h | h
      · exact h
      · rw [h] at hg; exact absurd hg.2.2 (by decide)
    refine Ev.step (fun k => by rw [remouldlaw05_BeltBound.l0, if_neg (by rw [hlo]; omega)]) ?_
    generalize onesE g g.length = l at hlo h1 hgo ⊢
    obtain ⟨f1, f2, f3⟩ := bound_facts N h0 hN l hgo h1
    have f4 := apart_nil N h0 hN l hgo
    have b1 : Ev (fun _ : Nat => belt_Best.f N l) _ := ⟨0, fun _ _ => best_b N l hgo⟩
    have b2 : Ev (fun _ : Nat => belt_Apart.f N l) (apartB N l, 0) := ⟨0, fun _ _ => by rw [belt_Apart.f, hgo, decide_eq_true (show l.length ≤ 12 by omega)]; rfl⟩
    refine Ev.bind b1 (Ev.bind b2 ?_)
    have hw : wrap64 ((l.length : Int) - ((apartB N l).length : Int)) = (l.length : Int) - ((apartB N l).length : Int) := wrap64_id _ (by omega) (by omega)
    generalize (bestB N l (properB N) (2 ^ N)).2.1 = v at f1 f2 ⊢
    cases hv : evenB N l with
    | some s =>
      have e1 : v = (l.length : Int) := f2.2 ⟨s, hv⟩
      have e2 : apartB N l = [] := f4.2 ⟨s, hv⟩
      have b3 : Ev (fun _ : Nat => belt_Sides.f N l) (textB N s, 0) := ⟨0, fun _ _ => by rw [belt_Sides.f, hgo, hv]; rfl⟩
      refine Ev.bind b3 ?_
      refine Ev.congr (fun k => if_pos rfl) (Ev.congr (fun k => if_pos rfl) (Ev.congr (fun k => if_pos rfl) (Ev.congr (fun k => if_pos ?_) (Ev.congr (fun k => if_pos ?_) (Ev.congr (fun k => if_pos ?_) haw)))))
      · rw [hw]; exact f1
      · subst e1; simp
      · rw [e2]; rfl
    | none =>
      have hno : ¬ ∃ s, evenB N l = some s := by rw [hv]; rintro ⟨s, h⟩; cases h
      have e1 : ¬ v = (l.length : Int) := fun e => hno (f2.1 e)
      have e2 : apartB N l ≠ [] := fun e => hno (f4.1 e)
      have e3 : ¬ ((apartB N l).length : Int) = 0 := fun e => e2 (List.length_eq_zero_iff.1 (by omega))
      have b3 : Ev (fun _ : Nat => belt_Sides.f N l) (⟨#[]⟩, 6) := ⟨0, fun _ _ => by rw [belt_Sides.f, hgo, hv]; rfl⟩
      refine Ev.bind b3 ?_
      refine Ev.congr (fun k => if_pos rfl) (Ev.congr (fun k => if_pos rfl) (Ev.congr (fun k => if_neg (by decide)) (Ev.congr (fun k => if_pos rfl) (Ev.congr (fun k => if_pos ?_) (Ev.congr (fun k => if_pos ?_) (Ev.congr (fun k => if_pos ?_) haw))))))
      · rw [hw]; exact f1
      · rw [beq_eq_false_iff_ne.2 e1]; rfl
      · rw [beq_eq_false_iff_ne.2 e3]; rfl
  | succ d ih =>
    intro i hi
    have hlt : i < g.length := by omega
    have hl := onesE_len g i
    refine Ev.step (fun k => ?_) (ih (i + 1) (by omega))
    rw [remouldlaw05_BeltBound.l0, if_pos (by rw [hl]; omega), if_pos (by omega), wrap64_id _ (by omega) (by omega), Int.toNat_natCast, onesE_step g i hlt]
    rfl
theorem pureBound : remouldlaw05_BeltBound.Pure := by
  intro a0 l1 _ _ hsz _
  apply Ev.get
  obtain ⟨N, g, ht, h0, hN, hg, hlow, hlen⟩ := tame_f a0 l1 12 1 hsz (by omega) (by omega) (by omega)
  have b0 : Ev (fun _ : Nat => remouldlaw05_tame.f a0 l1 12 1) ((N : Int), g) := ⟨0, fun _ _ => ht⟩
  refine Ev.bind b0 ?_
  have e : g = onesE g 0 := by simp [onesE]
  show Ev (fun k => remouldlaw05_BeltBound.l0 k N g 0) true
  rw [e]
  exact bound_l0 N h0 hN g hg hlen g.length 0 (by omega)
end Go.Proofs.Ytkefmlhkejoknaa.L
