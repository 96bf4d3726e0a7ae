/- Plain law: the law BeltFurther. -/
import Derived.Test.YtkefmlhkejoknaaP17
import Derived.Test.YtkefmlhkejoknaaL13
namespace Go.Proofs.Ytkefmlhkejoknaa.L
set_option linter.unusedVariables false
set_option linter.unusedSimpArgs false
open Go.RowKit Go.Proofs.YtkefmlhkejoknaaW.PrintWords Go.Proofs.YtkefmlhkejoknaaW.PrintLast Go.Proofs.YtkefmlhkejoknaaW.PrintMore

theorem edgesOk_take (n : Int) (l : List S49) (k : Nat) (hk : k ≤ l.length) : edgesOk n (l.take k) k = edgesOk n l k := by
  conv => rhs; rw [← List.take_append_drop k l]
  exact (edgesOk_append n (l.take k) (l.drop k) k (by simp; omega)).symm
theorem graphOk_take {n : Int} {l : List S49} (h : graphOk n l = true) (k : Nat) (hk : k ≤ l.length) : graphOk n (l.take k) = true := by
  have h1 := graphOk_n h
  have h2 := graphOk_len h
  have h3 : edgesOk n l l.length = true := by
    unfold graphOk at h
    simp only [Bool.and_eq_true] at h
    exact h.2.2
  have h4 := edgesOk_le n l k (l.length - k) (by rw [show k + (l.length - k) = l.length by omega]; exact h3)
  have hlen : (l.take k).length = k := by simp; omega
  rw [graphOk, (inB_iff n 1 12).2 h1, decide_eq_true (show (l.take k).length ≤ 40 by omega), hlen, edgesOk_take n l k hk, h4]; rfl
theorem further_j0 (N s : Nat) (hN : N ≤ 12) (e : S49) (a b v w : Int) (ha : -2050 ≤ a ∧ a ≤ 2050) (hb : -2050 ≤ b ∧ b ≤ 2050) (hv : -2050 ≤ v ∧ v ≤ 2050) (hw : -2050 ≤ w ∧ w ≤ 2050) (he : 0 ≤ e.f0 ∧ e.f0 < N ∧ 0 ≤ e.f1 ∧ e.f1 < N ∧ -50 ≤ e.f2 ∧ e.f2 ≤ 50)
    (h1 : a = b + (if cutB N s e then e.f2 else 0)) (h2 : v - w ≤ mx 0 e.f2) (h3 : w - v ≤ mx 0 (-e.f2)) : Ev (fun k => remouldlaw05_BeltFurther.j0 k (textB N s) a b v w false e.f0 e.f1 e.f2) true := by
  have haw : Ev (fun k => (remouldlaw05_awake.f k).bind fun t => some t) true := Ev.bind awake_f (Ev.const true)
  have hcut := bt_cut N s e.f0 e.f1 ⟨he.1, he.2.1⟩ ⟨he.2.2.1, he.2.2.2.1⟩
  have hsz := text_size N s
  refine Ev.step (h := fun k => (remouldlaw05_awake.f k).bind fun t => some t) (fun k => ?_) haw
  rw [remouldlaw05_BeltFurther.j0, if_neg (by decide), if_pos he.1, if_pos (by rw [hsz]; exact he.2.1), if_pos he.2.2.1, if_pos (by rw [hsz]; exact he.2.2.2.1), wrap64_id (v - w) (by omega) (by omega), wrap64_id (w - v) (by omega) (by omega), wrap64_id (-e.f2) (by omega) (by omega), wrap64_id (b + 0) (by omega) (by omega), wrap64_id (b + e.f2) (by omega) (by omega)]
  cases hc : cutB N s e
  · rw [if_pos (hcut.2 hc), if_pos (by rw [h1, hc]; simp), if_pos h2, if_pos h3]
  · rw [if_neg (fun h => by have := hcut.1 h; rw [cutB] at hc; rw [hc] at this; cases this), if_pos (by rw [h1, hc]; simp), if_pos h2, if_pos h3]
theorem pureFurther : remouldlaw05_BeltFurther.Pure := by
  intro a0 l1 a2 _ _ hsz _ _
  apply Ev.get
  have haw : Ev (fun k => (remouldlaw05_awake.f k).bind fun t => some t) true := Ev.bind awake_f (Ev.const true)
  obtain ⟨N, g, ht, h0, hN, hg, hlow, hlen⟩ := tame_f a0 l1 40 (-50) hsz (by omega) (by omega) (by omega)
  have b0 : Ev (fun _ : Nat => remouldlaw05_tame.f a0 l1 40 (-50)) ((N : Int), g) := ⟨0, fun _ _ => ht⟩
  refine Ev.bind b0 ?_
  by_cases hz : g.length = 0
  · exact Ev.congr (fun k => if_pos (by show (g.length : Int) = 0; omega)) haw
  · have hw : wrap64 ((g.length : Int) - 1) = ((g.length - 1 : Nat) : Int) := by rw [wrap64_id _ (by omega) (by omega)]; omega
    have hlast : g.length - 1 < g.length := by omega
    refine Ev.congr (fun k => if_neg (by show ¬ (g.length : Int) = 0; omega)) ?_
    simp only [hw]
    refine Ev.congr (fun k => if_pos (by omega)) ?_
    refine Ev.congr (fun k => if_pos (by show ((g.length - 1 : Nat) : Int) < (g.length : Int); omega)) ?_
    refine Ev.congr (fun k => if_pos (by show ((g.length - 1 : Nat) : Int) ≤ (g.length : Int); omega)) ?_
    simp only [Int.toNat_natCast, Option.bind_some]
    have hg2 := graphOk_take hg (g.length - 1) (by omega)
    have htk := take_snoc g (g.length - 1) hlast
    rw [show g.length - 1 + 1 = g.length by omega, List.take_length] at htk
    have hE := graphOk_edges hg
    have he := hE (g.length - 1) hlast
    have hne := edgesNe_of hg
    have hne2 := edgesNe_of hg2
    have hval : ∀ s, valB N s g = valB N s (g.take (g.length - 1)) + (if cutB N s (rd_T49 g ((g.length - 1 : Nat) : Int)) then (rd_T49 g ((g.length - 1 : Nat) : Int)).f2 else 0) := fun s => by
      have := valB_take N s g (g.length - 1) hlast
      rwa [show g.length - 1 + 1 = g.length by omega, List.take_length] at this
    generalize rd_T49 g ((g.length - 1 : Nat) : Int) = e at he hval
    have hslt := sideN_lt a2 N
    have v1 : Ev (fun _ : Nat => belt_Value.f N g (textB N (sideN a2 N))) _ := ⟨0, fun _ _ => value_b N _ h0 hN hslt g hg⟩
    have v2 : Ev (fun _ : Nat => belt_Value.f N (g.take (g.length - 1)) (textB N (sideN a2 N))) _ := ⟨0, fun _ _ => value_b N _ h0 hN hslt _ hg2⟩
    have b1 : Ev (fun _ : Nat => belt_Best.f N g) _ := ⟨0, fun _ _ => best_b N g hg⟩
    have b2 : Ev (fun _ : Nat => belt_Best.f N (g.take (g.length - 1))) _ := ⟨0, fun _ _ => best_b N _ hg2⟩
    refine Ev.bind (lawside_f a2 N hN) (Ev.bind v1 (Ev.bind v2 (Ev.bind b1 (Ev.bind b2 ?_))))
    refine Ev.congr (fun k => if_pos rfl) ?_
    refine Ev.congr (fun k => if_pos rfl) ?_
    refine Ev.congr (fun k => if_pos rfl) ?_
    have w1 := val_bound40 N (sideN a2 N) g hlen hE
    have w2 := val_bound40 N (sideN a2 N) (g.take (g.length - 1)) (graphOk_len hg2) (graphOk_edges hg2)
    obtain ⟨d1, d2, d3, d4, d5⟩ := best_is N h0 g hne
    obtain ⟨f1, f2, f3, f4, f5⟩ := best_is N h0 _ hne2
    have hhalf : 2 ^ (N - 1) ≤ 2 ^ N := Nat.pow_le_pow_right (by omega) (by omega)
    generalize hr : bestB N g (properB N) (2 ^ N) = r at d1 d2 d3 d4 d5
    generalize hq : bestB N (g.take (g.length - 1)) (properB N) (2 ^ N) = q at f1 f2 f3 f4 f5
    have w3 := val_bound40 N r.1 g hlen hE
    have w4 := val_bound40 N q.1 (g.take (g.length - 1)) (graphOk_len hg2) (graphOk_edges hg2)
    have x1 := f4 r.1 (by omega)
    have x2 := d4 q.1 (by omega)
    have y1 := hval r.1
    have y2 := hval q.1
    exact further_j0 N (sideN a2 N) hN e _ _ _ _ ⟨by omega, by omega⟩ ⟨by omega, by omega⟩ ⟨by show -2050 ≤ r.2.1; omega, by show r.2.1 ≤ 2050; omega⟩ ⟨by show -2050 ≤ q.2.1; omega, by show q.2.1 ≤ 2050; omega⟩ ⟨he.1, he.2.1, he.2.2.1, he.2.2.2.1, he.2.2.2.2.1, he.2.2.2.2.2⟩ (hval _)
      (by show r.2.1 - q.2.1 ≤ mx 0 e.f2; unfold mx; revert y1; split <;> split <;> omega) (by show q.2.1 - r.2.1 ≤ mx 0 (-e.f2); unfold mx; revert y2; split <;> split <;> omega)

end Go.Proofs.Ytkefmlhkejoknaa.L
