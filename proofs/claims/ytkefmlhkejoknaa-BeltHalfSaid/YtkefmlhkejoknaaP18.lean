/- Plain law: the law BeltHalf. -/
import Derived.Test.YtkefmlhkejoknaaP17
import Derived.Test.YtkefmlhkejoknaaL12
namespace Go.Proofs.Ytkefmlhkejoknaa.L
set_option linter.unusedVariables false
set_option linter.unusedSimpArgs false
open Go.RowKit Go.Proofs.YtkefmlhkejoknaaW.PrintWords Go.Proofs.YtkefmlhkejoknaaW.PrintLast Go.Proofs.YtkefmlhkejoknaaW.PrintMore

theorem half_l0 (N : Nat) (g : List S49) (v : Int) (s : Nat) (hE : EdgesIn N g) (hl : g.length ≤ 40) (h1 : sumW g ≤ 2 * v) (h2 : v ≤ sumW g) (h3 : sumW g ≤ 2 * valB N s g) (h0 : 0 ≤ sumW g) (hN : N ≤ 12) (hs : s < 2 ^ N) :
    ∀ d i : Nat, i + d = g.length → Ev (fun k => remouldlaw05_BeltHalf.l0 k N g v 0 (textB N s) 0 (sumW (g.take i)) i) true := by
  have haw : Ev (fun k => (remouldlaw05_awake.f k).bind fun t => some t) true := Ev.bind awake_f (Ev.const true)
  intro d
  induction d with
  | zero =>
    intro i hi
    obtain rfl : i = g.length := by omega
    have hb := sumW_bound N g hE g.length (Nat.le_refl _)
    rw [List.take_length] at hb ⊢
    have hsd := side_f (N : Int) (textB N s) (by rw [text_size]; omega)
    rw [(text_side N s hs).1] at hsd
    refine Ev.step (fun k => by rw [remouldlaw05_BeltHalf.l0, if_neg (by omega), if_pos rfl, if_pos rfl]) (Ev.bind hsd ?_)
    have hq : wrap64 (Int.tdiv (wrap64 (sumW g + 1)) 2) = (sumW g + 1) / 2 := by
      rw [wrap64_id (sumW g + 1) (by omega) (by omega), Int.tdiv_eq_ediv_of_nonneg (by omega), wrap64_id _ (by omega) (by omega)]
    rw [hq]
    refine Ev.congr (fun k => if_pos rfl) ?_
    refine Ev.congr (fun k => if_pos (by omega)) ?_
    refine Ev.congr (fun k => if_pos h2) ?_
    refine Ev.bind (value_f N s g (by omega) hE) ?_
    exact Ev.congr (fun k => if_pos (by omega)) haw
  | succ d ih =>
    intro i hi
    have hlt : i < g.length := by omega
    have hb := sumW_bound N g hE i (by omega)
    have he := hE i hlt
    have ih' := ih (i + 1) (by omega)
    rw [sumW_take g i hlt] at ih'
    refine Ev.step (fun k => by rw [remouldlaw05_BeltHalf.l0, if_pos (by omega), if_pos (by omega), wrap64_id _ (by omega) (by omega), wrap64_id ((i : Int) + 1) (by omega) (by omega)]; rfl) ih'
theorem pureHalf : remouldlaw05_BeltHalf.Pure := by
  intro a0 l1 a2 _ _ hsz _ _
  apply Ev.get
  obtain ⟨N, g, ht, h0, hN, hg, hlow, hlen⟩ := tame_f a0 l1 40 0 hsz (by omega) (by omega) (by omega)
  have b0 : Ev (fun _ : Nat => remouldlaw05_tame.f a0 l1 40 0) ((N : Int), g) := ⟨0, fun _ _ => ht⟩
  have b1 : Ev (fun _ : Nat => belt_Best.f N g) _ := ⟨0, fun _ _ => best_b N g hg⟩
  obtain ⟨rr, hrr, hcl⟩ := climb_b N (sideN a2 N) hN (sideN_lt a2 N) g hg
  have b3 : Ev (fun _ : Nat => belt_Climb.f N g (textB N (sideN a2 N))) _ := ⟨0, fun _ _ => hcl⟩
  refine Ev.bind b0 (Ev.bind b1 (Ev.bind (lawside_f a2 N hN) (Ev.bind b3 ?_)))
  have hne := edgesNe_of hg
  obtain ⟨c1, c2, c3, c4, c5, c6⟩ := climb_props N g hne rr 4002 (sideN a2 N) 0 (sideN_lt a2 N) hrr
  obtain ⟨d1, d2, d3, d4, d5⟩ := best_is N h0 g hne
  have e1 := half_top hne c2
  have e2 := d4 rr.1 c1
  have e3 := val_nonneg N (bestB N g (properB N) (2 ^ N)).1 g hlow
  have := half_l0 N g (bestB N g (properB N) (2 ^ N)).2.1 rr.1 (graphOk_edges hg) hlen (by omega) (by omega) e1 (by omega) hN c1 g.length 0 (by omega)
  exact this


end Go.Proofs.Ytkefmlhkejoknaa.L
