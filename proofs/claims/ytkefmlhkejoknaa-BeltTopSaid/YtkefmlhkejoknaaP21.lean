/- Plain law: the law BeltTop. -/
import Derived.Test.YtkefmlhkejoknaaP17
import Derived.Test.YtkefmlhkejoknaaL20
namespace Go.Proofs.Ytkefmlhkejoknaa.L
set_option linter.unusedVariables false
set_option linter.unusedSimpArgs false
open Go.RowKit Go.Proofs.YtkefmlhkejoknaaW.PrintWords Go.Proofs.YtkefmlhkejoknaaW.PrintLast Go.Proofs.YtkefmlhkejoknaaW.PrintMore

theorem top_l0 (N s : Nat) (hN : N ≤ 12) (g : List S49) (h : firstGain N g s = none) : ∀ d i : Nat, i + d = N → Ev (fun k => remouldlaw05_BeltTop.l0 k N (gainsB N s g) i) true := by
  have haw : Ev (fun k => (remouldlaw05_awake.f k).bind fun t => some t) true := Ev.bind awake_f (Ev.const true)
  have hlen := gainsB_length N s g
  intro d
  induction d with
  | zero =>
    intro i hi
    obtain rfl : i = N := by omega
    exact Ev.step (fun k => by rw [remouldlaw05_BeltTop.l0, if_neg (by omega)]) haw
  | succ d ih =>
    intro i hi
    have hg := gain_none h i (by omega)
    refine Ev.step (fun k => by rw [remouldlaw05_BeltTop.l0, if_pos (by omega), if_pos (by omega), if_pos (by omega), gainsB_at N s g i (by omega), if_neg (by omega), wrap64_id _ (by omega) (by omega)]; rfl) (ih (i + 1) (by omega))
theorem pureTop : remouldlaw05_BeltTop.Pure := by
  intro a0 l1 a2 _ _ hsz _ _
  apply Ev.get
  obtain ⟨N, g, ht, h0, hN, hg, hlow, hlen⟩ := tame_f a0 l1 40 (-50) hsz (by omega) (by omega) (by omega)
  have b0 : Ev (fun _ : Nat => remouldlaw05_tame.f a0 l1 40 (-50)) ((N : Int), g) := ⟨0, fun _ _ => ht⟩
  have hslt := sideN_lt a2 N
  generalize hs : sideN a2 N = s at hslt
  have hlaw := lawside_f a2 N hN
  rw [hs] at hlaw
  obtain ⟨rr, hrr, hcl⟩ := climb_b N s hN hslt g hg
  have hne := edgesNe_of hg
  have hE := graphOk_edges hg
  obtain ⟨c1, c2, c3, c4, c5, c6⟩ := climb_props N g hne rr 4002 s 0 hslt hrr
  have w1 := val_bound40 N s g hlen hE
  have w2 := val_bound40 N rr.1 g hlen hE
  have b3 : Ev (fun _ : Nat => belt_Climb.f N g (textB N s)) _ := ⟨0, fun _ _ => hcl⟩
  refine Ev.bind b0 (Ev.bind hlaw (Ev.bind b3 ?_))
  refine Ev.congr (fun k => if_pos rfl) (Ev.congr (fun k => if_neg (by show ¬ rr.2 < 0; omega)) (Ev.congr (fun k => if_neg (by show ¬ rr.2 > 4000; omega)) ?_))
  have hsd := side_f (N : Int) (textB N rr.1) (by rw [text_size]; omega)
  rw [(text_side N rr.1 c1).1] at hsd
  refine Ev.bind hsd ?_
  refine Ev.step (fun k => by rw [remouldlaw05_BeltTop.j0, if_neg (by decide)]) ?_
  have b4 : Ev (fun _ : Nat => belt_Gains.f N g (textB N rr.1)) _ := ⟨0, fun _ _ => gains_b N rr.1 c1 hN g hg⟩
  have b5 : Ev (fun _ : Nat => belt_Value.f N g (textB N rr.1)) _ := ⟨0, fun _ _ => value_b N rr.1 h0 hN c1 g hg⟩
  have b6 : Ev (fun _ : Nat => belt_Value.f N g (textB N s)) _ := ⟨0, fun _ _ => value_b N s h0 hN hslt g hg⟩
  obtain ⟨rr2, hrr2, hcl2⟩ := climb_b N rr.1 hN c1 g hg
  have e2 := (climb_props N g hne rr2 4002 rr.1 0 c1 hrr2).2.2.2.2.2 c2
  subst e2
  have b7 : Ev (fun _ : Nat => belt_Climb.f N g (textB N rr.1)) _ := ⟨0, fun _ _ => hcl2⟩
  refine Ev.bind b4 (Ev.bind b5 (Ev.bind hlaw (Ev.bind b6 (Ev.bind b7 ?_))))
  have hj : Ev (fun k => remouldlaw05_BeltTop.j1 k N (gainsB N rr.1 g) false) true :=
    Ev.step (fun k => by rw [remouldlaw05_BeltTop.j1, if_neg (by decide)]; rfl) (top_l0 N rr.1 hN g c2 N 0 (by omega))
  refine Ev.congr (h := fun k => remouldlaw05_BeltTop.j1 k N (gainsB N rr.1 g) false) (fun k => ?_) hj
  have hw : wrap64 (valB N s g + rr.2) = valB N s g + rr.2 := wrap64_id _ (by omega) (by omega)
  simp only [if_true, gainsB_length]
  rw [hw, if_neg (by omega)]
  by_cases z : rr.2 = 0
  · rw [if_pos z, c5 z]; simp
  · rw [if_neg z]

end Go.Proofs.Ytkefmlhkejoknaa.L
