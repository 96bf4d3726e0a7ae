/- Plain law: the law BeltOpposite. -/
import Derived.Test.YtkefmlhkejoknaaP22
import Derived.Test.YtkefmlhkejoknaaL22
namespace Go.Proofs.Ytkefmlhkejoknaa.L
set_option linter.unusedVariables false
set_option linter.unusedSimpArgs false
open Go.RowKit Go.Proofs.YtkefmlhkejoknaaW.PrintWords Go.Proofs.YtkefmlhkejoknaaW.PrintLast Go.Proofs.YtkefmlhkejoknaaW.PrintMore

theorem pureOpposite : remouldlaw05_BeltOpposite.Pure := by
  intro a0 l1 a2 _ _ hsz _ _
  apply Ev.get
  have haw : Ev (fun k => (remouldlaw05_awake.f k).bind fun t => some t) true := Ev.bind awake_f (Ev.const true)
  obtain ⟨N, g, ht, h0, hN, hg, hlow, hlen⟩ := tame_f a0 l1 40 (-50) hsz (by omega) (by omega) (by omega)
  have b0 : Ev (fun _ : Nat => remouldlaw05_tame.f a0 l1 40 (-50)) ((N : Int), g) := ⟨0, fun _ _ => ht⟩
  have hslt := sideN_lt a2 N
  generalize hs : sideN a2 N = s at hslt
  have hlaw := lawside_f a2 N hN
  rw [hs] at hlaw
  have hone := lawside_f (-1) N hN
  have htu := turned_f N s _ hN hslt (sideN_lt (-1) N)
  rw [side_ones N s hN hslt] at htu
  have hclt := compS_lt N s
  have hne := edgesNe_of hg
  have hE := graphOk_edges hg
  have b3 : Ev (fun _ : Nat => belt_Value.f N g (textB N s)) _ := ⟨0, fun _ _ => value_b N s h0 hN hslt g hg⟩
  have b4 : Ev (fun _ : Nat => belt_Value.f N g (textB N (compS N s))) _ := ⟨0, fun _ _ => value_b N _ h0 hN hclt g hg⟩
  have b5 : Ev (fun _ : Nat => belt_Gains.f N g (textB N s)) _ := ⟨0, fun _ _ => gains_b N s hslt hN g hg⟩
  have b6 : Ev (fun _ : Nat => belt_Gains.f N g (textB N (compS N s))) _ := ⟨0, fun _ _ => gains_b N _ hclt hN g hg⟩
  obtain ⟨rr, hrr, hcl⟩ := climb_b N s hN hslt g hg
  obtain ⟨rr2, hrr2, hcl2⟩ := climb_b N (compS N s) hN hclt g hg
  have hcc := climb_comp N g hne 4002 s 0 hslt
  rw [hrr, hrr2] at hcc
  simp only [Option.map_some, Option.some.injEq] at hcc
  subst hcc
  have c1 := (climb_props N g hne rr 4002 s 0 hslt hrr).1
  have b7 : Ev (fun _ : Nat => belt_Climb.f N g (textB N s)) _ := ⟨0, fun _ _ => hcl⟩
  have b8 : Ev (fun _ : Nat => belt_Climb.f N g (textB N (compS N s))) _ := ⟨0, fun _ _ => hcl2⟩
  refine Ev.bind b0 (Ev.bind hlaw (Ev.bind hone (Ev.bind htu (Ev.bind b3 (Ev.bind b4 (Ev.bind b5 (Ev.bind b6 (Ev.bind b7 (Ev.bind b8 ?_)))))))))
  have hval : valB N s g = valB N (compS N s) g := (val_comp N s hslt g hne).symm
  have hgn : gainsB N (compS N s) g = gainsB N s g := by
    unfold gainsB
    apply List.map_congr_left
    intro i _
    exact gain_comp N s i hslt g hne
  have hi := ints_f (gainsB N s g) (gainsB N (compS N s) g) (by rw [gainsB_length]; omega)
  rw [decide_eq_true hgn.symm] at hi
  have hsd1 := side_f (N : Int) (textB N rr.1) (by rw [text_size]; omega)
  rw [(text_side N rr.1 c1).1] at hsd1
  have hsd2 := side_f (N : Int) (textB N (compS N rr.1)) (by rw [text_size]; omega)
  rw [(text_side N _ (compS_lt N rr.1)).1] at hsd2
  have htu2 := turned_f N rr.1 _ hN c1 (sideN_lt (-1) N)
  rw [side_ones N rr.1 hN c1] at htu2
  iterate 6 refine Ev.congr (fun k => if_pos rfl) ?_
  refine Ev.congr (fun k => if_pos hval) (Ev.bind hi (Ev.congr (fun k => if_pos rfl) (Ev.congr (fun k => if_pos rfl) (Ev.bind hsd1 (Ev.congr (fun k => if_pos rfl) (Ev.bind hsd2 (Ev.congr (fun k => if_pos rfl) (Ev.bind hone (Ev.bind htu2 ?_)))))))))
  exact Ev.congr (fun k => if_pos rfl) haw

end Go.Proofs.Ytkefmlhkejoknaa.L
