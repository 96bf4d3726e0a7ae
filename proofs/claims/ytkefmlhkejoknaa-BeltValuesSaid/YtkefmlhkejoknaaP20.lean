/- Plain law: the law BeltValues. -/
import Derived.Test.YtkefmlhkejoknaaP7
import Derived.Test.YtkefmlhkejoknaaL19
namespace Go.Proofs.Ytkefmlhkejoknaa.L
set_option linter.unusedVariables false
set_option linter.unusedSimpArgs false
open Go.RowKit Go.Proofs.YtkefmlhkejoknaaW.PrintWords Go.Proofs.YtkefmlhkejoknaaW.PrintLast Go.Proofs.YtkefmlhkejoknaaW.PrintMore

theorem pureValues (a0 : Int) (l1 : List S49) (a2 : ByteArray) : ∃ k, remouldlaw05_BeltValues.f k a0 l1 a2 = some true := by
  apply Ev.get
  have hl : (l1.take 41).length ≤ 41 := by simp; omega
  have ht := cut13_size a2
  have hg := graph_f a0 (l1.take 41) hl
  have hsd := side_f a0 (cut13 a2) (by omega)
  have e0 : Ev (fun _ : Nat => remouldlaw05_edges.f l1) (l1.take 41) := ⟨0, fun _ _ => edges_f l1⟩
  have e1 : Ev (fun _ : Nat => remouldlaw05_brief.f a2) (cut13 a2) := ⟨0, fun _ _ => brief_f a2⟩
  refine Ev.bind e0 (Ev.bind e1 ?_)
  generalize l1.take 41 = x at hl hg
  generalize cut13 a2 = t at ht hsd
  have haw : Ev (fun k => (remouldlaw05_awake.f k).bind fun t => some t) true := Ev.bind awake_f (Ev.const true)
  have hbad : Ev (fun k => remouldlaw05_BeltValues.j0 k x t 0 2 [] 2 true) true := by
    refine Ev.step (fun k => by rw [remouldlaw05_BeltValues.j0, if_pos rfl]) ?_
    exact Ev.congr (h := fun k => (remouldlaw05_awake.f k).bind fun t => some t) (fun k => by simp) haw
  have hsz : t.size ≤ 140737488351232 := by omega
  cases h : graphOk a0 x
  · rw [h] at hg
    have b1 : Ev (fun _ : Nat => belt_Value.f a0 x t) (0, 2) := ⟨0, fun _ _ => by rw [belt_Value.f, if_pos hsz, h]; rfl⟩
    have b2 : Ev (fun _ : Nat => belt_Gains.f a0 x t) ([], 2) := ⟨0, fun _ _ => by rw [belt_Gains.f, if_pos hsz, h]; rfl⟩
    refine Ev.bind b1 (Ev.bind b2 (Ev.bind hg ?_))
    exact Ev.congr (fun k => if_neg (by decide)) hbad
  · rw [h] at hg
    cases h2 : sideOk a0 t
    · rw [h2] at hsd
      have b1 : Ev (fun _ : Nat => belt_Value.f a0 x t) (0, 2) := ⟨0, fun _ _ => by rw [belt_Value.f, if_pos hsz, h, h2]; rfl⟩
      have b2 : Ev (fun _ : Nat => belt_Gains.f a0 x t) ([], 2) := ⟨0, fun _ _ => by rw [belt_Gains.f, if_pos hsz, h, h2]; rfl⟩
      refine Ev.bind b1 (Ev.bind b2 (Ev.bind hg ?_))
      exact Ev.congr (fun k => if_pos rfl) (Ev.bind hsd hbad)
    · rw [h2] at hsd
      obtain ⟨h0, hn⟩ := graphOk_n h
      have hE := graphOk_edges h
      obtain ⟨N, rfl⟩ := Int.eq_ofNat_of_zero_le (show 0 ≤ a0 by omega)
      have hne := edgesNe_of h
      have htx := side_text N t h2
      have hv := value_f N (numB N t t.size) x hl hE
      have hgn := gains_f N (numB N t t.size) (by omega) x hl hE hne
      rw [htx] at hv hgn
      have b1 : Ev (fun _ : Nat => belt_Value.f N x t) (valB N (numB N t t.size) x, 0) := ⟨0, fun _ _ => by rw [belt_Value.f, if_pos hsz, h, h2]; rfl⟩
      have b2 : Ev (fun _ : Nat => belt_Gains.f N x t) (gainsB N (numB N t t.size) x, 0) := ⟨0, fun _ _ => by rw [belt_Gains.f, if_pos hsz, h, h2]; rfl⟩
      refine Ev.bind b1 (Ev.bind b2 (Ev.bind hg ?_))
      refine Ev.congr (fun k => if_pos rfl) (Ev.bind hsd ?_)
      refine Ev.step (fun k => by rw [remouldlaw05_BeltValues.j0, if_neg (by decide)]) (Ev.bind hv ?_)
      refine Ev.congr (fun k => if_pos rfl) (Ev.congr (fun k => if_pos rfl) (Ev.bind hgn ?_))
      have hi := ints_f (gainsB N (numB N t t.size) x) (gainsB N (numB N t t.size) x) (by simp [gainsB]; omega)
      rw [decide_eq_true rfl] at hi
      refine Ev.bind hi ?_
      exact Ev.congr (h := fun k => (remouldlaw05_awake.f k).bind fun t => some t) (fun k => by simp) haw

end Go.Proofs.Ytkefmlhkejoknaa.L
