/- Plain law: the law BeltSwitches. -/
import Derived.Test.YtkefmlhkejoknaaP25
import Derived.Test.YtkefmlhkejoknaaP4
import Derived.Test.YtkefmlhkejoknaaL16
namespace Go.Proofs.Ytkefmlhkejoknaa.L
set_option linter.unusedVariables false
set_option linter.unusedSimpArgs false
open Go.RowKit Go.Proofs.YtkefmlhkejoknaaW.PrintWords Go.Proofs.YtkefmlhkejoknaaW.PrintLast Go.Proofs.YtkefmlhkejoknaaW.PrintMore

theorem rswitch_f (N s : Nat) (hN : N ≤ 12) (l : List S49) (hl : l.length ≤ 41) (hE : EdgesIn N l) : remouldref05_Switch.f l (textB N s) = some (switchB N s l) := by
  have hsz := text_size N s
  have hall : (l.all (swIn (textB N s))) = true := by
    rw [List.all_eq_true]
    intro e he
    obtain ⟨i, hi, rfl⟩ := List.getElem_of_mem he
    have := hE i hi
    rw [rd_at l i hi] at this
    simp only [swIn, hsz, Bool.and_eq_true, decide_eq_true_eq]
    omega
  rw [remouldref05_Switch.f, if_pos ⟨by omega, by rw [hsz]; omega, hall⟩]
  congr 1
  unfold switchB
  apply List.map_congr_left
  intro e he
  have hb := mem_edge hE he
  have hcut := bt_cut N s e.f0 e.f1 ⟨hb.1, hb.2.1⟩ ⟨hb.2.2.1, hb.2.2.2⟩
  unfold swE
  cases hc : cutB N s e
  · rw [if_pos (hcut.2 hc), if_neg (by decide)]
  · rw [if_neg (fun h => by have := hcut.1 h; rw [cutB] at hc; rw [hc] at this; cases this), if_pos rfl]
theorem pureSwitches (a0 : Int) (l1 : List S49) (a2 : ByteArray) : ∃ k, remouldlaw05_BeltSwitches.f k a0 l1 a2 = some true := by
  apply Ev.get
  have hl : (l1.take 41).length ≤ 41 := by simp; omega
  have ht := cut13_size a2
  have hg := graph_f a0 (l1.take 41) hl
  have hsd := side_f a0 (cut13 a2) (by omega)
  have e0 : Ev (fun _ : Nat => remouldlaw05_edges.f l1) (l1.take 41) := ⟨0, fun _ _ => edges_f l1⟩
  have e1 : Ev (fun _ : Nat => remouldlaw05_brief.f a2) (cut13 a2) := ⟨0, fun _ _ => brief_f a2⟩
  refine Ev.bind e0 (Ev.bind e1 ?_)
  generalize l1.take 41 = x at hl hg
  generalize cut13 a2 = t at ht hsd
  have haw : Ev (fun k => (remouldlaw05_awake.f k).bind fun t => some t) true := Ev.bind awake_f (Ev.const true)
  have hbad : Ev (fun k => remouldlaw05_BeltSwitches.j0 k x t [] 2 true) true := by
    refine Ev.step (fun k => by rw [remouldlaw05_BeltSwitches.j0, if_pos rfl]) ?_
    exact Ev.congr (h := fun k => (remouldlaw05_awake.f k).bind fun t => some t) (fun k => by simp) haw
  have hsz : t.size ≤ 140737488351232 := by omega
  cases h : graphOk a0 x
  · rw [h] at hg
    have b1 : Ev (fun _ : Nat => belt_Switch.f a0 x t) ([], 2) := ⟨0, fun _ _ => by rw [belt_Switch.f, if_pos hsz, h]; rfl⟩
    refine Ev.bind b1 (Ev.bind hg ?_)
    exact Ev.congr (fun k => if_neg (by decide)) hbad
  · rw [h] at hg
    cases h2 : sideOk a0 t
    · rw [h2] at hsd
      have b1 : Ev (fun _ : Nat => belt_Switch.f a0 x t) ([], 2) := ⟨0, fun _ _ => by rw [belt_Switch.f, if_pos hsz, h, h2]; rfl⟩
      refine Ev.bind b1 (Ev.bind hg ?_)
      exact Ev.congr (fun k => if_pos rfl) (Ev.bind hsd hbad)
    · rw [h2] at hsd
      obtain ⟨h0, hn⟩ := graphOk_n h
      have hE := graphOk_edges h
      obtain ⟨N, rfl⟩ := Int.eq_ofNat_of_zero_le (show 0 ≤ a0 by omega)
      have htx := side_text N t h2
      have hv := rswitch_f N (numB N t t.size) (by omega) x hl hE
      rw [htx] at hv
      have b1 : Ev (fun _ : Nat => belt_Switch.f N x t) (switchB N (numB N t t.size) x, 0) := ⟨0, fun _ _ => by rw [belt_Switch.f, if_pos hsz, h, h2]; rfl⟩
      have b2 : Ev (fun _ : Nat => remouldref05_Switch.f x t) _ := ⟨0, fun _ _ => hv⟩
      refine Ev.bind b1 (Ev.bind hg ?_)
      refine Ev.congr (fun k => if_pos rfl) (Ev.bind hsd ?_)
      refine Ev.step (fun k => by rw [remouldlaw05_BeltSwitches.j0, if_neg (by decide)]) (Ev.bind b2 ?_)
      refine Ev.bind (same_f (switchB N (numB N t t.size) x) (by simp [switchB]; omega)) ?_
      exact Ev.congr (fun k => if_pos rfl) (Ev.congr (fun k => if_pos rfl) haw)

end Go.Proofs.Ytkefmlhkejoknaa.L
