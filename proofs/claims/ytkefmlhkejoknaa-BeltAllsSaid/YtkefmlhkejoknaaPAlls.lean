/- Plain law: the law BeltAlls. -/
import Derived.Test.YtkefmlhkejoknaaP32
import Derived.Test.YtkefmlhkejoknaaL30
namespace Go.Proofs.Ytkefmlhkejoknaa.L
set_option linter.unusedVariables false
set_option linter.unusedSimpArgs false
open Go.RowKit Go.Proofs.YtkefmlhkejoknaaW.PrintWords Go.Proofs.YtkefmlhkejoknaaW.PrintLast Go.Proofs.YtkefmlhkejoknaaW.PrintMore

theorem pureAlls (a0 : Int) (l1 : List S49) : ∃ k, remouldlaw05_BeltAlls.f k a0 l1 = some true := by
  apply Ev.get
  have hl : (l1.take 41).length ≤ 41 := by simp; omega
  have hg := graph_f a0 (l1.take 41) hl
  have e0 : Ev (fun _ : Nat => remouldlaw05_edges.f l1) (l1.take 41) := ⟨0, fun _ _ => edges_f l1⟩
  refine Ev.bind e0 ?_
  generalize l1.take 41 = x at hl hg
  have haw : Ev (fun k => (remouldlaw05_awake.f k).bind fun t => some t) true := Ev.bind awake_f (Ev.const true)
  cases h : graphOk a0 x
  · rw [h] at hg
    have b1 : Ev (fun _ : Nat => belt_Values.f a0 x) ([], 2) := ⟨0, fun _ _ => by rw [belt_Values.f, h]; rfl⟩
    refine Ev.bind b1 (Ev.bind hg ?_)
    exact Ev.congr (h := fun k => (remouldlaw05_awake.f k).bind fun t => some t) (fun k => by simp) haw
  · obtain ⟨h0, hn⟩ := graphOk_n h
    rw [h] at hg
    obtain ⟨N, rfl⟩ := Int.eq_ofNat_of_zero_le (show 0 ≤ a0 by omega)
    have hp : 2 ^ N ≤ 2 ^ 12 := Nat.pow_le_pow_right (by omega) (by omega)
    have b1 : Ev (fun _ : Nat => belt_Values.f N x) (valsTo N x (2 ^ N), 0) := ⟨0, fun _ _ => by rw [belt_Values.f, h]; rfl⟩
    refine Ev.bind b1 (Ev.bind hg (Ev.congr (fun k => if_pos rfl) (Ev.bind (values_f N (by omega) (by omega) x hl (graphOk_edges h)) ?_)))
    have hi := ints_f (valsTo N x (2 ^ N)) (valsTo N x (2 ^ N)) (by have := valsTo_length N x (2 ^ N); omega)
    rw [decide_eq_true rfl] at hi
    refine Ev.bind hi ?_
    exact Ev.congr (h := fun k => (remouldlaw05_awake.f k).bind fun t => some t) (fun k => by simp) haw

end Go.Proofs.Ytkefmlhkejoknaa.L
