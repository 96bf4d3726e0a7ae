/- Plain law: two lists of edges are the same. -/
import Derived.Test.YtkefmlhkejoknaaP7
import Derived.Test.YtkefmlhkejoknaaL15
namespace Go.Proofs.Ytkefmlhkejoknaa.L
set_option linter.unusedVariables false
set_option linter.unusedSimpArgs false
open Go.RowKit Go.Proofs.YtkefmlhkejoknaaW.PrintWords Go.Proofs.YtkefmlhkejoknaaW.PrintLast Go.Proofs.YtkefmlhkejoknaaW.PrintMore

theorem same_l0 (l : List S49) (hs : l.length ≤ 1000000) : ∀ d i : Nat, i + d = l.length → Ev (fun k => remouldlaw05_same.l0 k l l (i : Int)) true := by
  intro d
  induction d with
  | zero =>
    intro i hi
    obtain rfl : i = l.length := by omega
    exact Ev.step (fun k => by rw [remouldlaw05_same.l0, if_neg (by omega)]) (Ev.const true)
  | succ d ih =>
    intro i hi
    exact Ev.step (fun k => by rw [remouldlaw05_same.l0, if_pos (by omega), if_pos (by omega), if_pos (by omega), if_neg (by simp), wrap64_id _ (by omega) (by omega)]; rfl) (ih (i + 1) (by omega))
theorem same_f (l : List S49) (hs : l.length ≤ 1000000) : Ev (fun k => remouldlaw05_same.f k l l) true :=
  Ev.congr (fun k => by rw [remouldlaw05_same.f, if_pos rfl]; rfl) (same_l0 l hs l.length 0 (by omega))

end Go.Proofs.Ytkefmlhkejoknaa.L
