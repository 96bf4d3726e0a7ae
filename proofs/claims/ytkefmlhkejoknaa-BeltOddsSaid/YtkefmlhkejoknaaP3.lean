/- Plain law: awake; the law BeltBests. -/
import Derived.Test.YtkefmlhkejoknaaP2
namespace Go.Proofs.Ytkefmlhkejoknaa.L
set_option linter.unusedVariables false
set_option linter.unusedSimpArgs false
open Go.RowKit Go.Proofs.YtkefmlhkejoknaaW.PrintWords Go.Proofs.YtkefmlhkejoknaaW.PrintLast Go.Proofs.YtkefmlhkejoknaaW.PrintMore

theorem ints_l0 (a b : List Int) (hl : a.length = b.length) (hs : a.length ≤ 1000000) : ∀ d i : Nat, i + d = a.length → a.take i = b.take i → Ev (fun k => remouldlaw05_ints.l0 k a b (i : Int)) (decide (a = b)) := by
  intro d
  induction d with
  | zero =>
    intro i hi h
    obtain rfl : i = a.length := by omega
    rw [List.take_of_length_le (Nat.le_refl _), List.take_of_length_le (by omega)] at h
    rw [decide_eq_true h]
    exact Ev.step (fun k => by rw [remouldlaw05_ints.l0, if_neg (by omega)]) (Ev.const true)
  | succ d ih =>
    intro i hi h
    have hia : i < a.length := by omega
    have hib : i < b.length := by omega
    have ea : rd a (i : Int) = a[i] := by simp [rd, List.getElem?_eq_getElem hia]
    have eb : rd b (i : Int) = b[i] := by simp [rd, List.getElem?_eq_getElem hib]
    by_cases c : rd a (i : Int) = rd b (i : Int)
    · refine Ev.step (fun k => by rw [remouldlaw05_ints.l0, if_pos (by omega), if_pos (by omega), if_pos (by omega), if_pos c, wrap64_id _ (by omega) (by omega)]) ?_
      refine ih (i + 1) (by omega) ?_
      rw [List.take_succ_eq_append_getElem hia, List.take_succ_eq_append_getElem hib, h, ← ea, ← eb, c]
    · have hne : a ≠ b := by
        intro e; subst e; exact c rfl
      rw [decide_eq_false hne]
      exact Ev.step (fun k => by rw [remouldlaw05_ints.l0, if_pos (by omega), if_pos (by omega), if_pos (by omega), if_neg c]) (Ev.const false)
theorem ints_f (a b : List Int) (hs : a.length ≤ 1000000) : Ev (fun k => remouldlaw05_ints.f k a b) (decide (a = b)) := by
  by_cases hl : a.length = b.length
  · exact Ev.congr (fun k => by rw [remouldlaw05_ints.f, if_pos (by omega)]; rfl) (ints_l0 a b hl hs a.length 0 (by omega) rfl)
  · rw [decide_eq_false (fun e => hl (by rw [e]))]
    exact Ev.congr (fun k => by rw [remouldlaw05_ints.f, if_neg (by omega)]) (Ev.const false)

def tri : List S49 := [⟨0, 1, 1⟩, ⟨0, 2, 1⟩, ⟨1, 2, 1⟩]
theorem tri_best : belt_Best.f 3 tri = some (⟨#[48, 48, 49]⟩, 2, 0) := by rfl
theorem tri_count : belt_Count.f 3 tri = some (3, 0) := by rfl
theorem tri_odd : belt_Odd.f 3 tri = some ([0, 1, 2], 0) := by rfl
theorem tri_climb : belt_Climb.f 3 tri ⟨#[48, 48, 48]⟩ = some (⟨#[49, 48, 48]⟩, 1, 0) := by rfl

theorem awake_f : Ev (fun k => remouldlaw05_awake.f k) true := by
  have hi := ints_f [0, 1, 2] [0, 1, 2] (by simp)
  refine Ev.congr (h := fun k => (remouldlaw05_ints.f k [0, 1, 2] [0, 1, 2]).bind fun t150 => (if t150 = true then remouldlaw05_awake.j0 k false else remouldlaw05_awake.j0 k true)) (fun k => ?_) ?_
  · unfold remouldlaw05_awake.f remouldlaw05_triangle.f
    simp only [Option.bind_some]
    rw [show ([⟨0, 1, 1⟩, ⟨0, 2, 1⟩, ⟨1, 2, 1⟩] : List S49) = tri from rfl, tri_best, tri_count, tri_odd, tri_climb]
    simp only [Option.bind_some, ByteArray.toList_eq]
    rfl
  · refine Ev.bind hi ?_
    exact Ev.step (fun k => rfl) (Ev.const true)

theorem pureBests (a0 : Int) (l1 : List S49) : ∃ k, remouldlaw05_BeltBests.f k a0 l1 = some true := by
  apply Ev.get
  have hl : (l1.take 41).length ≤ 41 := by simp; omega
  have hg := graph_f a0 (l1.take 41) hl
  have hx : ∀ k, remouldlaw05_BeltBests.f k a0 l1 = (fun x => (belt_Best.f a0 x).bind fun bt175 => ((belt_Count.f a0 x).bind fun bt178 => ((remouldref05_Graph.f k a0 x).bind fun t180 => (if t180 = true then ((remouldref05_Best.f k a0 x).bind fun bt181 => (if bt175.1.toList = bt181.1.toList then (if bt175.2.1 = bt181.2.1 then (if bt175.2.2 = 0 then (if bt178.1 = bt181.2.2 then (if bt178.2 = 0 then ((remouldlaw05_awake.f k).bind fun t184 => (some t184)) else (some false)) else (some false)) else (some false)) else (some false)) else (some false))) else (if bt175.1.toList = ([] : List UInt8) then (if bt175.2.1 = 0 then (if bt175.2.2 = 2 then (if bt178.1 = 0 then (if bt178.2 = 2 then ((remouldlaw05_awake.f k).bind fun t185 => (some t185)) else (some false)) else (some false)) else (some false)) else (some false)) else (some false)))))) (l1.take 41) := fun k => by
    unfold remouldlaw05_BeltBests.f; rw [edges_f]; rfl
  refine Ev.congr hx ?_
  generalize l1.take 41 = x at hl hg
  have haw : Ev (fun k => (remouldlaw05_awake.f k).bind fun t => some t) true := Ev.bind awake_f (Ev.const true)
  cases h : graphOk a0 x
  · rw [h] at hg
    have e1 : belt_Best.f a0 x = some (⟨#[]⟩, 0, 2) := by rw [belt_Best.f, h]; rfl
    have e2 : belt_Count.f a0 x = some (0, 2) := by rw [belt_Count.f, h]; rfl
    have b1 : Ev (fun _ : Nat => belt_Best.f a0 x) _ := ⟨0, fun _ _ => e1⟩
    have b2 : Ev (fun _ : Nat => belt_Count.f a0 x) _ := ⟨0, fun _ _ => e2⟩
    refine Ev.bind b1 (Ev.bind b2 (Ev.bind hg ?_))
    exact Ev.congr (h := fun k => (remouldlaw05_awake.f k).bind fun t => some t) (fun k => by simp [ByteArray.toList_eq]) haw
  · obtain ⟨h0, hn⟩ := graphOk_n h
    rw [h] at hg
    have hb := best_f a0 x hl h0 hn (graphOk_edges h)
    have e1 : belt_Best.f a0 x = some (textB a0 (bestB a0 x (properB a0) (2 ^ a0.toNat)).1, (bestB a0 x (properB a0) (2 ^ a0.toNat)).2.1, 0) := by rw [belt_Best.f, h]; rfl
    have e2 : belt_Count.f a0 x = some ((bestB a0 x (properB a0) (2 ^ a0.toNat)).2.2, 0) := by rw [belt_Count.f, h]; rfl
    have b1 : Ev (fun _ : Nat => belt_Best.f a0 x) _ := ⟨0, fun _ _ => e1⟩
    have b2 : Ev (fun _ : Nat => belt_Count.f a0 x) _ := ⟨0, fun _ _ => e2⟩
    refine Ev.bind b1 (Ev.bind b2 (Ev.bind hg ?_))
    refine Ev.congr (fun k => if_pos rfl) ?_
    refine Ev.bind hb ?_
    exact Ev.congr (h := fun k => (remouldlaw05_awake.f k).bind fun t => some t) (fun k => by simp) haw

end Go.Proofs.Ytkefmlhkejoknaa.L
