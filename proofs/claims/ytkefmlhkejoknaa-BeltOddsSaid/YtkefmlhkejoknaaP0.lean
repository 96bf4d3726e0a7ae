/- Plain law: what the reference's printed functions come to when the figure that bounds their steps is great enough. -/
import Derived.Test.YtkefmlhkejoknaaXBest
import Derived.Test.YtkefmlhkejoknaaL1
import Derived.Test.YtkefmlhkejoknaaL2
import Derived.Test.YtkefmlhkejoknaaL4
namespace Go.Proofs.Ytkefmlhkejoknaa.L
set_option linter.unusedVariables false
set_option linter.unusedSimpArgs false
open Go.RowKit Go.Proofs.YtkefmlhkejoknaaW.PrintWords Go.Proofs.YtkefmlhkejoknaaW.PrintLast Go.Proofs.YtkefmlhkejoknaaW.PrintMore

/-- From some figure on, it is r. -/
def Ev {α : Type} (g : Nat → Option α) (r : α) : Prop := ∃ K, ∀ k, K ≤ k → g k = some r
theorem Ev.const {α : Type} (r : α) : Ev (fun _ => some r) r := ⟨0, fun _ _ => rfl⟩
theorem Ev.step {α : Type} {g h : Nat → Option α} {r : α} (he : ∀ k, g (k + 1) = h k) (hh : Ev h r) : Ev g r := by
  obtain ⟨K, hK⟩ := hh
  refine ⟨K + 1, fun k hk => ?_⟩
  obtain ⟨j, rfl⟩ : ∃ j, k = j + 1 := ⟨k - 1, by omega⟩
  rw [he]; exact hK j (by omega)
theorem Ev.bind {α β : Type} {g : Nat → Option α} {h : Nat → α → Option β} {a : α} {b : β} (hg : Ev g a) (hh : Ev (fun k => h k a) b) : Ev (fun k => (g k).bind (h k)) b := by
  obtain ⟨K, hK⟩ := hg
  obtain ⟨M, hM⟩ := hh
  refine ⟨K + M, fun k hk => ?_⟩
  show (g k).bind (h k) = some b
  rw [hK k (by omega)]
  exact hM k (by omega)
theorem Ev.congr {α : Type} {g h : Nat → Option α} {r : α} (he : ∀ k, g k = h k) (hh : Ev h r) : Ev g r := by
  obtain ⟨K, hK⟩ := hh
  exact ⟨K, fun k hk => (he k).trans (hK k hk)⟩
theorem Ev.get {α : Type} {g : Nat → Option α} {r : α} (h : Ev g r) : ∃ k, g k = some r := by
  obtain ⟨K, hK⟩ := h
  exact ⟨K, hK K (Nat.le_refl _)⟩
theorem wrap64_id (x : Int) (h1 : -9223372036854775808 ≤ x) (h2 : x ≤ 9223372036854775807) : wrap64 x = x := by
  unfold wrap64; omega

/-- A list is cut as the law cuts it. -/
theorem edges_f (l : List S49) : remouldlaw05_edges.f l = some (l.take 41) := by
  unfold remouldlaw05_edges.f mn
  by_cases h : 41 < (l.length : Int)
  · rw [if_pos h]
    simp only [Int.reduceLE, if_true, Option.bind_some, List.nil_append, List.length_nil]
    rw [if_pos (by omega), if_pos (by simp; omega)]
    rfl
  · rw [if_neg h, if_pos (by omega), if_pos (by omega)]
    simp only [Option.bind_some, List.nil_append, List.length_nil]
    rw [if_pos (by simp; omega)]
    have e : (l.length : Int).toNat = l.length := by omega
    rw [e, List.take_of_length_le (Nat.le_refl _), List.take_of_length_le (by omega)]

/-- The edge at a place. -/
theorem rd_at (l : List S49) (i : Nat) (h : i < l.length) : rd_T49 l (i : Int) = l[i] := by simp [rd_T49, List.getElem?_eq_getElem h]

/-- The inner loop of Graph: no edge before i has the same ends. -/
theorem graph_l1 (n : Int) (l : List S49) (i : Nat) (hi : i < l.length) (hl : l.length ≤ 41) (r : Bool) (hr : hasEdge (l.take i) (rd_T49 l (i : Int)).f0 (rd_T49 l (i : Int)).f1 = false → Ev (fun k => remouldref05_Graph.l0 k n l ((i : Int) + 1)) r) (hf : hasEdge (l.take i) (rd_T49 l (i : Int)).f0 (rd_T49 l (i : Int)).f1 = true → r = false) :
    ∀ d k' : Nat, k' + d = i → hasEdge (l.take k') (rd_T49 l (i : Int)).f0 (rd_T49 l (i : Int)).f1 = false → Ev (fun k => remouldref05_Graph.l1 k n l (i : Int) (k' : Int)) r := by
  intro d
  induction d with
  | zero =>
    intro k' hk h0
    obtain rfl : k' = i := by omega
    refine Ev.step (fun k => by rw [remouldref05_Graph.l1, if_neg (by omega), wrap64_id _ (by omega) (by omega)]) (hr h0)
  | succ d ih =>
    intro k' hk h0
    have hsnoc : hasEdge (l.take (k' + 1)) (rd_T49 l (i : Int)).f0 (rd_T49 l (i : Int)).f1 = (((rd_T49 l (k' : Int)).f0 == (rd_T49 l (i : Int)).f0) && ((rd_T49 l (k' : Int)).f1 == (rd_T49 l (i : Int)).f1)) := by
      rw [List.take_succ_eq_append_getElem (by omega : k' < l.length), ← rd_at l k' (by omega)]
      simp only [hasEdge, List.any_append, List.any_cons, List.any_nil, Bool.or_false]
      rw [show (l.take k').any (fun e => e.f0 == (rd_T49 l (i : Int)).f0 && e.f1 == (rd_T49 l (i : Int)).f1) = false from h0, Bool.false_or]
    have hmore : hasEdge (l.take (k' + 1)) (rd_T49 l (i : Int)).f0 (rd_T49 l (i : Int)).f1 = true → r = false := fun h => hf (by
      unfold hasEdge at h ⊢
      rw [List.any_eq_true] at h ⊢
      obtain ⟨x, hx, hp⟩ := h
      exact ⟨x, (List.take_sublist_take_left (by omega : k' + 1 ≤ i)).subset hx, hp⟩)
    have hbody : ∀ k, remouldref05_Graph.l1 (k + 1) n l (i : Int) (k' : Int) = (if (rd_T49 l (k' : Int)).f0 = (rd_T49 l (i : Int)).f0 then (if (rd_T49 l (k' : Int)).f1 = (rd_T49 l (i : Int)).f1 then some false else remouldref05_Graph.l1 k n l (i : Int) ((k' + 1 : Nat) : Int)) else remouldref05_Graph.l1 k n l (i : Int) ((k' + 1 : Nat) : Int)) := by
      intro k
      rw [remouldref05_Graph.l1, if_pos (by omega), if_pos (by omega), if_pos (by omega), if_pos (by omega), if_pos (by omega), wrap64_id _ (by omega) (by omega)]
      rfl
    by_cases e0 : (rd_T49 l (k' : Int)).f0 = (rd_T49 l (i : Int)).f0
    · by_cases e1 : (rd_T49 l (k' : Int)).f1 = (rd_T49 l (i : Int)).f1
      · have : r = false := hmore (by rw [hsnoc, e0, e1]; simp)
        subst this
        exact Ev.step (fun k => by rw [hbody, if_pos e0, if_pos e1]) (Ev.const false)
      · exact Ev.step (fun k => by rw [hbody, if_pos e0, if_neg e1]) (ih (k' + 1) (by omega) (by rw [hsnoc]; simp [e1]))
    · exact Ev.step (fun k => by rw [hbody, if_neg e0]) (ih (k' + 1) (by omega) (by rw [hsnoc]; simp [e0]))

theorem edgesOk_bad (n : Int) (l : List S49) (i : Nat) (hi : i < l.length) (h : edgesOk n l (i + 1) = false) : edgesOk n l l.length = false := by
  cases hh : edgesOk n l l.length
  · rfl
  · have := edgesOk_le n l (i + 1) (l.length - (i + 1)) (by rw [show i + 1 + (l.length - (i + 1)) = l.length by omega]; exact hh)
    rw [h] at this; cases this

theorem graph_l0 (n : Int) (l : List S49) (hl : l.length ≤ 41) : ∀ d i : Nat, i + d = l.length → edgesOk n l i = true → Ev (fun k => remouldref05_Graph.l0 k n l (i : Int)) (edgesOk n l l.length) := by
  intro d
  induction d with
  | zero =>
    intro i hi h
    obtain rfl : i = l.length := by omega
    rw [h]
    exact Ev.step (fun k => by rw [remouldref05_Graph.l0, if_neg (by omega)]) (Ev.const true)
  | succ d ih =>
    intro i hi h
    have hlt : i < l.length := by omega
    have hs := edgesOk_succ n l i hlt
    rw [h, Bool.true_and] at hs
    have htrue : edgeOk n (rd_T49 l (i : Int)) = false → Ev (fun k => remouldref05_Graph.j2 k n l (i : Int) true) (edgesOk n l l.length) := fun hb => by
      rw [edgesOk_bad n l i hlt (by rw [hs, hb]; rfl)]
      exact Ev.step (fun k => by rw [remouldref05_Graph.j2, if_pos rfl]) (Ev.const false)
    have hfalse : edgeOk n (rd_T49 l (i : Int)) = true → Ev (fun k => remouldref05_Graph.j2 k n l (i : Int) false) (edgesOk n l l.length) := fun hb => by
      refine Ev.step (fun k => by rw [remouldref05_Graph.j2, if_neg (by decide)]) ?_
      refine graph_l1 n l i hlt hl _ (fun h0 => ?_) (fun h0 => ?_) i 0 (by omega) (by simp [hasEdge])
      · exact ih (i + 1) (by omega) (by rw [hs, hb, h0]; rfl)
      · exact edgesOk_bad n l i hlt (by rw [hs, hb, h0]; rfl)
    have hok := edgeOk_iff n (rd_T49 l (i : Int))
    obtain ⟨e, he⟩ : ∃ e, rd_T49 l (i : Int) = e := ⟨_, rfl⟩
    rw [he] at hs htrue hfalse hok
    refine Ev.step (h := fun k => (if e.f0 < 0 then (remouldref05_Graph.j2 k n l i true) else (if e.f0 ≥ e.f1 then (remouldref05_Graph.j2 k n l i true) else (if e.f1 ≥ n then (remouldref05_Graph.j2 k n l i true) else (if e.f2 < (-50) then (remouldref05_Graph.j2 k n l i true) else (remouldref05_Graph.j2 k n l i (decide (e.f2 > 50)))))))) (fun k => ?_) ?_
    · show remouldref05_Graph.l0 (k + 1) n l i = _
      rw [remouldref05_Graph.l0, if_pos (by omega), if_pos (by omega), he]
    · by_cases c1 : e.f0 < 0
      · exact Ev.congr (fun k => if_pos c1) (htrue (Bool.eq_false_iff.2 (fun hh => by have := hok.1 hh; omega)))
      · refine Ev.congr (fun k => if_neg c1) ?_
        by_cases c2 : e.f0 ≥ e.f1
        · exact Ev.congr (fun k => if_pos c2) (htrue (Bool.eq_false_iff.2 (fun hh => by have := hok.1 hh; omega)))
        · refine Ev.congr (fun k => if_neg c2) ?_
          by_cases c3 : e.f1 ≥ n
          · exact Ev.congr (fun k => if_pos c3) (htrue (Bool.eq_false_iff.2 (fun hh => by have := hok.1 hh; omega)))
          · refine Ev.congr (fun k => if_neg c3) ?_
            by_cases c4 : e.f2 < -50
            · exact Ev.congr (fun k => if_pos c4) (htrue (Bool.eq_false_iff.2 (fun hh => by have := hok.1 hh; omega)))
            · refine Ev.congr (fun k => if_neg c4) ?_
              by_cases c5 : e.f2 > 50
              · rw [decide_eq_true c5]
                exact htrue (Bool.eq_false_iff.2 (fun hh => by have := hok.1 hh; omega))
              · rw [decide_eq_false c5]
                exact hfalse (hok.2 (by omega))

theorem graph_f (n : Int) (l : List S49) (hl : l.length ≤ 41) : Ev (fun k => remouldref05_Graph.f k n l) (graphOk n l) := by
  have hbad : graphOk n l = false → Ev (fun k => remouldref05_Graph.j0 k n l true) (graphOk n l) := fun h => by
    rw [h]; exact Ev.step (fun k => by rw [remouldref05_Graph.j0, if_pos rfl]) (Ev.const false)
  by_cases c1 : n < 1
  · exact Ev.congr (fun k => by rw [remouldref05_Graph.f, if_pos c1]) (hbad (by simp [graphOk, inB]; omega))
  · by_cases c2 : n > 12
    · exact Ev.congr (fun k => by rw [remouldref05_Graph.f, if_neg c1, if_pos c2]) (hbad (by simp [graphOk, inB]; omega))
    · by_cases c3 : (l.length : Int) > 40
      · exact Ev.congr (fun k => by rw [remouldref05_Graph.f, if_neg c1, if_neg c2, decide_eq_true c3]) (hbad (by simp [graphOk, inB]; omega))
      · refine Ev.congr (fun k => by rw [remouldref05_Graph.f, if_neg c1, if_neg c2, decide_eq_false c3]) ?_
        refine Ev.step (fun k => by rw [remouldref05_Graph.j0, if_neg (by decide)]) ?_
        have e : graphOk n l = edgesOk n l l.length := by rw [graphOk, (inB_iff n 1 12).2 ⟨by omega, by omega⟩, decide_eq_true (show l.length ≤ 40 by omega)]; rfl
        rw [e]
        exact graph_l0 n l hl l.length 0 (by omega) rfl

end Go.Proofs.Ytkefmlhkejoknaa.L
