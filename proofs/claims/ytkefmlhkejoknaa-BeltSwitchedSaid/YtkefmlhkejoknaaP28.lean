/- Plain law: the law BeltSwitched. -/
import Derived.Test.YtkefmlhkejoknaaP25
import Derived.Test.YtkefmlhkejoknaaP22
import Derived.Test.YtkefmlhkejoknaaL18
namespace Go.Proofs.Ytkefmlhkejoknaa.L
set_option linter.unusedVariables false
set_option linter.unusedSimpArgs false
open Go.RowKit Go.Proofs.YtkefmlhkejoknaaW.PrintWords Go.Proofs.YtkefmlhkejoknaaW.PrintLast Go.Proofs.YtkefmlhkejoknaaW.PrintMore

theorem edgeOk_neg (n : Int) (e : S49) (h : edgeOk n e = true) : edgeOk n ⟨e.f0, e.f1, - e.f2⟩ = true := by
  rw [edgeOk_iff] at h ⊢
  exact ⟨h.1, h.2.1, by show -50 ≤ -e.f2; omega, by show -e.f2 ≤ 50; omega⟩
theorem hasEdge_switch (n : Int) (t : Nat) (l : List S49) (a b : Int) : hasEdge (switchB n t l) a b = hasEdge l a b := by
  unfold hasEdge switchB
  rw [List.any_map]
  congr 1
  funext e
  simp only [Function.comp_apply]
  split <;> rfl
theorem edgesOk_switch (n : Int) (t : Nat) (l : List S49) : ∀ k, edgesOk n l k = true → edgesOk n (switchB n t l) k = true := by
  intro k
  induction k with
  | zero => intro _; rfl
  | succ k ih =>
    intro h
    rw [edgesOk] at h ⊢
    rw [Bool.and_eq_true] at h
    rw [ih h.1, Bool.true_and]
    have e : (switchB n t l)[k]? = (l[k]?).map fun e => if cutB n t e then (⟨e.f0, e.f1, - e.f2⟩ : S49) else e := by unfold switchB; rw [List.getElem?_map]
    have e2 : (switchB n t l).take k = switchB n t (l.take k) := by unfold switchB; rw [List.map_take]
    rw [e, e2]
    cases hk : l[k]? with
    | none => rfl
    | some x =>
      have h2 := h.2
      rw [hk] at h2
      simp only [Bool.and_eq_true] at h2
      simp only [Option.map_some, hasEdge_switch]
      cases cutB n t x
      · simp only [Bool.false_eq_true, if_false]; rw [h2.1, h2.2]; rfl
      · simp only [if_true]; rw [edgeOk_neg n x h2.1, h2.2]; rfl
theorem graphOk_switch {n : Int} {l : List S49} (t : Nat) (h : graphOk n l = true) : graphOk n (switchB n t l) = true := by
  have h1 := graphOk_n h
  have h2 := graphOk_len h
  have h3 : edgesOk n l l.length = true := by
    unfold graphOk at h
    simp only [Bool.and_eq_true] at h
    exact h.2.2
  have hlen : (switchB n t l).length = l.length := by simp [switchB]
  rw [graphOk, (inB_iff n 1 12).2 h1, decide_eq_true (show (switchB n t l).length ≤ 40 by omega), hlen, edgesOk_switch n t l l.length h3]; rfl
theorem switch_b (N s : Nat) (hs : s < 2 ^ N) (hN : N ≤ 12) (g : List S49) (hg : graphOk N g = true) : belt_Switch.f N g (textB N s) = some (switchB N s g, 0) := by
  obtain ⟨h1, h2⟩ := text_side N s hs
  rw [belt_Switch.f, if_pos (by rw [text_size]; omega), hg, h1, h2]; rfl
theorem pureSwitched : remouldlaw05_BeltSwitched.Pure := by
  intro a0 l1 a2 a3 _ _ hsz _ _ _
  apply Ev.get
  have haw : Ev (fun k => (remouldlaw05_awake.f k).bind fun t => some t) true := Ev.bind awake_f (Ev.const true)
  obtain ⟨N, g, ht, h0, hN, hg, hlow, hlen⟩ := tame_f a0 l1 40 (-50) hsz (by omega) (by omega) (by omega)
  have b0 : Ev (fun _ : Nat => remouldlaw05_tame.f a0 l1 40 (-50)) ((N : Int), g) := ⟨0, fun _ _ => ht⟩
  have hlaw := lawside_f a2 N hN
  have hlaw2 := lawside_f a3 N hN
  have hs := sideN_lt a2 N
  have hu := sideN_lt a3 N
  generalize sideN a2 N = s at hlaw hs
  generalize sideN a3 N = t at hlaw2 hu
  have hgo := graphOk_switch t hg
  have hso : (switchB N t g).length = g.length := by simp [switchB]
  have b1 : Ev (fun _ : Nat => belt_Switch.f N g (textB N t)) _ := ⟨0, fun _ _ => switch_b N t hu hN g hg⟩
  have hgr := graph_f (N : Int) (switchB N t g) (by omega)
  rw [hgo] at hgr
  refine Ev.bind b0 (Ev.bind hlaw (Ev.bind hlaw2 (Ev.bind b1 ?_)))
  refine Ev.congr (fun k => if_pos rfl) (Ev.bind hgr (Ev.congr (fun k => if_pos rfl) ?_))
  have hx := Nat.xor_lt_two_pow hs hu
  have c1 : Ev (fun _ : Nat => belt_Value.f N (switchB N t g) (textB N s)) _ := ⟨0, fun _ _ => value_b N s h0 hN hs _ hgo⟩
  have c2 : Ev (fun _ : Nat => belt_Value.f N g (textB N (s ^^^ t))) _ := ⟨0, fun _ _ => value_b N _ h0 hN hx g hg⟩
  have c3 : Ev (fun _ : Nat => belt_Value.f N g (textB N t)) _ := ⟨0, fun _ _ => value_b N t h0 hN hu g hg⟩
  have c4 : Ev (fun _ : Nat => belt_Switch.f N (switchB N t g) (textB N t)) _ := ⟨0, fun _ _ => switch_b N t hu hN _ hgo⟩
  have c5 : Ev (fun _ : Nat => belt_Best.f N g) _ := ⟨0, fun _ _ => best_b N g hg⟩
  have c6 : Ev (fun _ : Nat => belt_Best.f N (switchB N t g)) _ := ⟨0, fun _ _ => best_b N _ hgo⟩
  have hne := edgesNe_of hg
  have w1 := val_bound40 N (s ^^^ t) g hlen (graphOk_edges hg)
  have w2 := val_bound40 N t g hlen (graphOk_edges hg)
  have k1 := val_switch N s t g
  have k2 := best_switch N h0 g hne t hu
  obtain ⟨d1, d2, d3, d4, d5⟩ := best_is N h0 g hne
  have w3 := val_bound40 N (bestB N g (properB N) (2 ^ N)).1 g hlen (graphOk_edges hg)
  have hsm := same_f g (by omega)
  have hj : Ev (fun k => remouldlaw05_BeltSwitched.j0 k N g (textB N s) (textB N t) (switchB N t g) false) true := by
    refine Ev.step (fun k => by rw [remouldlaw05_BeltSwitched.j0, if_neg (by decide)]) ?_
    refine Ev.bind c1 (Ev.bind (turned_f N s t hN hs hu) (Ev.bind c2 (Ev.bind c3 (Ev.bind c4 (Ev.bind c5 (Ev.bind c6 ?_))))))
    iterate 6 refine Ev.congr (fun k => if_pos rfl) ?_
    refine Ev.congr (fun k => if_pos (by show valB N s (switchB N t g) = wrap64 (valB N (s ^^^ t) g - valB N t g); rw [wrap64_id _ (by omega) (by omega)]; exact k1)) ?_
    dsimp only
    rw [switch_twice]
    refine Ev.bind hsm (Ev.congr (fun k => if_pos rfl) ?_)
    exact Ev.congr (fun k => if_pos (by show (bestB N (switchB N t g) (properB N) (2 ^ N)).2.1 = wrap64 ((bestB N g (properB N) (2 ^ N)).2.1 - valB N t g); rw [wrap64_id _ (by omega) (by omega)]; exact k2)) haw
  refine Ev.congr (fun k => ?_) hj
  have : ((((switchB N t g).length : Nat) : Int) != ((g.length : Nat) : Int)) = false := by rw [hso]; simp
  show remouldlaw05_BeltSwitched.j0 k N g (textB N s) (textB N t) (switchB N t g) ((((switchB N t g).length : Nat) : Int) != ((g.length : Nat) : Int)) = _
  rw [this]

end Go.Proofs.Ytkefmlhkejoknaa.L
