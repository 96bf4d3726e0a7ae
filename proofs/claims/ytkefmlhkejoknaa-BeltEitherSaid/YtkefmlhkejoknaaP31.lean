/- Plain law: the law BeltEither. -/
import Derived.Test.YtkefmlhkejoknaaP14
import Derived.Test.YtkefmlhkejoknaaP16
import Derived.Test.YtkefmlhkejoknaaP17
import Derived.Test.YtkefmlhkejoknaaL28
namespace Go.Proofs.Ytkefmlhkejoknaa.L
set_option linter.unusedVariables false
set_option linter.unusedSimpArgs false
open Go.RowKit Go.Proofs.YtkefmlhkejoknaaW.PrintWords Go.Proofs.YtkefmlhkejoknaaW.PrintLast Go.Proofs.YtkefmlhkejoknaaW.PrintMore

theorem contains_false_mem {p : List Int} {v : Int} (h : (!p.contains v) = true) : v ∉ p := by
  intro hm
  rw [Bool.not_eq_true', Bool.eq_false_iff] at h
  exact h (by rw [List.contains_iff_mem]; exact hm)
theorem cyc_sound (n : Int) (l : List S49) (size : Nat) (hodd : size % 2 = 1) (h3 : 3 ≤ size) : ∀ (d : Nat) (p x : List Int), PathIs l p → p.length + d = size → x ∈ cycB n l size d p → CycIs l x := by
  intro d
  induction d with
  | zero =>
    intro p x hp hlen hx
    have e0 : p.headD 0 = rd p 0 := by obtain ⟨hne, _⟩ := hp; cases p <;> simp [rd]
    rw [cycB, e0, getLast_getD, ← rd_getD, ← rd_getD] at hx
    split at hx
    · simp at hx
    · rename_i hb
      simp only [List.mem_singleton] at hx
      subst hx
      rw [leaf_iff hp (by omega) (by omega)]
      intro hc
      apply hb
      simp only [Bool.or_eq_true, decide_eq_true_eq, Bool.not_eq_true']
      exact hc
  | succ d ih =>
    intro p x hp hlen hx
    have hne := hp.1
    rw [cycB_step n l size d p _ _ hne rfl rfl, List.mem_flatMap] at hx
    obtain ⟨v, hv, hx⟩ := hx
    rw [List.mem_map] at hv
    obtain ⟨i, _, rfl⟩ := hv
    split at hx
    · rename_i hc
      rw [Bool.and_eq_true] at hc
      refine ih _ x (hp.snoc hc.1 ?_ (contains_false_mem hc.2)) (by simp; omega) hx
      show rd p ((0 : Nat) : Int) < _
      omega
    · simp at hx
theorem cycles_sound {n : Int} {l : List S49} {size : Nat} (hodd : size % 2 = 1) (h3 : 3 ≤ size) {x : List Int} (hx : x ∈ cyclesB n l size) : CycIs l x := by
  unfold cyclesB at hx
  rw [List.mem_flatMap] at hx
  obtain ⟨v, _, hv⟩ := hx
  exact cyc_sound n l size hodd h3 (size - 1) _ x (PathIs.one l _) (by simp; omega) hv
theorem cyc_in {n : Int} {l : List S49} (hU : UpIn n l) {c : List Int} (h : CycIs l c) (i : Nat) (hi : i < c.length) : 0 ≤ rd c (i : Int) ∧ rd c (i : Int) < n := JB_in hU _ _ (h.2.2.2 i hi).1
def unAt (N t : Nat) (c : List Int) (i : Nat) : Bool := hasB N t (rd c (i : Int)) == hasB N t (rd c (((i + 1) % c.length : Nat) : Int))
theorem uncut_exists (N t : Nat) {l : List S49} {c : List Int} (h : CycIs l c) : (List.range c.length).any (unAt N t c) = true := by
  obtain ⟨h3, hodd, _, _⟩ := h
  obtain ⟨i, hi, he⟩ := cycle_uncut c.length hodd (fun i => hasB N t (rd c ((i % c.length : Nat) : Int))) (by simp)
  rw [List.any_eq_true]
  refine ⟨i, by simpa using hi, ?_⟩
  unfold unAt
  simp only [Nat.mod_eq_of_lt hi] at he
  rw [he]; simp
theorem either_l1 (N t : Nat) (hN : N ≤ 12) {l : List S49} (hU : UpIn N l) {c : List Int} (h : CycIs l c) (hlen : c.length ≤ 1000) : ∀ d i : Nat, i + d = c.length →
    Ev (fun k => remouldlaw05_BeltEither.l1 k c 1 0 (textB N t) ((List.range i).any (unAt N t c)) i) true := by
  have haw : Ev (fun k => (remouldlaw05_awake.f k).bind fun t => some t) true := Ev.bind awake_f (Ev.const true)
  have h3 := h.1
  have hsz := text_size N t
  intro d
  induction d with
  | zero =>
    intro i hi
    obtain rfl : i = c.length := by omega
    rw [uncut_exists N t h]
    exact Ev.step (fun k => by rw [remouldlaw05_BeltEither.l1, if_neg (by omega), if_pos rfl, if_pos rfl, if_pos rfl]) haw
  | succ d ih =>
    intro i hi
    have hlt : i < c.length := by omega
    have ih' := ih (i + 1) (by omega)
    rw [List.range_succ, List.any_append] at ih'
    simp only [List.any_cons, List.any_nil, Bool.or_false] at ih'
    cases hf : (List.range i).any (unAt N t c)
    · rw [hf, Bool.false_or] at ih'
      have a := cyc_in hU h i hlt
      have hj : (i + 1) % c.length < c.length := Nat.mod_lt _ (by omega)
      have b := cyc_in hU h _ hj
      have hrem : Int.tmod (wrap64 ((i : Int) + 1)) (c.length : Int) = (((i + 1) % c.length : Nat) : Int) := by
        rw [wrap64_id _ (by omega) (by omega), Int.tmod_eq_emod_of_nonneg (by omega)]; rfl
      have hun : (bt (textB (N : Int) t) (rd c (i : Int)) == bt (textB (N : Int) t) (rd c (((i + 1) % c.length : Nat) : Int))) = unAt N t c i := by
        have hcut := bt_cut N t _ _ a b
        unfold unAt
        cases hq : (hasB N t (rd c (i : Int)) != hasB N t (rd c (((i + 1) % c.length : Nat) : Int)))
        · rw [hcut.2 hq]
          have : (hasB N t (rd c (i : Int)) == hasB N t (rd c (((i + 1) % c.length : Nat) : Int))) = true := by
            simpa [bne] using hq
          rw [this]; simp
        · have h1 : ¬ bt (textB (N : Int) t) (rd c (i : Int)) = bt (textB (N : Int) t) (rd c (((i + 1) % c.length : Nat) : Int)) := fun e => by
            rw [hcut.1 e] at hq; cases hq
          have h2 : (hasB N t (rd c (i : Int)) == hasB N t (rd c (((i + 1) % c.length : Nat) : Int))) = false := by
            simpa [bne] using hq
          rw [h2, beq_eq_false_iff_ne]; exact h1
      refine Ev.step (fun k => ?_) ih'
      rw [remouldlaw05_BeltEither.l1, if_pos (by omega), if_neg (by decide), hrem, if_pos (by omega), if_pos a.1, if_pos (by rw [hsz]; exact a.2), if_neg (by omega), if_pos (by omega), if_pos (by omega), if_pos b.1, if_pos (by rw [hsz]; exact b.2), hun, wrap64_id _ (by omega) (by omega)]
      rfl
    · rw [hf, Bool.true_or] at ih'
      exact Ev.step (fun k => by rw [remouldlaw05_BeltEither.l1, if_pos (by omega), if_pos rfl, wrap64_id _ (by omega) (by omega)]; rfl) ih'
theorem either_l0 (N s : Nat) (hN : N ≤ 12) (g : List S49) (hlen : g.length ≤ 40) (hE : EdgesIn N g) (hall : allCut N g s = true) : ∀ d i : Nat, i + d = g.length → Ev (fun k => remouldlaw05_BeltEither.l0 k g (textB N s) i) true := by
  have haw : Ev (fun k => (remouldlaw05_awake.f k).bind fun t => some t) true := Ev.bind awake_f (Ev.const true)
  have hsz := text_size N s
  intro d
  induction d with
  | zero =>
    intro i hi
    obtain rfl : i = g.length := by omega
    exact Ev.step (fun k => by rw [remouldlaw05_BeltEither.l0, if_neg (by omega)]) haw
  | succ d ih =>
    intro i hi
    have hlt : i < g.length := by omega
    have hb := hE i hlt
    have hc : cutB N s (rd_T49 g (i : Int)) = true := by
      rw [rd_at g i hlt]
      unfold allCut at hall
      rw [List.all_eq_true] at hall
      exact hall _ (List.getElem_mem hlt)
    have hcut := bt_cut N s (rd_T49 g (i : Int)).f0 (rd_T49 g (i : Int)).f1 ⟨hb.1, hb.2.1⟩ ⟨hb.2.2.1, hb.2.2.2.1⟩
    refine Ev.step (fun k => ?_) (ih (i + 1) (by omega))
    rw [remouldlaw05_BeltEither.l0, if_pos (by omega), if_pos (by omega), if_pos hb.1, if_pos (by rw [hsz]; exact hb.2.1), if_pos hb.2.2.1, if_pos (by rw [hsz]; exact hb.2.2.2.1), if_neg (fun h => by have := hcut.1 h; rw [cutB] at hc; rw [hc] at this; cases this), wrap64_id _ (by omega) (by omega)]
    rfl
theorem pureEither : remouldlaw05_BeltEither.Pure := by
  intro a0 l1 a2 _ _ hsz _ _
  apply Ev.get
  obtain ⟨N, g, ht, h0, hN, hg, hlow, hlen⟩ := tame_f a0 l1 40 0 hsz (by omega) (by omega) (by omega)
  have b0 : Ev (fun _ : Nat => remouldlaw05_tame.f a0 l1 40 0) ((N : Int), g) := ⟨0, fun _ _ => ht⟩
  refine Ev.bind b0 ?_
  have hE := graphOk_edges hg
  have hU := upIn_of hg
  cases hv : evenB N g with
  | some s =>
    have hfe := hv
    rw [even_all N h0 g hE, List.find?_range_eq_some] at hfe
    obtain ⟨hall, hs, _⟩ := hfe
    have hs' : s < 2 ^ N := by simpa using hs
    have hprop : properB N s = true := by
      unfold evenB at hv
      have := List.find?_some hv
      rw [Bool.and_eq_true] at this
      exact this.1
    have b1 : Ev (fun _ : Nat => belt_Sides.f N g) (textB N s, 0) := ⟨0, fun _ _ => by rw [belt_Sides.f, hg, hv]; rfl⟩
    have b2 : Ev (fun _ : Nat => belt_Odd.f N g) ([], 6) := ⟨0, fun _ _ => by rw [belt_Odd.f, hg, hv]; rfl⟩
    have hsd := side_f (N : Int) (textB N s) (by rw [text_size]; omega)
    rw [(text_side N s hs').1] at hsd
    refine Ev.bind b1 (Ev.bind b2 ?_)
    refine Ev.congr (fun k => if_pos rfl) (Ev.congr (fun k => if_pos rfl) (Ev.bind hsd (Ev.congr (fun k => if_pos rfl) ?_)))
    have hbt : bt (textB (N : Int) s) 0 = 48 := by
      have := bt_text N s 0 (by omega) (by omega)
      rw [this]
      unfold properB at hprop
      rw [Bool.not_eq_true'] at hprop
      rw [if_neg (by rw [hprop]; decide)]
    refine Ev.congr (h := fun k => remouldlaw05_BeltEither.j0 k g (textB N s) false) (fun k => ?_) ?_
    · show (if 0 < ((textB (N : Int) s).size : Int) then remouldlaw05_BeltEither.j0 k g (textB N s) (bt (textB (N : Int) s) 0 != 48) else none) = _
      rw [if_pos (by rw [text_size]; omega), hbt]; rfl
    · exact Ev.step (fun k => by rw [remouldlaw05_BeltEither.j0, if_neg (by decide)]; rfl) (either_l0 N s hN g hlen hE hall g.length 0 (by omega))
  | none =>
    obtain ⟨j, y, g1, g2, g3, g4, g5⟩ := odd_first N h0 hN g hg hv
    have hy := cycles_mem_len (by omega) g5
    have hci := cycles_sound (by omega) (by omega) g5
    have b1 : Ev (fun _ : Nat => belt_Sides.f N g) (⟨#[]⟩, 6) := ⟨0, fun _ _ => by rw [belt_Sides.f, hg, hv]; rfl⟩
    have b2 : Ev (fun _ : Nat => belt_Odd.f N g) (y, 0) := ⟨0, fun _ _ => by rw [belt_Odd.f, hg, hv, ← g4]; rfl⟩
    obtain ⟨s, _, hs⟩ := cycle_yes (show g.length ≤ 41 by omega) (by omega) hci
    have b3 : Ev (fun _ : Nat => remouldref05_Cycle.f g y) ((s : Int), true) := ⟨0, fun _ _ => hs⟩
    have hnd := ends_nodup hci
    have hck : checkB N g [y] [] = true := by
      rw [checkB, (isCycle_iff hU y).2 hci, (freeB_iff [] _ hnd).2 (fun p _ => by simp), checkB]; rfl
    have b4 : Ev (fun _ : Nat => belt_CheckG.f N g [y]) (1, 0) := ⟨0, fun _ _ => by
      rw [belt_CheckG.f, if_pos ⟨by simp, by simp; omega⟩, belt_Check.f, hg, hck]; rfl⟩
    refine Ev.bind b1 (Ev.bind b2 ?_)
    refine Ev.congr (fun k => if_neg (by decide)) (Ev.congr (fun k => if_pos rfl) ?_)
    refine Ev.step (h := fun k => (remouldref05_Cycle.f g y).bind fun bt539 => (if bt539.2 = true then ((belt_CheckG.f N g (([y] : List (List Int)))).bind fun bt544 => ((remouldlaw05_side.f k a2 N).bind fun t546 => (remouldlaw05_BeltEither.l1 k y bt544.1 bt544.2 t546 false 0))) else (some false))) (fun k => by
      show remouldlaw05_BeltEither.j2 (k + 1) N a2 g y ((0 : Int) != 0) = _
      rw [remouldlaw05_BeltEither.j2, if_neg (by decide)]) ?_
    refine Ev.bind b3 (Ev.congr (fun k => if_pos rfl) (Ev.bind b4 (Ev.bind (lawside_f a2 N hN) ?_)))
    exact either_l1 N (sideN a2 N) hN hU hci (by omega) y.length 0 (by omega)

end Go.Proofs.Ytkefmlhkejoknaa.L
