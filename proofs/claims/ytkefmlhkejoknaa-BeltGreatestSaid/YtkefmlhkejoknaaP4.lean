/- Plain law: the first side that cuts every edge; the law BeltSides. -/
import Derived.Test.YtkefmlhkejoknaaP3
import Derived.Test.YtkefmlhkejoknaaL8
namespace Go.Proofs.Ytkefmlhkejoknaa.L
set_option linter.unusedVariables false
set_option linter.unusedSimpArgs false
open Go.RowKit Go.Proofs.YtkefmlhkejoknaaW.PrintWords Go.Proofs.YtkefmlhkejoknaaW.PrintLast Go.Proofs.YtkefmlhkejoknaaW.PrintMore

/-- Every edge is cut. -/
def allCut (n : Int) (l : List S49) (s : Nat) : Bool := l.all fun e => cutB n s e
theorem has_flip (N t : Nat) (ht : t < 2 ^ N) (v : Int) (h0 : 0 ≤ v) (h1 : v < N) : hasB N (2 ^ N - (t + 1)) v = !hasB N t v := by
  rw [hasB, Nat.testBit_two_pow_sub_succ ht, decide_eq_true (by omega), Bool.true_and, hasB]
theorem mem_edge {n : Int} {l : List S49} (hE : EdgesIn n l) {e : S49} (he : e ∈ l) : 0 ≤ e.f0 ∧ e.f0 < n ∧ 0 ≤ e.f1 ∧ e.f1 < n := by
  obtain ⟨i, hi, rfl⟩ := List.getElem_of_mem he
  have := hE i hi
  rw [rd_at l i hi] at this
  exact ⟨this.1, this.2.1, this.2.2.1, this.2.2.2.1⟩
theorem allCut_flip (N t : Nat) (ht : t < 2 ^ N) (l : List S49) (hE : EdgesIn N l) (h : allCut N l t = true) : allCut N l (2 ^ N - (t + 1)) = true := by
  unfold allCut at h ⊢
  rw [List.all_eq_true] at h ⊢
  intro e he
  have hb := mem_edge hE he
  have := h e he
  rw [cutB] at this ⊢
  rw [has_flip N t ht _ hb.1 hb.2.1, has_flip N t ht _ hb.2.2.1 hb.2.2.2]
  cases h1 : hasB N t e.f0 <;> cases h2 : hasB N t e.f1 <;> rw [h1, h2] at this <;> simp_all
theorem even_all (N : Nat) (h0 : 1 ≤ N) (l : List S49) (hE : EdgesIn N l) : evenB N l = (List.range (2 ^ N)).find? fun s => allCut N l s := by
  have h3 : 2 ^ N = 2 ^ (N - 1) + 2 ^ (N - 1) := by
    obtain ⟨m, rfl⟩ : ∃ m, N = m + 1 := ⟨N - 1, by omega⟩
    rw [Nat.pow_succ]; simp; omega
  have hsmall : ∀ t, t < 2 ^ N → allCut N l t = true → ∃ u, u ≤ t ∧ u < 2 ^ (N - 1) ∧ allCut N l u = true := by
    intro t ht hc
    by_cases c : t < 2 ^ (N - 1)
    · exact ⟨t, Nat.le_refl _, c, hc⟩
    · exact ⟨2 ^ N - (t + 1), by omega, by omega, allCut_flip N t ht l hE hc⟩
  unfold evenB
  rw [Int.toNat_natCast]
  cases hf : (List.range (2 ^ N)).find? (fun s => properB N s && l.all fun e => cutB N s e) with
  | none =>
    rw [List.find?_eq_none] at hf
    symm
    rw [List.find?_eq_none]
    intro t ht hc
    obtain ⟨u, hu, hu2, hc2⟩ := hsmall t (by simpa using ht) hc
    have := hf u (by simp; omega)
    rw [proper_half N u h0 hu2, Bool.true_and] at this
    exact this hc2
  | some s =>
    rw [List.find?_range_eq_some] at hf
    obtain ⟨h1, h2, h4⟩ := hf
    simp only [Bool.and_eq_true] at h1
    symm
    rw [List.find?_range_eq_some]
    refine ⟨h1.2, h2, fun t ht => ?_⟩
    by_cases hc : allCut N l t = true
    · exfalso
      have hs : s < 2 ^ (N - 1) := by
        by_cases c : s < 2 ^ (N - 1)
        · exact c
        · have := proper_not N s h0 (by omega) (by simpa using h2)
          rw [this] at h1; cases h1.1
      have := h4 t ht
      rw [proper_half N t h0 (by omega)] at this
      rw [allCut] at hc
      rw [hc] at this
      cases this
    · simpa using hc

theorem sides_l1 (N s : Nat) (hs : s < 2 ^ N) (hN : N ≤ 12) (l : List S49) (hl : l.length ≤ 41) (hE : EdgesIn N l) (r : ByteArray × Bool)
    (hyes : allCut N l s = true → r = (textB N s, true)) (hno : allCut N l s = false → Ev (fun k => remouldref05_Sides.l0 k l (strs N) ((s : Int) + 1)) r) :
    ∀ d i : Nat, i + d = l.length → Ev (fun k => remouldref05_Sides.l1 k l (strs N) (s : Int) ((l.take i).all fun e => cutB N s e) (i : Int)) r := by
  have hlen := strs_length N
  have hp : 2 ^ N ≤ 2 ^ 12 := Nat.pow_le_pow_right (by omega) hN
  have hat := strs_at N s hs
  intro d
  induction d with
  | zero =>
    intro i hi
    obtain rfl : i = l.length := by omega
    rw [List.take_of_length_le (Nat.le_refl _)]
    cases hc : allCut N l s
    · rw [show (l.all fun e => cutB N s e) = false from hc]
      exact Ev.step (fun k => by rw [remouldref05_Sides.l1, if_neg (by omega), if_neg (by decide), wrap64_id _ (by omega) (by omega)]) (hno hc)
    · rw [show (l.all fun e => cutB N s e) = true from hc, hyes hc]
      exact Ev.step (fun k => by rw [remouldref05_Sides.l1, if_neg (by omega), if_pos rfl, if_pos (by omega), if_pos (by omega), hat]) (Ev.const _)
  | succ d ih =>
    intro i hi
    have hlt : i < l.length := by omega
    have hb := hE i hlt
    have ht : ((l.take (i + 1)).all fun e => cutB N s e) = (((l.take i).all fun e => cutB N s e) && cutB N s (rd_T49 l (i : Int))) := by
      rw [List.take_succ_eq_append_getElem hlt, List.all_append, ← rd_at l i hlt]; simp
    have ih' := ih (i + 1) (by omega)
    rw [ht] at ih'
    have hcut := bt_cut N s (rd_T49 l (i : Int)).f0 (rd_T49 l (i : Int)).f1 ⟨hb.1, hb.2.1⟩ ⟨hb.2.2.1, hb.2.2.2.1⟩
    have hne : (bt (textB (N : Int) s) (rd_T49 l (i : Int)).f0 != bt (textB (N : Int) s) (rd_T49 l (i : Int)).f1) = cutB N s (rd_T49 l (i : Int)) := by
      cases hc : cutB N s (rd_T49 l (i : Int))
      · have := hcut.2 hc
        rw [this]; simp
      · rw [bne_iff_ne]
        intro h
        have := hcut.1 h
        rw [cutB] at hc
        rw [hc] at this
        cases this
    cases hok : ((l.take i).all fun e => cutB N s e)
    · rw [hok, Bool.false_and] at ih'
      exact Ev.step (fun k => by rw [remouldref05_Sides.l1, if_pos (by omega), if_neg (by decide), wrap64_id _ (by omega) (by omega)]; rfl) ih'
    · rw [hok, Bool.true_and] at ih'
      refine Ev.step (fun k => ?_) ih'
      rw [remouldref05_Sides.l1, if_pos (by omega), if_pos rfl, if_pos (by omega), if_pos (by omega), if_pos (by omega), hat, text_size, if_pos hb.1, if_pos hb.2.1, if_pos hb.2.2.1, if_pos hb.2.2.2.1, hne, wrap64_id _ (by omega) (by omega)]
      rfl
def sidesOut (N : Nat) (o : Option Nat) : ByteArray × Bool := match o with
  | some s => (textB N s, true)
  | none => (⟨#[]⟩, false)
theorem sides_l0 (N : Nat) (hN : N ≤ 12) (l : List S49) (hl : l.length ≤ 41) (hE : EdgesIn N l) : ∀ d i : Nat, i + d = 2 ^ N → (∀ t, t < i → allCut N l t = false) →
    Ev (fun k => remouldref05_Sides.l0 k l (strs N) (i : Int)) (sidesOut N ((List.range (2 ^ N)).find? fun s => allCut N l s)) := by
  have hlen := strs_length N
  intro d
  induction d with
  | zero =>
    intro i hi hno
    obtain rfl : i = 2 ^ N := by omega
    have : (List.range (2 ^ N)).find? (fun s => allCut N l s) = none := by
      rw [List.find?_eq_none]
      intro t ht
      simp [hno t (by simpa using ht)]
    rw [this]
    exact Ev.step (fun k => by rw [remouldref05_Sides.l0, if_neg (by omega)]; rfl) (Ev.const _)
  | succ d ih =>
    intro i hi hno
    refine Ev.step (fun k => by rw [remouldref05_Sides.l0, if_pos (by omega)]) ?_
    refine sides_l1 N i (by omega) hN l hl hE _ (fun hc => ?_) (fun hc => ih (i + 1) (by omega) (fun t ht => ?_)) l.length 0 (by omega)
    · have : (List.range (2 ^ N)).find? (fun s => allCut N l s) = some i := by
        rw [List.find?_range_eq_some]
        exact ⟨hc, by simp; omega, fun t ht => by simp [hno t ht]⟩
      rw [this]; rfl
    · by_cases e : t = i
      · subst e; exact hc
      · exact hno t (by omega)
theorem sides_f (n : Int) (l : List S49) (hl : l.length ≤ 41) (h0 : 1 ≤ n) (hn : n ≤ 12) (hE : EdgesIn n l) :
    Ev (fun k => remouldref05_Sides.f k n l) (match evenB n l with | some s => (textB n s, true) | none => (⟨#[]⟩, false)) := by
  obtain ⟨N, rfl⟩ := Int.eq_ofNat_of_zero_le (show 0 ≤ n by omega)
  rw [even_all N (by omega) l hE]
  exact Ev.bind (all_f N h0 hn) (sides_l0 N (by omega) l hl hE (2 ^ N) 0 (by omega) (by omega))

end Go.Proofs.Ytkefmlhkejoknaa.L
