/- Plain law: the law BeltGained. -/
import Derived.Test.YtkefmlhkejoknaaP17
import Derived.Test.YtkefmlhkejoknaaL21
namespace Go.Proofs.Ytkefmlhkejoknaa.L
set_option linter.unusedVariables false
set_option linter.unusedSimpArgs false
open Go.RowKit Go.Proofs.YtkefmlhkejoknaaW.PrintWords Go.Proofs.YtkefmlhkejoknaaW.PrintLast Go.Proofs.YtkefmlhkejoknaaW.PrintMore

theorem gained_l1 (N s : Nat) (g : List S49) (hE : EdgesIn N g) (hlen : g.length ≤ 40) (v : Int) (hv : v = valB N s g) (sm : Int) (hsm : sm = 2 * sumW g - 4 * v) (hv2 : -2000 ≤ v ∧ v ≤ 2000) : ∀ d i : Nat, i + d = g.length → Ev (fun k => remouldlaw05_BeltGained.l1 k g v sm (sumW (g.take i)) i) true := by
  have haw : Ev (fun k => (remouldlaw05_awake.f k).bind fun t => some t) true := Ev.bind awake_f (Ev.const true)
  intro d
  induction d with
  | zero =>
    intro i hi
    obtain rfl : i = g.length := by omega
    have hb := sumW_bound N g hE g.length (Nat.le_refl _)
    rw [List.take_length] at hb ⊢
    refine Ev.step (fun k => ?_) haw
    rw [remouldlaw05_BeltGained.l1, if_neg (by omega), wrap64_id (2 * sumW g) (by omega) (by omega), wrap64_id (4 * v) (by omega) (by omega), wrap64_id _ (by omega) (by omega), if_pos hsm]
  | succ d ih =>
    intro i hi
    have hlt : i < g.length := by omega
    have hb := sumW_bound N g hE i (by omega)
    have he := hE i hlt
    have ih' := ih (i + 1) (by omega)
    rw [sumW_take g i hlt] at ih'
    exact Ev.step (fun k => by rw [remouldlaw05_BeltGained.l1, if_pos (by omega), if_pos (by omega), wrap64_id (sumW (g.take i) + (rd_T49 g (i : Int)).f2) (by omega) (by omega), wrap64_id ((i : Int) + 1) (by omega) (by omega)]; rfl) ih'
theorem sumTo_bound (f : Nat → Int) (k : Nat) (h : ∀ i, i < k → -2000 ≤ f i ∧ f i ≤ 2000) : -(2000 * (k : Int)) ≤ sumTo f k ∧ sumTo f k ≤ 2000 * (k : Int) := by
  induction k with
  | zero => simp [sumTo]
  | succ k ih => have := ih (fun i hi => h i (by omega)); have := h k (by omega); simp only [sumTo]; omega
theorem gained_l0 (N s : Nat) (hN : N ≤ 12) (g : List S49) (hE : EdgesIn N g) (hlen : g.length ≤ 40) (hne : EdgesNe N g) : ∀ d i : Nat, i + d = N → Ev (fun k => remouldlaw05_BeltGained.l0 k N g (valB N s g) (gainsB N s g) (sumTo (fun v => gainB N s v g) i) 0 i) true := by
  have hl := gainsB_length N s g
  intro d
  induction d with
  | zero =>
    intro i hi
    obtain rfl : i = N := by omega
    refine Ev.step (fun k => by rw [remouldlaw05_BeltGained.l0, if_neg (by omega)]) ?_
    exact gained_l1 i s g hE hlen _ rfl _ (sum_gains i s g hne) (val_bound40 i s g hlen hE) g.length 0 (by omega)
  | succ d ih =>
    intro i hi
    have hb := sumTo_bound (fun v => gainB N s v g) i (fun j _ => gain_bound40 N s j g hlen hE)
    have hb2 := gain_bound40 N s i g hlen hE
    have ih' := ih (i + 1) (by omega)
    refine Ev.step (fun k => by rw [remouldlaw05_BeltGained.l0, if_pos (by omega), if_pos (by omega), if_pos (by omega), gainsB_at N s g i (by omega), wrap64_id (_ + gainB N s i g) (by omega) (by omega), wrap64_id ((i : Int) + 1) (by omega) (by omega)]; rfl) ih'
theorem pureGained : remouldlaw05_BeltGained.Pure := by
  intro a0 l1 a2 a3 _ _ hsz _ _ _
  apply Ev.get
  obtain ⟨N, g, ht, h0, hN, hg, hlow, hlen⟩ := tame_f a0 l1 40 (-50) hsz (by omega) (by omega) (by omega)
  have b0 : Ev (fun _ : Nat => remouldlaw05_tame.f a0 l1 40 (-50)) ((N : Int), g) := ⟨0, fun _ _ => ht⟩
  have hslt := sideN_lt a2 N
  generalize hs : sideN a2 N = s at hslt
  have hlaw := lawside_f a2 N hN
  rw [hs] at hlaw
  have hin := modU_in a3 N (by omega)
  have hm : Ev (fun _ : Nat => remouldlaw05_mod.f a3 N) (modU a3 N) := ⟨0, fun _ _ => mod_f a3 N (by omega) (by omega)⟩
  generalize modU a3 N = m at hin hm
  obtain ⟨i, rfl⟩ := Int.eq_ofNat_of_zero_le hin.1
  have hi : i < N := by omega
  have hf := flipS_lt N s i hi hslt
  have b2 : Ev (fun _ : Nat => remouldref05_Flip.f (textB N s) (i : Int)) _ := ⟨0, fun _ _ => flip_f N s i hi hN⟩
  have b3 : Ev (fun _ : Nat => belt_Value.f N g (textB N s)) _ := ⟨0, fun _ _ => value_b N s h0 hN hslt g hg⟩
  have b4 : Ev (fun _ : Nat => belt_Value.f N g (textB N (flipS N s i))) _ := ⟨0, fun _ _ => value_b N _ h0 hN hf g hg⟩
  have b5 : Ev (fun _ : Nat => belt_Gains.f N g (textB N s)) _ := ⟨0, fun _ _ => gains_b N s hslt hN g hg⟩
  have b6 : Ev (fun _ : Nat => belt_Gains.f N g (textB N (flipS N s i))) _ := ⟨0, fun _ _ => gains_b N _ hf hN g hg⟩
  refine Ev.bind b0 (Ev.bind hlaw (Ev.bind hm (Ev.bind b2 (Ev.bind b3 (Ev.bind b4 (Ev.bind b5 (Ev.bind b6 ?_)))))))
  have hne := edgesNe_of hg
  have hE := graphOk_edges hg
  have w1 := val_bound40 N s g hlen hE
  have w2 := val_bound40 N (flipS N s i) g hlen hE
  have w3 := gain_bound40 N s i g hlen hE
  have k1 : valB N (flipS N s i) g - valB N s g = gainB N s i g := gain_flip N s i hi g hne
  have k2 := gain_back N s i hi g hne
  have hj : Ev (fun k => remouldlaw05_BeltGained.j0 k N g (valB N s g) (gainsB N s g) false) true :=
    Ev.step (fun k => by rw [remouldlaw05_BeltGained.j0, if_neg (by decide)]; rfl) (gained_l0 N s hN g hE hlen hne N 0 (by omega))
  refine Ev.congr (h := fun k => remouldlaw05_BeltGained.j0 k N g (valB N s g) (gainsB N s g) false) (fun k => ?_) hj
  simp only [if_true, gainsB_length]
  rw [if_pos (by omega), if_pos (by omega), gainsB_at N s g i hi, gainsB_at N _ g i hi, wrap64_id (valB N (flipS N s i) g - valB N s g) (by omega) (by omega), if_pos k1, if_pos (by omega), wrap64_id (-gainB N s i g) (by omega) (by omega), k2]
  simp

end Go.Proofs.Ytkefmlhkejoknaa.L
