/- Plain law: the law BeltBalanced. -/
import Derived.Test.YtkefmlhkejoknaaP12
import Derived.Test.YtkefmlhkejoknaaP17
import Derived.Test.YtkefmlhkejoknaaL27
namespace Go.Proofs.Ytkefmlhkejoknaa.L
set_option linter.unusedVariables false
set_option linter.unusedSimpArgs false
open Go.RowKit Go.Proofs.YtkefmlhkejoknaaW.PrintWords Go.Proofs.YtkefmlhkejoknaaW.PrintLast Go.Proofs.YtkefmlhkejoknaaW.PrintMore

theorem balanced_b (N : Nat) (g : List S49) (hg : graphOk N g = true) (k : Nat) (hk : k ≤ N) : belt_Balanced.f N g (k : Int) = some (textB N (bestB N g (fun s => (onesB s : Int) == (k : Int)) (2 ^ N)).1, (bestB N g (fun s => (onesB s : Int) == (k : Int)) (2 ^ N)).2.1, 0) := by
  rw [belt_Balanced.f, hg, decide_eq_true (show (0 : Int) ≤ k by omega), decide_eq_true (show (k : Int) ≤ N by omega)]; rfl
theorem char_one' (N s v : Nat) (hv : v < N) : (bt (textB (N : Int) s) (v : Int) - 48) % 256 = if hasB N s (v : Int) then 1 else 0 := by
  rw [bt_text N s (v : Int) (by omega) (by omega)]
  cases hasB N s (v : Int) <;> rfl
theorem balanced_l0 (N : Nat) (h0 : 1 ≤ N) (hN : N ≤ 12) (g : List S49) (hg : graphOk N g = true) (s t : Nat) (hs : s < 2 ^ N) (ht : t = (bestB N g (properB N) (2 ^ N)).1) (kk : Nat) (hk : onesB s = kk) :
    ∀ d i : Nat, i + d = N → Ev (fun k => remouldlaw05_BeltBalanced.l0 k N kk g (textB N s) (textB N t) (bestB N g (properB N) (2 ^ N)).2.1 (onesTo N s i) (onesTo N t i) i) true := by
  have haw : Ev (fun k => (remouldlaw05_awake.f k).bind fun t => some t) true := Ev.bind awake_f (Ev.const true)
  have hne := edgesNe_of hg
  obtain ⟨d1, d2, d3, d4, d5⟩ := best_is N h0 g hne
  have hhalf : 2 ^ (N - 1) ≤ 2 ^ N := Nat.pow_le_pow_right (by omega) (by omega)
  have htl : t < 2 ^ N := by omega
  intro d
  induction d with
  | zero =>
    intro i hi
    obtain rfl : i = N := by omega
    obtain ⟨e1, e2⟩ := balanced_best i h0 hN g hne (onesB t) (by rw [ht])
    have b1 : Ev (fun _ : Nat => belt_Balanced.f i g (onesB t : Int)) _ := ⟨0, fun _ _ => balanced_b i g hg (onesB t) e1⟩
    rw [onesTo_all i s hN hs, onesTo_all i t hN htl]
    refine Ev.step (fun k => by rw [remouldlaw05_BeltBalanced.l0, if_neg (by omega)]) (Ev.bind b1 ?_)
    exact Ev.congr (fun k => if_pos (by rw [hk])) (Ev.congr (fun k => if_pos rfl) (Ev.congr (fun k => if_pos e2) haw))
  | succ d ih =>
    intro i hi
    have hlt : i < N := by omega
    have ho := onesTo_le N s i
    have ho2 := onesTo_le N t i
    have ih' := ih (i + 1) (by omega)
    refine Ev.step (fun k => ?_) ih'
    rw [remouldlaw05_BeltBalanced.l0, if_pos (by omega), if_pos (by omega), text_size, text_size, if_pos (by omega), if_pos (by omega), char_one' N s i hlt, char_one' N t i hlt, wrap64_id ((i : Int) + 1) (by omega) (by omega), wrap64_id (onesTo N s i + _) (by split <;> omega) (by split <;> omega), wrap64_id (onesTo N t i + _) (by split <;> omega) (by split <;> omega)]
    rfl
theorem pureBalanced : remouldlaw05_BeltBalanced.Pure := by
  intro a0 l1 a2 _ _ hsz _ _
  apply Ev.get
  obtain ⟨N, g, ht, h0, hN, hg, hlow, hlen⟩ := tame_f a0 l1 40 (-50) hsz (by omega) (by omega) (by omega)
  have b0 : Ev (fun _ : Nat => remouldlaw05_tame.f a0 l1 40 (-50)) ((N : Int), g) := ⟨0, fun _ _ => ht⟩
  refine Ev.bind b0 ?_
  have hw : wrap64 ((N : Int) + 1) = (N : Int) + 1 := wrap64_id _ (by omega) (by omega)
  have hin := modU_in a2 ((N : Int) + 1) (by omega)
  have hm : Ev (fun _ : Nat => remouldlaw05_mod.f a2 ((N : Int) + 1)) (modU a2 ((N : Int) + 1)) := ⟨0, fun _ _ => mod_f a2 _ (by omega) (by omega)⟩
  generalize modU a2 ((N : Int) + 1) = m at hin hm
  obtain ⟨kk, rfl⟩ := Int.eq_ofNat_of_zero_le hin.1
  have hk : kk ≤ N := by omega
  dsimp only
  rw [hw]
  refine Ev.bind hm ?_
  have hw2 : wrap64 ((N : Int) - (kk : Int)) = ((N - kk : Nat) : Int) := by rw [wrap64_id _ (by omega) (by omega)]; omega
  rw [hw2]
  have b1 : Ev (fun _ : Nat => belt_Balanced.f N g (kk : Int)) _ := ⟨0, fun _ _ => balanced_b N g hg kk hk⟩
  have b2 : Ev (fun _ : Nat => belt_Balanced.f N g ((N - kk : Nat) : Int)) _ := ⟨0, fun _ _ => balanced_b N g hg (N - kk) (by omega)⟩
  have b3 : Ev (fun _ : Nat => belt_Best.f N g) _ := ⟨0, fun _ _ => best_b N g hg⟩
  have hne := edgesNe_of hg
  have hE := graphOk_edges hg
  have k1 := balanced_comp N hN g hne kk hk
  have k2 := balanced_le N h0 hN g hne kk hk
  obtain ⟨_, c1, c2, c3, _⟩ := balanced_is N hN g kk hk
  obtain ⟨d1, d2, d3, d4, d5⟩ := best_is N h0 g hne
  have hhalf : 2 ^ (N - 1) ≤ 2 ^ N := Nat.pow_le_pow_right (by omega) (by omega)
  refine Ev.bind b1 (Ev.bind b2 (Ev.bind b3 ?_))
  dsimp only
  generalize hq : bestB N g (fun s => (onesB s : Int) == (kk : Int)) (2 ^ N) = q at k1 k2 c1 c2 c3
  generalize bestB N g (fun s => (onesB s : Int) == ((N - kk : Nat) : Int)) (2 ^ N) = q2 at k1
  have hsd1 := side_f (N : Int) (textB N q.1) (by rw [text_size]; omega)
  rw [(text_side N q.1 c1).1] at hsd1
  have hsd2 := side_f (N : Int) (textB N (bestB N g (properB N) (2 ^ N)).1) (by rw [text_size]; omega)
  rw [(text_side N _ (by omega)).1] at hsd2
  have hv := value_f N q.1 g (by omega) hE
  iterate 3 refine Ev.congr (fun k => if_pos rfl) ?_
  refine Ev.bind hsd1 (Ev.congr (fun k => if_pos rfl) (Ev.bind hsd2 (Ev.congr (fun k => if_pos rfl) (Ev.bind hv (Ev.congr (fun k => if_pos c3.symm) (Ev.congr (fun k => if_pos k1) ?_))))))
  have hd : decide (q.2.1 > (bestB N g (properB N) (2 ^ N)).2.1) = false := decide_eq_false (by omega)
  have hl0 := balanced_l0 N h0 hN g hg q.1 _ c1 rfl kk c2 N 0 (by omega)
  refine Ev.step (h := fun k => remouldlaw05_BeltBalanced.l0 k N kk g (textB N q.1) (textB N (bestB N g (properB N) (2 ^ N)).1) (bestB N g (properB N) (2 ^ N)).2.1 0 0 0) (fun k => ?_) hl0
  rw [hd, remouldlaw05_BeltBalanced.j0, if_neg (by decide)]

end Go.Proofs.Ytkefmlhkejoknaa.L
