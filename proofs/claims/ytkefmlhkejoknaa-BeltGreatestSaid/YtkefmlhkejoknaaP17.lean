/- Plain law: tame graphs; the law's sides; sums of weights. -/
import Derived.Test.YtkefmlhkejoknaaXTame
import Derived.Test.YtkefmlhkejoknaaP9
import Derived.Test.YtkefmlhkejoknaaP11
namespace Go.Proofs.Ytkefmlhkejoknaa.L
set_option linter.unusedVariables false
set_option linter.unusedSimpArgs false
open Go.RowKit Go.Proofs.YtkefmlhkejoknaaW.PrintWords Go.Proofs.YtkefmlhkejoknaaW.PrintLast Go.Proofs.YtkefmlhkejoknaaW.PrintMore

theorem edgesOk_append (n : Int) (l m : List S49) : ∀ k, k ≤ l.length → edgesOk n (l ++ m) k = edgesOk n l k := by
  intro k
  induction k with
  | zero => intro _; rfl
  | succ k ih =>
    intro hk
    rw [edgesOk, edgesOk, ih (by omega), List.getElem?_append_left (by omega), List.take_append_of_le_length (by omega)]
theorem edgesOk_snoc (n : Int) (l : List S49) (e : S49) (h : edgesOk n l l.length = true) (he : edgeOk n e = true) (hno : hasEdge l e.f0 e.f1 = false) : edgesOk n (l ++ [e]) (l ++ [e]).length = true := by
  rw [List.length_append, List.length_singleton, edgesOk, edgesOk_append n l [e] l.length (Nat.le_refl _), h, List.getElem?_append_right (Nat.le_refl _)]
  simp only [Nat.sub_self, List.getElem?_cons_zero, Bool.true_and, List.take_left']
  rw [he, hno]; rfl
theorem ends_lt (n x : Int) (hn : 1 < n) (hx : 0 ≤ x) : 0 ≤ endA n x ∧ endA n x < endB n x ∧ endB n x < n := by
  have i1 := Int.emod_nonneg x (show n ≠ 0 by omega)
  have i2 := Int.emod_lt_of_pos x (show 0 < n by omega)
  have i5 := Int.emod_nonneg (x / n) (show n - 1 ≠ 0 by omega)
  have i6 := Int.emod_lt_of_pos (x / n) (show 0 < n - 1 by omega)
  unfold endA endB
  generalize x / n % (n - 1) = r at i5 i6
  generalize x % n = a at i1 i2
  have hb : (a + 1 + r) % n = if a + 1 + r < n then a + 1 + r else a + 1 + r - n := by
    split
    · exact Int.emod_eq_of_lt (by omega) (by omega)
    · rw [show a + 1 + r = (a + 1 + r - n) + n by omega, Int.add_emod_right, Int.emod_eq_of_lt (by omega) (by omega)]
      omega
  rw [hb]
  split <;> split <;> omega
/-- What is known of a tame graph. -/
theorem tameGo_good (n : Int) (hn : 1 < n) (hn2 : n ≤ 12) (most : Nat) (low : Int) (hlow : -50 ≤ low) (hlow2 : low ≤ 50) : ∀ (l : List Int) (used : Nat → Bool) (out : List S49),
    edgesOk n out out.length = true → (∀ e ∈ out, used (e.f0.toNat * 12 + e.f1.toNat) = true ∧ 0 ≤ e.f0 ∧ 0 ≤ e.f1 ∧ e.f1 < 12) → (∀ e ∈ out, low ≤ e.f2) → out.length ≤ most →
    edgesOk n (tameGo n most low l used out) (tameGo n most low l used out).length = true ∧ (∀ e ∈ tameGo n most low l used out, low ≤ e.f2) ∧ (tameGo n most low l used out).length ≤ most := by
  intro l
  induction l with
  | nil => intro used out h1 h2 h3 h4; exact ⟨h1, h3, h4⟩
  | cons v l ih =>
    intro used out h1 h2 h3 h4
    rw [tameGo]
    have hx := modU_in v 1099511627776 (by omega)
    generalize modU v 1099511627776 = x at hx
    obtain ⟨e1, e2, e3⟩ := ends_lt n x hn hx.1
    generalize endA n x = a at e1 e2
    generalize endB n x = b at e2 e3
    have j1 := Int.emod_nonneg (x / n / n) (show 50 - low + 1 ≠ 0 by omega)
    have j2 := Int.emod_lt_of_pos (x / n / n) (show 0 < 50 - low + 1 by omega)
    generalize x / n / n % (50 - low + 1) = wt at j1 j2
    by_cases c : (out.length : Int) < most
    · rw [if_pos c]
      cases hu : used (a.toNat * 12 + b.toNat)
      · rw [if_neg (by decide)]
        refine ih _ _ (edgesOk_snoc n out _ h1 ((edgeOk_iff _ _).2 ⟨⟨by show 1 ≤ b; omega, by show b ≤ n - 1; omega⟩, ⟨e1, by show a ≤ b - 1; omega⟩, ⟨by show -50 ≤ low + wt; omega, by show low + wt ≤ 50; omega⟩⟩) ?_) ?_ ?_ ?_
        · rw [Bool.eq_false_iff]
          intro hh
          unfold hasEdge at hh
          rw [List.any_eq_true] at hh
          obtain ⟨e, he, hp⟩ := hh
          simp only [Bool.and_eq_true, beq_iff_eq] at hp
          have := (h2 e he).1
          rw [hp.1, hp.2, hu] at this; cases this
        · intro e he
          rw [List.mem_append, List.mem_singleton] at he
          rcases he with he | rfl
          · have := h2 e he
            exact ⟨by rw [this.1]; rfl, this.2⟩
          · exact ⟨by simp, e1, by show 0 ≤ b; omega, by show b < 12; omega⟩
        · intro e he
          rw [List.mem_append, List.mem_singleton] at he
          rcases he with he | rfl
          · exact h3 e he
          · show low ≤ low + wt; omega
        · simp; omega
      · rw [if_pos rfl]
        exact ih used out h1 h2 h3 h4
    · rw [if_neg c]
      exact ⟨h1, h3, h4⟩
theorem tame_f (a0 : Int) (l : List Int) (most : Nat) (low : Int) (hl : l.length * 8 ≤ 140737488351232) (hm : most ≤ 40) (hlow : -50 ≤ low) (hlow2 : low ≤ 50) :
    ∃ (N : Nat) (g : List S49), remouldlaw05_tame.f a0 l most low = some ((N : Int), g) ∧ 1 ≤ N ∧ N ≤ 12 ∧ graphOk N g = true ∧ (∀ e ∈ g, low ≤ e.f2) ∧ g.length ≤ most := by
  have hin := modU_in a0 12 (by omega)
  refine ⟨(1 + modU a0 12).toNat, if 1 + modU a0 12 > 1 then tameGo (1 + modU a0 12) most low l (fun _ => false) [] else [], ?_, by omega, by omega, ?_⟩
  · rw [remouldlaw05_tame.f, if_pos ⟨hl, by omega, hlow, hlow2⟩]
    congr 2
    omega
  · have e : (((1 + modU a0 12).toNat : Nat) : Int) = 1 + modU a0 12 := by omega
    rw [e]
    by_cases c : 1 + modU a0 12 > 1
    · rw [if_pos c]
      obtain ⟨g1, g2, g3⟩ := tameGo_good (1 + modU a0 12) c (by omega) most low hlow hlow2 l (fun _ => false) [] rfl (by simp) (by simp) (by simp)
      refine ⟨?_, g2, g3⟩
      rw [graphOk, (inB_iff _ 1 12).2 ⟨by omega, by omega⟩, decide_eq_true (show _ ≤ 40 by omega), g1]; rfl
    · rw [if_neg c]
      refine ⟨?_, by simp, by simp⟩
      rw [graphOk, (inB_iff _ 1 12).2 ⟨by omega, by omega⟩]; rfl

/-- The side that any int stands for. -/
def sideN (x : Int) (N : Nat) : Nat := bitsN (fun i => (modU x 4096).toNat.testBit (N - 1 - i)) N
theorem sideN_lt (x : Int) (N : Nat) : sideN x N < 2 ^ N := bitsN_lt _ _
theorem sideN_has (x : Int) (N v : Nat) (hv : v < N) : hasB N (sideN x N) (v : Int) = (modU x 4096).toNat.testBit v := by
  unfold hasB sideN
  rw [bitsN_test _ _ _ (by omega)]
  congr 1; omega
theorem side_l0' (x : Int) (N : Nat) (hN : N ≤ 12) : ∀ d i : Nat, i + d = N → Ev (fun k => remouldlaw05_side.l0 k x N ((List.range i).map fun (j : Nat) => if hasB N (sideN x N) (j : Int) then 49 else 48) (i : Int)) (textB N (sideN x N)) := by
  have hin := modU_in x 4096 (by omega)
  intro d
  induction d with
  | zero =>
    intro i hi
    obtain rfl : i = N := by omega
    refine Ev.step (fun k => by rw [remouldlaw05_side.l0, if_neg (by omega)]) ?_
    have := text_of i (sideN x i)
    rw [← this]
    have e : numsT i (sideN x i) i = (List.range i).map fun (j : Nat) => if hasB i (sideN x i) (j : Int) then (49 : Int) else 48 := by
      unfold numsT
      apply List.map_congr_left
      intro j hj
      rw [if_pos (by simpa using hj)]
    rw [e]
    exact Ev.const _
  | succ d ih =>
    intro i hi
    have hm : Ev (fun _ : Nat => remouldlaw05_mod.f x 4096) (modU x 4096) := ⟨0, fun _ _ => mod_f x 4096 (by omega) (by omega)⟩
    refine Ev.step (fun k => by rw [remouldlaw05_side.l0, if_pos (by omega)]) (Ev.bind hm ?_)
    have ih' := ih (i + 1) (by omega)
    refine Ev.congr (fun k => ?_) ih'
    rw [if_pos (by omega), if_pos (by simp; omega), wrap64_id ((i : Int) + 1) (by omega) (by omega)]
    have hbit := sideN_has x N i (by omega)
    have hsh : shr .i64 (modU x 4096) (i : Int) = (((modU x 4096).toNat / 2 ^ i : Nat) : Int) := by
      have h0 : shr .i64 (modU x 4096) (i : Int) = modU x 4096 / 2 ^ min (i : Int).toNat 64 := rfl
      rw [h0, Int.toNat_natCast, Nat.min_eq_left (by omega)]
      obtain ⟨y, hy⟩ := Int.eq_ofNat_of_zero_le hin.1
      rw [hy]; simp
    have hch : wrap64 (48 + Int.tmod (shr .i64 (modU x 4096) (i : Int)) 2) % 256 = if hasB N (sideN x N) (i : Int) then 49 else 48 := by
      rw [hsh, hbit, Nat.testBit_eq_decide_div_mod_eq]
      generalize (modU x 4096).toNat / 2 ^ i = z
      rw [Int.tmod_eq_emod_of_nonneg (by omega)]
      by_cases hz : z % 2 = 1
      · rw [decide_eq_true hz, if_pos rfl]
        unfold wrap64; omega
      · rw [decide_eq_false hz, if_neg (by decide)]
        unfold wrap64; omega
    rw [hch, List.range_succ, List.map_append]
    rfl
theorem lawside_f (x : Int) (N : Nat) (hN : N ≤ 12) : Ev (fun k => remouldlaw05_side.f k x N) (textB N (sideN x N)) := side_l0' x N hN N 0 (by omega)

/-- A side's string is read back. -/
theorem text_side (N s : Nat) (hs : s < 2 ^ N) : sideOk N (textB N s) = true ∧ numB N (textB N s) (textB N s).size = s := by
  have hsz := text_size N s
  have h1 : sideOk N (textB N s) = true := by
    unfold sideOk
    rw [hsz, decide_eq_true rfl, Bool.true_and, List.all_eq_true]
    intro c hc
    have : c ∈ charsB N s := by simpa [textB] using hc
    unfold charsB at this
    rw [List.mem_map] at this
    obtain ⟨v, _, rfl⟩ := this
    split <;> rfl
  refine ⟨h1, ?_⟩
  rw [hsz]
  have hlt : numB N (textB N s) N < 2 ^ N := by
    have : ∀ k, k ≤ N → numB N (textB N s) k < 2 ^ N := by
      intro k
      induction k with
      | zero => intro _; rw [numB]; exact Nat.two_pow_pos N
      | succ k ih =>
        intro hk
        rw [numB]
        split
        · exact Nat.or_lt_two_pow (ih (by omega)) (Nat.pow_lt_pow_right (by omega) (by omega))
        · exact ih (by omega)
    exact this N (Nat.le_refl _)
  apply comp_bits N _ _ hlt hs
  intro v hv
  rw [has_num N (textB N s) N (Nat.le_refl _) v hv]
  have e : (textB (N : Int) s).data.toList[v]? = some (if hasB N s (v : Int) then (49 : UInt8) else 48) := by
    simp [textB, charsB, hv]
  rw [e]
  cases hasB N s (v : Int) <;> simp [hv]
theorem value_b (N s : Nat) (h0 : 1 ≤ N) (hN : N ≤ 12) (hs : s < 2 ^ N) (g : List S49) (hg : graphOk N g = true) : belt_Value.f N g (textB N s) = some (valB N s g, 0) := by
  obtain ⟨h1, h2⟩ := text_side N s hs
  rw [belt_Value.f, if_pos (by rw [text_size]; omega), hg, h1, h2]; rfl
theorem best_b (N : Nat) (g : List S49) (hg : graphOk N g = true) : belt_Best.f N g = some (textB N (bestB N g (properB N) (2 ^ N)).1, (bestB N g (properB N) (2 ^ N)).2.1, 0) := by
  rw [belt_Best.f, hg]; rfl
theorem climb_b (N s : Nat) (hN : N ≤ 12) (hs : s < 2 ^ N) (g : List S49) (hg : graphOk N g = true) : ∃ rr, climbB N g 4002 s 0 = some rr ∧ belt_Climb.f N g (textB N s) = some (textB N rr.1, rr.2, 0) := by
  obtain ⟨h1, h2⟩ := text_side N s hs
  have hvb := val_bound40 N s g (graphOk_len hg) (graphOk_edges hg)
  obtain ⟨rr, hrr⟩ := climb_ends N hN g (graphOk_len hg) (graphOk_edges hg) (edgesNe_of hg) 4002 s 0 (by omega)
  refine ⟨rr, hrr, ?_⟩
  rw [belt_Climb.f, if_pos (by rw [text_size]; omega), hg, h1, h2, hrr]; rfl
theorem sumW_append (a b : List S49) : sumW (a ++ b) = sumW a + sumW b := by
  induction a with
  | nil => simp [sumW]
  | cons e a ih => simp only [List.cons_append, sumW, ih]; omega
theorem sumW_take (l : List S49) (k : Nat) (hk : k < l.length) : sumW (l.take (k + 1)) = sumW (l.take k) + (rd_T49 l (k : Int)).f2 := by
  rw [take_snoc l k hk, sumW_append]; simp [sumW]
theorem sumW_bound (n : Int) (l : List S49) (h : EdgesIn n l) (k : Nat) (hk : k ≤ l.length) : -(50 * (k : Int)) ≤ sumW (l.take k) ∧ sumW (l.take k) ≤ 50 * (k : Int) := by
  induction k with
  | zero => simp [sumW]
  | succ k ih =>
    have := ih (by omega)
    have hb := h k (by omega)
    rw [sumW_take l k (by omega)]
    omega
theorem gains_b (N s : Nat) (hs : s < 2 ^ N) (hN : N ≤ 12) (g : List S49) (hg : graphOk N g = true) : belt_Gains.f N g (textB N s) = some (gainsB N s g, 0) := by
  obtain ⟨h1, h2⟩ := text_side N s hs
  rw [belt_Gains.f, if_pos (by rw [text_size]; omega), hg, h1, h2]; rfl
theorem gainsB_length (N s : Nat) (g : List S49) : (gainsB N s g).length = N := by simp [gainsB]
theorem gainsB_at (N s : Nat) (g : List S49) (i : Nat) (hi : i < N) : rd (gainsB N s g) (i : Int) = gainB N s i g := by simp [gainsB, rd, hi]
theorem gain_bound40 (n : Int) (s i : Nat) (l : List S49) (hl : l.length ≤ 40) (hE : EdgesIn n l) : -2000 ≤ gainB n s i l ∧ gainB n s i l ≤ 2000 := by
  have := gainB_bound n s i l hE l.length (Nat.le_refl _)
  rw [List.take_length] at this
  omega

end Go.Proofs.Ytkefmlhkejoknaa.L
