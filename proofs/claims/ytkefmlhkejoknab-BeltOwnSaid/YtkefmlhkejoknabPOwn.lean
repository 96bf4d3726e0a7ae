/- Plain law: the law BeltOwn; the walk for every input. -/
import Derived.Test.YtkefmlhkejoknabP42
import Derived.Test.YtkefmlhkejoknabXOwn
namespace Go.Proofs.Ytkefmlhkejoknab.L
set_option linter.unusedVariables false
set_option linter.unusedSimpArgs false
open Go.RowKit Go.Proofs.YtkefmlhkejoknabW.PrintWords Go.Proofs.YtkefmlhkejoknabW.PrintLast Go.Proofs.YtkefmlhkejoknabW.PrintMore

theorem side_zero (N : Nat) : sideN 0 N = 0 := by
  refine comp_bits N _ _ (sideN_lt 0 N) (Nat.two_pow_pos N) (fun v hv => ?_)
  rw [sideN_has 0 N v hv, show (modU 0 4096).toNat = 0 from by decide]
  unfold hasB
  rw [Nat.zero_testBit, Nat.zero_testBit]
theorem switch_zero (n : Int) (l : List S46) : switchB n 0 l = l := by
  unfold switchB
  have : ∀ e : S46, cutB n 0 e = false := fun e => by simp [cutB, hasB]
  simp [this]
theorem beltOwn_walk (a0 : Int) (a1 : Option Addr) (len1 cap1 : Nat) (z1 : List Int) (a2 : Int) (w : World) (w0 : (Lit.int .i64 a0).wf = true) (w1 : (a1 = none ∧ len1 = 0 ∧ cap1 = 0 ∧ z1 = []) ∨ ∃ x, a1 = some x ∧ len1 ≤ cap1 ∧ cap1 ≤ maxLen ∧ z1.length = cap1 ∧ (∀ i, i < z1.length → w.cell? (x.add i) = some (.int .i64 (z1.getD i 0))) ∧ ∀ n ∈ z1, (Lit.int .i64 n).wf = true) (y1 : len1 * 8 ≤ 140737488351232) (w2 : (Lit.int .i64 a2).wf = true) :
    Calls Try.prog 4 #[.int .i64 a0, .slice a1 len1 cap1, .int .i64 a2] w fun e w' => e = .returned (.bool true) ∧ Below w.heap.size w w' := by
  obtain ⟨l1, rfl, hr1, hm1, hw1, hc1⟩ := ReadsInt.ofRowC w1
  obtain ⟨N, g, ht, h0, hN, hg, hlow, hlen⟩ := tame_f a0 l1 12 (-50) y1 (by omega) (by omega) (by omega)
  have hE := graphOk_edges hg
  have hne := edgesNe_of hg
  have hed : remouldlaw05_edges.f g = some g := by rw [edges_f, List.take_of_length_le (by omega)]
  obtain ⟨ks, hks⟩ := (lawside_f a2 N hN).get
  obtain ⟨k0, hk0⟩ := (lawside_f 0 N hN).get
  have hsw : belt_Switch.f N g (textB N (sideN 0 N)) = some (g, 0) := by rw [switch_b N _ (sideN_lt 0 N) hN g hg, side_zero, switch_zero]
  have hga := gains_b N (sideN a2 N) (sideN_lt a2 N) hN g hg
  have hap : belt_Apart.f N g = some (apartB N g, 0) := by rw [belt_Apart.f, hg, decide_eq_true (show g.length ≤ 12 by omega)]; rfl
  obtain ⟨q1, q2⟩ := apartB_is N g
  have hcl : ∀ c ∈ apartB N g, c.length ≤ 100 := fun c hc => by have := (allB_cyc (q2 c hc)).2.2.1; omega
  have hal : (apartB N g).length ≤ 12 := by
    have h3 := laid_bound N 0 g _ q1 (fun c hc => (allB_cyc (q2 c hc)).1)
    have h4 : (g.countP fun e => !cutB N 0 e) ≤ g.length := List.countP_le_length
    omega
  have hva : belt_Values.f N g = some (valsTo N g (2 ^ N), 0) := by rw [belt_Values.f, hg]; rfl
  have hvl := valsTo_length N g (2 ^ N)
  have hp : 2 ^ N ≤ 2 ^ 12 := Nat.pow_le_pow_right (by omega) hN
  obtain ⟨e1, e2, hck⟩ : ∃ e1 e2, belt_CheckG.f N g (apartB N g) = some (e1, e2) := by
    rw [belt_CheckG.f, if_pos ⟨by omega, by rw [List.all_eq_true]; intro c hc; exact decide_eq_true (hcl c hc)⟩, belt_Check.f]
    exact ⟨_, _, rfl⟩
  obtain ⟨od, oe, hod⟩ : ∃ od oe, belt_Odd.f N g = some (od, oe) := ⟨_, _, rfl⟩
  obtain ⟨km, hsm⟩ := (same_f g (by omega)).get
  have hgf := gains_f N (sideN a2 N) hN g (by omega) hE hne
  obtain ⟨kg, hrg⟩ := hgf.get
  have hge : ((List.range N).map fun j => gainB N (sideN a2 N) j g) = gainsB N (sideN a2 N) g := by simp [gainsB]
  rw [hge] at hrg
  obtain ⟨kv, hrv⟩ := (values_f N h0 hN g (by omega) hE).get
  have hint : ∀ X : List Int, X.length ≤ 1000000 → ∃ k, remouldlaw05_ints.f k X X = some true := fun X hX => by
    have := ints_f X X hX
    rw [decide_eq_true rfl] at this
    exact this.get
  have hgl := gainsB_length N (sideN a2 N) g
  obtain ⟨k1, i1⟩ := hint (gainsB N (sideN a2 N) g) (by omega)
  obtain ⟨k2, i2⟩ := hint (valsTo N g (2 ^ N)) (by omega)
  obtain ⟨ka, haw⟩ := awake_f.get
  exact own_walk a0 a1 _ l1 a2 w (Kd.C_of_reads (d := (0 : Int)) (h1 := fun _ => rfl) hr1) hc1 N g ht hed (by omega) ks _ hks k0 _ hk0 hsw _ hga (by omega) (apartB N g) hap (by omega) (fun c hc => by have := hcl c hc; omega) _ hva (by omega) e1 e2 hck od oe hod km hsm kg hrg kv hrv k1 k2 ka i1 i2 haw
end Go.Proofs.Ytkefmlhkejoknab.L
