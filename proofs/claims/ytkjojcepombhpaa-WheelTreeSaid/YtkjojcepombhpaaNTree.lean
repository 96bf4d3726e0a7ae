/- Plain law: the law WheelTree. -/
import Derived.Test.YtkjojcepombhpaaN11
import Derived.Test.YtkjojcepombhpaaN8
import Derived.Test.YtkjojcepombhpaaXSets
import Derived.Test.YtkjojcepombhpaaL30
namespace Go.Proofs.Ytkjojcepombhpaa.L
set_option linter.unusedVariables false
set_option linter.unusedSimpArgs false
open Go.RowKit Go.Proofs.YtkjojcepombhpaaW.PrintWords Go.Proofs.YtkjojcepombhpaaW.PrintLast Go.Proofs.YtkjojcepombhpaaW.PrintMore

variable {m : Int} {t p : List Int}
/-- The numbers at a depth. -/
def levW (m : Int) (t p : List Int) : Nat → List Int → List Int
  | 0, now => now
  | j + 1, now => levW m t p j (nextW m t p now)
def cntW (m : Int) (t p : List Int) (j : Nat) (now : List Int) : Int := ((levW m t p j now).length : Int)
theorem nextW_append (a b : List Int) : nextW m t p (a ++ b) = nextW m t p a ++ nextW m t p b := by simp [nextW]
theorem levW_append (j : Nat) : ∀ a b : List Int, levW m t p j (a ++ b) = levW m t p j a ++ levW m t p j b := by
  induction j with
  | zero => intro a b; rfl
  | succ j ih => intro a b; rw [levW, levW, levW, nextW_append, ih]
theorem levW_nil (j : Nat) : levW m t p j [] = [] := by
  induction j with
  | zero => rfl
  | succ j ih => rw [levW]; exact ih
theorem cntW_append (j : Nat) (a b : List Int) : cntW m t p j (a ++ b) = cntW m t p j a + cntW m t p j b := by
  unfold cntW
  rw [levW_append, List.length_append]
  omega
/-- How great the numbers become, and how many they are. -/
structure Tame (B N : Nat) (now : List Int) : Prop where
  small : ∀ n ∈ now, n.natAbs ≤ B
  few : now.length ≤ N
theorem back_bound (h : RuleIs m t p) {y n : Int} {B : Nat} (hy : y.natAbs ≤ B) (hn : n ∈ backW m t p y) : n.natAbs ≤ 6 * B + 50 := by
  have e := (backW_mem h).1 hn
  have hmul := h.mul n
  rw [e] at hmul
  have h0 := h.rest n
  obtain ⟨t1, t2, _, p1, p2, _⟩ := h.ok (n % m) h0.1 h0.2
  have hm2 := h.m2
  have hm6 := h.m6
  generalize rd t (n % m) = a at *
  generalize rd p (n % m) = b at *
  have b1 : (m * y).natAbs = m.natAbs * y.natAbs := Int.natAbs_mul m y
  have b2 : m.natAbs * y.natAbs ≤ 6 * B := Nat.mul_le_mul (by omega) hy
  have b3 : (a * n).natAbs = a.natAbs * n.natAbs := Int.natAbs_mul a n
  have b4 : n.natAbs ≤ a.natAbs * n.natAbs := Nat.le_mul_of_pos_left _ (by omega)
  omega
theorem nextW_few (h : RuleIs m t p) : ∀ l : List Int, (nextW m t p l).length ≤ 6 * l.length := by
  intro l
  induction l with
  | nil => simp [nextW]
  | cons y l ih =>
    have e : nextW m t p (y :: l) = backW m t p y ++ nextW m t p l := by simp [nextW]
    have hb := backW_length (m := m) (t := t) (p := p) y
    have htl := h.tl
    have hm6 := h.m6
    rw [e, List.length_append, List.length_cons]
    omega
theorem Tame.next (h : RuleIs m t p) {B N : Nat} {now : List Int} (ht : Tame B N now) : Tame (6 * B + 50) (6 * N) (nextW m t p now) := by
  refine ⟨fun n hn => ?_, ?_⟩
  · simp only [nextW, List.mem_flatMap] at hn
    obtain ⟨y, hy, hn⟩ := hn
    exact back_bound h (ht.small y hy) hn
  · exact Nat.le_trans (nextW_few h now) (Nat.mul_le_mul_left 6 ht.few)
/-- The bounds depth by depth. -/
def bndB : Nat → Nat → Nat
  | 0, B => B
  | j + 1, B => bndB j (6 * B + 50)
theorem sets_levels (h : RuleIs m t p) : ∀ (d B N : Nat) (now out : List Int), Tame B N now → (∀ j, j < d → bndB (j + 1) B ≤ 100000000000) → (∀ j, j < d → 6 ^ (j + 1) * N ≤ 10000) →
    setsGo m t p d now out = some (out ++ (List.range d).map fun j => cntW m t p (j + 1) now) := by
  intro d
  induction d with
  | zero => intro B N now out _ _ _; simp [setsGo]
  | succ d ih =>
    intro B N now out ht hb hn
    have hnx := ht.next h
    have hb0 := hb 0 (by omega)
    have hn0 := hn 0 (by omega)
    simp only [bndB, Nat.zero_add, Nat.pow_one] at hb0 hn0
    rw [setsGo, if_neg, ih (6 * B + 50) (6 * N) _ _ hnx (fun j hj => ?_) (fun j hj => ?_)]
    · rw [List.range_succ_eq_map, List.map_cons, List.map_map, List.append_assoc]
      rfl
    · have := hb (j + 1) (by omega)
      exact this
    · have := hn (j + 1) (by omega)
      rw [Nat.pow_succ] at this
      rw [← Nat.mul_assoc]
      exact this
    · rintro (h1 | h1)
      · have := hnx.few
        omega
      · rw [List.any_eq_true] at h1
        obtain ⟨n, hn', hs⟩ := h1
        have := hnx.small n hn'
        have e : smallB n = true := by simp [smallB, inB]; omega
        rw [e] at hs
        cases hs
theorem tree_sets (h : RuleIs m t p) {y : Int} (hy : y.natAbs ≤ 200000) {K : Nat} (hK : K ≤ 5) : setsGo m t p K [y] [1] = some ((List.range (K + 1)).map fun j => cntW m t p j [y]) := by
  rw [sets_levels h K 200000 1 [y] [1] ⟨by simpa using hy, by simp⟩ (fun j hj => ?_) (fun j hj => ?_)]
  · rw [List.range_succ_eq_map, List.map_cons, List.map_map]
    rfl
  · have hj5 : j = 0 ∨ j = 1 ∨ j = 2 ∨ j = 3 ∨ j = 4 := by omega
    rcases hj5 with rfl | rfl | rfl | rfl | rfl <;> decide
  · have hj5 : j = 0 ∨ j = 1 ∨ j = 2 ∨ j = 3 ∨ j = 4 := by omega
    rcases hj5 with rfl | rfl | rfl | rfl | rfl <;> decide
theorem cnt_bound (h : RuleIs m t p) : ∀ (j N : Nat) (now : List Int), now.length ≤ N → (levW m t p j now).length ≤ 6 ^ j * N := by
  intro j
  induction j with
  | zero => intro N now hn; simpa [levW] using hn
  | succ j ih =>
    intro N now hn
    rw [levW, Nat.pow_succ, Nat.mul_assoc]
    refine ih (6 * N) _ ?_
    exact Nat.le_trans (nextW_few h now) (Nat.mul_le_mul_left 6 hn)
theorem wheel_Sets_ok (h : RuleIs m t p) {y : Int} (hy : y.natAbs ≤ 200000) {K : Nat} (hK : K ≤ 5) : wheel_Sets.f m t p y K = some ((List.range (K + 1)).map (fun j => cntW m t p j [y]), 0) := by
  unfold wheel_Sets.f
  rw [ruleB_of h, show smallB y = true by simp [smallB, inB]; omega, show inB K 0 8 = true by simp [inB]; omega, Int.toNat_natCast, tree_sets h hy hK]
  rfl
theorem rd_range (K : Nat) (f : Nat → Int) (j : Nat) (hj : j < K) : rd ((List.range K).map f) (j : Int) = f j := by simp [rd, hj]
theorem set_range (K : Nat) (f : Nat → Int) (j : Nat) (v : Int) : ((List.range K).map f).set j v = (List.range K).map (fun s => if s = j then v else f s) := by
  apply List.ext_getElem?
  intro s
  rw [List.getElem?_set]
  by_cases h : j = s
  · subst h
    by_cases hs : j < K
    · simp [hs]
    · simp [hs]
  · rw [if_neg h]
    by_cases hs : s < K
    · simp [hs, Ne.symm h]
    · simp [hs]
theorem tree_l1 (h : RuleIs m t p) (K : Nat) (hK : K ≤ 5) (l b : List Int) (hb : b.length ≤ 6) (i : Nat) (hi : i < b.length)
    (next : Ev (fun k => remouldlaw06_WheelTree.l0 k K l b ((List.range K).map fun s => cntW m t p s (b.take (i + 1))) ((i + 1 : Nat) : Int) m t p) true) :
    ∀ d j : Nat, j + d = K → Ev (fun k => remouldlaw06_WheelTree.l1 k K l b ((List.range K).map fun s => if s < j then cntW m t p s (b.take (i + 1)) else cntW m t p s (b.take i)) (i : Int) ((List.range K).map fun s => cntW m t p s [rd b (i : Int)]) (j : Int) m t p) true := by
  have htake : b.take (i + 1) = b.take i ++ [rd b (i : Int)] := by rw [List.take_succ_eq_append_getElem hi, rd_get' b i hi]
  intro d
  induction d with
  | zero =>
    intro j hj
    have e : ((List.range K).map fun s => if s < j then cntW m t p s (b.take (i + 1)) else cntW m t p s (b.take i)) = (List.range K).map fun s => cntW m t p s (b.take (i + 1)) := by
      apply List.map_congr_left
      intro s hs
      rw [List.mem_range] at hs
      rw [if_pos (by omega)]
    rw [e]
    have ew : wrap64 ((i : Int) + 1) = ((i + 1 : Nat) : Int) := by rw [wrap64_id _ (by omega) (by omega)]; rfl
    exact Ev.step (fun k => by rw [remouldlaw06_WheelTree.l1, if_neg (by omega), ew]) next
  | succ d ih =>
    intro j hj
    have ih := ih (j + 1) (by omega)
    have hjK : j < K := by omega
    have hj1 : (j : Int) < (K : Int) := by omega
    have hj0 : (0 : Int) ≤ (j : Int) := by omega
    have hj2 : ∀ f : Nat → Int, (j : Int) < (((List.range K).map f).length : Int) := fun f => by simp; omega
    have ew : wrap64 ((j : Int) + 1) = ((j + 1 : Nat) : Int) := by rw [wrap64_id _ (by omega) (by omega)]; rfl
    have c1 := cnt_bound h j 6 (b.take i) (by rw [List.length_take]; omega)
    have c2 := cnt_bound h j 1 [rd b (i : Int)] (by simp)
    have c3 : 6 ^ j ≤ 6 ^ 5 := Nat.pow_le_pow_right (by decide) (by omega)
    have c4 : (6 : Nat) ^ 5 = 7776 := by decide
    have e1 := rd_range K (fun s => if s < j then cntW m t p s (b.take (i + 1)) else cntW m t p s (b.take i)) j hjK
    have e2 := rd_range K (fun s => cntW m t p s [rd b (i : Int)]) j hjK
    simp only [Nat.lt_irrefl, if_false] at e1
    have e3 : wrap64 (cntW m t p j (b.take i) + cntW m t p j [rd b (i : Int)]) = cntW m t p j (b.take (i + 1)) := by
      rw [htake, cntW_append]
      have d1 : (levW m t p j (b.take i)).length ≤ 46656 := Nat.le_trans c1 (Nat.le_trans (Nat.mul_le_mul_right 6 c3) (by decide))
      have d2 : (levW m t p j [rd b (i : Int)]).length ≤ 46656 := Nat.le_trans c2 (Nat.le_trans (Nat.mul_le_mul_right 1 c3) (by decide))
      unfold cntW
      generalize (levW m t p j (b.take i)).length = x1 at d1
      generalize (levW m t p j [rd b (i : Int)]).length = x2 at d2
      clear c1 c2 c3 c4 e1 e2 ih next
      exact wrap64_id _ (by omega) (by omega)
    have e4 : ((List.range K).map fun s => if s < j then cntW m t p s (b.take (i + 1)) else cntW m t p s (b.take i)).set j (cntW m t p j (b.take (i + 1))) = (List.range K).map fun s => if s < j + 1 then cntW m t p s (b.take (i + 1)) else cntW m t p s (b.take i) := by
      rw [set_range]
      apply List.map_congr_left
      intro s _
      by_cases h1 : s = j
      · subst h1; rw [if_pos rfl, if_pos (by omega)]
      · rw [if_neg h1]
        by_cases h2 : s < j
        · rw [if_pos h2, if_pos (by omega)]
        · rw [if_neg h2, if_neg (by omega)]
    exact Ev.step (fun k => by rw [remouldlaw06_WheelTree.l1, if_pos hj1, if_pos hj0, if_pos (hj2 _), if_pos (hj2 _), e1, e2, e3, Int.toNat_natCast, e4, ew]) ih
theorem tree_l0 (h : RuleIs m t p) (K : Nat) (h0 : 1 ≤ K) (hK : K ≤ 5) (l b : List Int) (hb : b.length ≤ 6) (hbs : ∀ z ∈ b, z.natAbs ≤ 200000) (hl : l.drop 1 = (List.range K).map fun s => cntW m t p s b) (hll : l.length = K + 1) :
    ∀ d i : Nat, i + d = b.length → Ev (fun k => remouldlaw06_WheelTree.l0 k K l b ((List.range K).map fun s => cntW m t p s (b.take i)) (i : Int) m t p) true := by
  intro d
  induction d with
  | zero =>
    intro i hi
    rw [List.take_of_length_le (by omega)]
    refine Ev.step (fun k => by rw [remouldlaw06_WheelTree.l0, if_neg (by omega), if_pos (by omega)]) (Ev.bind (ints_f _ _ (by simp; omega)) ?_)
    exact Ev.pos (by rw [hl]; simp) awake_t
  | succ d ih =>
    intro i hi
    have ih := ih (i + 1) (by omega)
    have hmem : rd b (i : Int) ∈ b := by rw [rd_get' b i (by omega)]; exact List.getElem_mem _
    obtain ⟨K', rfl⟩ : ∃ K', K = K' + 1 := ⟨K - 1, by omega⟩
    have hS := wheel_Sets_ok h (hbs _ hmem) (K := K') (by omega)
    have hl1 := tree_l1 h (K' + 1) hK l b hb i (by omega) ih (K' + 1) 0 (by omega)
    have ew : wrap64 (((K' + 1 : Nat) : Int) - 1) = (K' : Int) := by rw [wrap64_id _ (by omega) (by omega)]; omega
    have hlt : (i : Int) < (b.length : Int) := by omega
    have hge : (0 : Int) ≤ (i : Int) := by omega
    refine Ev.step (fun k => by rw [remouldlaw06_WheelTree.l0, if_pos hlt, if_pos hge, ew]) (Ev.bind (Ev.of hS) (Ev.pos rfl ?_))
    dsimp only
    have e : ((((List.range (K' + 1)).map fun j => cntW m t p j [rd b (i : Int)]).length : Int) != ((K' + 1 : Nat) : Int)) = false := by simp
    rw [e]
    exact Ev.step (fun k => by rw [remouldlaw06_WheelTree.j3, if_neg (show ¬ (false = true) by decide)]; rfl) hl1
theorem pureTree : remouldlaw06_WheelTree.Pure := by
  intro a0 l1 l2 a3 a4 _ _ _ _ _ _ _ _ _
  apply Ev.get
  unfold remouldlaw06_WheelTree.f
  obtain ⟨m, T, P, hT, hR⟩ := tame_f a0 l1 l2
  have hb := modW_in a3 65536 (by decide)
  have hk := modW_in a4 5 (by decide)
  refine Ev.bind hT (Ev.bind (Ev.of (mod_f a3 65536 (by decide) (by decide))) (Ev.bind (Ev.of (mod_f a4 5 (by decide) (by decide))) ?_))
  rw [wrap64_id (modW a3 65536 - 32768) (by omega) (by omega), wrap64_id (1 + modW a4 5) (by omega) (by omega)]
  obtain ⟨y, hy⟩ : ∃ y, modW a3 65536 - 32768 = y := ⟨_, rfl⟩
  obtain ⟨K, hK⟩ : ∃ K : Nat, 1 + modW a4 5 = (K : Int) := ⟨(1 + modW a4 5).toNat, by omega⟩
  rw [hy, hK]
  have hyb : y.natAbs ≤ 32768 := by omega
  have hsy : smallB y = true := by simp [smallB, inB]; omega
  have hS := wheel_Sets_ok hR (show y.natAbs ≤ 200000 by omega) (K := K) (by omega)
  have hbb : ∀ z ∈ backW m T P y, z.natAbs ≤ 200000 := fun z hz => by have := back_bound hR hyb hz; omega
  have hany : (backW m T P y).any (fun n => !smallB n) = false := by
    rw [List.any_eq_false]
    intro z hz
    have := hbb z hz
    have e : smallB z = true := by simp [smallB, inB]; omega
    rw [e]; decide
  have hBk := wheel_Back_ok hR hsy
  rw [hany, if_neg (by decide)] at hBk
  have hbl := backW_length (m := m) (t := T) (p := P) y
  have htl := hR.tl
  have hm6 := hR.m6
  have hnx : nextW m T P [y] = backW m T P y := by simp [nextW]
  have hdrop : (((List.range (K + 1)).map fun j => cntW m T P j [y]).drop 1) = (List.range K).map fun s => cntW m T P s (backW m T P y) := by
    rw [List.range_succ_eq_map, List.map_cons, List.map_map, List.drop_one, List.tail_cons]
    apply List.map_congr_left
    intro s _
    show cntW m T P (s + 1) [y] = _
    unfold cntW
    rw [levW, hnx]
  have hl0 := tree_l0 hR K (by omega) (by omega) ((List.range (K + 1)).map fun j => cntW m T P j [y]) (backW m T P y) (by omega) hbb hdrop (by simp) (backW m T P y).length 0 (by omega)
  have hz : ((List.range K).map fun s => cntW m T P s ((backW m T P y).take 0)) = List.replicate K 0 := by
    rw [List.take_zero]
    apply List.ext_getElem?
    intro s
    by_cases hs : s < K
    · simp [hs, cntW, levW_nil]
    · simp [hs]
  rw [hz] at hl0
  have hlen : (((List.range (K + 1)).map fun j => cntW m T P j [y]).length : Int) = ((K : Int) + 1) := by simp
  have hrd0 : rd ((List.range (K + 1)).map fun j => cntW m T P j [y]) 0 = 1 := by
    have := rd_range (K + 1) (fun j => cntW m T P j [y]) 0 (by omega)
    exact this
  have hrd1 : rd ((List.range (K + 1)).map fun j => cntW m T P j [y]) 1 = ((backW m T P y).length : Int) := by
    have := rd_range (K + 1) (fun j => cntW m T P j [y]) 1 (by omega)
    refine Eq.trans this ?_
    unfold cntW
    rw [levW, hnx]
    rfl
  refine Ev.bind (Ev.of hS) (Ev.bind (Ev.of hBk) (Ev.pos rfl ?_))
  dsimp only
  rw [show ((0 : Int) != 0) = false by decide]
  generalize ((List.range (K + 1)).map fun j => cntW m T P j [y]) = L at *
  refine Ev.step (h := fun k => remouldlaw06_WheelTree.j1 k K L (backW m T P y) false m T P) (fun k => by
    rw [remouldlaw06_WheelTree.j0, if_neg (show ¬ (false = true) by decide), wrap64_id ((K : Int) + 1) (by omega) (by omega), if_pos hlen, if_pos (by omega), if_pos hrd0, if_pos (by omega), hrd1]
    simp) ?_
  refine Ev.step (fun k => by rw [remouldlaw06_WheelTree.j1, if_neg (show ¬ (false = true) by decide), if_pos (by omega), if_pos (by omega), Int.toNat_natCast]; rfl) hl0
end Go.Proofs.Ytkjojcepombhpaa.L
