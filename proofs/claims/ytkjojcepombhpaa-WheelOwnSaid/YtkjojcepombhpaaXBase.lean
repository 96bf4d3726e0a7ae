/- Walks of the small functions of wheel: within, isSmall, gcd, rest, sent, fixed, newRule. -/
import Derived.Test.YtkjojcepombhpaaL0
import Derived.Test.YtkjojcepombhpaaM3
import Derived.RangeFuncBox
import Derived.Lib.Hide
import Derived.Deep.RegionHeld3
import Derived.Laws.BitsAllLaws
import Derived.Handy
import Derived.Laws.StructEq
import Derived.Maps.OwnSet
import Derived.RangeFuncNested
import Derived.RangeFuncBound
import Derived.RangeFuncCalls
import Derived.RangeFuncLeaves
import Derived.Shelf.Abstract
import Derived.Shelf.AbstractIn
import Derived.Shelf.RegionOpen
import Derived.OwnWalkIn
import Derived.TacticsInMore
import Derived.LoopNIn
import Derived.LoopIn
import Derived.Sort.QuietIn
/- Words on memory: a block that is known whole. -/
namespace Go.Proofs.Ytkjojcepombhpaa.L
set_option linter.unusedVariables false
open Go.RowKit

/-- Block g of w is the row cs of cells, elements of type t, none of them frozen. -/
def Whole (w : World) (g : Nat) (t : TypeId) (cs : Array Value) : Prop := w.heap[g]? = some (.cells cs t (0, 0))
section
variable {w w' : World} {g : Nat} {t : TypeId} {cs : Array Value}
theorem Whole.lt (h : Whole w g t cs) : g < w.heap.size := (Array.getElem?_eq_some_iff.1 h).1
theorem Whole.cell (h : Whole w g t cs) (i : Nat) : w.cell? ⟨g, i, none⟩ = cs[i]? := by
  unfold World.cell?; rw [show w.heap[g]? = _ from h]; rfl
theorem Whole.frozen (h : Whole w g t cs) (i : Nat) : w.frozen? ⟨g, i, none⟩ = false := by
  unfold World.frozen?; rw [show w.heap[g]? = _ from h]; simp
theorem Whole.new (w : World) (t : TypeId) (cs : Array Value) : Whole (w.alloc (.cells cs t)) w.heap.size t cs := World.alloc_heap_new w _
theorem Whole.alloc (h : Whole w g t cs) (o : Obj) : Whole (w.alloc o) g t cs := (Below.heap_alloc w o g h.lt).trans h
theorem Whole.drew (h : Whole w g t cs) : Whole w.drew g t cs := h
theorem Whole.below {B : Nat} (h : Whole w g t cs) (hb : Below B w w') (hg : g < B) : Whole w' g t cs := (hb.block g hg).trans h
theorem Whole.far (h : Whole w g t cs) {p : Addr} (hp : g ≠ p.block) (u : Value) : Whole (w.setCell p u) g t cs := (Below.heap_setCell w p u g hp).trans h
theorem Whole.set (h : Whole w g t cs) (i : Nat) (u : Value) : Whole (w.setCell ⟨g, i, none⟩ u) g t (cs.setIfInBounds i u) := by
  unfold Whole at h ⊢
  show (w.heap.modify g _)[g]? = _
  obtain ⟨hlt, hk⟩ := Array.getElem?_eq_some_iff.1 h
  rw [Array.getElem?_eq_getElem (by rw [Array.size_modify]; exact hlt), Array.getElem_modify_self, hk]
  rfl
theorem Whole.grown {row : Option Nat} (h : Whole w g t cs) (hb : w.grownBy w' row) (hg : some g ≠ row) : Whole w' g t cs := (hb.block g h.lt hg).trans h
theorem Whole.ne_of {g' : Nat} {t' : TypeId} {cs' : Array Value} (h : Whole w g t cs) (h' : Whole w g' t' cs') (hne : t ≠ t') : g ≠ g' := by
  rintro rfl
  have := h.symm.trans h'
  injection this with this
  injection this with _ ht
  exact hne ht
end
theorem Whole.putObj {w : World} {g : Nat} {t : TypeId} {cs : Array Value} (h : Whole w g t cs) {r : Nat} (hr : g ≠ r) (o : Obj) : Whole (w.putObj r o) g t cs := (World.putObj_heap_other hr).trans h
theorem Below.putObj {B : Nat} {a w : World} (h : Below B a w) {r : Nat} (hr : B ≤ r) (o : Obj) : Below B a (w.putObj r o) :=
  h.trans ⟨rfl, rfl, rfl, by simp, fun k hk => World.putObj_heap_other (by omega)⟩
theorem Below.setAt {B : Nat} {a w : World} (h : Below B a w) {b : Nat} (hb : B ≤ b) (i : Nat) (u : Value) : Below B a (w.setCell ⟨b, i, none⟩ u) := h.setCell (p := ⟨b, i, none⟩) hb u
/-- What lay below stays: cells and marks. -/
theorem below_cells {W W1 : World} (hb : Below W.heap.size W W1) : (∀ b o, b < W.heap.size → W1.cell? ⟨b, o, none⟩ = W.cell? ⟨b, o, none⟩) ∧ (∀ b o, b < W.heap.size → W1.frozen? ⟨b, o, none⟩ = W.frozen? ⟨b, o, none⟩) :=
  ⟨fun b o h => hb.cell (p := ⟨b, o, none⟩) h, fun b o h => hb.frozen (p := ⟨b, o, none⟩) h⟩

end Go.Proofs.Ytkjojcepombhpaa.L

namespace Go.Proofs.Ytkjojcepombhpaa.L
set_option linter.unusedVariables false
set_option linter.unusedSimpArgs false
open Go.RowKit Go.Proofs.YtkjojcepombhpaaW.PrintWords Go.Proofs.YtkjojcepombhpaaW.PrintLast Go.Proofs.YtkjojcepombhpaaW.PrintMore

/-- A number is from lo to hi. -/
def inB (a lo hi : Int) : Bool := decide (lo ≤ a) && decide (a ≤ hi)
def smallB (x : Int) : Bool := inB x (-1099511627776) 1099511627776

theorem within_any (a lo hi : Int) (w : World) : Calls Try.prog 60 #[.int .i64 a, .int .i64 lo, .int .i64 hi] w fun e w' => e = .returned (.bool (inB a lo hi)) ∧ w = w' := by
  unfold inB
  by_cases h1 : lo ≤ a <;> by_cases h2 : a ≤ hi
  all_goals
    go_enter Try.func60, Try.ntmps60
    go_wp2
    go_ret
    exact ⟨by simp [h1, h2], rfl⟩
theorem small_any (a : Int) (w : World) : Calls Try.prog 59 #[.int .i64 a] w fun e w' => e = .returned (.bool (smallB a)) ∧ w = w' := by
  go_enter Try.func59, Try.ntmps59
  go_wp2_with (go_at_call 60; refine (within_any _ _ _ _).mono ?_; rintro e w' ⟨rfl, rfl⟩)
  go_ret
  exact ⟨rfl, rfl⟩

/-- A rule as a value; as the block that it is boxed in. -/
abbrev rv (m : Int) (tv pv : Value) : Value := .agg #[.int .i64 m, tv, pv]
abbrev rbox (m : Int) (tv pv : Value) : Obj := .cells #[.int .i64 m, tv, pv] 75

theorem rest_eq {m x : Int} (h : 2 ≤ m) (h6 : m ≤ 6) : (wrap64 (x.tmod m + m)).tmod m = x % m := by
  have h1 := Int.tmod_lt_of_pos x (show 0 < m by omega)
  have h2 : -m < x.tmod m := by
    have e2 := Int.mul_tdiv_add_tmod x m
    have e3 := Int.tmod_lt_of_pos (-x) (show 0 < m by omega)
    rw [Int.neg_tmod] at e3
    omega
  have e1 : wrap64 (x.tmod m + m) = x.tmod m + m := by unfold wrap64; omega
  rw [e1, Int.tmod_eq_emod_of_nonneg (by omega), Int.add_emod_right]
  have e2 := Int.mul_tdiv_add_tmod x m
  conv => rhs; rw [← e2, Int.mul_add_emod_self_left]
theorem rest_any (m : Int) (tv pv : Value) (x : Int) (w : World) (ht : tv.oneCell' = true) (hp : pv.oneCell' = true) (hm : 2 ≤ m) (hm6 : m ≤ 6) :
    Calls Try.prog 73 #[rv m tv pv, .int .i64 x] w fun e w' => e = .returned (.int .i64 (x % m)) ∧ Below w.heap.size w w' := by
  have HE := Lib.hid (rest_eq (x := x) hm hm6)
  go_enter Try.func73, Try.ntmps73
  go_wp2
  go_quiet (fail)
  go_wp2
  go_ret
  rw [HE.out]
  exact ⟨rfl, pw_below_drewN (below_alloc (Below.refl _ _) _) _⟩

/-- A number that a rule's walk may multiply. -/
def midB (x : Int) : Prop := -200000000000000000 ≤ x ∧ x ≤ 200000000000000000
theorem sent_any (m : Int) (A1 A2 : Option Addr) (c1 c2 : Nat) (t p : List Int) (x : Int) (w : World) (hR : RuleIs m t p) (hx : midB x) (h1 : Kd.C (Kd.int .i64) w A1 t.length t) (h2 : Kd.C (Kd.int .i64) w A2 p.length p) :
    Calls Try.prog 74 #[rv m (.slice A1 t.length c1) (.slice A2 p.length c2), .int .i64 x] w fun e w' => e = .returned (.int .i64 (sentW m t p x)) ∧ Below w.heap.size w w' := by
  have hm := hR.m2
  have hm6 := hR.m6
  have htl := hR.tl
  have hpl := hR.pl
  obtain ⟨r0, r1⟩ := hR.rest x
  obtain ⟨n1, n2⟩ := hR.num hx.1 hx.2
  obtain ⟨q0, q1, _, q2, q3, _⟩ := hR.ok _ r0 r1
  have HE := Lib.hid (show wrap64 ((wrap64 (wrap64 (rd t (x % m) * x) + rd p (x % m))).tdiv m) = sentW m t p x from by
    have e1 : wrap64 (rd t (x % m) * x) = rd t (x % m) * x := by unfold wrap64; omega
    have e2 : wrap64 (rd t (x % m) * x + rd p (x % m)) = rd t (x % m) * x + rd p (x % m) := by unfold wrap64; omega
    have e3 := hR.bound hx.1 hx.2
    rw [e1, e2, hR.tdiv x]
    unfold wrap64; omega)
  have HA := Lib.hid h1
  have HB := Lib.hid h2
  clear h1 h2
  generalize hr : x % m = r at *
  have HR := Lib.hid hr
  go_enter Try.func74, Try.ntmps74
  go_wp2_with (go_at_call 73; refine (rest_any m _ _ x _ rfl rfl hm hm6).mono ?_; rintro e w1 ⟨rfl, hb⟩; rw [HR.out]; have HB1 := Lib.hid hb; clear hb)
  have B1 := below_then (below_alloc (Below.refl w.heap.size w) (rbox m (.slice A1 t.length c1) (.slice A2 p.length c2))) (by simp) HB1.out
  have G1 := (Whole.new w 75 #[.int .i64 m, .slice A1 t.length c1, .slice A2 p.length c2]).below HB1.out (by simp)
  obtain ⟨ad1, rfl, k1⟩ := Kd.at_int (Kd.C_below HA.out B1) r r0 (by omega)
  obtain ⟨ad2, rfl, k2⟩ := Kd.at_int (Kd.C_below HB.out B1) r r0 (by omega)
  have g0 := G1.cell 0
  have g1 := G1.cell 1
  have g2 := G1.cell 2
  simp only [List.getElem?_toArray, List.getElem?_cons_zero, List.getElem?_cons_succ] at g0 g1 g2
  have hlt := G1.lt
  have HB2 := Lib.hid B1
  clear B1 G1 HB1
  clear n1 n2
  go_quiet (fail)
  go_wp2
  go_ret
  exact ⟨congrArg (fun b => Ending.returned (Value.int .i64 b)) HE.out, pw_below_drewN HB2.out _⟩

theorem gcd_step (a b : Int) : Int.gcd b (Int.tmod a b) = Int.gcd a b := by
  show Nat.gcd b.natAbs (Int.tmod a b).natAbs = Nat.gcd a.natAbs b.natAbs
  rw [Int.natAbs_tmod, Nat.gcd_comm a.natAbs, Nat.gcd_rec b.natAbs a.natAbs, Nat.gcd_comm]
attribute [local go_sem] max2_int min2_int max_two min_two in
set_option maxHeartbeats 1000000 in
theorem gcd_any (a b : Int) (w : World) (ha : -4611686018427387904 ≤ a ∧ a ≤ 4611686018427387904) (hb : -4611686018427387904 ≤ b ∧ b ≤ 4611686018427387904) :
    Calls Try.prog 82 #[.int .i64 a, .int .i64 b] w fun e w' => e = .returned (.int .i64 (Int.gcd a b : Int)) ∧ (∃ n, w.drewN n = w') := by
  obtain ⟨g, hg⟩ : ∃ g, Int.gcd a b = g := ⟨_, rfl⟩
  rw [hg]
  go_enter Try.func82, Try.ntmps82
  go_wp2
  go_loopw [0, 1] (fun u v wr => ∃ x y : Int, u = .int .i64 x ∧ v = .int .i64 y ∧ (∃ n, w.drewN n = wr) ∧ (-4611686018427387904 ≤ x ∧ x ≤ 4611686018427387904) ∧ (-4611686018427387904 ≤ y ∧ y ≤ 4611686018427387904) ∧ Hid (Int.gcd x y = g)) (fun _ v _ => (intOf v).natAbs)
  case atStart => exact ⟨a, b, rfl, rfl, ⟨0, rfl⟩, ha, hb, Lib.hid hg⟩
  case round =>
    obtain ⟨x, y, rfl, rfl, ⟨n, rfl⟩, hx, hy, HG⟩ := hrel
    by_cases h0 : y = 0
    · subst h0
      have HX := Lib.hid (show (if x < wrap64 (-x) then wrap64 (-x) else x) = (g : Int) from by
        have e1 : wrap64 (-x) = -x := by unfold wrap64; omega
        have e2 := HG.out
        rw [Int.gcd_zero_right] at e2
        rw [e1, ← e2]
        split <;> omega)
      have e1 : wrap64 (-x) = -x := by unfold wrap64; omega
      have hx2 := HX.out
      rw [e1] at hx2
      clear e1
      by_cases hs : x < -x
      · rw [if_pos hs] at hx2
        have HX2 := Lib.hid hx2
        go_wp2
        go_ret
        exact ⟨by rw [← HX2.out]; rfl, n, rfl⟩
      · rw [if_neg hs] at hx2
        have HX2 := Lib.hid hx2
        go_wp2
        go_ret
        exact ⟨by rw [← HX2.out]; rfl, n, rfl⟩
    · have HG2 := Lib.hid ((gcd_step x y).trans HG.out)
      have t1 := Int.natAbs_tmod x y
      have t2 := Nat.mod_lt x.natAbs (show 0 < y.natAbs by omega)
      rw [← t1] at t2
      clear t1
      generalize ht : x.tmod y = z at *
      go_wp2
      go_quiet (fail)
      go_wp2
      exact ⟨⟨y, z, rfl, rfl, ⟨_, (World.drewN_drewN _ _ _).symm⟩, hy, by omega, HG2⟩, by simp [intOf]; omega⟩

theorem drewN_below {w w' : World} (h : ∃ n, w.drewN n = w') : Below w.heap.size w w' := by
  obtain ⟨n, rfl⟩ := h
  exact pw_below_drewN (Below.refl _ _) n
/-- The fraction that a form sends to itself. -/
def fixNum (a b d : Int) : Int := (if d - a < 0 then -b else b) / (Int.gcd b (d - a) : Int)
def fixDen (a b d : Int) : Int := (if d - a < 0 then -(d - a) else d - a) / (Int.gcd b (d - a) : Int)
/-- A number of a form. -/
def formB (x : Int) : Prop := -1152921504606846976 ≤ x ∧ x ≤ 1152921504606846976
theorem tdiv_of_dvd {x g : Int} (h : g ∣ x) : x.tdiv g = x / g := by
  rw [Int.tdiv_eq_ediv]
  simp [h]
theorem fixed_any (a b d : Int) (w : World) (ha : formB a) (hb : formB b) (hd : formB d) (hne : a ≠ d) :
    Calls Try.prog 66 #[.int .i64 a, .int .i64 b, .int .i64 d] w fun e w' => e = .returned (.agg #[.int .i64 (fixNum a b d), .int .i64 (fixDen a b d)]) ∧ Below w.heap.size w w' := by
  obtain ⟨ha1, ha2⟩ := ha
  obtain ⟨hb1, hb2⟩ := hb
  obtain ⟨hd1, hd2⟩ := hd
  obtain ⟨den, hden⟩ : ∃ den, d - a = den := ⟨_, rfl⟩
  obtain ⟨g, hg⟩ : ∃ g : Int, (Int.gcd b den : Int) = g := ⟨_, rfl⟩
  have hg0 : g ≠ 0 := by
    rw [← hg]
    intro e
    have e2 : Int.gcd b den = 0 := by omega
    rw [Int.gcd_eq_zero_iff] at e2
    omega
  have hgp : 0 < g := by
    have : 0 ≤ g := by rw [← hg]; omega
    omega
  have d1 : g ∣ b := by rw [← hg]; exact Int.gcd_dvd_left ..
  have d2 : g ∣ den := by rw [← hg]; exact Int.gcd_dvd_right ..
  have b1 : ∀ x : Int, -4611686018427387904 ≤ x → x ≤ 4611686018427387904 → wrap64 (x / g) = x / g := by
    intro x h1 h2
    have e1 : (x / g).natAbs ≤ x.natAbs := Int.natAbs_ediv_le_natAbs _ _
    unfold wrap64; omega
  unfold fixNum fixDen
  rw [hden, hg]
  by_cases hs : den < 0
  · have hc := gcd_any (-b) (-den)
    rw [Int.neg_gcd, Int.gcd_neg, hg] at hc
    have HN := Lib.hid (show wrap64 ((-b).tdiv g) = -b / g from by rw [tdiv_of_dvd (Int.dvd_neg.2 d1)]; exact b1 _ (by omega) (by omega))
    have HD := Lib.hid (show wrap64 ((-den).tdiv g) = -den / g from by rw [tdiv_of_dvd (Int.dvd_neg.2 d2)]; exact b1 _ (by omega) (by omega))
    rw [if_pos hs, if_pos hs]
    subst hden
    go_enter Try.func66, Try.ntmps66
    go_wp2_with (go_at_call 82; refine (hc _ (by omega) (by omega)).mono ?_; rintro e w1 ⟨rfl, n, rfl⟩)
    go_region
    go_wp2
    exact bodyPost_ret (v := .agg #[.int .i64 (wrap64 ((-b).tdiv g)), .int .i64 (wrap64 ((-(d - a)).tdiv g))]) (by simp [results, Try.results66, go_sem]) rfl ⟨by rw [HN.out, HD.out], Below.setAt (Below.setAt (pw_below_drewN (below_alloc (Below.refl _ _) _) _) (Nat.le_refl _) 0 _) (Nat.le_refl _) 1 _⟩
  · have hc := gcd_any b den
    rw [hg] at hc
    have HN := Lib.hid (show wrap64 (b.tdiv g) = b / g from by rw [tdiv_of_dvd d1]; exact b1 _ (by omega) (by omega))
    have HD := Lib.hid (show wrap64 (den.tdiv g) = den / g from by rw [tdiv_of_dvd d2]; exact b1 _ (by omega) (by omega))
    rw [if_neg hs, if_neg hs]
    subst hden
    go_enter Try.func66, Try.ntmps66
    go_wp2_with (go_at_call 82; refine (hc _ (by omega) (by omega)).mono ?_; rintro e w1 ⟨rfl, n, rfl⟩)
    go_region
    go_wp2
    exact bodyPost_ret (v := .agg #[.int .i64 (b / g), .int .i64 ((d - a) / g)]) (by have e1 := HN.out; have e2 := HD.out; simp [results, Try.results66, go_sem]; first | exact ⟨e1, e2⟩ | exact e1 | exact ⟨(tdiv_of_dvd d1), rfl⟩ | exact tdiv_of_dvd d1) rfl ⟨rfl, Below.setAt (Below.setAt (pw_below_drewN (below_alloc (Below.refl _ _) _) _) (Nat.le_refl _) 0 _) (Nat.le_refl _) 1 _⟩

/-- The k-th remainder of a rule is in order. -/
def ruleAt (m : Int) (t p : List Int) (k : Int) : Bool :=
  inB (rd t k) 1 20 && (!decide (1 < (Int.gcd (rd t k) m : Int)) && (inB (rd p k) (-50) 50 && ((rd t k * k + rd p k).tmod m == 0)))
def ruleB (m : Int) (t p : List Int) : Bool :=
  inB m 2 6 && (decide ((t.length : Int) = m) && (decide ((p.length : Int) = m) && (List.range t.length).all fun k => ruleAt m t p (k : Int)))

theorem ruleB_is {m : Int} {t p : List Int} (h : ruleB m t p = true) : RuleIs m t p := by
  simp only [ruleB, inB, ruleAt, Bool.and_eq_true, decide_eq_true_eq, List.all_eq_true, List.mem_range, Bool.not_eq_true', decide_eq_false_iff_not, beq_iff_eq] at h
  obtain ⟨⟨h1, h2⟩, h3, h4, h5⟩ := h
  refine ⟨h1, h2, h3, h4, fun k k0 k1 => ?_⟩
  obtain ⟨⟨a1, a2⟩, a3, ⟨a4, a5⟩, a6⟩ := h5 k.toNat (by omega)
  rw [Int.toNat_of_nonneg k0] at a1 a2 a3 a4 a5 a6
  refine ⟨a1, a2, ?_, a4, a5, Int.dvd_of_tmod_eq_zero a6⟩
  have : Int.gcd (rd t k) m ≠ 0 := by
    intro e
    rw [Int.gcd_eq_zero_iff] at e
    omega
  omega
theorem ruleB_of {m : Int} {t p : List Int} (h : RuleIs m t p) : ruleB m t p = true := by
  simp only [ruleB, inB, ruleAt, Bool.and_eq_true, decide_eq_true_eq, List.all_eq_true, List.mem_range, Bool.not_eq_true', decide_eq_false_iff_not, beq_iff_eq]
  refine ⟨⟨h.m2, h.m6⟩, h.tl, h.pl, fun k hk => ?_⟩
  obtain ⟨a1, a2, a3, a4, a5, a6⟩ := h.ok (k : Int) (by omega) (by have := h.tl; omega)
  exact ⟨⟨a1, a2⟩, by omega, ⟨a4, a5⟩, Int.tmod_eq_zero_of_dvd a6⟩

abbrev zbox : Obj := .cells #[.int .i64 0, .slice none 0 0, .slice none 0 0] 75
theorem Whole.three {w : World} {g : Nat} {t : TypeId} {x y z : Value} (h : Whole w g t #[x, y, z]) (a b c : Value) : Whole (((w.setCell ⟨g, 0, none⟩ a).setCell ⟨g, 1, none⟩ b).setCell ⟨g, 2, none⟩ c) g t #[a, b, c] := by
  have := ((h.set 0 a).set 1 b).set 2 c
  simpa using this

section
attribute [local irreducible] wpQuiet
set_option maxRecDepth 100000 in
set_option maxHeartbeats 4000000 in
theorem newRule_any (m : Int) (A1 A2 : Option Addr) (c1 c2 : Nat) (t p : List Int) (w : World) (h1 : Kd.C (Kd.int .i64) w A1 t.length t) (h2 : Kd.C (Kd.int .i64) w A2 p.length p) :
    Calls Try.prog 58 #[rv m (.slice A1 t.length c1) (.slice A2 p.length c2)] w fun e w' => e = .returned (.tuple #[rv m (.slice A1 t.length c1) (.slice A2 p.length c2), .bool (ruleB m t p)]) ∧ Below w.heap.size w w' := by
  have HA := Lib.hid h1
  have HB := Lib.hid h2
  clear h1 h2
  cases hm : inB m 2 6
  · have HR := Lib.hid (show ruleB m t p = false from by rw [ruleB, hm]; rfl)
    go_enter Try.func58, Try.ntmps58
    go_wp2_with (go_at_call 60; refine (within_any _ _ _ _).mono ?_; rintro e w' ⟨rfl, rfl⟩)
    exact bodyPost_ret (v := .tuple #[rv m (.slice A1 t.length c1) (.slice A2 p.length c2), .bool false]) (by simp [results, Try.results58, go_sem]) rfl ⟨by rw [HR.out], below_alloc (below_alloc (below_alloc (Below.refl _ _) _) _) _⟩
  · by_cases h3 : (t.length : Int) = m
    case neg =>
      have HR := Lib.hid (show ruleB m t p = false from by rw [ruleB, decide_eq_false h3]; simp)
      go_enter Try.func58, Try.ntmps58
      go_wp2_with (go_at_call 60; refine (within_any _ _ _ _).mono ?_; rintro e w' ⟨rfl, rfl⟩)
      exact bodyPost_ret (v := .tuple #[rv m (.slice A1 t.length c1) (.slice A2 p.length c2), .bool false]) (by simp [results, Try.results58, go_sem]) rfl ⟨by rw [HR.out], below_alloc (below_alloc (below_alloc (Below.refl _ _) _) _) _⟩
    by_cases h4 : (p.length : Int) = m
    case neg =>
      have HR := Lib.hid (show ruleB m t p = false from by rw [ruleB, decide_eq_false h4]; simp)
      go_enter Try.func58, Try.ntmps58
      go_wp2_with (go_at_call 60; refine (within_any _ _ _ _).mono ?_; rintro e w' ⟨rfl, rfl⟩)
      exact bodyPost_ret (v := .tuple #[rv m (.slice A1 t.length c1) (.slice A2 p.length c2), .bool false]) (by simp [results, Try.results58, go_sem]) rfl ⟨by rw [HR.out], below_alloc (below_alloc (below_alloc (Below.refl _ _) _) _) _⟩
    have hm2 : 2 ≤ m ∧ m ≤ 6 := by simpa [inB] using hm
    have HR := Lib.hid (show ruleB m t p = (List.range t.length).all fun k => ruleAt m t p (k : Int) from by rw [ruleB, hm, decide_eq_true h3, decide_eq_true h4]; rfl)
    go_enter Try.func58, Try.ntmps58
    go_wp2_with (go_at_call 60; refine (within_any _ _ _ _).mono ?_; rintro e w' ⟨rfl, rfl⟩)
    go_loopw [38] (fun i wr => ∃ k : Nat, k ≤ t.length ∧ i = .int .i64 k ∧ Below w.heap.size w wr ∧ Whole wr (w.heap.size + 1) 75 #[.int .i64 0, .slice none 0 0, .slice none 0 0] ∧ Whole wr (w.heap.size + 1 + 1) 75 #[.int .i64 m, .slice A1 t.length c1, .slice A2 p.length c2] ∧ Hid (∀ j, j < k → ruleAt m t p (j : Int) = true)) (fun i _ => t.length - (intOf i).toNat)
    case atStart =>
      have e1 := (Whole.new (w.alloc (.cells #[.int .i64 m, .slice A1 t.length c1, .slice A2 p.length c2] 24)) 75 #[.int .i64 0, .slice none 0 0, .slice none 0 0]).alloc (rbox m (.slice A1 t.length c1) (.slice A2 p.length c2))
      have e2 := Whole.new ((w.alloc (.cells #[.int .i64 m, .slice A1 t.length c1, .slice A2 p.length c2] 24)).alloc zbox) 75 #[.int .i64 m, .slice A1 t.length c1, .slice A2 p.length c2]
      simp only [World.size_alloc] at e1 e2
      exact ⟨0, Nat.zero_le _, rfl, below_alloc (below_alloc (below_alloc (Below.refl _ _) _) _) _, e1, e2, Lib.hid (by omega)⟩
    case round =>
      obtain ⟨k, hk, rfl, hB, hZ, hG, HN⟩ := hrel
      have z0 := hZ.cell 0
      have z1 := hZ.cell 1
      have z2 := hZ.cell 2
      have zf := hZ.frozen
      have g0 := hG.cell 0
      have g1 := hG.cell 1
      have g2 := hG.cell 2
      simp only [List.getElem?_toArray, List.getElem?_cons_zero, List.getElem?_cons_succ] at g0 g1 g2 z0 z1 z2
      have hltG := hG.lt
      have HB3 := Lib.hid hB
      by_cases hlt : k < t.length
      · obtain ⟨ad1, rfl, k1⟩ := Kd.at_int (Kd.C_below HA.out hB) (k : Int) (by omega) (by omega)
        obtain ⟨ad2, rfl, k2⟩ := Kd.at_int (Kd.C_below HB.out hB) (k : Int) (by omega) (by omega)
        have HGW := Lib.hid hG
        have HZW := Lib.hid hZ
        clear hB hG hZ
        simp only [Int.toNat_natCast] at k1 k2
        have hat : ruleAt m t p (k : Int) = (inB (rd t k) 1 20 && (!decide (1 < (Int.gcd (rd t k) m : Int)) && (inB (rd p k) (-50) 50 && ((rd t k * k + rd p k).tmod m == 0)))) := rfl
        have HF := Lib.hid (show ruleAt m t p (k : Int) = false → ((List.range t.length).all fun k => ruleAt m t p (k : Int)) = false from fun h => by
          rw [Bool.eq_false_iff]
          intro hall
          rw [List.all_eq_true] at hall
          have := hall k (List.mem_range.2 hlt)
          rw [h] at this
          cases this)
        have HN2 := Lib.hid (show ruleAt m t p (k : Int) = true → ∀ j, j < k + 1 → ruleAt m t p (j : Int) = true from fun h j hj => by
          by_cases e : j = k
          · subst e; exact h
          · exact HN.out j (by omega))
        generalize rd t (k : Int) = y at k1 hat
        generalize rd p (k : Int) = z at k2 hat
        generalize ruleAt m t p (k : Int) = q at hat HF HN2
        cases q1 : inB y 1 20
        · have hq : q = false := by rw [hat, q1]; rfl
          subst hq
          have HF2 := Lib.hid (HF.out rfl)
          clear hat HF HN2
          go_wp2
          go_quiet ((first | (refine (within_any _ _ _ _).mono ?_; rintro e w2 ⟨he, rfl⟩; (first | rw [q1] at he | rw [q3] at he); exact ⟨he, _, rfl⟩) | (refine (HG.out _).mono ?_; rintro e w2 ⟨he, n', rfl⟩; first | exact ⟨he, _, rfl⟩ | exact ⟨he, _, World.drewN_drewN _ _ _⟩)))
          go_wp2
          exact bodyPost_ret (results_ct rfl _ _ (w.heap.size + 1) 75 #[.int .i64 m, .slice (some ad1) t.length c1, .slice (some ad2) p.length c2] (0, 0) _ rfl (HZW.out.three _ _ _) Try.underlying75 rfl (by kernel_rfl)) rfl ⟨by rw [HR.out, HF2.out]; rfl, Below.setAt (Below.setAt (Below.setAt (pw_below_drewN HB3.out _) (by omega) 0 _) (by omega) 1 _) (by omega) 2 _⟩
        · have hy : 1 ≤ y ∧ y ≤ 20 := by simpa [inB] using q1
          have HG := Lib.hid (fun W => gcd_any y m W (by omega) (by omega))
          generalize hgg : (Int.gcd y m : Int) = g at HG hat
          have hyk0 : 0 ≤ y * (k : Int) := Int.mul_nonneg (by omega) (by omega)
          have hyk1 : y * (k : Int) ≤ 120 := by have := Int.mul_le_mul hy.2 (show (k : Int) ≤ 6 by omega) (by omega) (by omega); omega
          cases q2 : decide (1 < g)
          rotate_left
          · have hq : q = false := by rw [hat, q1, q2]; rfl
            subst hq
            have HF2 := Lib.hid (HF.out rfl)
            clear hat HF HN2
            go_wp2
            go_quiet ((first | (refine (within_any _ _ _ _).mono ?_; rintro e w2 ⟨he, rfl⟩; (first | rw [q1] at he | rw [q3] at he); exact ⟨he, _, rfl⟩) | (refine (HG.out _).mono ?_; rintro e w2 ⟨he, n', rfl⟩; first | exact ⟨he, _, rfl⟩ | exact ⟨he, _, World.drewN_drewN _ _ _⟩)))
            go_wp2
            exact bodyPost_ret (results_ct rfl _ _ (w.heap.size + 1) 75 #[.int .i64 m, .slice (some ad1) t.length c1, .slice (some ad2) p.length c2] (0, 0) _ rfl (HZW.out.three _ _ _) Try.underlying75 rfl (by kernel_rfl)) rfl ⟨by rw [HR.out, HF2.out]; rfl, Below.setAt (Below.setAt (Below.setAt (pw_below_drewN HB3.out _) (by omega) 0 _) (by omega) 1 _) (by omega) 2 _⟩
          · cases q3 : inB z (-50) 50
            · have hq : q = false := by rw [hat, q3]; simp
              subst hq
              have HF2 := Lib.hid (HF.out rfl)
              clear hat HF HN2
              go_wp2
              go_quiet ((first | (refine (within_any _ _ _ _).mono ?_; rintro e w2 ⟨he, rfl⟩; (first | rw [q1] at he | rw [q3] at he); exact ⟨he, _, rfl⟩) | (refine (HG.out _).mono ?_; rintro e w2 ⟨he, n', rfl⟩; first | exact ⟨he, _, rfl⟩ | exact ⟨he, _, World.drewN_drewN _ _ _⟩)))
              go_wp2
              exact bodyPost_ret (results_ct rfl _ _ (w.heap.size + 1) 75 #[.int .i64 m, .slice (some ad1) t.length c1, .slice (some ad2) p.length c2] (0, 0) _ rfl (HZW.out.three _ _ _) Try.underlying75 rfl (by kernel_rfl)) rfl ⟨by rw [HR.out, HF2.out]; rfl, Below.setAt (Below.setAt (Below.setAt (pw_below_drewN HB3.out _) (by omega) 0 _) (by omega) 1 _) (by omega) 2 _⟩
            · have hz : -50 ≤ z ∧ z ≤ 50 := by simpa [inB] using q3
              cases q4 : ((y * (k : Int) + z).tmod m == 0)
              · have hq : q = false := by rw [hat, q4]; simp
                subst hq
                have HF2 := Lib.hid (HF.out rfl)
                clear hat HF HN2
                go_wp2
                go_quiet ((first | (refine (within_any _ _ _ _).mono ?_; rintro e w2 ⟨he, rfl⟩; (first | rw [q1] at he | rw [q3] at he); exact ⟨he, _, rfl⟩) | (refine (HG.out _).mono ?_; rintro e w2 ⟨he, n', rfl⟩; first | exact ⟨he, _, rfl⟩ | exact ⟨he, _, World.drewN_drewN _ _ _⟩)))
                go_wp2
                exact bodyPost_ret (results_ct rfl _ _ (w.heap.size + 1) 75 #[.int .i64 m, .slice (some ad1) t.length c1, .slice (some ad2) p.length c2] (0, 0) _ rfl (HZW.out.three _ _ _) Try.underlying75 rfl (by kernel_rfl)) rfl ⟨by rw [HR.out, HF2.out]; rfl, Below.setAt (Below.setAt (Below.setAt (pw_below_drewN HB3.out _) (by omega) 0 _) (by omega) 1 _) (by omega) 2 _⟩
              · have hq : q = true := by rw [hat, q1, q2, q3, q4]; rfl
                subst hq
                have HN3 := Lib.hid (HN2.out rfl)
                clear hat HF HN2
                go_wp2
                go_quiet ((first | (refine (within_any _ _ _ _).mono ?_; rintro e w2 ⟨he, rfl⟩; (first | rw [q1] at he | rw [q3] at he); exact ⟨he, _, rfl⟩) | (refine (HG.out _).mono ?_; rintro e w2 ⟨he, n', rfl⟩; first | exact ⟨he, _, rfl⟩ | exact ⟨he, _, World.drewN_drewN _ _ _⟩)))
                go_wp2
                exact ⟨⟨k + 1, by omega, by go_num, pw_below_drewN HB3.out _, HZW.out, HGW.out, HN3⟩, by simp [intOf]; omega⟩
      · obtain rfl : k = t.length := by omega
        have HX := Lib.hid (show ((List.range t.length).all fun k => ruleAt m t p (k : Int)) = true from by
          rw [List.all_eq_true]
          intro j hj
          exact HN.out j (List.mem_range.1 hj))
        clear HN
        go_wp2
        exact bodyPost_ret (results_ct rfl _ _ (w.heap.size + 1) 75 #[.int .i64 m, .slice A1 t.length c1, .slice A2 p.length c2] (0, 0) _ rfl (hZ.three _ _ _) Try.underlying75 rfl (by kernel_rfl)) rfl ⟨by rw [HR.out, HX.out]; rfl, Below.setAt (Below.setAt (Below.setAt HB3.out (by omega) 0 _) (by omega) 1 _) (by omega) 2 _⟩
end
end Go.Proofs.Ytkjojcepombhpaa.L
