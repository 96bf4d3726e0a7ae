/- The iterator (rule).orbit: its contract. -/
import Derived.Test.YtkjojcepombhpaaXGives
import Derived.Test.YtkjojcepombhpaaXSend
import Derived.RangeFuncGives
namespace Go.Proofs.Ytkjojcepombhpaa.L
set_option linter.unusedVariables false
set_option linter.unusedSimpArgs false
open Go.RowKit Go.Shelf Go.Proofs.YtkjojcepombhpaaW.PrintWords Go.Proofs.YtkjojcepombhpaaW.PrintLast Go.Proofs.YtkjojcepombhpaaW.PrintMore
attribute [local go_sem] Oper.semAt_some

/-- What a round keeps: what lay below n₀, and two blocks. -/
def KpG (n₀ g1 g2 : Nat) (W W' : World) : Prop := Below n₀ W W' ∧ ∀ k, (k = g1 ∨ k = g2) → ∀ o : Obj, W.heap[k]? = some o → o.isCells = true → W'.heap[k]? = some o
theorem KpG_t {n₀ g1 g2 : Nat} {A B C : World} (h : KpG n₀ g1 g2 A B) (k : KpG n₀ g1 g2 B C) : KpG n₀ g1 g2 A C :=
  ⟨h.1.trans k.1, fun j hj o ho hc => k.2 j hj o (h.2 j hj o ho hc) hc⟩
theorem KpG_b {n₀ g1 g2 : Nat} {w : World} (hn : n₀ ≤ w.heap.size) (W : World) (l : Nat) (o o' : Obj) (hl : w.heap.size ≤ l) (h : W.heap[l]? = some o) (hc : o.isCells = false) (hw : o.isWalk = false) : KpG n₀ g1 g2 W (W.putObj l o') :=
  ⟨belowK_b hn W l o o' hl h hc hw, fun k hk q hq hqc => by
    by_cases e : k = l
    · subst e; rw [h] at hq; cases hq; rw [hc] at hqc; cases hqc
    · exact (World.putObj_heap_other e).trans hq⟩
theorem KpG.whole {n₀ g1 g2 : Nat} {W W' : World} (h : KpG n₀ g1 g2 W W') {g : Nat} {t : TypeId} {cs : Array Value} (hg : g = g1 ∨ g = g2) (hw : Whole W g t cs) : Whole W' g t cs := h.2 g hg _ hw rfl
theorem KpG.setCell {n₀ g1 g2 : Nat} (W : World) {p : Addr} (h : n₀ ≤ p.block) (h1 : g1 ≠ p.block) (h2 : g2 ≠ p.block) (u : Value) : KpG n₀ g1 g2 W (W.setCell p u) :=
  ⟨(Below.refl n₀ W).setCell h u, fun k hk o ho _ => (Below.heap_setCell W p u k (by rcases hk with rfl | rfl <;> assumption)).trans ho⟩
theorem KpG.setAt {n₀ g1 g2 : Nat} (W : World) {b : Nat} (h : n₀ ≤ b) (h1 : g1 ≠ b) (h2 : g2 ≠ b) (u : Value) : KpG n₀ g1 g2 W (W.setCell ⟨b, 0, none⟩ u) := KpG.setCell W (p := ⟨b, 0, none⟩) h h1 h2 u
theorem KpG.of_below {n₀ g1 g2 : Nat} {W W' : World} (h : Below W.heap.size W W') (hn : n₀ ≤ W.heap.size) : KpG n₀ g1 g2 W W' :=
  ⟨h.mono hn, fun k _ o ho _ => (h.block k (Array.getElem?_eq_some_iff.1 ho).1).trans ho⟩

theorem yield_any {m : Nat} (m' : Nat) {P : Program} {l : Nat} {args : Array Value} {W : World} {R : Ending → World → Prop} (h : YieldAt Fence.wide m P l args W R) : YieldAt Fence.wide m' P l args W R := by
  obtain ⟨fn, tmps, assign, body, hy, hR⟩ := h
  exact ⟨fn, tmps, assign, body, hy, hR.1, fun c cs _ => hR.2 c cs (fun d h => by cases h)⟩

theorem iterW_succ (m : Int) (t p : List Int) (k : Nat) : ∀ x, iterW m t p (k + 1) x = sentW m t p (iterW m t p k x) := by
  induction k with
  | zero => intro x; rfl
  | succ k ih => intro x; exact ih (sentW m t p x)
/-- The first k numbers of an orbit. -/
def orbTo (m : Int) (t p : List Int) (x : Int) (k : Nat) : List Int := (List.range k).map fun i => iterW m t p i x
theorem orbTo_succ (m : Int) (t p : List Int) (x : Int) (k : Nat) : orbTo m t p x (k + 1) = orbTo m t p x k ++ [iterW m t p k x] := by simp [orbTo, List.range_succ]
theorem orbTo_length (m : Int) (t p : List Int) (x : Int) (k : Nat) : (orbTo m t p x k).length = k := by simp [orbTo]
/-- All the numbers up to a large one. -/
def OrbDone (m : Int) (t p : List Int) (x : Int) (xs : List Int) : Prop := ∃ k, xs = orbTo m t p x (k + 1) ∧ (∀ i, i < k → smallB (iterW m t p i x) = true) ∧ smallB (iterW m t p k x) = false
def OrbPre (m : Int) (t p : List Int) (x : Int) (xs : List Int) : Prop := ∃ k, xs = orbTo m t p x (k + 1) ∧ ∀ i, i < k → smallB (iterW m t p i x) = true

theorem setCell_grown (W : World) (b i : Nat) (u : Value) : W.grownBy (W.setCell ⟨b, i, none⟩ u) (some b) :=
  ⟨rfl, rfl, rfl, by simp [World.setCell], fun k hk hne => Below.heap_setCell W ⟨b, i, none⟩ u k (fun e => hne (by rw [e]))⟩

set_option maxHeartbeats 1000000 in
theorem orbit_any (m : Int) (tv pv : Value) (x : Int) (w : World) (ht : tv.oneCell' = true) (hp : pv.oneCell' = true) :
    Calls Try.prog 61 #[rv m tv pv, .int .i64 x] w fun e w' => e = .returned (.func (.func 83) #[] #[.pointer (some ⟨w.heap.size + 1, 0, none⟩), .pointer (some ⟨w.heap.size, 0, none⟩)]) ∧ (w.alloc (rbox m tv pv)).alloc (.cells #[.int .i64 x] 3) = w' := by
  go_enter Try.func61, Try.ntmps61
  go_wp2
  go_ret
  exact ⟨rfl, rfl⟩

set_option maxRecDepth 100000 in
set_option maxHeartbeats 4000000 in
theorem orbit1_gives (d n₀ b1 b2 N : Nat) (m : Int) (A1 A2 : Option Addr) (c1 c2 : Nat) (t p : List Int) (x : Int) (w : World) (hR : RuleIs m t p)
    (hb1 : Whole w b1 3 #[.int .i64 x]) (hb2 : Whole w b2 75 #[.int .i64 m, .slice A1 t.length c1, .slice A2 p.length c2]) (hn₀ : n₀ ≤ w.heap.size) (hn1 : n₀ ≤ b1) (hb12 : b1 ≠ b2)
    (hC1 : ∀ W' : World, Below n₀ w W' → Kd.C (Kd.int .i64) W' A1 t.length t) (hC2 : ∀ W' : World, Below n₀ w W' → Kd.C (Kd.int .i64) W' A2 p.length p) :
    GivesB Fence.wide d Try.prog 83 #[.pointer (some ⟨b1, 0, none⟩), .pointer (some ⟨b2, 0, none⟩)] (fun y : Int => #[.int .i64 y]) (fun pre => pre.length < N) (fun r => r = b1) (fun _ _ => True) (KpG n₀ b1 b2) (OrbDone m t p x) (OrbPre m t p x) w := by
  intro lp J Jx W hBd hOw hW hJa hJxa hY hJ
  have HJA := Lib.hid (show ∀ s W W', J s W → W.grownBy W' none → J s W' from fun s A B h hg => hJa s A B none h hg (fun r e => by cases e))
  have HOW := Lib.hid (show ∀ s A v, J s A → J s (A.setCell ⟨b1, 0, none⟩ v) from fun s A v h => hOw s A _ b1 rfl h (setCell_grown A b1 0 v))
  have HBD := Lib.hid hBd
  have c1' := hb1.below hW hb1.lt
  have c2' := hb2.below hW hb2.lt
  have HR := Lib.hid hR
  have H1 := Lib.hid hC1
  have H2 := Lib.hid hC2
  have HY := Lib.hid hY
  have HJ := Lib.hid hJ
  have HC1 := Lib.hid c1'
  have HC2 := Lib.hid c2'
  have HW := Lib.hid hW
  clear hY hJ hJa hJxa hBd hOw hR hC1 hC2 c1' c2' hb1 hb2 hW
  refine callsIn_of_wp Try.func83 rfl trivial ?_ rfl
  simp only [Try.ntmps83, List.size_toArray, List.length_cons, List.length_nil, Nat.reduceAdd, Nat.reduceSub, Array.replicate_succ, Array.replicate_zero, List.push_toArray, List.append_toArray, List.nil_append, List.cons_append]
  gi_wp2
  refine wpIn_loop_ghost_k (fun k a V => ∃ (j : Nat) (u4 u5 u6 u7 u8 u9 u10 u11 u12 u13 : Value), a = { tmps := #[.func (.yield lp) #[] #[], .pointer (some ⟨b1, 0, none⟩), .pointer (some ⟨b2, 0, none⟩), undef, u4, u5, u6, u7, u8, u9, u10, u11, u12, u13], defers := [] } ∧ k + j = N ∧ J (orbTo m t p x j) V ∧ Hid (∀ i, i < j → smallB (iterW m t p i x) = true) ∧ Below n₀ W V ∧ Whole V b1 3 #[.int .i64 (iterW m t p j x)] ∧ Whole V b2 75 #[.int .i64 m, .slice A1 t.length c1, .slice A2 p.length c2]) N ?_ ?_
  · exact ⟨0, _, _, _, _, _, _, _, _, _, _, rfl, rfl, HJ.out, Lib.hid (by omega), Below.refl _ _, HC1.out, HC2.out⟩
  · rintro k a wr ⟨j, u4, u5, u6, u7, u8, u9, u10, u11, u12, u13, rfl, hkj, hJj, HS, hB, hG1, hG2⟩ Jn K hJn hK
    have hlen := HBD.out _ _ hJj
    rw [orbTo_length] at hlen
    obtain ⟨fn, tmps, assign, body, hy, hYR⟩ := HY.out (orbTo m t p x j) (iterW m t p j x) wr hJj trivial
    have e1 := (orbTo_succ m t p x j).symm
    rw [e1] at hYR
    have HE := Lib.hid e1
    have HJn := Lib.hid hJn
    have HK := Lib.hid hK
    have HBL := Lib.hid hB
    have G1 := Lib.hid hG1
    have G2 := Lib.hid hG2
    have hit := iterW_succ m t p j x
    have HIT := Lib.hid hit
    have g0 := hG1.cell 0
    simp only [List.getElem?_toArray, List.getElem?_cons_zero, List.getElem?_cons_succ] at g0
    generalize hgy : iterW m t p j x = y at *
    clear hJn hK hB hG1 hG2 hit e1 hJj
    gi_wp2
    refine ⟨fun h => absurd h (by decide), hYR.mono ?_⟩
    rintro e w3 (⟨rfl, hJ3, hk3⟩ | ⟨rfl, hJx3⟩)
    · have q1 := hk3.whole (.inl rfl) G1.out
      have q2 := hk3.whole (.inr rfl) G2.out
      have q3 := HBL.out.trans hk3.1
      have HJ3 := Lib.hid hJ3
      have b0 := q1.cell 0
      have d0 := q2.cell 0
      have d1 := q2.cell 1
      have d2 := q2.cell 2
      have hlt1 := q1.lt
      have hlt2 := q2.lt
      have bf := q1.frozen 0
      simp only [List.getElem?_toArray, List.getElem?_cons_zero, List.getElem?_cons_succ] at b0 d0 d1 d2
      have HA := Lib.hid (H1.out w3 ((HW.out.mono hn₀).trans q3))
      have HB := Lib.hid (H2.out w3 ((HW.out.mono hn₀).trans q3))
      have Q1 := Lib.hid q1
      have Q2 := Lib.hid q2
      have Q3 := Lib.hid q3
      clear hJ3 hk3 q1 q2 q3 g0 hYR
      cases hs : smallB y
      · gi_wp2_with (refine ⟨trivial, fun h => absurd h (by decide), (callsIn_wide.2 (small_any _ _)).mono ?_⟩; rintro e w4 ⟨rfl, rfl⟩)
        go_end0
        exact ⟨⟨_, rfl⟩, .inl ⟨_, ⟨j, rfl, HS.out, by rw [hgy]; exact hs⟩, HJ3.out⟩⟩
      · have hmid := small_mid hs
        have HN := Lib.hid (show ∀ i, i < j + 1 → smallB (iterW m t p i x) = true from fun i hi => by
          by_cases e : i = j
          · subst e; rw [hgy]; exact hs
          · exact HS.out i (by omega))
        have HM := Lib.hid hmid
        clear hmid
        gi_wp2_with (first
          | (refine ⟨trivial, fun h => absurd h (by decide), (callsIn_wide.2 (small_any _ _)).mono ?_⟩; rintro e w4 ⟨rfl, rfl⟩)
          | (refine ⟨trivial, fun h => absurd h (by decide), (callsIn_wide.2 (sent_any m A1 A2 c1 c2 t p y _ HR.out HM.out HA.out HB.out)).mono ?_⟩; rintro e w4 ⟨rfl, hb⟩; have q4 := Q1.out.below hb hlt1; have g4 := q4.cell 0; have f4 := q4.frozen 0; have l4 := q4.lt; simp only [List.getElem?_toArray, List.getElem?_cons_zero] at g4; have Q4 := Lib.hid q4; have HB4 := Lib.hid hb; clear hb q4))
        have hJ4 := HOW.out _ _ (.int .i64 (sentW m t p y)) (HJA.out _ _ _ HJ3.out (grown_of_below HB4.out none))
        have q5 := Q4.out.set 0 (.int .i64 (sentW m t p y))
        have q6 := (Q2.out.below HB4.out hlt2).far (p := ⟨b1, 0, none⟩) (Ne.symm hb12) (.int .i64 (sentW m t p y))
        exact HK.out _ _ ⟨k - 1, by omega, HJn.out _ _ _ ⟨j + 1, _, _, _, _, _, _, _, _, _, _, rfl, by omega, hJ4, HN, Below.setAt (Q3.out.trans (HB4.out.mono (by have := Q3.out.size; have := HW.out.size; omega))) (by omega) 0 _, by rw [HIT.out]; simpa using q5, q6⟩⟩
    · have HJ3 := Lib.hid hJx3
      clear hJx3
      gi_wp2
      refine ⟨trivial, ?_⟩
      gi_wp2
      go_end0
      exact ⟨⟨_, rfl⟩, .inr ⟨_, ⟨j, rfl, HS.out⟩, HJ3.out⟩⟩
end Go.Proofs.Ytkjojcepombhpaa.L
