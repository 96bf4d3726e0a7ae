import Derived.Test.YtkjojcepombhpaaXTotal
import Derived.Test.YtkjojcepombhpaaXForm
import Derived.Test.YtkjojcepombhpaaXOrbit

/- The iterator (rule).courses: its contract. -/
namespace Go.Proofs.Ytkjojcepombhpaa.L
set_option linter.unusedVariables false
set_option linter.unusedSimpArgs false
open Go.RowKit Go.Shelf Go.Proofs.YtkjojcepombhpaaW.PrintWords Go.Proofs.YtkjojcepombhpaaW.PrintLast Go.Proofs.YtkjojcepombhpaaW.PrintMore
attribute [local go_sem] Oper.semAt_some

/-- The courses with the remainders l first and j more. -/
def extC (m : Nat) : Nat → List Int → List (List Int)
  | 0, l => [l]
  | j + 1, l => (List.range m).flatMap fun (k : Nat) => extC m j (l ++ [(k : Int)])
def crs (l : List Int) : Array Value := cC l.length (padL l)

/-- What a round keeps. -/
def KpC (n₀ b1 : Nat) (W W' : World) : Prop := Below n₀ W W' ∧ ∀ k cs t, W.heap[k]? = some (.cells cs t (0, 0)) → (k = b1 ∨ t = 75 ∨ t = 89 ∨ t = 108) → W'.heap[k]? = some (.cells cs t (0, 0))
theorem KpC_t {n₀ b1 : Nat} {A B C : World} (h : KpC n₀ b1 A B) (k : KpC n₀ b1 B C) : KpC n₀ b1 A C :=
  ⟨h.1.trans k.1, fun j cs t hj ht => k.2 j cs t (h.2 j cs t hj ht) ht⟩
theorem KpC_r (n₀ b1 : Nat) (A : World) : KpC n₀ b1 A A := ⟨Below.refl _ _, fun _ _ _ h _ => h⟩
theorem KpC_below {n₀ b1 : Nat} {W W' : World} (h : Below W.heap.size W W') (hn : n₀ ≤ W.heap.size) : KpC n₀ b1 W W' :=
  ⟨h.mono hn, fun k cs t hk _ => (h.block k (Array.getElem?_eq_some_iff.1 hk).1).trans hk⟩
theorem KpC.at {n₀ b1 : Nat} {W W' : World} (h : KpC n₀ b1 W W') {g : Nat} {t : TypeId} {cs : Array Value} (hw : Whole W g t cs) (ht : g = b1 ∨ t = 75 ∨ t = 89 ∨ t = 108) : Whole W' g t cs := h.2 g cs t hw ht

def extLoc (b1 by' b2 be : Nat) : Array Value := #[.pointer (some ⟨b1, 0, none⟩), .pointer (some ⟨by', 0, none⟩), .pointer (some ⟨b2, 0, none⟩), .pointer (some ⟨be, 0, none⟩)]
/-- The blocks that extend reads. -/
structure ExtB (lp n₀ b1 by' b2 be : Nat) (K m : Int) (v1 v2 : Value) (W : World) : Prop where
  n : Whole W b1 3 #[.int .i64 K]
  y : Whole W by' 108 #[.func (.yield lp) #[] #[]]
  r : Whole W b2 75 #[.int .i64 m, v1, v2]
  e : Whole W be 108 #[.func (.func 85) #[] (extLoc b1 by' b2 be)]
  s : n₀ ≤ W.heap.size
theorem ExtB.to {lp n₀ b1 by' b2 be : Nat} {K m : Int} {v1 v2 : Value} {W W' : World} (h : ExtB lp n₀ b1 by' b2 be K m v1 v2 W) (k : KpC n₀ b1 W W') : ExtB lp n₀ b1 by' b2 be K m v1 v2 W' :=
  ⟨k.at h.n (.inl rfl), k.at h.y (.inr (.inr (.inr rfl))), k.at h.r (.inr (.inl rfl)), k.at h.e (.inr (.inr (.inr rfl))), Nat.le_trans h.s k.1.size⟩

set_option maxRecDepth 100000 in
set_option maxHeartbeats 4000000 in
theorem ext_base (lp n₀ b1 by' b2 be K m : Nat) (v1 v2 : Value) (J : List (List Int) → World → Prop) (T : List (List Int))
    (hJA : ∀ s W W', J s W → W.grownBy W' none → J s W')
    (hY : ∀ pre x W1, pre ++ [x] <+: T → J pre W1 → YieldAt Fence.wide 0 Try.prog lp #[.agg (crs x)] W1 fun e W' => e = .returned (.bool true) ∧ J (pre ++ [x]) W' ∧ KpC n₀ b1 W1 W')
    (l : List Int) (pre : List (List Int)) (W : World) (d : Nat) (hl : l.length = K) (hK : K ≤ 5) (hT : pre ++ [l] <+: T) (hJ : J pre W) (hE : ExtB lp n₀ b1 by' b2 be K m v1 v2 W) :
    CallsIn Fence.wide d Try.prog 85 (#[.agg (crs l)] ++ extLoc b1 by' b2 be) W fun e W' => e = .returned (.bool true) ∧ J (pre ++ [l]) W' ∧ KpC n₀ b1 W W' := by
  obtain ⟨a0, a1, a2, a3, a4, a5, a6, a7, a8, a9, a10, a11, hL⟩ := twelve (padL l) (padL_length l (by omega))
  have hc : crs l = #[.int .i64 (K : Int), .int .i64 a0, .int .i64 a1, .int .i64 a2, .int .i64 a3, .int .i64 a4, .int .i64 a5, .int .i64 a6, .int .i64 a7, .int .i64 a8, .int .i64 a9, .int .i64 a10, .int .i64 a11] := by
    unfold crs cC; rw [hL, hl]; rfl
  have hY2 := hY pre l
  rw [hc] at hY2 ⊢
  have HY := Lib.hid hY2
  clear hc hL hY2 hY
  have KE := Lib.hid (fun W' (hb : Below W.heap.size W W') => (⟨KpC_below (b1 := b1) hb hE.s, hE.to (KpC_below hb hE.s)⟩ : KpC n₀ b1 W W' ∧ ExtB lp n₀ b1 by' b2 be K m v1 v2 W'))
  have HJ := Lib.hid (fun W' (hb : Below W.heap.size W W') => hJA pre W W' hJ (grown_of_below hb none))
  have hb1 := below_alloc (Below.refl W.heap.size W) (.cells #[.int .i64 (K : Int), .int .i64 a0, .int .i64 a1, .int .i64 a2, .int .i64 a3, .int .i64 a4, .int .i64 a5, .int .i64 a6, .int .i64 a7, .int .i64 a8, .int .i64 a9, .int .i64 a10, .int .i64 a11] 89)
  obtain ⟨k1, e1⟩ := KE.out _ hb1
  obtain ⟨x1, y1, z1⟩ := e1.n.one
  obtain ⟨x2, y2, z2⟩ := e1.y.one
  have HJ1 := Lib.hid (HJ.out _ hb1)
  have HK1 := Lib.hid k1
  clear k1 e1 hb1 hJA hJ hE
  obtain ⟨fn, tmps, assign, body, hy, hYR⟩ := yield_any (d - 1) (HY.out _ hT HJ1.out)
  clear hT
  refine callsIn_of_wp Try.func85 rfl trivial ?_ rfl
  simp only [extLoc, Try.ntmps85, List.size_toArray, List.length_cons, List.length_nil, Nat.reduceAdd, Nat.reduceSub, Array.replicate_succ, Array.replicate_zero, List.push_toArray, List.append_toArray, List.nil_append, List.cons_append]
  gi_wp2
  refine ⟨fun h => absurd h (by decide), hYR.mono ?_⟩
  rintro e w3 ⟨rfl, hJ3, hk3⟩
  have HJ3 := Lib.hid hJ3
  have HK3 := Lib.hid hk3
  clear hJ3 hk3 hYR
  gi_wp2
  go_ret
  exact ⟨rfl, HJ3.out, KpC_t HK1.out HK3.out⟩

theorem range_pre {α : Type} (f : Nat → List α) {i m : Nat} (hi : i ≤ m) : (List.range i).flatMap f <+: (List.range m).flatMap f := by
  obtain ⟨c, rfl⟩ : ∃ c, m = i + c := ⟨m - i, by omega⟩
  rw [List.range_add, List.flatMap_append]
  exact List.prefix_append _ _
theorem range_flat {α : Type} (f : Nat → List α) (i : Nat) : (List.range (i + 1)).flatMap f = (List.range i).flatMap f ++ f i := by
  rw [List.range_succ, List.flatMap_append]
  simp

set_option maxRecDepth 100000 in
set_option maxHeartbeats 8000000 in
theorem ext_step0 (lp n₀ b1 by' b2 be K m : Nat) (v1 v2 : Value) (J : List (List Int) → World → Prop) (T : List (List Int))
    (hJA : ∀ s W W', J s W → W.grownBy W' none → J s W') (hm6 : m ≤ 6) (j : Nat) (hn : 0 < K) (hK : K ≤ 5)
    (IH : ∀ (k : Nat) (pre : List (List Int)) (W : World) (d : Nat), pre ++ extC m j (([] : List Int) ++ [(k : Int)]) <+: T → J pre W → ExtB lp n₀ b1 by' b2 be K m v1 v2 W → CallsIn Fence.wide d Try.prog 85 (#[.agg (crs (([] : List Int) ++ [(k : Int)]))] ++ extLoc b1 by' b2 be) W fun e W' => e = .returned (.bool true) ∧ J (pre ++ extC m j (([] : List Int) ++ [(k : Int)])) W' ∧ KpC n₀ b1 W W')
    (pre : List (List Int)) (W : World) (d : Nat) (hT : pre ++ extC m (j + 1) ([] : List Int) <+: T) (hJ : J pre W) (hE : ExtB lp n₀ b1 by' b2 be K m v1 v2 W) :
    CallsIn Fence.wide d Try.prog 85 (#[.agg (crs ([] : List Int))] ++ extLoc b1 by' b2 be) W fun e W' => e = .returned (.bool true) ∧ J (pre ++ extC m (j + 1) ([] : List Int)) W' ∧ KpC n₀ b1 W W' := by
  have hc : crs ([] : List Int) = #[.int .i64 0, .int .i64 0, .int .i64 0, .int .i64 0, .int .i64 0, .int .i64 0, .int .i64 0, .int .i64 0, .int .i64 0, .int .i64 0, .int .i64 0, .int .i64 0, .int .i64 0] := rfl
  rw [hc]
  clear hc
  have HIH := Lib.hid IH
  have HJA := Lib.hid hJA
  have HT := Lib.hid hT
  have hex : extC m (j + 1) ([] : List Int) = (List.range m).flatMap fun (k : Nat) => extC m j (([] : List Int) ++ [(k : Int)]) := rfl
  rw [hex] at HT ⊢
  clear hex hT IH hJA
  obtain ⟨fE, hfE⟩ : ∃ fE : Nat → List (List Int), (fun (k : Nat) => extC m j (([] : List Int) ++ [(k : Int)])) = fE := ⟨_, rfl⟩
  rw [hfE] at HT ⊢
  have HFE := Lib.hid (fun k => congrFun hfE k)
  clear hfE
  have hb1 := below_alloc (Below.refl W.heap.size W) (.cells #[.int .i64 0, .int .i64 0, .int .i64 0, .int .i64 0, .int .i64 0, .int .i64 0, .int .i64 0, .int .i64 0, .int .i64 0, .int .i64 0, .int .i64 0, .int .i64 0, .int .i64 0] 89)
  have hK1 : KpC n₀ b1 W (W.alloc (.cells #[.int .i64 0, .int .i64 0, .int .i64 0, .int .i64 0, .int .i64 0, .int .i64 0, .int .i64 0, .int .i64 0, .int .i64 0, .int .i64 0, .int .i64 0, .int .i64 0, .int .i64 0] 89)) := KpC_below hb1 hE.s
  have hB1 := Whole.new W 89 #[.int .i64 0, .int .i64 0, .int .i64 0, .int .i64 0, .int .i64 0, .int .i64 0, .int .i64 0, .int .i64 0, .int .i64 0, .int .i64 0, .int .i64 0, .int .i64 0, .int .i64 0]
  obtain ⟨x1, y1, z1⟩ := (hE.to hK1).n.one
  have x2 := (hE.to hK1).r.cell 0
  have z2 := (hE.to hK1).r.lt
  simp only [List.getElem?_toArray, List.getElem?_cons_zero] at x2
  have HJ1 := Lib.hid (HJA.out _ _ _ hJ (grown_of_below hb1 none))
  have HK1 := Lib.hid hK1
  have HB1 := Lib.hid hB1
  have HE := Lib.hid hE
  have hz : W.heap.size < (W.alloc (.cells #[.int .i64 0, .int .i64 0, .int .i64 0, .int .i64 0, .int .i64 0, .int .i64 0, .int .i64 0, .int .i64 0, .int .i64 0, .int .i64 0, .int .i64 0, .int .i64 0, .int .i64 0] 89)).heap.size := by simp
  clear hK1 hB1 hb1 hJ hE
  have hne : decide ((0 : Int) = (K : Int)) = false := decide_eq_false (by omega)
  refine callsIn_of_wp Try.func85 rfl trivial ?_ rfl
  simp only [extLoc, Try.ntmps85, List.size_toArray, List.length_cons, List.length_nil, Nat.reduceAdd, Nat.reduceSub, Array.replicate_succ, Array.replicate_zero, List.push_toArray, List.append_toArray, List.nil_append, List.cons_append]
  gi_wp2
  refine wpIn_loop_ghost_k (fun k a V => ∃ (i : Nat) (u7 u8 u9 u10 u11 u12 u13 u14 u15 u16 u19 u20 u21 u22 u23 u24 u25 u26 u27 u28 u29 u30 u31 u32 u33 u34 u35 : Value), a = { tmps := #[.agg #[.int .i64 0, .int .i64 0, .int .i64 0, .int .i64 0, .int .i64 0, .int .i64 0, .int .i64 0, .int .i64 0, .int .i64 0, .int .i64 0, .int .i64 0, .int .i64 0, .int .i64 0], .pointer (some ⟨b1, 0, none⟩), .pointer (some ⟨by', 0, none⟩), .pointer (some ⟨b2, 0, none⟩), .pointer (some ⟨be, 0, none⟩), .pointer (some ⟨W.heap.size, 0, none⟩), .bool false, u7, u8, u9, u10, u11, u12, u13, u14, u15, u16, .int .i64 (m : Int), .int .i64 (i : Int), u19, u20, u21, u22, u23, u24, u25, u26, u27, u28, u29, u30, u31, u32, u33, u34, u35], defers := [] } ∧ k + i = m ∧ J (pre ++ (List.range i).flatMap fE) V ∧ KpC n₀ b1 W V ∧ Whole V W.heap.size 89 #[.int .i64 0, .int .i64 0, .int .i64 0, .int .i64 0, .int .i64 0, .int .i64 0, .int .i64 0, .int .i64 0, .int .i64 0, .int .i64 0, .int .i64 0, .int .i64 0, .int .i64 0]) m ?_ ?_
  · exact ⟨0, _, _, _, _, _, _, _, _, _, _, _, _, _, _, _, _, _, _, _, _, _, _, _, _, _, _, _, rfl, rfl, by simpa using HJ1.out, HK1.out, HB1.out⟩
  · rintro k a wr ⟨i, u7, u8, u9, u10, u11, u12, u13, u14, u15, u16, u19, u20, u21, u22, u23, u24, u25, u26, u27, u28, u29, u30, u31, u32, u33, u34, u35, rfl, hki, hJj, hKK, hBB⟩ Jn Kn hJn hKn
    have HJn := Lib.hid hJn
    have HKn := Lib.hid hKn
    have HJj := Lib.hid hJj
    have HKK := Lib.hid hKK
    have HBB := Lib.hid hBB
    have hEV := HE.out.to hKK
    have HEV := Lib.hid hEV
    clear hJn hKn hJj x1 y1 z1 x2 z2 hz
    cases hlt : decide ((i : Int) < (m : Int))
    · have him : i = m := by have := of_decide_eq_false hlt; omega
      subst him
      clear hKK hBB hEV
      gi_wp2
      go_ret
      exact ⟨rfl, HJj.out, HKK.out⟩
    · have him := of_decide_eq_true hlt
      obtain ⟨e1, e2, e3⟩ := hEV.e.one
      have z := hBB.lt
      have q0 := hBB.cell 0
      have q1 := hBB.cell 1
      have q2 := hBB.cell 2
      have q3 := hBB.cell 3
      have q4 := hBB.cell 4
      have q5 := hBB.cell 5
      have q6 := hBB.cell 6
      have q7 := hBB.cell 7
      have q8 := hBB.cell 8
      have q9 := hBB.cell 9
      have q10 := hBB.cell 10
      have q11 := hBB.cell 11
      have q12 := hBB.cell 12
      simp only [List.getElem?_toArray, List.getElem?_cons_zero, List.getElem?_cons_succ] at q0 q1 q2 q3 q4 q5 q6 q7 q8 q9 q10 q11 q12
      clear hKK hBB hEV
      gi_wp2
      have hb2 := below_alloc (Below.refl wr.heap.size wr) (.cells #[.int .i64 1, .int .i64 (i : Int), .int .i64 0, .int .i64 0, .int .i64 0, .int .i64 0, .int .i64 0, .int .i64 0, .int .i64 0, .int .i64 0, .int .i64 0, .int .i64 0, .int .i64 0] 89)
      have hK2 : KpC n₀ b1 wr (wr.alloc (.cells #[.int .i64 1, .int .i64 (i : Int), .int .i64 0, .int .i64 0, .int .i64 0, .int .i64 0, .int .i64 0, .int .i64 0, .int .i64 0, .int .i64 0, .int .i64 0, .int .i64 0, .int .i64 0] 89)) := KpC_below hb2 HEV.out.s
      have hpT : (pre ++ (List.range i).flatMap fE) ++ extC m j (([] : List Int) ++ [(i : Int)]) <+: T := by
        rw [HFE.out i, List.append_assoc, ← range_flat]
        exact (List.prefix_append_right_inj pre |>.2 (range_pre fE (by omega))).trans HT.out
      have hcall := HIH.out i _ _ (d - 1) hpT (HJA.out _ _ _ HJj.out (grown_of_below hb2 none)) (HEV.out.to hK2)
      rw [HFE.out i, List.append_assoc, ← range_flat] at hcall
      have HK2 := Lib.hid hK2
      clear hb2 hK2 hpT q0 q1 q2 q3 q4 q5 q6 q7 q8 q9 q10 q11 q12
      refine ⟨trivial, fun h => absurd h (by decide), hcall.mono ?_⟩
      rintro e w3 ⟨rfl, hJ3, hk3⟩
      have HJ3 := Lib.hid hJ3
      have HK3 := Lib.hid hk3
      clear hJ3 hk3 hcall
      gi_wp2
      have hk4 := KpC_t HK2.out HK3.out
      exact HKn.out _ _ ⟨k - 1, by omega, HJn.out _ _ _ ⟨i + 1, _, _, _, _, _, _, _, _, _, _, _, _, _, _, _, _, _, _, _, _, _, _, _, _, _, _, _, rfl, by omega, HJ3.out, KpC_t HKK.out hk4, hk4.at HBB.out (.inr (.inr (.inl rfl)))⟩⟩

set_option maxRecDepth 100000 in
set_option maxHeartbeats 8000000 in
theorem ext_step1 (lp n₀ b1 by' b2 be K m : Nat) (v1 v2 : Value) (J : List (List Int) → World → Prop) (T : List (List Int))
    (hJA : ∀ s W W', J s W → W.grownBy W' none → J s W') (hm6 : m ≤ 6) (j : Nat) (r0 : Int) (hn : 1 < K) (hK : K ≤ 5)
    (IH : ∀ (k : Nat) (pre : List (List Int)) (W : World) (d : Nat), pre ++ extC m j ([r0] ++ [(k : Int)]) <+: T → J pre W → ExtB lp n₀ b1 by' b2 be K m v1 v2 W → CallsIn Fence.wide d Try.prog 85 (#[.agg (crs ([r0] ++ [(k : Int)]))] ++ extLoc b1 by' b2 be) W fun e W' => e = .returned (.bool true) ∧ J (pre ++ extC m j ([r0] ++ [(k : Int)])) W' ∧ KpC n₀ b1 W W')
    (pre : List (List Int)) (W : World) (d : Nat) (hT : pre ++ extC m (j + 1) [r0] <+: T) (hJ : J pre W) (hE : ExtB lp n₀ b1 by' b2 be K m v1 v2 W) :
    CallsIn Fence.wide d Try.prog 85 (#[.agg (crs [r0])] ++ extLoc b1 by' b2 be) W fun e W' => e = .returned (.bool true) ∧ J (pre ++ extC m (j + 1) [r0]) W' ∧ KpC n₀ b1 W W' := by
  have hc : crs [r0] = #[.int .i64 1, .int .i64 r0, .int .i64 0, .int .i64 0, .int .i64 0, .int .i64 0, .int .i64 0, .int .i64 0, .int .i64 0, .int .i64 0, .int .i64 0, .int .i64 0, .int .i64 0] := rfl
  rw [hc]
  clear hc
  have HIH := Lib.hid IH
  have HJA := Lib.hid hJA
  have HT := Lib.hid hT
  have hex : extC m (j + 1) [r0] = (List.range m).flatMap fun (k : Nat) => extC m j ([r0] ++ [(k : Int)]) := rfl
  rw [hex] at HT ⊢
  clear hex hT IH hJA
  obtain ⟨fE, hfE⟩ : ∃ fE : Nat → List (List Int), (fun (k : Nat) => extC m j ([r0] ++ [(k : Int)])) = fE := ⟨_, rfl⟩
  rw [hfE] at HT ⊢
  have HFE := Lib.hid (fun k => congrFun hfE k)
  clear hfE
  have hb1 := below_alloc (Below.refl W.heap.size W) (.cells #[.int .i64 1, .int .i64 r0, .int .i64 0, .int .i64 0, .int .i64 0, .int .i64 0, .int .i64 0, .int .i64 0, .int .i64 0, .int .i64 0, .int .i64 0, .int .i64 0, .int .i64 0] 89)
  have hK1 : KpC n₀ b1 W (W.alloc (.cells #[.int .i64 1, .int .i64 r0, .int .i64 0, .int .i64 0, .int .i64 0, .int .i64 0, .int .i64 0, .int .i64 0, .int .i64 0, .int .i64 0, .int .i64 0, .int .i64 0, .int .i64 0] 89)) := KpC_below hb1 hE.s
  have hB1 := Whole.new W 89 #[.int .i64 1, .int .i64 r0, .int .i64 0, .int .i64 0, .int .i64 0, .int .i64 0, .int .i64 0, .int .i64 0, .int .i64 0, .int .i64 0, .int .i64 0, .int .i64 0, .int .i64 0]
  obtain ⟨x1, y1, z1⟩ := (hE.to hK1).n.one
  have x2 := (hE.to hK1).r.cell 0
  have z2 := (hE.to hK1).r.lt
  simp only [List.getElem?_toArray, List.getElem?_cons_zero] at x2
  have HJ1 := Lib.hid (HJA.out _ _ _ hJ (grown_of_below hb1 none))
  have HK1 := Lib.hid hK1
  have HB1 := Lib.hid hB1
  have HE := Lib.hid hE
  have hz : W.heap.size < (W.alloc (.cells #[.int .i64 1, .int .i64 r0, .int .i64 0, .int .i64 0, .int .i64 0, .int .i64 0, .int .i64 0, .int .i64 0, .int .i64 0, .int .i64 0, .int .i64 0, .int .i64 0, .int .i64 0] 89)).heap.size := by simp
  clear hK1 hB1 hb1 hJ hE
  have hne : decide ((1 : Int) = (K : Int)) = false := decide_eq_false (by omega)
  refine callsIn_of_wp Try.func85 rfl trivial ?_ rfl
  simp only [extLoc, Try.ntmps85, List.size_toArray, List.length_cons, List.length_nil, Nat.reduceAdd, Nat.reduceSub, Array.replicate_succ, Array.replicate_zero, List.push_toArray, List.append_toArray, List.nil_append, List.cons_append]
  gi_wp2
  refine wpIn_loop_ghost_k (fun k a V => ∃ (i : Nat) (u7 u8 u9 u10 u11 u12 u13 u14 u15 u16 u19 u20 u21 u22 u23 u24 u25 u26 u27 u28 u29 u30 u31 u32 u33 u34 u35 : Value), a = { tmps := #[.agg #[.int .i64 1, .int .i64 r0, .int .i64 0, .int .i64 0, .int .i64 0, .int .i64 0, .int .i64 0, .int .i64 0, .int .i64 0, .int .i64 0, .int .i64 0, .int .i64 0, .int .i64 0], .pointer (some ⟨b1, 0, none⟩), .pointer (some ⟨by', 0, none⟩), .pointer (some ⟨b2, 0, none⟩), .pointer (some ⟨be, 0, none⟩), .pointer (some ⟨W.heap.size, 0, none⟩), .bool false, u7, u8, u9, u10, u11, u12, u13, u14, u15, u16, .int .i64 (m : Int), .int .i64 (i : Int), u19, u20, u21, u22, u23, u24, u25, u26, u27, u28, u29, u30, u31, u32, u33, u34, u35], defers := [] } ∧ k + i = m ∧ J (pre ++ (List.range i).flatMap fE) V ∧ KpC n₀ b1 W V ∧ Whole V W.heap.size 89 #[.int .i64 1, .int .i64 r0, .int .i64 0, .int .i64 0, .int .i64 0, .int .i64 0, .int .i64 0, .int .i64 0, .int .i64 0, .int .i64 0, .int .i64 0, .int .i64 0, .int .i64 0]) m ?_ ?_
  · exact ⟨0, _, _, _, _, _, _, _, _, _, _, _, _, _, _, _, _, _, _, _, _, _, _, _, _, _, _, _, rfl, rfl, by simpa using HJ1.out, HK1.out, HB1.out⟩
  · rintro k a wr ⟨i, u7, u8, u9, u10, u11, u12, u13, u14, u15, u16, u19, u20, u21, u22, u23, u24, u25, u26, u27, u28, u29, u30, u31, u32, u33, u34, u35, rfl, hki, hJj, hKK, hBB⟩ Jn Kn hJn hKn
    have HJn := Lib.hid hJn
    have HKn := Lib.hid hKn
    have HJj := Lib.hid hJj
    have HKK := Lib.hid hKK
    have HBB := Lib.hid hBB
    have hEV := HE.out.to hKK
    have HEV := Lib.hid hEV
    clear hJn hKn hJj x1 y1 z1 x2 z2 hz
    cases hlt : decide ((i : Int) < (m : Int))
    · have him : i = m := by have := of_decide_eq_false hlt; omega
      subst him
      clear hKK hBB hEV
      gi_wp2
      go_ret
      exact ⟨rfl, HJj.out, HKK.out⟩
    · have him := of_decide_eq_true hlt
      obtain ⟨e1, e2, e3⟩ := hEV.e.one
      have z := hBB.lt
      have q0 := hBB.cell 0
      have q1 := hBB.cell 1
      have q2 := hBB.cell 2
      have q3 := hBB.cell 3
      have q4 := hBB.cell 4
      have q5 := hBB.cell 5
      have q6 := hBB.cell 6
      have q7 := hBB.cell 7
      have q8 := hBB.cell 8
      have q9 := hBB.cell 9
      have q10 := hBB.cell 10
      have q11 := hBB.cell 11
      have q12 := hBB.cell 12
      simp only [List.getElem?_toArray, List.getElem?_cons_zero, List.getElem?_cons_succ] at q0 q1 q2 q3 q4 q5 q6 q7 q8 q9 q10 q11 q12
      clear hKK hBB hEV
      gi_wp2
      have hb2 := below_alloc (Below.refl wr.heap.size wr) (.cells #[.int .i64 2, .int .i64 r0, .int .i64 (i : Int), .int .i64 0, .int .i64 0, .int .i64 0, .int .i64 0, .int .i64 0, .int .i64 0, .int .i64 0, .int .i64 0, .int .i64 0, .int .i64 0] 89)
      have hK2 : KpC n₀ b1 wr (wr.alloc (.cells #[.int .i64 2, .int .i64 r0, .int .i64 (i : Int), .int .i64 0, .int .i64 0, .int .i64 0, .int .i64 0, .int .i64 0, .int .i64 0, .int .i64 0, .int .i64 0, .int .i64 0, .int .i64 0] 89)) := KpC_below hb2 HEV.out.s
      have hpT : (pre ++ (List.range i).flatMap fE) ++ extC m j ([r0] ++ [(i : Int)]) <+: T := by
        rw [HFE.out i, List.append_assoc, ← range_flat]
        exact (List.prefix_append_right_inj pre |>.2 (range_pre fE (by omega))).trans HT.out
      have hcall := HIH.out i _ _ (d - 1) hpT (HJA.out _ _ _ HJj.out (grown_of_below hb2 none)) (HEV.out.to hK2)
      rw [HFE.out i, List.append_assoc, ← range_flat] at hcall
      have HK2 := Lib.hid hK2
      clear hb2 hK2 hpT q0 q1 q2 q3 q4 q5 q6 q7 q8 q9 q10 q11 q12
      refine ⟨trivial, fun h => absurd h (by decide), hcall.mono ?_⟩
      rintro e w3 ⟨rfl, hJ3, hk3⟩
      have HJ3 := Lib.hid hJ3
      have HK3 := Lib.hid hk3
      clear hJ3 hk3 hcall
      gi_wp2
      have hk4 := KpC_t HK2.out HK3.out
      exact HKn.out _ _ ⟨k - 1, by omega, HJn.out _ _ _ ⟨i + 1, _, _, _, _, _, _, _, _, _, _, _, _, _, _, _, _, _, _, _, _, _, _, _, _, _, _, _, rfl, by omega, HJ3.out, KpC_t HKK.out hk4, hk4.at HBB.out (.inr (.inr (.inl rfl)))⟩⟩
end Go.Proofs.Ytkjojcepombhpaa.L

/- The iterator (rule).courses: its contract. -/
namespace Go.Proofs.Ytkjojcepombhpaa.L
set_option linter.unusedVariables false
set_option linter.unusedSimpArgs false
open Go.RowKit Go.Shelf Go.Proofs.YtkjojcepombhpaaW.PrintWords Go.Proofs.YtkjojcepombhpaaW.PrintLast Go.Proofs.YtkjojcepombhpaaW.PrintMore
attribute [local go_sem] Oper.semAt_some


set_option maxRecDepth 100000 in
set_option maxHeartbeats 8000000 in
theorem ext_step2 (lp n₀ b1 by' b2 be K m : Nat) (v1 v2 : Value) (J : List (List Int) → World → Prop) (T : List (List Int))
    (hJA : ∀ s W W', J s W → W.grownBy W' none → J s W') (hm6 : m ≤ 6) (j : Nat) (r0 r1 : Int) (hn : 2 < K) (hK : K ≤ 5)
    (IH : ∀ (k : Nat) (pre : List (List Int)) (W : World) (d : Nat), pre ++ extC m j ([r0, r1] ++ [(k : Int)]) <+: T → J pre W → ExtB lp n₀ b1 by' b2 be K m v1 v2 W → CallsIn Fence.wide d Try.prog 85 (#[.agg (crs ([r0, r1] ++ [(k : Int)]))] ++ extLoc b1 by' b2 be) W fun e W' => e = .returned (.bool true) ∧ J (pre ++ extC m j ([r0, r1] ++ [(k : Int)])) W' ∧ KpC n₀ b1 W W')
    (pre : List (List Int)) (W : World) (d : Nat) (hT : pre ++ extC m (j + 1) [r0, r1] <+: T) (hJ : J pre W) (hE : ExtB lp n₀ b1 by' b2 be K m v1 v2 W) :
    CallsIn Fence.wide d Try.prog 85 (#[.agg (crs [r0, r1])] ++ extLoc b1 by' b2 be) W fun e W' => e = .returned (.bool true) ∧ J (pre ++ extC m (j + 1) [r0, r1]) W' ∧ KpC n₀ b1 W W' := by
  have hc : crs [r0, r1] = #[.int .i64 2, .int .i64 r0, .int .i64 r1, .int .i64 0, .int .i64 0, .int .i64 0, .int .i64 0, .int .i64 0, .int .i64 0, .int .i64 0, .int .i64 0, .int .i64 0, .int .i64 0] := rfl
  rw [hc]
  clear hc
  have HIH := Lib.hid IH
  have HJA := Lib.hid hJA
  have HT := Lib.hid hT
  have hex : extC m (j + 1) [r0, r1] = (List.range m).flatMap fun (k : Nat) => extC m j ([r0, r1] ++ [(k : Int)]) := rfl
  rw [hex] at HT ⊢
  clear hex hT IH hJA
  obtain ⟨fE, hfE⟩ : ∃ fE : Nat → List (List Int), (fun (k : Nat) => extC m j ([r0, r1] ++ [(k : Int)])) = fE := ⟨_, rfl⟩
  rw [hfE] at HT ⊢
  have HFE := Lib.hid (fun k => congrFun hfE k)
  clear hfE
  have hb1 := below_alloc (Below.refl W.heap.size W) (.cells #[.int .i64 2, .int .i64 r0, .int .i64 r1, .int .i64 0, .int .i64 0, .int .i64 0, .int .i64 0, .int .i64 0, .int .i64 0, .int .i64 0, .int .i64 0, .int .i64 0, .int .i64 0] 89)
  have hK1 : KpC n₀ b1 W (W.alloc (.cells #[.int .i64 2, .int .i64 r0, .int .i64 r1, .int .i64 0, .int .i64 0, .int .i64 0, .int .i64 0, .int .i64 0, .int .i64 0, .int .i64 0, .int .i64 0, .int .i64 0, .int .i64 0] 89)) := KpC_below hb1 hE.s
  have hB1 := Whole.new W 89 #[.int .i64 2, .int .i64 r0, .int .i64 r1, .int .i64 0, .int .i64 0, .int .i64 0, .int .i64 0, .int .i64 0, .int .i64 0, .int .i64 0, .int .i64 0, .int .i64 0, .int .i64 0]
  obtain ⟨x1, y1, z1⟩ := (hE.to hK1).n.one
  have x2 := (hE.to hK1).r.cell 0
  have z2 := (hE.to hK1).r.lt
  simp only [List.getElem?_toArray, List.getElem?_cons_zero] at x2
  have HJ1 := Lib.hid (HJA.out _ _ _ hJ (grown_of_below hb1 none))
  have HK1 := Lib.hid hK1
  have HB1 := Lib.hid hB1
  have HE := Lib.hid hE
  have hz : W.heap.size < (W.alloc (.cells #[.int .i64 2, .int .i64 r0, .int .i64 r1, .int .i64 0, .int .i64 0, .int .i64 0, .int .i64 0, .int .i64 0, .int .i64 0, .int .i64 0, .int .i64 0, .int .i64 0, .int .i64 0] 89)).heap.size := by simp
  clear hK1 hB1 hb1 hJ hE
  have hne : decide ((2 : Int) = (K : Int)) = false := decide_eq_false (by omega)
  refine callsIn_of_wp Try.func85 rfl trivial ?_ rfl
  simp only [extLoc, Try.ntmps85, List.size_toArray, List.length_cons, List.length_nil, Nat.reduceAdd, Nat.reduceSub, Array.replicate_succ, Array.replicate_zero, List.push_toArray, List.append_toArray, List.nil_append, List.cons_append]
  gi_wp2
  refine wpIn_loop_ghost_k (fun k a V => ∃ (i : Nat) (u7 u8 u9 u10 u11 u12 u13 u14 u15 u16 u19 u20 u21 u22 u23 u24 u25 u26 u27 u28 u29 u30 u31 u32 u33 u34 u35 : Value), a = { tmps := #[.agg #[.int .i64 2, .int .i64 r0, .int .i64 r1, .int .i64 0, .int .i64 0, .int .i64 0, .int .i64 0, .int .i64 0, .int .i64 0, .int .i64 0, .int .i64 0, .int .i64 0, .int .i64 0], .pointer (some ⟨b1, 0, none⟩), .pointer (some ⟨by', 0, none⟩), .pointer (some ⟨b2, 0, none⟩), .pointer (some ⟨be, 0, none⟩), .pointer (some ⟨W.heap.size, 0, none⟩), .bool false, u7, u8, u9, u10, u11, u12, u13, u14, u15, u16, .int .i64 (m : Int), .int .i64 (i : Int), u19, u20, u21, u22, u23, u24, u25, u26, u27, u28, u29, u30, u31, u32, u33, u34, u35], defers := [] } ∧ k + i = m ∧ J (pre ++ (List.range i).flatMap fE) V ∧ KpC n₀ b1 W V ∧ Whole V W.heap.size 89 #[.int .i64 2, .int .i64 r0, .int .i64 r1, .int .i64 0, .int .i64 0, .int .i64 0, .int .i64 0, .int .i64 0, .int .i64 0, .int .i64 0, .int .i64 0, .int .i64 0, .int .i64 0]) m ?_ ?_
  · exact ⟨0, _, _, _, _, _, _, _, _, _, _, _, _, _, _, _, _, _, _, _, _, _, _, _, _, _, _, _, rfl, rfl, by simpa using HJ1.out, HK1.out, HB1.out⟩
  · rintro k a wr ⟨i, u7, u8, u9, u10, u11, u12, u13, u14, u15, u16, u19, u20, u21, u22, u23, u24, u25, u26, u27, u28, u29, u30, u31, u32, u33, u34, u35, rfl, hki, hJj, hKK, hBB⟩ Jn Kn hJn hKn
    have HJn := Lib.hid hJn
    have HKn := Lib.hid hKn
    have HJj := Lib.hid hJj
    have HKK := Lib.hid hKK
    have HBB := Lib.hid hBB
    have hEV := HE.out.to hKK
    have HEV := Lib.hid hEV
    clear hJn hKn hJj x1 y1 z1 x2 z2 hz
    cases hlt : decide ((i : Int) < (m : Int))
    · have him : i = m := by have := of_decide_eq_false hlt; omega
      subst him
      clear hKK hBB hEV
      gi_wp2
      go_ret
      exact ⟨rfl, HJj.out, HKK.out⟩
    · have him := of_decide_eq_true hlt
      obtain ⟨e1, e2, e3⟩ := hEV.e.one
      have z := hBB.lt
      have q0 := hBB.cell 0
      have q1 := hBB.cell 1
      have q2 := hBB.cell 2
      have q3 := hBB.cell 3
      have q4 := hBB.cell 4
      have q5 := hBB.cell 5
      have q6 := hBB.cell 6
      have q7 := hBB.cell 7
      have q8 := hBB.cell 8
      have q9 := hBB.cell 9
      have q10 := hBB.cell 10
      have q11 := hBB.cell 11
      have q12 := hBB.cell 12
      simp only [List.getElem?_toArray, List.getElem?_cons_zero, List.getElem?_cons_succ] at q0 q1 q2 q3 q4 q5 q6 q7 q8 q9 q10 q11 q12
      clear hKK hBB hEV
      gi_wp2
      have hb2 := below_alloc (Below.refl wr.heap.size wr) (.cells #[.int .i64 3, .int .i64 r0, .int .i64 r1, .int .i64 (i : Int), .int .i64 0, .int .i64 0, .int .i64 0, .int .i64 0, .int .i64 0, .int .i64 0, .int .i64 0, .int .i64 0, .int .i64 0] 89)
      have hK2 : KpC n₀ b1 wr (wr.alloc (.cells #[.int .i64 3, .int .i64 r0, .int .i64 r1, .int .i64 (i : Int), .int .i64 0, .int .i64 0, .int .i64 0, .int .i64 0, .int .i64 0, .int .i64 0, .int .i64 0, .int .i64 0, .int .i64 0] 89)) := KpC_below hb2 HEV.out.s
      have hpT : (pre ++ (List.range i).flatMap fE) ++ extC m j ([r0, r1] ++ [(i : Int)]) <+: T := by
        rw [HFE.out i, List.append_assoc, ← range_flat]
        exact (List.prefix_append_right_inj pre |>.2 (range_pre fE (by omega))).trans HT.out
      have hcall := HIH.out i _ _ (d - 1) hpT (HJA.out _ _ _ HJj.out (grown_of_below hb2 none)) (HEV.out.to hK2)
      rw [HFE.out i, List.append_assoc, ← range_flat] at hcall
      have HK2 := Lib.hid hK2
      clear hb2 hK2 hpT q0 q1 q2 q3 q4 q5 q6 q7 q8 q9 q10 q11 q12
      refine ⟨trivial, fun h => absurd h (by decide), hcall.mono ?_⟩
      rintro e w3 ⟨rfl, hJ3, hk3⟩
      have HJ3 := Lib.hid hJ3
      have HK3 := Lib.hid hk3
      clear hJ3 hk3 hcall
      gi_wp2
      have hk4 := KpC_t HK2.out HK3.out
      exact HKn.out _ _ ⟨k - 1, by omega, HJn.out _ _ _ ⟨i + 1, _, _, _, _, _, _, _, _, _, _, _, _, _, _, _, _, _, _, _, _, _, _, _, _, _, _, _, rfl, by omega, HJ3.out, KpC_t HKK.out hk4, hk4.at HBB.out (.inr (.inr (.inl rfl)))⟩⟩

set_option maxRecDepth 100000 in
set_option maxHeartbeats 8000000 in
theorem ext_step3 (lp n₀ b1 by' b2 be K m : Nat) (v1 v2 : Value) (J : List (List Int) → World → Prop) (T : List (List Int))
    (hJA : ∀ s W W', J s W → W.grownBy W' none → J s W') (hm6 : m ≤ 6) (j : Nat) (r0 r1 r2 : Int) (hn : 3 < K) (hK : K ≤ 5)
    (IH : ∀ (k : Nat) (pre : List (List Int)) (W : World) (d : Nat), pre ++ extC m j ([r0, r1, r2] ++ [(k : Int)]) <+: T → J pre W → ExtB lp n₀ b1 by' b2 be K m v1 v2 W → CallsIn Fence.wide d Try.prog 85 (#[.agg (crs ([r0, r1, r2] ++ [(k : Int)]))] ++ extLoc b1 by' b2 be) W fun e W' => e = .returned (.bool true) ∧ J (pre ++ extC m j ([r0, r1, r2] ++ [(k : Int)])) W' ∧ KpC n₀ b1 W W')
    (pre : List (List Int)) (W : World) (d : Nat) (hT : pre ++ extC m (j + 1) [r0, r1, r2] <+: T) (hJ : J pre W) (hE : ExtB lp n₀ b1 by' b2 be K m v1 v2 W) :
    CallsIn Fence.wide d Try.prog 85 (#[.agg (crs [r0, r1, r2])] ++ extLoc b1 by' b2 be) W fun e W' => e = .returned (.bool true) ∧ J (pre ++ extC m (j + 1) [r0, r1, r2]) W' ∧ KpC n₀ b1 W W' := by
  have hc : crs [r0, r1, r2] = #[.int .i64 3, .int .i64 r0, .int .i64 r1, .int .i64 r2, .int .i64 0, .int .i64 0, .int .i64 0, .int .i64 0, .int .i64 0, .int .i64 0, .int .i64 0, .int .i64 0, .int .i64 0] := rfl
  rw [hc]
  clear hc
  have HIH := Lib.hid IH
  have HJA := Lib.hid hJA
  have HT := Lib.hid hT
  have hex : extC m (j + 1) [r0, r1, r2] = (List.range m).flatMap fun (k : Nat) => extC m j ([r0, r1, r2] ++ [(k : Int)]) := rfl
  rw [hex] at HT ⊢
  clear hex hT IH hJA
  obtain ⟨fE, hfE⟩ : ∃ fE : Nat → List (List Int), (fun (k : Nat) => extC m j ([r0, r1, r2] ++ [(k : Int)])) = fE := ⟨_, rfl⟩
  rw [hfE] at HT ⊢
  have HFE := Lib.hid (fun k => congrFun hfE k)
  clear hfE
  have hb1 := below_alloc (Below.refl W.heap.size W) (.cells #[.int .i64 3, .int .i64 r0, .int .i64 r1, .int .i64 r2, .int .i64 0, .int .i64 0, .int .i64 0, .int .i64 0, .int .i64 0, .int .i64 0, .int .i64 0, .int .i64 0, .int .i64 0] 89)
  have hK1 : KpC n₀ b1 W (W.alloc (.cells #[.int .i64 3, .int .i64 r0, .int .i64 r1, .int .i64 r2, .int .i64 0, .int .i64 0, .int .i64 0, .int .i64 0, .int .i64 0, .int .i64 0, .int .i64 0, .int .i64 0, .int .i64 0] 89)) := KpC_below hb1 hE.s
  have hB1 := Whole.new W 89 #[.int .i64 3, .int .i64 r0, .int .i64 r1, .int .i64 r2, .int .i64 0, .int .i64 0, .int .i64 0, .int .i64 0, .int .i64 0, .int .i64 0, .int .i64 0, .int .i64 0, .int .i64 0]
  obtain ⟨x1, y1, z1⟩ := (hE.to hK1).n.one
  have x2 := (hE.to hK1).r.cell 0
  have z2 := (hE.to hK1).r.lt
  simp only [List.getElem?_toArray, List.getElem?_cons_zero] at x2
  have HJ1 := Lib.hid (HJA.out _ _ _ hJ (grown_of_below hb1 none))
  have HK1 := Lib.hid hK1
  have HB1 := Lib.hid hB1
  have HE := Lib.hid hE
  have hz : W.heap.size < (W.alloc (.cells #[.int .i64 3, .int .i64 r0, .int .i64 r1, .int .i64 r2, .int .i64 0, .int .i64 0, .int .i64 0, .int .i64 0, .int .i64 0, .int .i64 0, .int .i64 0, .int .i64 0, .int .i64 0] 89)).heap.size := by simp
  clear hK1 hB1 hb1 hJ hE
  have hne : decide ((3 : Int) = (K : Int)) = false := decide_eq_false (by omega)
  refine callsIn_of_wp Try.func85 rfl trivial ?_ rfl
  simp only [extLoc, Try.ntmps85, List.size_toArray, List.length_cons, List.length_nil, Nat.reduceAdd, Nat.reduceSub, Array.replicate_succ, Array.replicate_zero, List.push_toArray, List.append_toArray, List.nil_append, List.cons_append]
  gi_wp2
  refine wpIn_loop_ghost_k (fun k a V => ∃ (i : Nat) (u7 u8 u9 u10 u11 u12 u13 u14 u15 u16 u19 u20 u21 u22 u23 u24 u25 u26 u27 u28 u29 u30 u31 u32 u33 u34 u35 : Value), a = { tmps := #[.agg #[.int .i64 3, .int .i64 r0, .int .i64 r1, .int .i64 r2, .int .i64 0, .int .i64 0, .int .i64 0, .int .i64 0, .int .i64 0, .int .i64 0, .int .i64 0, .int .i64 0, .int .i64 0], .pointer (some ⟨b1, 0, none⟩), .pointer (some ⟨by', 0, none⟩), .pointer (some ⟨b2, 0, none⟩), .pointer (some ⟨be, 0, none⟩), .pointer (some ⟨W.heap.size, 0, none⟩), .bool false, u7, u8, u9, u10, u11, u12, u13, u14, u15, u16, .int .i64 (m : Int), .int .i64 (i : Int), u19, u20, u21, u22, u23, u24, u25, u26, u27, u28, u29, u30, u31, u32, u33, u34, u35], defers := [] } ∧ k + i = m ∧ J (pre ++ (List.range i).flatMap fE) V ∧ KpC n₀ b1 W V ∧ Whole V W.heap.size 89 #[.int .i64 3, .int .i64 r0, .int .i64 r1, .int .i64 r2, .int .i64 0, .int .i64 0, .int .i64 0, .int .i64 0, .int .i64 0, .int .i64 0, .int .i64 0, .int .i64 0, .int .i64 0]) m ?_ ?_
  · exact ⟨0, _, _, _, _, _, _, _, _, _, _, _, _, _, _, _, _, _, _, _, _, _, _, _, _, _, _, _, rfl, rfl, by simpa using HJ1.out, HK1.out, HB1.out⟩
  · rintro k a wr ⟨i, u7, u8, u9, u10, u11, u12, u13, u14, u15, u16, u19, u20, u21, u22, u23, u24, u25, u26, u27, u28, u29, u30, u31, u32, u33, u34, u35, rfl, hki, hJj, hKK, hBB⟩ Jn Kn hJn hKn
    have HJn := Lib.hid hJn
    have HKn := Lib.hid hKn
    have HJj := Lib.hid hJj
    have HKK := Lib.hid hKK
    have HBB := Lib.hid hBB
    have hEV := HE.out.to hKK
    have HEV := Lib.hid hEV
    clear hJn hKn hJj x1 y1 z1 x2 z2 hz
    cases hlt : decide ((i : Int) < (m : Int))
    · have him : i = m := by have := of_decide_eq_false hlt; omega
      subst him
      clear hKK hBB hEV
      gi_wp2
      go_ret
      exact ⟨rfl, HJj.out, HKK.out⟩
    · have him := of_decide_eq_true hlt
      obtain ⟨e1, e2, e3⟩ := hEV.e.one
      have z := hBB.lt
      have q0 := hBB.cell 0
      have q1 := hBB.cell 1
      have q2 := hBB.cell 2
      have q3 := hBB.cell 3
      have q4 := hBB.cell 4
      have q5 := hBB.cell 5
      have q6 := hBB.cell 6
      have q7 := hBB.cell 7
      have q8 := hBB.cell 8
      have q9 := hBB.cell 9
      have q10 := hBB.cell 10
      have q11 := hBB.cell 11
      have q12 := hBB.cell 12
      simp only [List.getElem?_toArray, List.getElem?_cons_zero, List.getElem?_cons_succ] at q0 q1 q2 q3 q4 q5 q6 q7 q8 q9 q10 q11 q12
      clear hKK hBB hEV
      gi_wp2
      have hb2 := below_alloc (Below.refl wr.heap.size wr) (.cells #[.int .i64 4, .int .i64 r0, .int .i64 r1, .int .i64 r2, .int .i64 (i : Int), .int .i64 0, .int .i64 0, .int .i64 0, .int .i64 0, .int .i64 0, .int .i64 0, .int .i64 0, .int .i64 0] 89)
      have hK2 : KpC n₀ b1 wr (wr.alloc (.cells #[.int .i64 4, .int .i64 r0, .int .i64 r1, .int .i64 r2, .int .i64 (i : Int), .int .i64 0, .int .i64 0, .int .i64 0, .int .i64 0, .int .i64 0, .int .i64 0, .int .i64 0, .int .i64 0] 89)) := KpC_below hb2 HEV.out.s
      have hpT : (pre ++ (List.range i).flatMap fE) ++ extC m j ([r0, r1, r2] ++ [(i : Int)]) <+: T := by
        rw [HFE.out i, List.append_assoc, ← range_flat]
        exact (List.prefix_append_right_inj pre |>.2 (range_pre fE (by omega))).trans HT.out
      have hcall := HIH.out i _ _ (d - 1) hpT (HJA.out _ _ _ HJj.out (grown_of_below hb2 none)) (HEV.out.to hK2)
      rw [HFE.out i, List.append_assoc, ← range_flat] at hcall
      have HK2 := Lib.hid hK2
      clear hb2 hK2 hpT q0 q1 q2 q3 q4 q5 q6 q7 q8 q9 q10 q11 q12
      refine ⟨trivial, fun h => absurd h (by decide), hcall.mono ?_⟩
      rintro e w3 ⟨rfl, hJ3, hk3⟩
      have HJ3 := Lib.hid hJ3
      have HK3 := Lib.hid hk3
      clear hJ3 hk3 hcall
      gi_wp2
      have hk4 := KpC_t HK2.out HK3.out
      exact HKn.out _ _ ⟨k - 1, by omega, HJn.out _ _ _ ⟨i + 1, _, _, _, _, _, _, _, _, _, _, _, _, _, _, _, _, _, _, _, _, _, _, _, _, _, _, _, rfl, by omega, HJ3.out, KpC_t HKK.out hk4, hk4.at HBB.out (.inr (.inr (.inl rfl)))⟩⟩
end Go.Proofs.Ytkjojcepombhpaa.L

/- The iterator (rule).courses: its contract. -/
namespace Go.Proofs.Ytkjojcepombhpaa.L
set_option linter.unusedVariables false
set_option linter.unusedSimpArgs false
open Go.RowKit Go.Shelf Go.Proofs.YtkjojcepombhpaaW.PrintWords Go.Proofs.YtkjojcepombhpaaW.PrintLast Go.Proofs.YtkjojcepombhpaaW.PrintMore
attribute [local go_sem] Oper.semAt_some


set_option maxRecDepth 100000 in
set_option maxHeartbeats 8000000 in
theorem ext_step4 (lp n₀ b1 by' b2 be K m : Nat) (v1 v2 : Value) (J : List (List Int) → World → Prop) (T : List (List Int))
    (hJA : ∀ s W W', J s W → W.grownBy W' none → J s W') (hm6 : m ≤ 6) (j : Nat) (r0 r1 r2 r3 : Int) (hn : 4 < K) (hK : K ≤ 5)
    (IH : ∀ (k : Nat) (pre : List (List Int)) (W : World) (d : Nat), pre ++ extC m j ([r0, r1, r2, r3] ++ [(k : Int)]) <+: T → J pre W → ExtB lp n₀ b1 by' b2 be K m v1 v2 W → CallsIn Fence.wide d Try.prog 85 (#[.agg (crs ([r0, r1, r2, r3] ++ [(k : Int)]))] ++ extLoc b1 by' b2 be) W fun e W' => e = .returned (.bool true) ∧ J (pre ++ extC m j ([r0, r1, r2, r3] ++ [(k : Int)])) W' ∧ KpC n₀ b1 W W')
    (pre : List (List Int)) (W : World) (d : Nat) (hT : pre ++ extC m (j + 1) [r0, r1, r2, r3] <+: T) (hJ : J pre W) (hE : ExtB lp n₀ b1 by' b2 be K m v1 v2 W) :
    CallsIn Fence.wide d Try.prog 85 (#[.agg (crs [r0, r1, r2, r3])] ++ extLoc b1 by' b2 be) W fun e W' => e = .returned (.bool true) ∧ J (pre ++ extC m (j + 1) [r0, r1, r2, r3]) W' ∧ KpC n₀ b1 W W' := by
  have hc : crs [r0, r1, r2, r3] = #[.int .i64 4, .int .i64 r0, .int .i64 r1, .int .i64 r2, .int .i64 r3, .int .i64 0, .int .i64 0, .int .i64 0, .int .i64 0, .int .i64 0, .int .i64 0, .int .i64 0, .int .i64 0] := rfl
  rw [hc]
  clear hc
  have HIH := Lib.hid IH
  have HJA := Lib.hid hJA
  have HT := Lib.hid hT
  have hex : extC m (j + 1) [r0, r1, r2, r3] = (List.range m).flatMap fun (k : Nat) => extC m j ([r0, r1, r2, r3] ++ [(k : Int)]) := rfl
  rw [hex] at HT ⊢
  clear hex hT IH hJA
  obtain ⟨fE, hfE⟩ : ∃ fE : Nat → List (List Int), (fun (k : Nat) => extC m j ([r0, r1, r2, r3] ++ [(k : Int)])) = fE := ⟨_, rfl⟩
  rw [hfE] at HT ⊢
  have HFE := Lib.hid (fun k => congrFun hfE k)
  clear hfE
  have hb1 := below_alloc (Below.refl W.heap.size W) (.cells #[.int .i64 4, .int .i64 r0, .int .i64 r1, .int .i64 r2, .int .i64 r3, .int .i64 0, .int .i64 0, .int .i64 0, .int .i64 0, .int .i64 0, .int .i64 0, .int .i64 0, .int .i64 0] 89)
  have hK1 : KpC n₀ b1 W (W.alloc (.cells #[.int .i64 4, .int .i64 r0, .int .i64 r1, .int .i64 r2, .int .i64 r3, .int .i64 0, .int .i64 0, .int .i64 0, .int .i64 0, .int .i64 0, .int .i64 0, .int .i64 0, .int .i64 0] 89)) := KpC_below hb1 hE.s
  have hB1 := Whole.new W 89 #[.int .i64 4, .int .i64 r0, .int .i64 r1, .int .i64 r2, .int .i64 r3, .int .i64 0, .int .i64 0, .int .i64 0, .int .i64 0, .int .i64 0, .int .i64 0, .int .i64 0, .int .i64 0]
  obtain ⟨x1, y1, z1⟩ := (hE.to hK1).n.one
  have x2 := (hE.to hK1).r.cell 0
  have z2 := (hE.to hK1).r.lt
  simp only [List.getElem?_toArray, List.getElem?_cons_zero] at x2
  have HJ1 := Lib.hid (HJA.out _ _ _ hJ (grown_of_below hb1 none))
  have HK1 := Lib.hid hK1
  have HB1 := Lib.hid hB1
  have HE := Lib.hid hE
  have hz : W.heap.size < (W.alloc (.cells #[.int .i64 4, .int .i64 r0, .int .i64 r1, .int .i64 r2, .int .i64 r3, .int .i64 0, .int .i64 0, .int .i64 0, .int .i64 0, .int .i64 0, .int .i64 0, .int .i64 0, .int .i64 0] 89)).heap.size := by simp
  clear hK1 hB1 hb1 hJ hE
  have hne : decide ((4 : Int) = (K : Int)) = false := decide_eq_false (by omega)
  refine callsIn_of_wp Try.func85 rfl trivial ?_ rfl
  simp only [extLoc, Try.ntmps85, List.size_toArray, List.length_cons, List.length_nil, Nat.reduceAdd, Nat.reduceSub, Array.replicate_succ, Array.replicate_zero, List.push_toArray, List.append_toArray, List.nil_append, List.cons_append]
  gi_wp2
  refine wpIn_loop_ghost_k (fun k a V => ∃ (i : Nat) (u7 u8 u9 u10 u11 u12 u13 u14 u15 u16 u19 u20 u21 u22 u23 u24 u25 u26 u27 u28 u29 u30 u31 u32 u33 u34 u35 : Value), a = { tmps := #[.agg #[.int .i64 4, .int .i64 r0, .int .i64 r1, .int .i64 r2, .int .i64 r3, .int .i64 0, .int .i64 0, .int .i64 0, .int .i64 0, .int .i64 0, .int .i64 0, .int .i64 0, .int .i64 0], .pointer (some ⟨b1, 0, none⟩), .pointer (some ⟨by', 0, none⟩), .pointer (some ⟨b2, 0, none⟩), .pointer (some ⟨be, 0, none⟩), .pointer (some ⟨W.heap.size, 0, none⟩), .bool false, u7, u8, u9, u10, u11, u12, u13, u14, u15, u16, .int .i64 (m : Int), .int .i64 (i : Int), u19, u20, u21, u22, u23, u24, u25, u26, u27, u28, u29, u30, u31, u32, u33, u34, u35], defers := [] } ∧ k + i = m ∧ J (pre ++ (List.range i).flatMap fE) V ∧ KpC n₀ b1 W V ∧ Whole V W.heap.size 89 #[.int .i64 4, .int .i64 r0, .int .i64 r1, .int .i64 r2, .int .i64 r3, .int .i64 0, .int .i64 0, .int .i64 0, .int .i64 0, .int .i64 0, .int .i64 0, .int .i64 0, .int .i64 0]) m ?_ ?_
  · exact ⟨0, _, _, _, _, _, _, _, _, _, _, _, _, _, _, _, _, _, _, _, _, _, _, _, _, _, _, _, rfl, rfl, by simpa using HJ1.out, HK1.out, HB1.out⟩
  · rintro k a wr ⟨i, u7, u8, u9, u10, u11, u12, u13, u14, u15, u16, u19, u20, u21, u22, u23, u24, u25, u26, u27, u28, u29, u30, u31, u32, u33, u34, u35, rfl, hki, hJj, hKK, hBB⟩ Jn Kn hJn hKn
    have HJn := Lib.hid hJn
    have HKn := Lib.hid hKn
    have HJj := Lib.hid hJj
    have HKK := Lib.hid hKK
    have HBB := Lib.hid hBB
    have hEV := HE.out.to hKK
    have HEV := Lib.hid hEV
    clear hJn hKn hJj x1 y1 z1 x2 z2 hz
    cases hlt : decide ((i : Int) < (m : Int))
    · have him : i = m := by have := of_decide_eq_false hlt; omega
      subst him
      clear hKK hBB hEV
      gi_wp2
      go_ret
      exact ⟨rfl, HJj.out, HKK.out⟩
    · have him := of_decide_eq_true hlt
      obtain ⟨e1, e2, e3⟩ := hEV.e.one
      have z := hBB.lt
      have q0 := hBB.cell 0
      have q1 := hBB.cell 1
      have q2 := hBB.cell 2
      have q3 := hBB.cell 3
      have q4 := hBB.cell 4
      have q5 := hBB.cell 5
      have q6 := hBB.cell 6
      have q7 := hBB.cell 7
      have q8 := hBB.cell 8
      have q9 := hBB.cell 9
      have q10 := hBB.cell 10
      have q11 := hBB.cell 11
      have q12 := hBB.cell 12
      simp only [List.getElem?_toArray, List.getElem?_cons_zero, List.getElem?_cons_succ] at q0 q1 q2 q3 q4 q5 q6 q7 q8 q9 q10 q11 q12
      clear hKK hBB hEV
      gi_wp2
      have hb2 := below_alloc (Below.refl wr.heap.size wr) (.cells #[.int .i64 5, .int .i64 r0, .int .i64 r1, .int .i64 r2, .int .i64 r3, .int .i64 (i : Int), .int .i64 0, .int .i64 0, .int .i64 0, .int .i64 0, .int .i64 0, .int .i64 0, .int .i64 0] 89)
      have hK2 : KpC n₀ b1 wr (wr.alloc (.cells #[.int .i64 5, .int .i64 r0, .int .i64 r1, .int .i64 r2, .int .i64 r3, .int .i64 (i : Int), .int .i64 0, .int .i64 0, .int .i64 0, .int .i64 0, .int .i64 0, .int .i64 0, .int .i64 0] 89)) := KpC_below hb2 HEV.out.s
      have hpT : (pre ++ (List.range i).flatMap fE) ++ extC m j ([r0, r1, r2, r3] ++ [(i : Int)]) <+: T := by
        rw [HFE.out i, List.append_assoc, ← range_flat]
        exact (List.prefix_append_right_inj pre |>.2 (range_pre fE (by omega))).trans HT.out
      have hcall := HIH.out i _ _ (d - 1) hpT (HJA.out _ _ _ HJj.out (grown_of_below hb2 none)) (HEV.out.to hK2)
      rw [HFE.out i, List.append_assoc, ← range_flat] at hcall
      have HK2 := Lib.hid hK2
      clear hb2 hK2 hpT q0 q1 q2 q3 q4 q5 q6 q7 q8 q9 q10 q11 q12
      refine ⟨trivial, fun h => absurd h (by decide), hcall.mono ?_⟩
      rintro e w3 ⟨rfl, hJ3, hk3⟩
      have HJ3 := Lib.hid hJ3
      have HK3 := Lib.hid hk3
      clear hJ3 hk3 hcall
      gi_wp2
      have hk4 := KpC_t HK2.out HK3.out
      exact HKn.out _ _ ⟨k - 1, by omega, HJn.out _ _ _ ⟨i + 1, _, _, _, _, _, _, _, _, _, _, _, _, _, _, _, _, _, _, _, _, _, _, _, _, _, _, _, rfl, by omega, HJ3.out, KpC_t HKK.out hk4, hk4.at HBB.out (.inr (.inr (.inl rfl)))⟩⟩
end Go.Proofs.Ytkjojcepombhpaa.L

/- The iterator (rule).courses hands over all courses of a length. -/
namespace Go.Proofs.Ytkjojcepombhpaa.L
set_option linter.unusedVariables false
set_option linter.unusedSimpArgs false
open Go.RowKit Go.Shelf Go.Proofs.YtkjojcepombhpaaW.PrintWords Go.Proofs.YtkjojcepombhpaaW.PrintLast Go.Proofs.YtkjojcepombhpaaW.PrintMore
attribute [local go_sem] Oper.semAt_some

theorem ext_any (lp n₀ b1 by' b2 be K m : Nat) (v1 v2 : Value) (J : List (List Int) → World → Prop) (T : List (List Int))
    (hJA : ∀ s W W', J s W → W.grownBy W' none → J s W') (hm6 : m ≤ 6) (hK : K ≤ 5)
    (hY : ∀ pre x W1, pre ++ [x] <+: T → J pre W1 → YieldAt Fence.wide 0 Try.prog lp #[.agg (crs x)] W1 fun e W' => e = .returned (.bool true) ∧ J (pre ++ [x]) W' ∧ KpC n₀ b1 W1 W') :
    ∀ (j : Nat) (l : List Int), l.length + j = K → ∀ (pre : List (List Int)) (W : World) (d : Nat), pre ++ extC m j l <+: T → J pre W → ExtB lp n₀ b1 by' b2 be K m v1 v2 W →
    CallsIn Fence.wide d Try.prog 85 (#[.agg (crs l)] ++ extLoc b1 by' b2 be) W fun e W' => e = .returned (.bool true) ∧ J (pre ++ extC m j l) W' ∧ KpC n₀ b1 W W' := by
  intro j
  induction j with
  | zero =>
    intro l hl pre W d hT hJ hE
    exact ext_base lp n₀ b1 by' b2 be K m v1 v2 J T hJA hY l pre W d hl hK hT hJ hE
  | succ j ih =>
    intro l hl pre W d hT hJ hE
    have IH : ∀ (k : Nat) (pre : List (List Int)) (W : World) (d : Nat), pre ++ extC m j (l ++ [(k : Int)]) <+: T → J pre W → ExtB lp n₀ b1 by' b2 be K m v1 v2 W → CallsIn Fence.wide d Try.prog 85 (#[.agg (crs (l ++ [(k : Int)]))] ++ extLoc b1 by' b2 be) W fun e W' => e = .returned (.bool true) ∧ J (pre ++ extC m j (l ++ [(k : Int)])) W' ∧ KpC n₀ b1 W W' :=
      fun k pre W d => ih (l ++ [(k : Int)]) (by simp; omega) pre W d
    clear ih hY
    match l, hl, hT, IH with
    | [], hl, hT, IH => exact ext_step0 lp n₀ b1 by' b2 be K m v1 v2 J T hJA hm6 j (by simp at hl; omega) hK IH pre W d hT hJ hE
    | [r0], hl, hT, IH => exact ext_step1 lp n₀ b1 by' b2 be K m v1 v2 J T hJA hm6 j r0 (by simp at hl; omega) hK IH pre W d hT hJ hE
    | [r0, r1], hl, hT, IH => exact ext_step2 lp n₀ b1 by' b2 be K m v1 v2 J T hJA hm6 j r0 r1 (by simp at hl; omega) hK IH pre W d hT hJ hE
    | [r0, r1, r2], hl, hT, IH => exact ext_step3 lp n₀ b1 by' b2 be K m v1 v2 J T hJA hm6 j r0 r1 r2 (by simp at hl; omega) hK IH pre W d hT hJ hE
    | [r0, r1, r2, r3], hl, hT, IH => exact ext_step4 lp n₀ b1 by' b2 be K m v1 v2 J T hJA hm6 j r0 r1 r2 r3 (by simp at hl; omega) hK IH pre W d hT hJ hE
    | _ :: _ :: _ :: _ :: _ :: _, hl, hT, IH => simp at hl; omega

theorem courses_any (m : Int) (tv pv : Value) (K : Int) (w : World) (ht : tv.oneCell' = true) (hp : pv.oneCell' = true) :
    Calls Try.prog 64 #[rv m tv pv, .int .i64 K] w fun e w' => e = .returned (.func (.func 84) #[] #[.pointer (some ⟨w.heap.size + 1, 0, none⟩), .pointer (some ⟨w.heap.size, 0, none⟩)]) ∧ (w.alloc (rbox m tv pv)).alloc (.cells #[.int .i64 K] 3) = w' := by
  go_enter Try.func64, Try.ntmps64
  go_wp2
  go_ret
  exact ⟨rfl, rfl⟩

set_option maxRecDepth 100000 in
set_option maxHeartbeats 4000000 in
theorem courses_gives (n₀ b1 b2 K m : Nat) (v1 v2 : Value) (w : World) (hm6 : m ≤ 6) (hK : K ≤ 5) (hn : n₀ ≤ w.heap.size)
    (hb1 : Whole w b1 3 #[.int .i64 (K : Int)]) (hb2 : Whole w b2 75 #[.int .i64 (m : Int), v1, v2]) :
    GivesT Try.prog 84 #[.pointer (some ⟨b1, 0, none⟩), .pointer (some ⟨b2, 0, none⟩)] (fun l : List Int => #[.agg (crs l)]) (extC m K []) (KpC n₀ b1) w := by
  intro lp J W hW hJa hY hJ d
  have HJA := Lib.hid (show ∀ s W W', J s W → W.grownBy W' none → J s W' from fun s A B h hg => hJa s A B none h hg (fun r e => by cases e))
  have HY := Lib.hid hY
  have HJ := Lib.hid hJ
  have HC1 := Lib.hid (hb1.below hW hb1.lt)
  have HC2 := Lib.hid (hb2.below hW hb2.lt)
  have HN := Lib.hid (Nat.le_trans hn hW.size)
  clear hY hJ hJa hb1 hb2 hW
  refine callsIn_of_wp Try.func84 rfl trivial ?_ rfl
  simp only [Try.ntmps84, List.size_toArray, List.length_cons, List.length_nil, Nat.reduceAdd, Nat.reduceSub, Array.replicate_succ, Array.replicate_zero, List.push_toArray, List.append_toArray, List.nil_append, List.cons_append]
  gi_wp2
  have hb := below_alloc (below_alloc (Below.refl W.heap.size W) (.cells #[.func (.yield lp) #[] #[]] 108)) (.cells #[.func (.func 85) #[] (extLoc b1 W.heap.size b2 (W.heap.size + 1))] 108)
  have hk : KpC n₀ b1 W _ := KpC_below hb HN.out
  have y1 := (Whole.new W 108 #[.func (.yield lp) #[] #[]]).alloc (.cells #[.func (.func 85) #[] (extLoc b1 W.heap.size b2 (W.heap.size + 1))] 108)
  have y2 := Whole.new (W.alloc (.cells #[.func (.yield lp) #[] #[]] 108)) 108 #[.func (.func 85) #[] (extLoc b1 W.heap.size b2 (W.heap.size + 1))]
  rw [World.size_alloc] at y2
  have hE : ExtB lp n₀ b1 W.heap.size b2 (W.heap.size + 1) K m v1 v2 _ := ⟨hk.at HC1.out (.inl rfl), y1, hk.at HC2.out (.inr (.inl rfl)), y2, Nat.le_trans HN.out hb.size⟩
  have hcall := ext_any lp n₀ b1 W.heap.size b2 (W.heap.size + 1) K m v1 v2 J (extC m K []) HJA.out hm6 hK HY.out K [] (by simp) [] _ (d - 1) (List.prefix_rfl) (HJA.out _ _ _ HJ.out (grown_of_below hb none)) hE
  clear hb hk y1 y2 hE
  refine ⟨trivial, fun h => absurd h (by decide), CallsIn.mono hcall ?_⟩
  rintro e w3 ⟨rfl, hJ3, hk3⟩
  have HJ3 := Lib.hid hJ3
  clear hJ3 hk3 hcall
  gi_wp2
  go_end0
  exact ⟨⟨_, rfl⟩, HJ3.out⟩
end Go.Proofs.Ytkjojcepombhpaa.L
