/- The iterator (rule).courses: its contract. -/
import Derived.Test.YtkjojcepombhpaaXCrsA
namespace Go.Proofs.Ytkjojcepombhpaa.L
set_option linter.unusedVariables false
set_option linter.unusedSimpArgs false
open Go.RowKit Go.Shelf Go.Proofs.YtkjojcepombhpaaW.PrintWords Go.Proofs.YtkjojcepombhpaaW.PrintLast Go.Proofs.YtkjojcepombhpaaW.PrintMore
attribute [local go_sem] Oper.semAt_some


set_option maxRecDepth 100000 in
set_option maxHeartbeats 8000000 in
theorem ext_step4 (lp n₀ b1 by' b2 be K m : Nat) (v1 v2 : Value) (J : List (List Int) → World → Prop) (T : List (List Int))
    (hJA : ∀ s W W', J s W → W.grownBy W' none → J s W') (hm6 : m ≤ 6) (j : Nat) (r0 r1 r2 r3 : Int) (hn : 4 < K) (hK : K ≤ 5)
    (IH : ∀ (k : Nat) (pre : List (List Int)) (W : World) (d : Nat), pre ++ extC m j ([r0, r1, r2, r3] ++ [(k : Int)]) <+: T → J pre W → ExtB lp n₀ b1 by' b2 be K m v1 v2 W → CallsIn Fence.wide d Try.prog 85 (#[.agg (crs ([r0, r1, r2, r3] ++ [(k : Int)]))] ++ extLoc b1 by' b2 be) W fun e W' => e = .returned (.bool true) ∧ J (pre ++ extC m j ([r0, r1, r2, r3] ++ [(k : Int)])) W' ∧ KpC n₀ b1 W W')
    (pre : List (List Int)) (W : World) (d : Nat) (hT : pre ++ extC m (j + 1) [r0, r1, r2, r3] <+: T) (hJ : J pre W) (hE : ExtB lp n₀ b1 by' b2 be K m v1 v2 W) :
    CallsIn Fence.wide d Try.prog 85 (#[.agg (crs [r0, r1, r2, r3])] ++ extLoc b1 by' b2 be) W fun e W' => e = .returned (.bool true) ∧ J (pre ++ extC m (j + 1) [r0, r1, r2, r3]) W' ∧ KpC n₀ b1 W W' := by
  have hc : crs [r0, r1, r2, r3] = #[.int .i64 4, .int .i64 r0, .int .i64 r1, .int .i64 r2, .int .i64 r3, .int .i64 0, .int .i64 0, .int .i64 0, .int .i64 0, .int .i64 0, .int .i64 0, .int .i64 0, .int .i64 0] := rfl
  rw [hc]
  clear hc
  have HIH := Lib.hid IH
  have HJA := Lib.hid hJA
  have HT := Lib.hid hT
  have hex : extC m (j + 1) [r0, r1, r2, r3] = (List.range m).flatMap fun (k : Nat) => extC m j ([r0, r1, r2, r3] ++ [(k : Int)]) := rfl
  rw [hex] at HT ⊢
  clear hex hT IH hJA
  obtain ⟨fE, hfE⟩ : ∃ fE : Nat → List (List Int), (fun (k : Nat) => extC m j ([r0, r1, r2, r3] ++ [(k : Int)])) = fE := ⟨_, rfl⟩
  rw [hfE] at HT ⊢
  have HFE := Lib.hid (fun k => congrFun hfE k)
  clear hfE
  have hb1 := below_alloc (Below.refl W.heap.size W) (.cells #[.int .i64 4, .int .i64 r0, .int .i64 r1, .int .i64 r2, .int .i64 r3, .int .i64 0, .int .i64 0, .int .i64 0, .int .i64 0, .int .i64 0, .int .i64 0, .int .i64 0, .int .i64 0] 89)
  have hK1 : KpC n₀ b1 W (W.alloc (.cells #[.int .i64 4, .int .i64 r0, .int .i64 r1, .int .i64 r2, .int .i64 r3, .int .i64 0, .int .i64 0, .int .i64 0, .int .i64 0, .int .i64 0, .int .i64 0, .int .i64 0, .int .i64 0] 89)) := KpC_below hb1 hE.s
  have hB1 := Whole.new W 89 #[.int .i64 4, .int .i64 r0, .int .i64 r1, .int .i64 r2, .int .i64 r3, .int .i64 0, .int .i64 0, .int .i64 0, .int .i64 0, .int .i64 0, .int .i64 0, .int .i64 0, .int .i64 0]
  obtain ⟨x1, y1, z1⟩ := (hE.to hK1).n.one
  have x2 := (hE.to hK1).r.cell 0
  have z2 := (hE.to hK1).r.lt
  simp only [List.getElem?_toArray, List.getElem?_cons_zero] at x2
  have HJ1 := Lib.hid (HJA.out _ _ _ hJ (grown_of_below hb1 none))
  have HK1 := Lib.hid hK1
  have HB1 := Lib.hid hB1
  have HE := Lib.hid hE
  have hz : W.heap.size < (W.alloc (.cells #[.int .i64 4, .int .i64 r0, .int .i64 r1, .int .i64 r2, .int .i64 r3, .int .i64 0, .int .i64 0, .int .i64 0, .int .i64 0, .int .i64 0, .int .i64 0, .int .i64 0, .int .i64 0] 89)).heap.size := by simp
  clear hK1 hB1 hb1 hJ hE
  have hne : decide ((4 : Int) = (K : Int)) = false := decide_eq_false (by omega)
  refine callsIn_of_wp Try.func85 rfl trivial ?_ rfl
  simp only [extLoc, Try.ntmps85, List.size_toArray, List.length_cons, List.length_nil, Nat.reduceAdd, Nat.reduceSub, Array.replicate_succ, Array.replicate_zero, List.push_toArray, List.append_toArray, List.nil_append, List.cons_append]
  gi_wp2
  refine wpIn_loop_ghost_k (fun k a V => ∃ (i : Nat) (u7 u8 u9 u10 u11 u12 u13 u14 u15 u16 u19 u20 u21 u22 u23 u24 u25 u26 u27 u28 u29 u30 u31 u32 u33 u34 u35 : Value), a = { tmps := #[.agg #[.int .i64 4, .int .i64 r0, .int .i64 r1, .int .i64 r2, .int .i64 r3, .int .i64 0, .int .i64 0, .int .i64 0, .int .i64 0, .int .i64 0, .int .i64 0, .int .i64 0, .int .i64 0], .pointer (some ⟨b1, 0, none⟩), .pointer (some ⟨by', 0, none⟩), .pointer (some ⟨b2, 0, none⟩), .pointer (some ⟨be, 0, none⟩), .pointer (some ⟨W.heap.size, 0, none⟩), .bool false, u7, u8, u9, u10, u11, u12, u13, u14, u15, u16, .int .i64 (m : Int), .int .i64 (i : Int), u19, u20, u21, u22, u23, u24, u25, u26, u27, u28, u29, u30, u31, u32, u33, u34, u35], defers := [] } ∧ k + i = m ∧ J (pre ++ (List.range i).flatMap fE) V ∧ KpC n₀ b1 W V ∧ Whole V W.heap.size 89 #[.int .i64 4, .int .i64 r0, .int .i64 r1, .int .i64 r2, .int .i64 r3, .int .i64 0, .int .i64 0, .int .i64 0, .int .i64 0, .int .i64 0, .int .i64 0, .int .i64 0, .int .i64 0]) m ?_ ?_
  · exact ⟨0, _, _, _, _, _, _, _, _, _, _, _, _, _, _, _, _, _, _, _, _, _, _, _, _, _, _, _, rfl, rfl, by simpa using HJ1.out, HK1.out, HB1.out⟩
  · rintro k a wr ⟨i, u7, u8, u9, u10, u11, u12, u13, u14, u15, u16, u19, u20, u21, u22, u23, u24, u25, u26, u27, u28, u29, u30, u31, u32, u33, u34, u35, rfl, hki, hJj, hKK, hBB⟩ Jn Kn hJn hKn
    have HJn := Lib.hid hJn
    have HKn := Lib.hid hKn
    have HJj := Lib.hid hJj
    have HKK := Lib.hid hKK
    have HBB := Lib.hid hBB
    have hEV := HE.out.to hKK
    have HEV := Lib.hid hEV
    clear hJn hKn hJj x1 y1 z1 x2 z2 hz
    cases hlt : decide ((i : Int) < (m : Int))
    · have him : i = m := by have := of_decide_eq_false hlt; omega
      subst him
      clear hKK hBB hEV
      gi_wp2
      go_ret
      exact ⟨rfl, HJj.out, HKK.out⟩
    · have him := of_decide_eq_true hlt
      obtain ⟨e1, e2, e3⟩ := hEV.e.one
      have z := hBB.lt
      have q0 := hBB.cell 0
      have q1 := hBB.cell 1
      have q2 := hBB.cell 2
      have q3 := hBB.cell 3
      have q4 := hBB.cell 4
      have q5 := hBB.cell 5
      have q6 := hBB.cell 6
      have q7 := hBB.cell 7
      have q8 := hBB.cell 8
      have q9 := hBB.cell 9
      have q10 := hBB.cell 10
      have q11 := hBB.cell 11
      have q12 := hBB.cell 12
      simp only [List.getElem?_toArray, List.getElem?_cons_zero, List.getElem?_cons_succ] at q0 q1 q2 q3 q4 q5 q6 q7 q8 q9 q10 q11 q12
      clear hKK hBB hEV
      gi_wp2
      have hb2 := below_alloc (Below.refl wr.heap.size wr) (.cells #[.int .i64 5, .int .i64 r0, .int .i64 r1, .int .i64 r2, .int .i64 r3, .int .i64 (i : Int), .int .i64 0, .int .i64 0, .int .i64 0, .int .i64 0, .int .i64 0, .int .i64 0, .int .i64 0] 89)
      have hK2 : KpC n₀ b1 wr (wr.alloc (.cells #[.int .i64 5, .int .i64 r0, .int .i64 r1, .int .i64 r2, .int .i64 r3, .int .i64 (i : Int), .int .i64 0, .int .i64 0, .int .i64 0, .int .i64 0, .int .i64 0, .int .i64 0, .int .i64 0] 89)) := KpC_below hb2 HEV.out.s
      have hpT : (pre ++ (List.range i).flatMap fE) ++ extC m j ([r0, r1, r2, r3] ++ [(i : Int)]) <+: T := by
        rw [HFE.out i, List.append_assoc, ← range_flat]
        exact (List.prefix_append_right_inj pre |>.2 (range_pre fE (by omega))).trans HT.out
      have hcall := HIH.out i _ _ (d - 1) hpT (HJA.out _ _ _ HJj.out (grown_of_below hb2 none)) (HEV.out.to hK2)
      rw [HFE.out i, List.append_assoc, ← range_flat] at hcall
      have HK2 := Lib.hid hK2
      clear hb2 hK2 hpT q0 q1 q2 q3 q4 q5 q6 q7 q8 q9 q10 q11 q12
      refine ⟨trivial, fun h => absurd h (by decide), hcall.mono ?_⟩
      rintro e w3 ⟨rfl, hJ3, hk3⟩
      have HJ3 := Lib.hid hJ3
      have HK3 := Lib.hid hk3
      clear hJ3 hk3 hcall
      gi_wp2
      have hk4 := KpC_t HK2.out HK3.out
      exact HKn.out _ _ ⟨k - 1, by omega, HJn.out _ _ _ ⟨i + 1, _, _, _, _, _, _, _, _, _, _, _, _, _, _, _, _, _, _, _, _, _, _, _, _, _, _, _, rfl, by omega, HJ3.out, KpC_t HKK.out hk4, hk4.at HBB.out (.inr (.inr (.inl rfl)))⟩⟩
end Go.Proofs.Ytkjojcepombhpaa.L
