/- The iterator (rule).courses hands over all courses of a length. -/
import Derived.Test.YtkjojcepombhpaaXCrsB
import Derived.Test.YtkjojcepombhpaaXCrsC
namespace Go.Proofs.Ytkjojcepombhpaa.L
set_option linter.unusedVariables false
set_option linter.unusedSimpArgs false
open Go.RowKit Go.Shelf Go.Proofs.YtkjojcepombhpaaW.PrintWords Go.Proofs.YtkjojcepombhpaaW.PrintLast Go.Proofs.YtkjojcepombhpaaW.PrintMore
attribute [local go_sem] Oper.semAt_some

theorem ext_any (lp n₀ b1 by' b2 be K m : Nat) (v1 v2 : Value) (J : List (List Int) → World → Prop) (T : List (List Int))
    (hJA : ∀ s W W', J s W → W.grownBy W' none → J s W') (hm6 : m ≤ 6) (hK : K ≤ 5)
    (hY : ∀ pre x W1, pre ++ [x] <+: T → J pre W1 → YieldAt Fence.wide 0 Try.prog lp #[.agg (crs x)] W1 fun e W' => e = .returned (.bool true) ∧ J (pre ++ [x]) W' ∧ KpC n₀ b1 W1 W') :
    ∀ (j : Nat) (l : List Int), l.length + j = K → ∀ (pre : List (List Int)) (W : World) (d : Nat), pre ++ extC m j l <+: T → J pre W → ExtB lp n₀ b1 by' b2 be K m v1 v2 W →
    CallsIn Fence.wide d Try.prog 85 (#[.agg (crs l)] ++ extLoc b1 by' b2 be) W fun e W' => e = .returned (.bool true) ∧ J (pre ++ extC m j l) W' ∧ KpC n₀ b1 W W' := by
  intro j
  induction j with
  | zero =>
    intro l hl pre W d hT hJ hE
    exact ext_base lp n₀ b1 by' b2 be K m v1 v2 J T hJA hY l pre W d hl hK hT hJ hE
  | succ j ih =>
    intro l hl pre W d hT hJ hE
    have IH : ∀ (k : Nat) (pre : List (List Int)) (W : World) (d : Nat), pre ++ extC m j (l ++ [(k : Int)]) <+: T → J pre W → ExtB lp n₀ b1 by' b2 be K m v1 v2 W → CallsIn Fence.wide d Try.prog 85 (#[.agg (crs (l ++ [(k : Int)]))] ++ extLoc b1 by' b2 be) W fun e W' => e = .returned (.bool true) ∧ J (pre ++ extC m j (l ++ [(k : Int)])) W' ∧ KpC n₀ b1 W W' :=
      fun k pre W d => ih (l ++ [(k : Int)]) (by simp; omega) pre W d
    clear ih hY
    match l, hl, hT, IH with
    | [], hl, hT, IH => exact ext_step0 lp n₀ b1 by' b2 be K m v1 v2 J T hJA hm6 j (by simp at hl; omega) hK IH pre W d hT hJ hE
    | [r0], hl, hT, IH => exact ext_step1 lp n₀ b1 by' b2 be K m v1 v2 J T hJA hm6 j r0 (by simp at hl; omega) hK IH pre W d hT hJ hE
    | [r0, r1], hl, hT, IH => exact ext_step2 lp n₀ b1 by' b2 be K m v1 v2 J T hJA hm6 j r0 r1 (by simp at hl; omega) hK IH pre W d hT hJ hE
    | [r0, r1, r2], hl, hT, IH => exact ext_step3 lp n₀ b1 by' b2 be K m v1 v2 J T hJA hm6 j r0 r1 r2 (by simp at hl; omega) hK IH pre W d hT hJ hE
    | [r0, r1, r2, r3], hl, hT, IH => exact ext_step4 lp n₀ b1 by' b2 be K m v1 v2 J T hJA hm6 j r0 r1 r2 r3 (by simp at hl; omega) hK IH pre W d hT hJ hE
    | _ :: _ :: _ :: _ :: _ :: _, hl, hT, IH => simp at hl; omega

theorem courses_any (m : Int) (tv pv : Value) (K : Int) (w : World) (ht : tv.oneCell' = true) (hp : pv.oneCell' = true) :
    Calls Try.prog 64 #[rv m tv pv, .int .i64 K] w fun e w' => e = .returned (.func (.func 84) #[] #[.pointer (some ⟨w.heap.size + 1, 0, none⟩), .pointer (some ⟨w.heap.size, 0, none⟩)]) ∧ (w.alloc (rbox m tv pv)).alloc (.cells #[.int .i64 K] 3) = w' := by
  go_enter Try.func64, Try.ntmps64
  go_wp2
  go_ret
  exact ⟨rfl, rfl⟩

set_option maxRecDepth 100000 in
set_option maxHeartbeats 4000000 in
theorem courses_gives (n₀ b1 b2 K m : Nat) (v1 v2 : Value) (w : World) (hm6 : m ≤ 6) (hK : K ≤ 5) (hn : n₀ ≤ w.heap.size)
    (hb1 : Whole w b1 3 #[.int .i64 (K : Int)]) (hb2 : Whole w b2 75 #[.int .i64 (m : Int), v1, v2]) :
    GivesT Try.prog 84 #[.pointer (some ⟨b1, 0, none⟩), .pointer (some ⟨b2, 0, none⟩)] (fun l : List Int => #[.agg (crs l)]) (extC m K []) (KpC n₀ b1) w := by
  intro lp J W hW hJa hY hJ d
  have HJA := Lib.hid (show ∀ s W W', J s W → W.grownBy W' none → J s W' from fun s A B h hg => hJa s A B none h hg (fun r e => by cases e))
  have HY := Lib.hid hY
  have HJ := Lib.hid hJ
  have HC1 := Lib.hid (hb1.below hW hb1.lt)
  have HC2 := Lib.hid (hb2.below hW hb2.lt)
  have HN := Lib.hid (Nat.le_trans hn hW.size)
  clear hY hJ hJa hb1 hb2 hW
  refine callsIn_of_wp Try.func84 rfl trivial ?_ rfl
  simp only [Try.ntmps84, List.size_toArray, List.length_cons, List.length_nil, Nat.reduceAdd, Nat.reduceSub, Array.replicate_succ, Array.replicate_zero, List.push_toArray, List.append_toArray, List.nil_append, List.cons_append]
  gi_wp2
  have hb := below_alloc (below_alloc (Below.refl W.heap.size W) (.cells #[.func (.yield lp) #[] #[]] 108)) (.cells #[.func (.func 85) #[] (extLoc b1 W.heap.size b2 (W.heap.size + 1))] 108)
  have hk : KpC n₀ b1 W _ := KpC_below hb HN.out
  have y1 := (Whole.new W 108 #[.func (.yield lp) #[] #[]]).alloc (.cells #[.func (.func 85) #[] (extLoc b1 W.heap.size b2 (W.heap.size + 1))] 108)
  have y2 := Whole.new (W.alloc (.cells #[.func (.yield lp) #[] #[]] 108)) 108 #[.func (.func 85) #[] (extLoc b1 W.heap.size b2 (W.heap.size + 1))]
  rw [World.size_alloc] at y2
  have hE : ExtB lp n₀ b1 W.heap.size b2 (W.heap.size + 1) K m v1 v2 _ := ⟨hk.at HC1.out (.inl rfl), y1, hk.at HC2.out (.inr (.inl rfl)), y2, Nat.le_trans HN.out hb.size⟩
  have hcall := ext_any lp n₀ b1 W.heap.size b2 (W.heap.size + 1) K m v1 v2 J (extC m K []) HJA.out hm6 hK HY.out K [] (by simp) [] _ (d - 1) (List.prefix_rfl) (HJA.out _ _ _ HJ.out (grown_of_below hb none)) hE
  clear hb hk y1 y2 hE
  refine ⟨trivial, fun h => absurd h (by decide), CallsIn.mono hcall ?_⟩
  rintro e w3 ⟨rfl, hJ3, hk3⟩
  have HJ3 := Lib.hid hJ3
  clear hJ3 hk3 hcall
  gi_wp2
  go_end0
  exact ⟨⟨_, rfl⟩, HJ3.out⟩
end Go.Proofs.Ytkjojcepombhpaa.L
