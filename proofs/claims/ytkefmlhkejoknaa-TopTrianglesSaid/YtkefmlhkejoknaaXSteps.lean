/- The iterator tread.(machine).steps at the machine of the set aa, ab, bb: what it hands over. -/
import Derived.Test.YtkefmlhkejoknaaXRows
import Derived.BigRegionIn
namespace Go.Proofs.Ytkefmlhkejoknaa.L
set_option linter.unusedVariables false
set_option linter.unusedSimpArgs false
open Go.RowKit Go.Shelf Go.Proofs.YtkefmlhkejoknaaW.PrintWords Go.Proofs.YtkefmlhkejoknaaW.PrintLast Go.Proofs.YtkefmlhkejoknaaW.PrintMore
attribute [local go_sem] Oper.semAt_some

/-- Where each letter leads from each state. -/
def jT : List (List Int) := [[1, 2], [-1, -1], [3, -1], [-1, -1]]
def jN (i k : Nat) : Int := (jT.getD i []).getD k 0
def letK (k : Nat) : ByteArray := if k = 0 then ⟨#[97]⟩ else ⟨#[98]⟩
abbrev AStep := ByteArray × Int
def stepAt (i k : Nat) : List AStep := if 0 ≤ jN i k then [(letK k, jN i k)] else []
def stepsTo (i : Nat) : Nat → List AStep
  | 0 => []
  | k + 1 => stepsTo i k ++ stepAt i k
def stepsL (i : Nat) : List AStep := stepsTo i 2
/-- Where the machine lies. -/
structure MacD where
  mB : Nat
  sB : Nat
  sc : Nat
  nB : Nat
  nc : Nat
  g : Nat → Nat
  c : Nat → Nat
/-- The machine lies in memory, below B. -/
structure MacR (B : Nat) (D : MacD) (W : World) : Prop where
  m : Whole W D.mB 192 #[.int .i64 2, .slice (some ⟨D.sB, 0, none⟩) 4 D.sc, .slice (some ⟨D.nB, 0, none⟩) 4 D.nc]
  nx : ∀ i, i < 4 → W.cell? ⟨D.nB, i, none⟩ = some (.slice (some ⟨D.g i, 0, none⟩) 2 (D.c i))
  r : ∀ i k, i < 4 → k < 2 → W.cell? ⟨D.g i, k, none⟩ = some (.int .i64 (jN i k))
  lt : D.mB < B ∧ D.nB < B ∧ ∀ i, i < 4 → D.g i < B
theorem MacR.kept {B : Nat} {D : MacD} {W W' : World} (h : MacR B D W) (hb : Below B W W') : MacR B D W' :=
  ⟨h.m.below hb h.lt.1, fun i hi => (hb.cell (p := ⟨D.nB, i, none⟩) h.lt.2.1).trans (h.nx i hi), fun i k hi hk => (hb.cell (p := ⟨D.g i, k, none⟩) (h.lt.2.2 i hi)).trans (h.r i k hi hk), h.lt⟩
set_option maxHeartbeats 1000000 in
theorem steps_any (mB : Nat) (i : Int) (w : World) :
    Calls Try.prog 138 #[.pointer (some ⟨mB, 0, none⟩), .int .i64 i] w fun e w' => e = .returned (.func (.func 158) #[] #[.pointer (some ⟨w.heap.size, 0, none⟩), .pointer (some ⟨w.heap.size + 1, 0, none⟩)]) ∧ (w.alloc (.cells #[.pointer (some ⟨mB, 0, none⟩)] 174)).alloc (.cells #[.int .i64 i] 3) = w' := by
  go_enter Try.func138, Try.ntmps138
  go_wp2
  go_ret
  exact ⟨rfl, rfl⟩
theorem steps_prefix (i k : Nat) (hk : k ≤ 2) : stepsTo i k <+: stepsL i := by
  obtain rfl | rfl | rfl : k = 0 ∨ k = 1 ∨ k = 2 := by omega
  · exact List.nil_prefix
  · exact List.prefix_append _ _
  · exact List.prefix_refl _

set_option maxRecDepth 100000 in
set_option maxHeartbeats 4000000 in
theorem steps1_gives (d : Nat) (B : Nat) (D : MacD) (i : Nat) (hi : i < 4) (mxb ib : Nat) (w : World) (hm : Whole w mxb 174 #[.pointer (some ⟨D.mB, 0, none⟩)]) (hib : Whole w ib 3 #[.int .i64 (i : Int)]) (hM : MacR B D w) (hB : B ≤ w.heap.size) :
    GivesC Fence.wide d Try.prog 158 #[.pointer (some ⟨mxb, 0, none⟩), .pointer (some ⟨ib, 0, none⟩)] (fun x : AStep => #[.string x.1, .int .i64 x.2]) (fun _ _ => True) (fun W W' => Below B W W') (fun ys => ys = stepsL i) (fun pre => pre <+: stepsL i) w := by
  intro lp J Jx W hW hJa hJxa hY hJ
  have HA := Lib.hid hJa
  have HY := Lib.hid hY
  have HJ := Lib.hid hJ
  have c1 := hm.below hW hm.lt
  have c2 := hib.below hW hib.lt
  have hMW := hM.kept (hW.mono hB)
  have a0 := c1.cell 0
  have b0 := c2.cell 0
  have m2 := hMW.m.cell 2
  simp only [List.getElem?_toArray, List.getElem?_cons_zero, List.getElem?_cons_succ] at a0 b0 m2
  have n1 := hMW.nx i hi
  have HMW := Lib.hid hMW
  have hmlt := hMW.m.lt
  clear hJa hJxa hY hJ hm hib hM c1 c2 hMW
  obtain rfl | rfl | rfl | rfl : i = 0 ∨ i = 1 ∨ i = 2 ∨ i = 3 := by omega
  · -- 0
    refine callsIn_of_wp Try.func158 rfl trivial ?_ rfl
    simp only [Try.ntmps158, List.size_toArray, List.length_cons, List.length_nil, Nat.reduceAdd, Nat.reduceSub, Array.replicate_succ, Array.replicate_zero, List.push_toArray, List.append_toArray, List.nil_append, List.cons_append]
    have b0 : W.cell? ⟨ib, 0, none⟩ = some (.int .i64 0) := b0
    gi_wp2
    gi_region
    gi_wp2
    gi_loopw [14] (fun kv wr => ∃ k : Nat, k ≤ 2 ∧ kv = .int .i64 (k : Int) ∧ J (stepsTo 0 k) wr ∧ Hid (Below B W wr)) (fun kv _ => 2 - (intOf kv).toNat)
    case atStart => exact ⟨0, by omega, rfl, HA.out _ _ _ none HJ.out (grown_of_below ((Below.refl W.heap.size W).drew) none) (fun r e => by cases e), Lib.hid ((Below.refl _ _).drew)⟩
    case round =>
      obtain ⟨k, hk, rfl, hJk, HB⟩ := hrel
      have HMR := Lib.hid (HMW.out.kept HB.out)
      have HJK := Lib.hid hJk
      clear hJk
      obtain rfl | rfl | rfl : k = 0 ∨ k = 1 ∨ k = 2 := by omega
      · -- 0 0
        have r1 : wr.cell? ⟨D.g 0, 0, none⟩ = some (.int .i64 (1)) := HMR.out.r 0 0 (by decide) (by decide)
        have hex : (⟨#[97, 98, 99]⟩ : ByteArray).extract 0 1 = (⟨#[97]⟩ : ByteArray) := by kernel_rfl
        have hYk := HY.out (stepsTo 0 0) (⟨#[97]⟩, 1) wr (steps_prefix 0 1 (by decide)) HJK.out trivial
        obtain ⟨fn, tmps, assign, body, hy, hR⟩ := hYk
        have HR := Lib.hid hR
        clear hR
        gi_wp2
        refine ⟨fun h => absurd h (by decide), HR.out.mono ?_⟩
        rintro e w3 (⟨rfl, hJ3, hb3⟩ | ⟨rfl, hJx3⟩)
        · have HJ3 := Lib.hid hJ3
          have HB3 := Lib.hid (HB.out.trans hb3)
          clear hJ3 hb3
          gi_wp2
          exact ⟨⟨1, by omega, rfl, HJ3.out, HB3⟩, by simp [intOf]⟩
        · have HJ3 := Lib.hid hJx3
          clear hJx3
          gi_wp2
          refine bodyPost_ret (results_none rfl _ _ _) rfl ?_
          exact ⟨⟨_, rfl⟩, .inr ⟨_, steps_prefix 0 1 (by decide), HJ3.out⟩⟩
      · -- 0 1
        have r1 : wr.cell? ⟨D.g 0, 1, none⟩ = some (.int .i64 (2)) := HMR.out.r 0 1 (by decide) (by decide)
        have hex : (⟨#[97, 98, 99]⟩ : ByteArray).extract 1 2 = (⟨#[98]⟩ : ByteArray) := by kernel_rfl
        have hYk := HY.out (stepsTo 0 1) (⟨#[98]⟩, 2) wr (steps_prefix 0 2 (by decide)) HJK.out trivial
        obtain ⟨fn, tmps, assign, body, hy, hR⟩ := hYk
        have HR := Lib.hid hR
        clear hR
        gi_wp2
        refine ⟨fun h => absurd h (by decide), HR.out.mono ?_⟩
        rintro e w3 (⟨rfl, hJ3, hb3⟩ | ⟨rfl, hJx3⟩)
        · have HJ3 := Lib.hid hJ3
          have HB3 := Lib.hid (HB.out.trans hb3)
          clear hJ3 hb3
          gi_wp2
          exact ⟨⟨2, by omega, rfl, HJ3.out, HB3⟩, by simp [intOf]⟩
        · have HJ3 := Lib.hid hJx3
          clear hJx3
          gi_wp2
          refine bodyPost_ret (results_none rfl _ _ _) rfl ?_
          exact ⟨⟨_, rfl⟩, .inr ⟨_, steps_prefix 0 2 (by decide), HJ3.out⟩⟩
      · -- 0 2
        gi_wp2
        go_end0
        exact ⟨⟨_, rfl⟩, .inl ⟨_, rfl, HJK.out⟩⟩
  · -- 1
    refine callsIn_of_wp Try.func158 rfl trivial ?_ rfl
    simp only [Try.ntmps158, List.size_toArray, List.length_cons, List.length_nil, Nat.reduceAdd, Nat.reduceSub, Array.replicate_succ, Array.replicate_zero, List.push_toArray, List.append_toArray, List.nil_append, List.cons_append]
    have b0 : W.cell? ⟨ib, 0, none⟩ = some (.int .i64 1) := b0
    gi_wp2
    gi_region
    gi_wp2
    gi_loopw [14] (fun kv wr => ∃ k : Nat, k ≤ 2 ∧ kv = .int .i64 (k : Int) ∧ J (stepsTo 1 k) wr ∧ Hid (Below B W wr)) (fun kv _ => 2 - (intOf kv).toNat)
    case atStart => exact ⟨0, by omega, rfl, HA.out _ _ _ none HJ.out (grown_of_below ((Below.refl W.heap.size W).drew) none) (fun r e => by cases e), Lib.hid ((Below.refl _ _).drew)⟩
    case round =>
      obtain ⟨k, hk, rfl, hJk, HB⟩ := hrel
      have HMR := Lib.hid (HMW.out.kept HB.out)
      have HJK := Lib.hid hJk
      clear hJk
      obtain rfl | rfl | rfl : k = 0 ∨ k = 1 ∨ k = 2 := by omega
      · -- 1 0
        have r1 : wr.cell? ⟨D.g 1, 0, none⟩ = some (.int .i64 (-1)) := HMR.out.r 1 0 (by decide) (by decide)
        gi_wp2
        refine ⟨fun f h => (by cases h), ?_⟩
        gi_wp2
        exact ⟨⟨1, by omega, rfl, HJK.out, HB⟩, by simp [intOf]⟩
      · -- 1 1
        have r1 : wr.cell? ⟨D.g 1, 1, none⟩ = some (.int .i64 (-1)) := HMR.out.r 1 1 (by decide) (by decide)
        gi_wp2
        refine ⟨fun f h => (by cases h), ?_⟩
        gi_wp2
        exact ⟨⟨2, by omega, rfl, HJK.out, HB⟩, by simp [intOf]⟩
      · -- 1 2
        gi_wp2
        go_end0
        exact ⟨⟨_, rfl⟩, .inl ⟨_, rfl, HJK.out⟩⟩
  · -- 2
    refine callsIn_of_wp Try.func158 rfl trivial ?_ rfl
    simp only [Try.ntmps158, List.size_toArray, List.length_cons, List.length_nil, Nat.reduceAdd, Nat.reduceSub, Array.replicate_succ, Array.replicate_zero, List.push_toArray, List.append_toArray, List.nil_append, List.cons_append]
    have b0 : W.cell? ⟨ib, 0, none⟩ = some (.int .i64 2) := b0
    gi_wp2
    gi_region
    gi_wp2
    gi_loopw [14] (fun kv wr => ∃ k : Nat, k ≤ 2 ∧ kv = .int .i64 (k : Int) ∧ J (stepsTo 2 k) wr ∧ Hid (Below B W wr)) (fun kv _ => 2 - (intOf kv).toNat)
    case atStart => exact ⟨0, by omega, rfl, HA.out _ _ _ none HJ.out (grown_of_below ((Below.refl W.heap.size W).drew) none) (fun r e => by cases e), Lib.hid ((Below.refl _ _).drew)⟩
    case round =>
      obtain ⟨k, hk, rfl, hJk, HB⟩ := hrel
      have HMR := Lib.hid (HMW.out.kept HB.out)
      have HJK := Lib.hid hJk
      clear hJk
      obtain rfl | rfl | rfl : k = 0 ∨ k = 1 ∨ k = 2 := by omega
      · -- 2 0
        have r1 : wr.cell? ⟨D.g 2, 0, none⟩ = some (.int .i64 (3)) := HMR.out.r 2 0 (by decide) (by decide)
        have hex : (⟨#[97, 98, 99]⟩ : ByteArray).extract 0 1 = (⟨#[97]⟩ : ByteArray) := by kernel_rfl
        have hYk := HY.out (stepsTo 2 0) (⟨#[97]⟩, 3) wr (steps_prefix 2 1 (by decide)) HJK.out trivial
        obtain ⟨fn, tmps, assign, body, hy, hR⟩ := hYk
        have HR := Lib.hid hR
        clear hR
        gi_wp2
        refine ⟨fun h => absurd h (by decide), HR.out.mono ?_⟩
        rintro e w3 (⟨rfl, hJ3, hb3⟩ | ⟨rfl, hJx3⟩)
        · have HJ3 := Lib.hid hJ3
          have HB3 := Lib.hid (HB.out.trans hb3)
          clear hJ3 hb3
          gi_wp2
          exact ⟨⟨1, by omega, rfl, HJ3.out, HB3⟩, by simp [intOf]⟩
        · have HJ3 := Lib.hid hJx3
          clear hJx3
          gi_wp2
          refine bodyPost_ret (results_none rfl _ _ _) rfl ?_
          exact ⟨⟨_, rfl⟩, .inr ⟨_, steps_prefix 2 1 (by decide), HJ3.out⟩⟩
      · -- 2 1
        have r1 : wr.cell? ⟨D.g 2, 1, none⟩ = some (.int .i64 (-1)) := HMR.out.r 2 1 (by decide) (by decide)
        gi_wp2
        refine ⟨fun f h => (by cases h), ?_⟩
        gi_wp2
        exact ⟨⟨2, by omega, rfl, HJK.out, HB⟩, by simp [intOf]⟩
      · -- 2 2
        gi_wp2
        go_end0
        exact ⟨⟨_, rfl⟩, .inl ⟨_, rfl, HJK.out⟩⟩
  · -- 3
    refine callsIn_of_wp Try.func158 rfl trivial ?_ rfl
    simp only [Try.ntmps158, List.size_toArray, List.length_cons, List.length_nil, Nat.reduceAdd, Nat.reduceSub, Array.replicate_succ, Array.replicate_zero, List.push_toArray, List.append_toArray, List.nil_append, List.cons_append]
    have b0 : W.cell? ⟨ib, 0, none⟩ = some (.int .i64 3) := b0
    gi_wp2
    gi_region
    gi_wp2
    gi_loopw [14] (fun kv wr => ∃ k : Nat, k ≤ 2 ∧ kv = .int .i64 (k : Int) ∧ J (stepsTo 3 k) wr ∧ Hid (Below B W wr)) (fun kv _ => 2 - (intOf kv).toNat)
    case atStart => exact ⟨0, by omega, rfl, HA.out _ _ _ none HJ.out (grown_of_below ((Below.refl W.heap.size W).drew) none) (fun r e => by cases e), Lib.hid ((Below.refl _ _).drew)⟩
    case round =>
      obtain ⟨k, hk, rfl, hJk, HB⟩ := hrel
      have HMR := Lib.hid (HMW.out.kept HB.out)
      have HJK := Lib.hid hJk
      clear hJk
      obtain rfl | rfl | rfl : k = 0 ∨ k = 1 ∨ k = 2 := by omega
      · -- 3 0
        have r1 : wr.cell? ⟨D.g 3, 0, none⟩ = some (.int .i64 (-1)) := HMR.out.r 3 0 (by decide) (by decide)
        gi_wp2
        refine ⟨fun f h => (by cases h), ?_⟩
        gi_wp2
        exact ⟨⟨1, by omega, rfl, HJK.out, HB⟩, by simp [intOf]⟩
      · -- 3 1
        have r1 : wr.cell? ⟨D.g 3, 1, none⟩ = some (.int .i64 (-1)) := HMR.out.r 3 1 (by decide) (by decide)
        gi_wp2
        refine ⟨fun f h => (by cases h), ?_⟩
        gi_wp2
        exact ⟨⟨2, by omega, rfl, HJK.out, HB⟩, by simp [intOf]⟩
      · -- 3 2
        gi_wp2
        go_end0
        exact ⟨⟨_, rfl⟩, .inl ⟨_, rfl, HJK.out⟩⟩
end Go.Proofs.Ytkefmlhkejoknaa.L
