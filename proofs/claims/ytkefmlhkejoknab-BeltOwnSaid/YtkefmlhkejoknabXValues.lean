/- Values comes to what belt_Values.f says: slices.Sorted(maps.Keys(found)) by the kit's contracts. -/
import Derived.Test.YtkefmlhkejoknabXBest
import Derived.Shelf.SlIterI.Nil
import Derived.Shelf.SortM.Plain
import Derived.Shelf.SortM.SortNone
import Derived.Ground.GgzProg
import Derived.Ground.SlgmProg
import Derived.RangeFuncBox
import Derived.RangeFuncLeaves
import Derived.Maps.OwnIn
namespace Go.Proofs.Ytkefmlhkejoknab.L
set_option linter.unusedVariables false
set_option linter.unusedSimpArgs false
open Go.RowKit Go.Shelf Go.Maps Go.Sort Go.Proofs.YtkefmlhkejoknabW.PrintWords Go.Proofs.YtkefmlhkejoknabW.PrintLast Go.Proofs.YtkefmlhkejoknabW.PrintMore
attribute [local go_sem] Oper.semAt_some

/-- A number into an ascending row, if it is not there. -/
def insU (v : Int) : List Int → List Int
  | [] => [v]
  | x :: xs => if v < x then v :: x :: xs else if v = x then x :: xs else x :: insU v xs
def valsOf (n : Int) (l : List S46) (pre : List ASide) : List Int := pre.foldl (fun out x => insU (valB n x.1 l) out) []
theorem valsOf_snoc (n : Int) (l : List S46) (pre : List ASide) (x : ASide) : valsOf n l (pre ++ [x]) = insU (valB n x.1 l) (valsOf n l pre) := by simp [valsOf]
def belt_Values.f (n : Int) (l : List S46) : Option (List Int × Int) :=
  some (if graphOk n l then (valsOf n l (sidesUpTo (properB n) (2 ^ n.toNat)), 0) else ([], 2))

theorem insU_mem (v : Int) (xs : List Int) : ∀ y, y ∈ insU v xs ↔ y = v ∨ y ∈ xs := by
  induction xs with
  | nil => intro y; simp [insU]
  | cons x xs ih =>
    intro y
    unfold insU
    split
    · simp
    · split
      · rename_i h; subst h; simp
      · rw [List.mem_cons, ih, List.mem_cons]
        constructor
        · rintro (h | h | h)
          · exact .inr (.inl h)
          · exact .inl h
          · exact .inr (.inr h)
        · rintro (h | h | h)
          · exact .inr (.inl h)
          · exact .inl h
          · exact .inr (.inr h)
theorem insU_rising (v : Int) (xs : List Int) (h : xs.Pairwise (· < ·)) : (insU v xs).Pairwise (· < ·) := by
  induction xs with
  | nil => simp [insU]
  | cons x xs ih =>
    rw [List.pairwise_cons] at h
    unfold insU
    split
    · rename_i hv
      rw [List.pairwise_cons]
      refine ⟨fun y hy => ?_, List.pairwise_cons.2 h⟩
      rcases List.mem_cons.1 hy with rfl | hy
      · exact hv
      · exact Int.lt_trans hv (h.1 y hy)
    · split
      · exact List.pairwise_cons.2 h
      · rename_i h1 h2
        rw [List.pairwise_cons]
        refine ⟨fun y hy => ?_, ih h.2⟩
        rcases (insU_mem v xs y).1 hy with rfl | hy
        · omega
        · exact h.1 y hy
theorem valsOf_rising (n : Int) (l : List S46) (pre : List ASide) : (valsOf n l pre).Pairwise (· < ·) := by
  have key : ∀ (pre : List ASide) (xs : List Int), xs.Pairwise (· < ·) → (pre.foldl (fun out x => insU (valB n x.1 l) out) xs).Pairwise (· < ·) := by
    intro pre
    induction pre with
    | nil => intro xs h; exact h
    | cons x pre ih => intro xs h; exact ih _ (insU_rising _ _ h)
  exact key pre [] List.Pairwise.nil
theorem insU_length (v : Int) (xs : List Int) : (insU v xs).length ≤ xs.length + 1 := by
  induction xs with
  | nil => simp [insU]
  | cons x xs ih => unfold insU; split <;> (try split) <;> simp <;> omega
theorem valsOf_length (n : Int) (l : List S46) (pre : List ASide) : (valsOf n l pre).length ≤ pre.length := by
  have key : ∀ (pre : List ASide) (xs : List Int), (pre.foldl (fun out x => insU (valB n x.1 l) out) xs).length ≤ xs.length + pre.length := by
    intro pre
    induction pre with
    | nil => intro xs; simp
    | cons x pre ih => intro xs; have := ih (insU (valB n x.1 l) xs); have := insU_length (valB n x.1 l) xs; simp only [List.foldl_cons, List.length_cons]; omega
  have := key pre []
  simpa [valsOf] using this

/-- The map whose keys are a row's numbers, as a datum. -/
def setE (v : Int) : Lit × DataW Unit := (.int .i64 v, .lit (.bool true))
def setD (xs : List Int) : DataW Unit := .map (xs.map setE)
theorem set_insert (v : Int) (xs : List Int) (h : xs.Pairwise (· < ·)) : DataW.insert (setE v) ((xs.map setE).filter fun p => !p.1.sameKey (.int .i64 v)) = (insU v xs).map setE := by
  induction xs with
  | nil => rfl
  | cons x xs ih =>
    rw [List.pairwise_cons] at h
    have hid : (∀ y ∈ xs, v < y) → (xs.map setE).filter (fun p => !p.1.sameKey (.int .i64 v)) = xs.map setE := by
      intro hy
      rw [List.filter_eq_self]
      intro p hp
      rw [List.mem_map] at hp
      obtain ⟨y, hy1, rfl⟩ := hp
      have := hy y hy1
      simp [setE, Lit.sameKey]; omega
    have hbef : ∀ a b : Int, (setE a).1.before (setE b).1 = decide (a < b) := fun a b => by simp [setE, Lit.before]
    have hin : ∀ a : Int, ∀ ys : List Int, (∀ y ∈ ys, a < y) → DataW.insert (setE a) (ys.map setE) = setE a :: ys.map setE := by
      intro a ys hy
      cases ys with
      | nil => rfl
      | cons y ys =>
        show (if (setE a).1.before (setE y).1 then _ else _) = _
        rw [hbef, if_pos (by have := hy y List.mem_cons_self; simpa using this)]
        rfl
    unfold insU
    by_cases h1 : v < x
    · rw [if_pos h1]
      have hall : ∀ y ∈ x :: xs, v < y := by
        intro y hy
        rcases List.mem_cons.1 hy with rfl | hy
        · exact h1
        · exact Int.lt_trans h1 (h.1 y hy)
      rw [List.map_cons, List.filter_cons, if_pos (by simp [setE, Lit.sameKey]; omega), hid (fun y hy => hall y (List.mem_cons_of_mem _ hy)), ← List.map_cons, hin v (x :: xs) hall]
      rfl
    · rw [if_neg h1]
      by_cases h2 : v = x
      · subst h2
        rw [if_pos rfl, List.map_cons, List.filter_cons, if_neg (by simp [setE, Lit.sameKey]), hid h.1, hin v xs h.1]
      · rw [if_neg h2, List.map_cons, List.filter_cons, if_pos (by simp [setE, Lit.sameKey]; omega)]
        show (if (setE v).1.before (setE x).1 then _ else _) = _
        rw [hbef, if_neg (by simpa using h1), ih h.2]
        rfl
theorem setD_put (v : Int) (xs : List Int) (h : xs.Pairwise (· < ·)) : (setD xs).put (.int .i64 v) (.lit (.bool true)) = setD (insU v xs) := by
  unfold setD
  rw [← set_insert v xs h]
  rfl
theorem setD_keys (xs : List Int) : intKeys (setD xs) = xs := by
  induction xs with
  | nil => rfl
  | cons x xs ih =>
    show x :: intKeys (setD xs) = _
    rw [ih]
theorem setD_size (xs : List Int) : Maps.size (setD xs) = xs.length := by simp [Maps.size, setD]
theorem sort_rising (xs : List Int) (h : xs.Pairwise (· < ·)) : xs.mergeSort (fun x y => decide (x ≤ y)) = xs := by
  apply List.mergeSort_of_pairwise
  exact h.imp (fun hab => by simp; omega)

theorem under92 : Try.prog.underlying 92 = some (.map 3 4) := by kernel_rfl


def Vals.keysA_ren : Go.Shelf.Ren := ⟨fun | 7 => 48 | 10 => 74 | n => n, fun | 23 => 92 | 26 => 3 | 3 => 4 | 28 => 99 | 0 => 0 | 27 => 98 | 33 => 117 | 4 => 4 | n => n, fun | n => n⟩
theorem Vals.keysA : Go.Proofs.SlLaysZI.n7 Try.prog Vals.keysA_ren := {
  mixed := by kernel_rfl
  f7 := ⟨Try.f48.name, by decide, Try.func48.trans (congrArg some (by kernel_rfl))⟩
  f10 := ⟨Try.f74.name, by decide, Try.func74.trans (congrArg some (by kernel_rfl))⟩
  t0 := Try.underlying0
  a0 := Try.isAgg0
  z0 := Try.sizeOf0
  v0 := Try.zeroValue0
  t4 := Try.underlying4
  a4 := Try.isAgg4
  z4 := Try.sizeOf4
  v4 := Try.zeroValue4
  t23 := Try.underlying92
  a23 := Try.isAgg92
  z23 := Try.sizeOf92
  v23 := Try.zeroValue92
  t26 := Try.underlying3
  a26 := Try.isAgg3
  z26 := Try.sizeOf3
  v26 := Try.zeroValue3
  t27 := Try.underlying98
  a27 := Try.isAgg98
  z27 := Try.sizeOf98
  v27 := Try.zeroValue98
  t28 := Try.underlying99
  a28 := Try.isAgg99
  z28 := Try.sizeOf99
  v28 := Try.zeroValue99
  t33 := Try.underlying117
  a33 := Try.isAgg117
  z33 := Try.sizeOf117
  v33 := Try.zeroValue117 }
def Vals.sortedA_ren : Go.Shelf.Ren := ⟨fun | 6 => 47 | 8 => 72 | 9 => 73 | 11 => 89 | 13 => 59 | 12 => 90 | 23 => 86 | 24 => 87 | 14 => 97 | 15 => 98 | 16 => 99 | 17 => 100 | 18 => 101 | 19 => 102 | 20 => 103 | 21 => 104 | 22 => 105 | 25 => 107 | 26 => 93 | 27 => 94 | 28 => 108 | 29 => 109 | 30 => 88 | 31 => 110 | n => n, fun | 26 => 3 | 28 => 99 | 24 => 33 | 0 => 0 | 3 => 3 | 37 => 83 | 48 => 134 | 50 => 136 | 4 => 4 | 40 => 128 | 39 => 127 | 45 => 76 | 5 => 5 | 9 => 9 | 51 => 140 | 55 => 144 | 57 => 151 | 58 => 152 | 33 => 117 | n => n, fun | n => n⟩
theorem Vals.sortedA : Go.Proofs.SlLaysZI.n6 Try.prog Vals.sortedA_ren := {
  mixed := by kernel_rfl
  f6 := ⟨Try.f47.name, by decide, Try.func47.trans (congrArg some (by kernel_rfl))⟩
  f8 := ⟨Try.f72.name, by decide, Try.func72.trans (congrArg some (by kernel_rfl))⟩
  f11 := ⟨Try.f89.name, by decide, Try.func89.trans (congrArg some (by kernel_rfl))⟩
  t0 := Try.underlying0
  a0 := Try.isAgg0
  z0 := Try.sizeOf0
  v0 := Try.zeroValue0
  t24 := Try.underlying33
  a24 := Try.isAgg33
  z24 := Try.sizeOf33
  v24 := Try.zeroValue33
  t26 := Try.underlying3
  a26 := Try.isAgg3
  z26 := Try.sizeOf3
  v26 := Try.zeroValue3
  t28 := Try.underlying99
  a28 := Try.isAgg99
  z28 := Try.sizeOf99
  v28 := Try.zeroValue99
  i26 := by kernel_rfl }
def Vals.sortA_ren : Go.Shelf.Ren := ⟨fun | 5 => 73 | 8 => 59 | 7 => 90 | 19 => 86 | 20 => 87 | 10 => 97 | 11 => 98 | 12 => 99 | 13 => 100 | 14 => 101 | 15 => 102 | 16 => 103 | 17 => 104 | 18 => 105 | 30 => 107 | 31 => 93 | 32 => 94 | 33 => 108 | 34 => 109 | 35 => 88 | 40 => 110 | n => n, fun | 23 => 33 | 25 => 3 | 3 => 3 | 32 => 83 | 22 => 33 | 0 => 0 | 44 => 134 | 46 => 136 | 4 => 4 | 36 => 128 | 35 => 127 | 41 => 76 | 5 => 5 | 9 => 9 | 53 => 140 | 57 => 144 | 63 => 151 | 64 => 152 | n => n, fun | n => n⟩
theorem Vals.sortA : Go.Proofs.SlLaysM.n5 Try.prog Vals.sortA_ren := {
  mixed := by kernel_rfl
  f5 := ⟨Try.f73.name, by decide, Try.func73.trans (congrArg some (by kernel_rfl))⟩
  f7 := ⟨Try.f90.name, by decide, Try.func90.trans (congrArg some (by kernel_rfl))⟩
  f8 := Try.func59.trans (congrArg some (by kernel_rfl))
  f10 := ⟨Try.f97.name, by decide, Try.func97.trans (congrArg some (by kernel_rfl))⟩
  f11 := ⟨Try.f98.name, by decide, Try.func98.trans (congrArg some (by kernel_rfl))⟩
  f12 := ⟨Try.f99.name, by decide, Try.func99.trans (congrArg some (by kernel_rfl))⟩
  f13 := ⟨Try.f100.name, by decide, Try.func100.trans (congrArg some (by kernel_rfl))⟩
  f14 := ⟨Try.f101.name, by decide, Try.func101.trans (congrArg some (by kernel_rfl))⟩
  f15 := ⟨Try.f102.name, by decide, Try.func102.trans (congrArg some (by kernel_rfl))⟩
  f16 := ⟨Try.f103.name, by decide, Try.func103.trans (congrArg some (by kernel_rfl))⟩
  f17 := ⟨Try.f104.name, by decide, Try.func104.trans (congrArg some (by kernel_rfl))⟩
  f18 := ⟨Try.f105.name, by decide, Try.func105.trans (congrArg some (by kernel_rfl))⟩
  f19 := Try.func86.trans (congrArg some (by kernel_rfl))
  f20 := Try.func87.trans (congrArg some (by kernel_rfl))
  f30 := ⟨Try.f107.name, by decide, Try.func107.trans (congrArg some (by kernel_rfl))⟩
  f31 := Try.func93.trans (congrArg some (by kernel_rfl))
  f32 := Try.func94.trans (congrArg some (by kernel_rfl))
  f33 := ⟨Try.f108.name, by decide, Try.func108.trans (congrArg some (by kernel_rfl))⟩
  f34 := ⟨Try.f109.name, by decide, Try.func109.trans (congrArg some (by kernel_rfl))⟩
  f35 := ⟨Try.f88.name, by decide, Try.func88.trans (congrArg some (by kernel_rfl))⟩
  f40 := ⟨Try.f110.name, by decide, Try.func110.trans (congrArg some (by kernel_rfl))⟩
  t0 := Try.underlying0
  a0 := Try.isAgg0
  z0 := Try.sizeOf0
  v0 := Try.zeroValue0
  t3 := Try.underlying3
  a3 := Try.isAgg3
  z3 := Try.sizeOf3
  v3 := Try.zeroValue3
  t4 := Try.underlying4
  a4 := Try.isAgg4
  z4 := Try.sizeOf4
  v4 := Try.zeroValue4
  t5 := Try.underlying5
  a5 := Try.isAgg5
  z5 := Try.sizeOf5
  v5 := Try.zeroValue5
  t9 := Try.underlying9
  a9 := Try.isAgg9
  z9 := Try.sizeOf9
  v9 := Try.zeroValue9
  t22 := Try.underlying33
  a22 := Try.isAgg33
  z22 := Try.sizeOf33
  v22 := Try.zeroValue33
  t23 := Try.underlying33
  a23 := Try.isAgg33
  z23 := Try.sizeOf33
  v23 := Try.zeroValue33
  t25 := Try.underlying3
  a25 := Try.isAgg3
  z25 := Try.sizeOf3
  v25 := Try.zeroValue3
  t32 := Try.underlying83
  a32 := Try.isAgg83
  z32 := Try.sizeOf83
  v32 := Try.zeroValue83
  t35 := Try.underlying127
  a35 := Try.isAgg127
  z35 := Try.sizeOf127
  v35 := Try.zeroValue127
  t36 := Try.underlying128
  a36 := Try.isAgg128
  z36 := Try.sizeOf128
  v36 := Try.zeroValue128
  t41 := Try.underlying76
  a41 := Try.isAgg76
  z41 := Try.sizeOf76
  v41 := Try.zeroValue76
  t44 := Try.underlying134
  a44 := Try.isAgg134
  z44 := Try.sizeOf134
  v44 := Try.zeroValue134
  t46 := Try.underlying136
  a46 := Try.isAgg136
  z46 := Try.sizeOf136
  v46 := Try.zeroValue136
  t53 := Try.underlying140
  a53 := Try.isAgg140
  z53 := Try.sizeOf140
  v53 := Try.zeroValue140
  t57 := Try.underlying144
  a57 := Try.isAgg144
  z57 := Try.sizeOf144
  v57 := Try.zeroValue144
  t63 := Try.underlying151
  a63 := Try.isAgg151
  z63 := Try.sizeOf151
  v63 := Try.zeroValue151
  t64 := Try.underlying152
  a64 := Try.isAgg152
  z64 := Try.sizeOf152
  v64 := Try.zeroValue152 }
theorem Vals.sortsA (m : Nat) : AnyZI.SortsIn Try.prog Vals.sortedA_ren Fence.wide m :=
  ⟨fun blk off cap ss W hH hblk hsz => callsIn_wide.2 (AnyM.slices_Sort_int Vals.sortA blk off cap ss W hH hblk hsz),
   fun p cap W => callsIn_wide.2 (AnyM.slices_Sort_int_none Vals.sortA p cap W)⟩

set_option maxRecDepth 100000 in
set_option maxHeartbeats 4000000 in
theorem values_yes (a0 : Int) (A1 : Option Addr) (c1 : Nat) (l1 : List S46) (w : World) (hC : Kd.C k46 w A1 l1.length l1) (hg : graphOk a0 l1 = true) :
    Calls Try.prog 17 #[.int .i64 a0, .slice A1 l1.length c1] w fun e w' => ∃ v0_ : Value, e = .returned (.tuple #[v0_, .int .i64 0]) ∧ Kd.R (Kd.int .i64) 3 w' w.heap.size (fun _ => True) v0_ (valsOf a0 l1 (sidesUpTo (properB a0) (2 ^ a0.toNat))) ∧ Below w.heap.size w w' := by
  have hmm := @run_makeMap Try.prog
  obtain ⟨h0, hn⟩ := graphOk_n hg
  have hl := graphOk_len hg
  obtain ⟨P, hP⟩ : ∃ P, 2 ^ a0.toNat = P := ⟨_, rfl⟩
  rw [hP]
  have hp := pow_le a0 h0 hn
  rw [hP] at hp
  have HP := Lib.hid hP
  have HC := Lib.hid hC
  have HE := Lib.hid (graphOk_edges hg)
  have HG := Lib.hid hg
  clear hP hC hg
  refine (callsIn_wide (n := 6)).1 ?_
  refine callsIn_of_wp_marks Try.func17 rfl trivial ?_ rfl
  simp only [Try.ntmps17, List.size_toArray, List.length_cons, List.length_nil, Nat.reduceAdd, Nat.reduceSub, Array.replicate_succ, Array.replicate_zero, List.push_toArray, List.append_toArray, List.nil_append, List.cons_append]
  gi_wp2_with (first
    | (refine ⟨trivial, ?_⟩; gi_at_call 23; refine (callsIn_wide.2 (newGraph_any a0 A1 c1 l1 _ HC.out)).mono ?_; rintro e w1 ⟨rfl, hb, hm⟩; have hg := HG.out; have HB1 := Lib.hid hb; clear hm hb)
    | (refine ⟨trivial, ?_⟩; gi_at_call 45; refine (callsIn_wide.2 (sides_any _ _ _ _ _ rfl rfl)).mono ?_; rintro e w' ⟨rfl, rfl⟩))
  obtain ⟨W0, hW0⟩ : ∃ W0, (((w1.alloc (.cells #[.int .i64 a0, .slice A1 l1.length c1, .map (some (w.heap.size + 1))] 52)).alloc (.map #[] 0)).alloc (.cells #[.map (some (w1.heap.size + 1))] 92)) = W0 := ⟨_, rfl⟩
  have bS := Boxed.new ((w1.alloc (.cells #[.int .i64 a0, .slice A1 l1.length c1, .map (some (w.heap.size + 1))] 52)).alloc (.map #[] 0)) 92 (.map (some (w1.heap.size + 1)))
  have hm0 := (World.ownsMap_made (w1.alloc (.cells #[.int .i64 a0, .slice A1 l1.length c1, .map (some (w.heap.size + 1))] 52)) Try.prog 3 (plainElem (H := Unit) Try.prog 4)).alloc (.cells #[.map (some (w1.heap.size + 1))] 92)
  have hB0 := below_alloc (below_alloc (below_alloc HB1.out (.cells #[.int .i64 a0, .slice A1 l1.length c1, .map (some (w.heap.size + 1))] 52)) (.map #[] 0)) (.cells #[.map (some (w1.heap.size + 1))] 92)
  have hz0 : W0.heap.size = w1.heap.size + 1 + 1 + 1 := by rw [← hW0]; simp only [World.size_alloc]
  have hz1 := HB1.out.size
  simp only [World.size_alloc] at bS hm0
  rw [hW0] at bS hm0 hB0 ⊢
  clear hW0
  have hGx := (Whole.new W0 52 #[.int .i64 a0, .slice A1 l1.length c1, .map (some (w.heap.size + 1))]).alloc (.cells #[.func (.func 46) #[.agg #[.int .i64 a0, .slice A1 l1.length c1, .map (some (w.heap.size + 1))]] #[]] 96)
  have hVx := Whole.new (W0.alloc (gbox a0 (.slice A1 l1.length c1) (w.heap.size + 1))) 96 #[.func (.func 46) #[.agg #[.int .i64 a0, .slice A1 l1.length c1, .map (some (w.heap.size + 1))]] #[]]
  have hB1 := below_alloc (below_alloc hB0 (gbox a0 (.slice A1 l1.length c1) (w.heap.size + 1))) (.cells #[.func (.func 46) #[.agg #[.int .i64 a0, .slice A1 l1.length c1, .map (some (w.heap.size + 1))]] #[]] 96)
  rw [World.size_alloc] at hVx
  have bS1 := (bS.alloc (gbox a0 (.slice A1 l1.length c1) (w.heap.size + 1))).alloc (.cells #[.func (.func 46) #[.agg #[.int .i64 a0, .slice A1 l1.length c1, .map (some (w.heap.size + 1))]] #[]] 96)
  have hm1 := (hm0.alloc (gbox a0 (.slice A1 l1.length c1) (w.heap.size + 1))).alloc (.cells #[.func (.func 46) #[.agg #[.int .i64 a0, .slice A1 l1.length c1, .map (some (w.heap.size + 1))]] #[]] 96)
  rw [hz0] at hGx hVx
  have hz2 : ((W0.alloc (gbox a0 (.slice A1 l1.length c1) (w.heap.size + 1))).alloc (.cells #[.func (.func 46) #[.agg #[.int .i64 a0, .slice A1 l1.length c1, .map (some (w.heap.size + 1))]] #[]] 96)).heap.size = w1.heap.size + 5 := by simp; omega
  clear hm0 bS hB0
  generalize (W0.alloc (gbox a0 (.slice A1 l1.length c1) (w.heap.size + 1))).alloc (.cells #[.func (.func 46) #[.agg #[.int .i64 a0, .slice A1 l1.length c1, .map (some (w.heap.size + 1))]] #[]] 96) = W1 at hGx hVx hB1 bS1 hm1 hz2 ⊢
  have hseq : SeqStopsK Fence.wide 5 Try.prog 70 #[.pointer (some ⟨w1.heap.size + 1 + 1 + 1, 0, none⟩), .pointer (some ⟨w1.heap.size + 1 + 1 + 1 + 1, 0, none⟩)] (fun x : ASide => #[.int .u64 (x.1 : Int), .int .i64 (valB a0 x.1 l1)]) (KpG w.heap.size (w1.heap.size + 1 + 1 + 1) (w1.heap.size + 1 + 1 + 1 + 1)) (fun ys => ys = sidesUpTo (properB a0) P) (fun pre => ∃ k, k ≤ P ∧ pre = sidesUpTo (properB a0) k) 4096 W1 := by
    intro lp J Jx W hW hJ hJx hY h0'
    refine sides1_in 5 lp (w1.heap.size + 1 + 1 + 1) (w1.heap.size + 1 + 1 + 1 + 1) w.heap.size a0 A1 c1 (w.heap.size + 1) l1 46 #[gv a0 (.slice A1 l1.length c1) (w.heap.size + 1)] #[] (properB a0) J Jx W P HP.out hn h0 hl HE.out ?_ (by have := hB1.size; have := hW.size; omega) (fun W' hb => Kd.C_below HC.out ((hB1.trans (hW.mono hB1.size)).trans hb)) (hGx.below hW hGx.lt) (hVx.below hW hVx.lt) hJ hY h0'
    exact proper_want a0 _ _ _ _ rfl hn h0
  refine wpIn_rangeFunc_ownG rfl (by omega) (gf := 70) (lb := #[.pointer (some ⟨w1.heap.size + 1 + 1 + 1, 0, none⟩), .pointer (some ⟨w1.heap.size + 1 + 1 + 1 + 1, 0, none⟩)]) rfl trivial (enters_of Try.func70 (by kernel_rfl) rfl) hseq (fun h k => KpG_t h k) (KpG_b (by have := hB1.size; omega)) (Below.refl _ _) (fun _ => rfl)
    (fun pre W => (W.cell? ⟨w1.heap.size + 1 + 1, 0, none⟩ = some (.map (some (w1.heap.size + 1))) ∧ W.ownsMap Try.prog 3 (plainElem (H := Unit) Try.prog 4) (w1.heap.size + 1) pre.length (setD (valsOf a0 l1 pre))) ∧ Below w.heap.size w W)
    (fun _ _ _ => False)
    (OwnFrom.and (fun s A B row hs hg hr => ⟨cell_kept hs.1 hg (fun r e => (hr r e).2), hs.2.kept hg (fun e => by have := (hr _ e.symm).1; omega)⟩) (ownFrom_below (Nat.le_refl _) (by omega)))
    (fun _ _ _ _ _ hs _ _ => hs)
    ⟨⟨bS1.cell, hm1⟩, hB1⟩ ?a1 ?assign ?body ?done ?stop
  case assign =>
    intro l x W K hK
    gi_wp2
    exact hK
  case body =>
    rintro l pre x W ⟨⟨hc, hown⟩, hB⟩ hlt
    have hwf : (Lit.int .i64 (valB a0 x.1 l1)).wf = true := by
      have := valB_bound a0 x.1 l1 HE.out l1.length (Nat.le_refl _)
      rw [List.take_length] at this
      have e1 : IntKind.i64.min = -9223372036854775808 := rfl
      have e2 : IntKind.i64.max = 9223372036854775807 := rfl
      simp only [Lit.wf, e1, e2, Bool.and_eq_true, decide_eq_true_eq]
      omega
    have hkey := Maps.keyOf_int_mk Try.underlying3 hwf
    have HPUT := Lib.hid (setD_put (valB a0 x.1 l1) (valsOf a0 l1 pre) (valsOf_rising a0 l1 pre))
    have HSN := Lib.hid (valsOf_snoc a0 l1 pre x)
    gi_wp2_with (gi_at_mapUpdate; refine wpListIn_mapUpdate_own _ rfl _ _ _ 92 rfl 3 4 (Maps.int_keyed Try.underlying3) under92 _ (w1.heap.size + 1) pre.length _ rfl hown (by unfold maxLen; omega) _ _ _ rfl rfl hkey _ [] (plainElem_bool Try.underlying4 true) ?_; intro w2 hown1 hgrow1)
    obtain ⟨es, ck, hh, _⟩ := hown
    have hBW : Below w.heap.size W w2 := (Below.refl _ W).grown hgrow1 hB.size (fun k e => by cases e; omega)
    exact ⟨KeepsFrom.of_grownBy hgrow1 (fun j e => by cases e; omega), ⟨hBW, fun k hk o ho _ => (hgrow1.block k (Array.getElem?_eq_some_iff.1 ho).1 (fun e => by cases e; omega)).trans ho⟩,
      ⟨cell_kept hc hgrow1 (fun r e => by cases e; exact ⟨_, hh, rfl⟩), by rw [HSN.out, List.length_append, ← HPUT.out]; exact hown1⟩, hB.trans hBW⟩
  case done =>
    rintro D ys W hD rfl ⟨⟨hc, hown⟩, hB⟩ hK
    have hbl := hown.lt
    have hseq2 : SeqGives Fence.wide 2 Try.prog 74 #[.pointer (some ⟨W.heap.size, 0, none⟩)] encZ (fun ss => ss.Perm (intKeys (setD (valsOf a0 l1 (sidesUpTo (properB a0) P))))) (Maps.size (setD (valsOf a0 l1 (sidesUpTo (properB a0) P)))) (W.alloc (.cells #[.map (some (w1.heap.size + 1))] 92)) :=
      AnyZI.keys_gives (ρ := Vals.keysA_ren) { Vals.keysA with } Fence.wide _ trivial rfl (by omega) W.heap.size (w1.heap.size + 1) _ _ _ (by simp) (by simp) (by
        obtain ⟨es, clock, hb, Ft, hs, hD⟩ := hown
        exact ⟨es, clock, (Below.heap_alloc _ _ _ hbl).trans hb, Ft, hs, hD⟩)
    have hsz : (valsOf a0 l1 (sidesUpTo (properB a0) P)).length ≤ 4096 := Nat.le_trans (valsOf_length _ _ _) (Nat.le_trans (sidesUpTo_length _ _) hp)
    have cK : ∀ mb W, CallsIn Fence.wide 5 Try.prog 48 #[.map mb] W fun e w' => e = .returned (.func (.func 74) #[] #[.pointer (some ⟨W.heap.size, 0, none⟩)]) ∧ w' = W.alloc (.cells #[.map mb] 92) := fun mb W => AnyZI.keys_in Vals.keysA Fence.wide 5 trivial rfl mb W
    have cS := AnyZI.sorted_in Vals.sortedA Fence.wide 5 trivial trivial trivial trivial rfl (by omega) (Vals.sortsA _) (enters_of Try.func73 (by kernel_rfl) rfl) 74 #[.pointer (some ⟨W.heap.size, 0, none⟩)] trivial (enters_of Try.func74 (by kernel_rfl) rfl) _ _ (by rw [setD_size]; unfold maxLen; omega) (by rw [setD_size]; omega) _ hseq2
    change CallsIn _ _ Try.prog 47 _ _ _ at cS
    have hfK : Fence.wide.fn 48 := trivial
    have hfS : Fence.wide.fn 47 := trivial
    gi_wp2_with (first
      | (gi_at_call 48; refine (cK _ _).mono ?_; rintro e w' ⟨rfl, rfl⟩)
      | (gi_at_call 47; refine cS.mono ?_; rintro e w' ⟨v, ss, rfl, hS, hrow, hnil, hb⟩))
    rw [setD_keys] at hS
    have hvv : ss.mergeSort (fun x y => decide (x ≤ y)) = valsOf a0 l1 (sidesUpTo (properB a0) P) := (mergeSort_of_perm_i hS).trans (sort_rising _ (valsOf_rising _ _ _))
    rw [hvv, hS.length_eq] at hrow
    have hDl := (Array.getElem?_eq_some_iff.1 hK).1
    have hK' : w'.heap[D]? = some (.deferred (some [])) := (hb.block D (by simp; omega)).trans ((Below.heap_alloc _ _ _ hDl).trans hK)
    have hrow1 : w'.ownsRow w.heap.size 3 1 v (valsOf a0 l1 (sidesUpTo (properB a0) P)).length (encs (Value.int .i64) (valsOf a0 l1 (sidesUpTo (properB a0) P))) := ownsRow_base_a hrow (by have := hB.size; simp; omega)
    have hne : v.ownBlock ≠ some D := fun e => by have := own_base hrow D e; simp at this; omega
    have hBw : Below w.heap.size w w' := hB.trans ((Below.alloc (Below.refl w.heap.size W) hB.size (.cells #[.map (some (w1.heap.size + 1))] 92)).trans (hb.mono (by have := hB.size; simp; omega)))
    refine ⟨by simp, .inl ⟨_, _, rfl, run_takeDeferred hK', ?_⟩⟩
    exact ⟨_, results_tmp2 rfl _ _ _, v, rfl, Kd.R_of_own (hrow1.kept (grownBy_putObj' _ D _) (.inr hne)) (fun _ _ => trivial), hBw.trans (belowK_b (w := w) (Nat.le_refl _) w' D _ _ (by have := hB1.size; omega) hK' rfl rfl)⟩
  case stop =>
    rintro D c pre W _ _ h _
    exact h.elim


set_option maxHeartbeats 1000000 in
theorem belt_Values.calls (a0 : Int) (A1 : Option Addr) (c1 : Nat) (l1 : List S46) (r1 : List Int) (r2 : Int) (w : World) (hr1 : Kd.C k46 w A1 l1.length l1) (hc1 : l1.length ≤ c1) (h : belt_Values.f a0 l1 = some (r1, r2)) :
    Calls Try.prog 17 #[.int .i64 a0, .slice A1 l1.length c1] w fun e w' => ∃ v0_ : Value, e = .returned (.tuple #[v0_, .int .i64 r2]) ∧ Kd.R (Kd.int .i64) 3 w' w.heap.size (fun _ => True) v0_ r1 ∧ Below w.heap.size w w' := by
  cases hg : graphOk a0 l1
  · have HC := Lib.hid hr1
    have HF := Lib.hid h
    have HG := Lib.hid hg
    clear hg hr1 h
    go_enter Try.func17, Try.ntmps17
    go_wp2_with (go_at_call 23; refine (newGraph_any a0 A1 c1 l1 _ HC.out).mono ?_; rintro e w1 ⟨rfl, hb, _⟩; have hg := HG.out)
    go_ret2
    have e1 := HF.out
    rw [belt_Values.f, HG.out] at e1
    simp only [Bool.false_eq_true, if_false, Option.some.injEq, Prod.mk.injEq] at e1
    obtain ⟨rfl, rfl⟩ := e1
    exact ⟨_, rfl, Kd.R_nil _ _ _ _ _, below_alloc hb _⟩
  · rw [belt_Values.f, hg] at h
    simp only [if_true, Option.some.injEq, Prod.mk.injEq] at h
    obtain ⟨rfl, rfl⟩ := h
    exact values_yes a0 A1 c1 l1 w hr1 hg

end Go.Proofs.Ytkefmlhkejoknab.L
