/- Values comes to what belt_Values.f says: slices.Sorted(maps.Keys(found)) by the kit's contracts. -/
import Derived.Test.YtkefmlhkejoknaaXBest
import Derived.Shelf.SlIterI.Nil
import Derived.Shelf.SortM.Plain
import Derived.Shelf.SortM.SortNone
import Derived.Ground.GgzProg
import Derived.Ground.SlgmProg
import Derived.RangeFuncBox
import Derived.RangeFuncLeaves
import Derived.Maps.OwnIn
namespace Go.Proofs.Ytkefmlhkejoknaa.L
set_option linter.unusedVariables false
set_option linter.unusedSimpArgs false
open Go.RowKit Go.Shelf Go.Maps Go.Sort Go.Proofs.YtkefmlhkejoknaaW.PrintWords Go.Proofs.YtkefmlhkejoknaaW.PrintLast Go.Proofs.YtkefmlhkejoknaaW.PrintMore
attribute [local go_sem] Oper.semAt_some

/-- A number into an ascending row, if it is not there. -/
def insU (v : Int) : List Int → List Int
  | [] => [v]
  | x :: xs => if v < x then v :: x :: xs else if v = x then x :: xs else x :: insU v xs
def valsOf (n : Int) (l : List S49) (pre : List ASide) : List Int := pre.foldl (fun out x => insU (valB n x.1 l) out) []
theorem valsOf_snoc (n : Int) (l : List S49) (pre : List ASide) (x : ASide) : valsOf n l (pre ++ [x]) = insU (valB n x.1 l) (valsOf n l pre) := by simp [valsOf]
def belt_Values.f (n : Int) (l : List S49) : Option (List Int × Int) :=
  some (if graphOk n l then (valsOf n l (sidesUpTo (properB n) (2 ^ n.toNat)), 0) else ([], 2))

theorem insU_mem (v : Int) (xs : List Int) : ∀ y, y ∈ insU v xs ↔ y = v ∨ y ∈ xs := by
  induction xs with
  | nil => intro y; simp [insU]
  | cons x xs ih =>
    intro y
    unfold insU
    split
    · simp
    · split
      · rename_i h; subst h; simp
      · rw [List.mem_cons, ih, List.mem_cons]
        constructor
        · rintro (h | h | h)
          · exact .inr (.inl h)
          · exact .inl h
          · exact .inr (.inr h)
        · rintro (h | h | h)
          · exact .inr (.inl h)
          · exact .inl h
          · exact .inr (.inr h)
theorem insU_rising (v : Int) (xs : List Int) (h : xs.Pairwise (· < ·)) : (insU v xs).Pairwise (· < ·) := by
  induction xs with
  | nil => simp [insU]
  | cons x xs ih =>
    rw [List.pairwise_cons] at h
    unfold insU
    split
    · rename_i hv
      rw [List.pairwise_cons]
      refine ⟨fun y hy => ?_, List.pairwise_cons.2 h⟩
      rcases List.mem_cons.1 hy with rfl | hy
      · exact hv
      · exact Int.lt_trans hv (h.1 y hy)
    · split
      · exact List.pairwise_cons.2 h
      · rename_i h1 h2
        rw [List.pairwise_cons]
        refine ⟨fun y hy => ?_, ih h.2⟩
        rcases (insU_mem v xs y).1 hy with rfl | hy
        · omega
        · exact h.1 y hy
theorem valsOf_rising (n : Int) (l : List S49) (pre : List ASide) : (valsOf n l pre).Pairwise (· < ·) := by
  have key : ∀ (pre : List ASide) (xs : List Int), xs.Pairwise (· < ·) → (pre.foldl (fun out x => insU (valB n x.1 l) out) xs).Pairwise (· < ·) := by
    intro pre
    induction pre with
    | nil => intro xs h; exact h
    | cons x pre ih => intro xs h; exact ih _ (insU_rising _ _ h)
  exact key pre [] List.Pairwise.nil
theorem insU_length (v : Int) (xs : List Int) : (insU v xs).length ≤ xs.length + 1 := by
  induction xs with
  | nil => simp [insU]
  | cons x xs ih => unfold insU; split <;> (try split) <;> simp <;> omega
theorem valsOf_length (n : Int) (l : List S49) (pre : List ASide) : (valsOf n l pre).length ≤ pre.length := by
  have key : ∀ (pre : List ASide) (xs : List Int), (pre.foldl (fun out x => insU (valB n x.1 l) out) xs).length ≤ xs.length + pre.length := by
    intro pre
    induction pre with
    | nil => intro xs; simp
    | cons x pre ih => intro xs; have := ih (insU (valB n x.1 l) xs); have := insU_length (valB n x.1 l) xs; simp only [List.foldl_cons, List.length_cons]; omega
  have := key pre []
  simpa [valsOf] using this

/-- The map whose keys are a row's numbers, as a datum. -/
def setE (v : Int) : Lit × DataW Unit := (.int .i64 v, .lit (.bool true))
def setD (xs : List Int) : DataW Unit := .map (xs.map setE)
theorem set_insert (v : Int) (xs : List Int) (h : xs.Pairwise (· < ·)) : DataW.insert (setE v) ((xs.map setE).filter fun p => !p.1.sameKey (.int .i64 v)) = (insU v xs).map setE := by
  induction xs with
  | nil => rfl
  | cons x xs ih =>
    rw [List.pairwise_cons] at h
    have hid : (∀ y ∈ xs, v < y) → (xs.map setE).filter (fun p => !p.1.sameKey (.int .i64 v)) = xs.map setE := by
      intro hy
      rw [List.filter_eq_self]
      intro p hp
      rw [List.mem_map] at hp
      obtain ⟨y, hy1, rfl⟩ := hp
      have := hy y hy1
      simp [setE, Lit.sameKey]; omega
    have hbef : ∀ a b : Int, (setE a).1.before (setE b).1 = decide (a < b) := fun a b => by simp [setE, Lit.before]
    have hin : ∀ a : Int, ∀ ys : List Int, (∀ y ∈ ys, a < y) → DataW.insert (setE a) (ys.map setE) = setE a :: ys.map setE := by
      intro a ys hy
      cases ys with
      | nil => rfl
      | cons y ys =>
        show (if (setE a).1.before (setE y).1 then _ else _) = _
        rw [hbef, if_pos (by have := hy y List.mem_cons_self; simpa using this)]
        rfl
    unfold insU
    by_cases h1 : v < x
    · rw [if_pos h1]
      have hall : ∀ y ∈ x :: xs, v < y := by
        intro y hy
        rcases List.mem_cons.1 hy with rfl | hy
        · exact h1
        · exact Int.lt_trans h1 (h.1 y hy)
      rw [List.map_cons, List.filter_cons, if_pos (by simp [setE, Lit.sameKey]; omega), hid (fun y hy => hall y (List.mem_cons_of_mem _ hy)), ← List.map_cons, hin v (x :: xs) hall]
      rfl
    · rw [if_neg h1]
      by_cases h2 : v = x
      · subst h2
        rw [if_pos rfl, List.map_cons, List.filter_cons, if_neg (by simp [setE, Lit.sameKey]), hid h.1, hin v xs h.1]
      · rw [if_neg h2, List.map_cons, List.filter_cons, if_pos (by simp [setE, Lit.sameKey]; omega)]
        show (if (setE v).1.before (setE x).1 then _ else _) = _
        rw [hbef, if_neg (by simpa using h1), ih h.2]
        rfl
theorem setD_put (v : Int) (xs : List Int) (h : xs.Pairwise (· < ·)) : (setD xs).put (.int .i64 v) (.lit (.bool true)) = setD (insU v xs) := by
  unfold setD
  rw [← set_insert v xs h]
  rfl
theorem setD_keys (xs : List Int) : intKeys (setD xs) = xs := by
  induction xs with
  | nil => rfl
  | cons x xs ih =>
    show x :: intKeys (setD xs) = _
    rw [ih]
theorem setD_size (xs : List Int) : Maps.size (setD xs) = xs.length := by simp [Maps.size, setD]
theorem sort_rising (xs : List Int) (h : xs.Pairwise (· < ·)) : xs.mergeSort (fun x y => decide (x ≤ y)) = xs := by
  apply List.mergeSort_of_pairwise
  exact h.imp (fun hab => by simp; omega)

theorem under131 : Try.prog.underlying 131 = some (.map 3 4) := by kernel_rfl


def Vals.keysA_ren : Go.Shelf.Ren := ⟨fun | 7 => 95 | 10 => 123 | n => n, fun | 23 => 131 | 26 => 3 | 3 => 4 | 28 => 137 | 0 => 0 | 27 => 136 | 33 => 104 | 4 => 4 | n => n, fun | n => n⟩
theorem Vals.keysA : Go.Proofs.SlLaysZI.n7 Try.prog Vals.keysA_ren := {
  mixed := by kernel_rfl
  f7 := ⟨Try.f95.name, by decide, Try.func95.trans (congrArg some (by kernel_rfl))⟩
  f10 := ⟨Try.f123.name, by decide, Try.func123.trans (congrArg some (by kernel_rfl))⟩
  t0 := Try.underlying0
  a0 := Try.isAgg0
  z0 := Try.sizeOf0
  v0 := Try.zeroValue0
  t4 := Try.underlying4
  a4 := Try.isAgg4
  z4 := Try.sizeOf4
  v4 := Try.zeroValue4
  t23 := Try.underlying131
  a23 := Try.isAgg131
  z23 := Try.sizeOf131
  v23 := Try.zeroValue131
  t26 := Try.underlying3
  a26 := Try.isAgg3
  z26 := Try.sizeOf3
  v26 := Try.zeroValue3
  t27 := Try.underlying136
  a27 := Try.isAgg136
  z27 := Try.sizeOf136
  v27 := Try.zeroValue136
  t28 := Try.underlying137
  a28 := Try.isAgg137
  z28 := Try.sizeOf137
  v28 := Try.zeroValue137
  t33 := Try.underlying104
  a33 := Try.isAgg104
  z33 := Try.sizeOf104
  v33 := Try.zeroValue104 }
def Vals.sortedA_ren : Go.Shelf.Ren := ⟨fun | 6 => 94 | 8 => 121 | 9 => 122 | 11 => 139 | 13 => 125 | 12 => 140 | 23 => 149 | 24 => 150 | 14 => 159 | 15 => 160 | 16 => 161 | 17 => 162 | 18 => 163 | 19 => 164 | 20 => 165 | 21 => 166 | 22 => 167 | 25 => 180 | 26 => 169 | 27 => 170 | 28 => 181 | 29 => 182 | 30 => 151 | 31 => 188 | n => n, fun | 26 => 3 | 28 => 137 | 24 => 39 | 0 => 0 | 3 => 3 | 37 => 89 | 48 => 156 | 50 => 158 | 4 => 4 | 40 => 184 | 39 => 183 | 45 => 79 | 5 => 5 | 9 => 9 | 51 => 203 | 55 => 207 | 57 => 219 | 58 => 220 | 33 => 104 | n => n, fun | n => n⟩
theorem Vals.sortedA : Go.Proofs.SlLaysZI.n6 Try.prog Vals.sortedA_ren := {
  mixed := by kernel_rfl
  f6 := ⟨Try.f94.name, by decide, Try.func94.trans (congrArg some (by kernel_rfl))⟩
  f8 := ⟨Try.f121.name, by decide, Try.func121.trans (congrArg some (by kernel_rfl))⟩
  f11 := ⟨Try.f139.name, by decide, Try.func139.trans (congrArg some (by kernel_rfl))⟩
  t0 := Try.underlying0
  a0 := Try.isAgg0
  z0 := Try.sizeOf0
  v0 := Try.zeroValue0
  t24 := Try.underlying39
  a24 := Try.isAgg39
  z24 := Try.sizeOf39
  v24 := Try.zeroValue39
  t26 := Try.underlying3
  a26 := Try.isAgg3
  z26 := Try.sizeOf3
  v26 := Try.zeroValue3
  t28 := Try.underlying137
  a28 := Try.isAgg137
  z28 := Try.sizeOf137
  v28 := Try.zeroValue137
  i26 := by kernel_rfl }
def Vals.sortA_ren : Go.Shelf.Ren := ⟨fun | 5 => 122 | 8 => 125 | 7 => 140 | 19 => 149 | 20 => 150 | 10 => 159 | 11 => 160 | 12 => 161 | 13 => 162 | 14 => 163 | 15 => 164 | 16 => 165 | 17 => 166 | 18 => 167 | 30 => 180 | 31 => 169 | 32 => 170 | 33 => 181 | 34 => 182 | 35 => 151 | 40 => 188 | n => n, fun | 23 => 39 | 25 => 3 | 3 => 3 | 32 => 89 | 22 => 39 | 0 => 0 | 44 => 156 | 46 => 158 | 4 => 4 | 36 => 184 | 35 => 183 | 41 => 79 | 5 => 5 | 9 => 9 | 53 => 203 | 57 => 207 | 63 => 219 | 64 => 220 | n => n, fun | n => n⟩
theorem Vals.sortA : Go.Proofs.SlLaysM.n5 Try.prog Vals.sortA_ren := {
  mixed := by kernel_rfl
  f5 := ⟨Try.f122.name, by decide, Try.func122.trans (congrArg some (by kernel_rfl))⟩
  f7 := ⟨Try.f140.name, by decide, Try.func140.trans (congrArg some (by kernel_rfl))⟩
  f8 := Try.func125.trans (congrArg some (by kernel_rfl))
  f10 := ⟨Try.f159.name, by decide, Try.func159.trans (congrArg some (by kernel_rfl))⟩
  f11 := ⟨Try.f160.name, by decide, Try.func160.trans (congrArg some (by kernel_rfl))⟩
  f12 := ⟨Try.f161.name, by decide, Try.func161.trans (congrArg some (by kernel_rfl))⟩
  f13 := ⟨Try.f162.name, by decide, Try.func162.trans (congrArg some (by kernel_rfl))⟩
  f14 := ⟨Try.f163.name, by decide, Try.func163.trans (congrArg some (by kernel_rfl))⟩
  f15 := ⟨Try.f164.name, by decide, Try.func164.trans (congrArg some (by kernel_rfl))⟩
  f16 := ⟨Try.f165.name, by decide, Try.func165.trans (congrArg some (by kernel_rfl))⟩
  f17 := ⟨Try.f166.name, by decide, Try.func166.trans (congrArg some (by kernel_rfl))⟩
  f18 := ⟨Try.f167.name, by decide, Try.func167.trans (congrArg some (by kernel_rfl))⟩
  f19 := Try.func149.trans (congrArg some (by kernel_rfl))
  f20 := Try.func150.trans (congrArg some (by kernel_rfl))
  f30 := ⟨Try.f180.name, by decide, Try.func180.trans (congrArg some (by kernel_rfl))⟩
  f31 := Try.func169.trans (congrArg some (by kernel_rfl))
  f32 := Try.func170.trans (congrArg some (by kernel_rfl))
  f33 := ⟨Try.f181.name, by decide, Try.func181.trans (congrArg some (by kernel_rfl))⟩
  f34 := ⟨Try.f182.name, by decide, Try.func182.trans (congrArg some (by kernel_rfl))⟩
  f35 := ⟨Try.f151.name, by decide, Try.func151.trans (congrArg some (by kernel_rfl))⟩
  f40 := ⟨Try.f188.name, by decide, Try.func188.trans (congrArg some (by kernel_rfl))⟩
  t0 := Try.underlying0
  a0 := Try.isAgg0
  z0 := Try.sizeOf0
  v0 := Try.zeroValue0
  t3 := Try.underlying3
  a3 := Try.isAgg3
  z3 := Try.sizeOf3
  v3 := Try.zeroValue3
  t4 := Try.underlying4
  a4 := Try.isAgg4
  z4 := Try.sizeOf4
  v4 := Try.zeroValue4
  t5 := Try.underlying5
  a5 := Try.isAgg5
  z5 := Try.sizeOf5
  v5 := Try.zeroValue5
  t9 := Try.underlying9
  a9 := Try.isAgg9
  z9 := Try.sizeOf9
  v9 := Try.zeroValue9
  t22 := Try.underlying39
  a22 := Try.isAgg39
  z22 := Try.sizeOf39
  v22 := Try.zeroValue39
  t23 := Try.underlying39
  a23 := Try.isAgg39
  z23 := Try.sizeOf39
  v23 := Try.zeroValue39
  t25 := Try.underlying3
  a25 := Try.isAgg3
  z25 := Try.sizeOf3
  v25 := Try.zeroValue3
  t32 := Try.underlying89
  a32 := Try.isAgg89
  z32 := Try.sizeOf89
  v32 := Try.zeroValue89
  t35 := Try.underlying183
  a35 := Try.isAgg183
  z35 := Try.sizeOf183
  v35 := Try.zeroValue183
  t36 := Try.underlying184
  a36 := Try.isAgg184
  z36 := Try.sizeOf184
  v36 := Try.zeroValue184
  t41 := Try.underlying79
  a41 := Try.isAgg79
  z41 := Try.sizeOf79
  v41 := Try.zeroValue79
  t44 := Try.underlying156
  a44 := Try.isAgg156
  z44 := Try.sizeOf156
  v44 := Try.zeroValue156
  t46 := Try.underlying158
  a46 := Try.isAgg158
  z46 := Try.sizeOf158
  v46 := Try.zeroValue158
  t53 := Try.underlying203
  a53 := Try.isAgg203
  z53 := Try.sizeOf203
  v53 := Try.zeroValue203
  t57 := Try.underlying207
  a57 := Try.isAgg207
  z57 := Try.sizeOf207
  v57 := Try.zeroValue207
  t63 := Try.underlying219
  a63 := Try.isAgg219
  z63 := Try.sizeOf219
  v63 := Try.zeroValue219
  t64 := Try.underlying220
  a64 := Try.isAgg220
  z64 := Try.sizeOf220
  v64 := Try.zeroValue220 }
theorem Vals.sortsA (m : Nat) : AnyZI.SortsIn Try.prog Vals.sortedA_ren Fence.wide m :=
  ⟨fun blk off cap ss W hH hblk hsz => callsIn_wide.2 (AnyM.slices_Sort_int Vals.sortA blk off cap ss W hH hblk hsz),
   fun p cap W => callsIn_wide.2 (AnyM.slices_Sort_int_none Vals.sortA p cap W)⟩

set_option maxRecDepth 100000 in
set_option maxHeartbeats 4000000 in
theorem values_yes (a0 : Int) (A1 : Option Addr) (c1 : Nat) (l1 : List S49) (w : World) (hC : Kd.C k49 w A1 l1.length l1) (hg : graphOk a0 l1 = true) :
    Calls Try.prog 61 #[.int .i64 a0, .slice A1 l1.length c1] w fun e w' => ∃ v0_ : Value, e = .returned (.tuple #[v0_, .int .i64 0]) ∧ Kd.R (Kd.int .i64) 3 w' w.heap.size (fun _ => True) v0_ (valsOf a0 l1 (sidesUpTo (properB a0) (2 ^ a0.toNat))) ∧ Below w.heap.size w w' := by
  have hmm := @run_makeMap Try.prog
  obtain ⟨h0, hn⟩ := graphOk_n hg
  have hl := graphOk_len hg
  obtain ⟨P, hP⟩ : ∃ P, 2 ^ a0.toNat = P := ⟨_, rfl⟩
  rw [hP]
  have hp := pow_le a0 h0 hn
  rw [hP] at hp
  have HP := Lib.hid hP
  have HC := Lib.hid hC
  have HE := Lib.hid (graphOk_edges hg)
  have HG := Lib.hid hg
  clear hP hC hg
  refine (callsIn_wide (n := 6)).1 ?_
  refine callsIn_of_wp_marks Try.func61 rfl trivial ?_ rfl
  simp only [Try.ntmps61, List.size_toArray, List.length_cons, List.length_nil, Nat.reduceAdd, Nat.reduceSub, Array.replicate_succ, Array.replicate_zero, List.push_toArray, List.append_toArray, List.nil_append, List.cons_append]
  gi_wp2_with (first
    | (refine ⟨trivial, ?_⟩; gi_at_call 64; refine (callsIn_wide.2 (newGraph_any a0 A1 c1 l1 _ HC.out)).mono ?_; rintro e w1 ⟨rfl, hb, hm⟩; have hg := HG.out; have HB1 := Lib.hid hb; clear hm hb)
    | (refine ⟨trivial, ?_⟩; gi_at_call 93; refine (callsIn_wide.2 (sides_any _ _ _ _ _ rfl rfl)).mono ?_; rintro e w' ⟨rfl, rfl⟩))
  obtain ⟨W0, hW0⟩ : ∃ W0, (((w1.alloc (.cells #[.int .i64 a0, .slice A1 l1.length c1, .map (some (w.heap.size + 1))] 86)).alloc (.map #[] 0)).alloc (.cells #[.map (some (w1.heap.size + 1))] 131)) = W0 := ⟨_, rfl⟩
  have bS := Boxed.new ((w1.alloc (.cells #[.int .i64 a0, .slice A1 l1.length c1, .map (some (w.heap.size + 1))] 86)).alloc (.map #[] 0)) 131 (.map (some (w1.heap.size + 1)))
  have hm0 := (World.ownsMap_made (w1.alloc (.cells #[.int .i64 a0, .slice A1 l1.length c1, .map (some (w.heap.size + 1))] 86)) Try.prog 3 (plainElem (H := Unit) Try.prog 4)).alloc (.cells #[.map (some (w1.heap.size + 1))] 131)
  have hB0 := below_alloc (below_alloc (below_alloc HB1.out (.cells #[.int .i64 a0, .slice A1 l1.length c1, .map (some (w.heap.size + 1))] 86)) (.map #[] 0)) (.cells #[.map (some (w1.heap.size + 1))] 131)
  have hz0 : W0.heap.size = w1.heap.size + 1 + 1 + 1 := by rw [← hW0]; simp only [World.size_alloc]
  have hz1 := HB1.out.size
  simp only [World.size_alloc] at bS hm0
  rw [hW0] at bS hm0 hB0 ⊢
  clear hW0
  have hGx := (Whole.new W0 86 #[.int .i64 a0, .slice A1 l1.length c1, .map (some (w.heap.size + 1))]).alloc (.cells #[.func (.func 66) #[.agg #[.int .i64 a0, .slice A1 l1.length c1, .map (some (w.heap.size + 1))]] #[]] 93)
  have hVx := Whole.new (W0.alloc (gbox a0 (.slice A1 l1.length c1) (w.heap.size + 1))) 93 #[.func (.func 66) #[.agg #[.int .i64 a0, .slice A1 l1.length c1, .map (some (w.heap.size + 1))]] #[]]
  have hB1 := below_alloc (below_alloc hB0 (gbox a0 (.slice A1 l1.length c1) (w.heap.size + 1))) (.cells #[.func (.func 66) #[.agg #[.int .i64 a0, .slice A1 l1.length c1, .map (some (w.heap.size + 1))]] #[]] 93)
  rw [World.size_alloc] at hVx
  have bS1 := (bS.alloc (gbox a0 (.slice A1 l1.length c1) (w.heap.size + 1))).alloc (.cells #[.func (.func 66) #[.agg #[.int .i64 a0, .slice A1 l1.length c1, .map (some (w.heap.size + 1))]] #[]] 93)
  have hm1 := (hm0.alloc (gbox a0 (.slice A1 l1.length c1) (w.heap.size + 1))).alloc (.cells #[.func (.func 66) #[.agg #[.int .i64 a0, .slice A1 l1.length c1, .map (some (w.heap.size + 1))]] #[]] 93)
  rw [hz0] at hGx hVx
  have hz2 : ((W0.alloc (gbox a0 (.slice A1 l1.length c1) (w.heap.size + 1))).alloc (.cells #[.func (.func 66) #[.agg #[.int .i64 a0, .slice A1 l1.length c1, .map (some (w.heap.size + 1))]] #[]] 93)).heap.size = w1.heap.size + 5 := by simp; omega
  clear hm0 bS hB0
  generalize (W0.alloc (gbox a0 (.slice A1 l1.length c1) (w.heap.size + 1))).alloc (.cells #[.func (.func 66) #[.agg #[.int .i64 a0, .slice A1 l1.length c1, .map (some (w.heap.size + 1))]] #[]] 93) = W1 at hGx hVx hB1 bS1 hm1 hz2 ⊢
  have hseq : SeqStopsK Fence.wide 5 Try.prog 120 #[.pointer (some ⟨w1.heap.size + 1 + 1 + 1, 0, none⟩), .pointer (some ⟨w1.heap.size + 1 + 1 + 1 + 1, 0, none⟩)] (fun x : ASide => #[.int .u64 (x.1 : Int), .int .i64 (valB a0 x.1 l1)]) (KpG w.heap.size (w1.heap.size + 1 + 1 + 1) (w1.heap.size + 1 + 1 + 1 + 1)) (fun ys => ys = sidesUpTo (properB a0) P) (fun pre => ∃ k, k ≤ P ∧ pre = sidesUpTo (properB a0) k) 4096 W1 := by
    intro lp J Jx W hW hJ hJx hY h0'
    refine sides1_in 5 lp (w1.heap.size + 1 + 1 + 1) (w1.heap.size + 1 + 1 + 1 + 1) w.heap.size a0 A1 c1 (w.heap.size + 1) l1 66 #[gv a0 (.slice A1 l1.length c1) (w.heap.size + 1)] #[] (properB a0) J Jx W P HP.out hn h0 hl HE.out ?_ (by have := hB1.size; have := hW.size; omega) (fun W' hb => Kd.C_below HC.out ((hB1.trans (hW.mono hB1.size)).trans hb)) (hGx.below hW hGx.lt) (hVx.below hW hVx.lt) hJ hY h0'
    exact proper_want a0 _ _ _ _ rfl hn h0
  refine wpIn_rangeFunc_ownG rfl (by omega) (gf := 120) (lb := #[.pointer (some ⟨w1.heap.size + 1 + 1 + 1, 0, none⟩), .pointer (some ⟨w1.heap.size + 1 + 1 + 1 + 1, 0, none⟩)]) rfl trivial (enters_of Try.func120 (by kernel_rfl) rfl) hseq (fun h k => KpG_t h k) (KpG_b (by have := hB1.size; omega)) (Below.refl _ _) (fun _ => rfl)
    (fun pre W => (W.cell? ⟨w1.heap.size + 1 + 1, 0, none⟩ = some (.map (some (w1.heap.size + 1))) ∧ W.ownsMap Try.prog 3 (plainElem (H := Unit) Try.prog 4) (w1.heap.size + 1) pre.length (setD (valsOf a0 l1 pre))) ∧ Below w.heap.size w W)
    (fun _ _ _ => False)
    (OwnFrom.and (fun s A B row hs hg hr => ⟨cell_kept hs.1 hg (fun r e => (hr r e).2), hs.2.kept hg (fun e => by have := (hr _ e.symm).1; omega)⟩) (ownFrom_below (Nat.le_refl _) (by omega)))
    (fun _ _ _ _ _ hs _ _ => hs)
    ⟨⟨bS1.cell, hm1⟩, hB1⟩ ?a1 ?assign ?body ?done ?stop
  case assign =>
    intro l x W K hK
    gi_wp2
    exact hK
  case body =>
    rintro l pre x W ⟨⟨hc, hown⟩, hB⟩ hlt
    have hwf : (Lit.int .i64 (valB a0 x.1 l1)).wf = true := by
      have := valB_bound a0 x.1 l1 HE.out l1.length (Nat.le_refl _)
      rw [List.take_length] at this
      have e1 : IntKind.i64.min = -9223372036854775808 := rfl
      have e2 : IntKind.i64.max = 9223372036854775807 := rfl
      simp only [Lit.wf, e1, e2, Bool.and_eq_true, decide_eq_true_eq]
      omega
    have hkey := Maps.keyOf_int_mk Try.underlying3 hwf
    have HPUT := Lib.hid (setD_put (valB a0 x.1 l1) (valsOf a0 l1 pre) (valsOf_rising a0 l1 pre))
    have HSN := Lib.hid (valsOf_snoc a0 l1 pre x)
    gi_wp2_with (gi_at_mapUpdate; refine wpListIn_mapUpdate_own _ rfl _ _ _ 131 rfl 3 4 (Maps.int_keyed Try.underlying3) under131 _ (w1.heap.size + 1) pre.length _ rfl hown (by unfold maxLen; omega) _ _ _ rfl rfl hkey _ [] (plainElem_bool Try.underlying4 true) ?_; intro w2 hown1 hgrow1)
    obtain ⟨es, ck, hh, _⟩ := hown
    have hBW : Below w.heap.size W w2 := (Below.refl _ W).grown hgrow1 hB.size (fun k e => by cases e; omega)
    exact ⟨KeepsFrom.of_grownBy hgrow1 (fun j e => by cases e; omega), ⟨hBW, fun k hk o ho _ => (hgrow1.block k (Array.getElem?_eq_some_iff.1 ho).1 (fun e => by cases e; omega)).trans ho⟩,
      ⟨cell_kept hc hgrow1 (fun r e => by cases e; exact ⟨_, hh, rfl⟩), by rw [HSN.out, List.length_append, ← HPUT.out]; exact hown1⟩, hB.trans hBW⟩
  case done =>
    rintro D ys W hD rfl ⟨⟨hc, hown⟩, hB⟩ hK
    have hbl := hown.lt
    have hseq2 : SeqGives Fence.wide 2 Try.prog 123 #[.pointer (some ⟨W.heap.size, 0, none⟩)] encZ (fun ss => ss.Perm (intKeys (setD (valsOf a0 l1 (sidesUpTo (properB a0) P))))) (Maps.size (setD (valsOf a0 l1 (sidesUpTo (properB a0) P)))) (W.alloc (.cells #[.map (some (w1.heap.size + 1))] 131)) :=
      AnyZI.keys_gives (ρ := Vals.keysA_ren) { Vals.keysA with } Fence.wide _ trivial rfl (by omega) W.heap.size (w1.heap.size + 1) _ _ _ (by simp) (by simp) (by
        obtain ⟨es, clock, hb, Ft, hs, hD⟩ := hown
        exact ⟨es, clock, (Below.heap_alloc _ _ _ hbl).trans hb, Ft, hs, hD⟩)
    have hsz : (valsOf a0 l1 (sidesUpTo (properB a0) P)).length ≤ 4096 := Nat.le_trans (valsOf_length _ _ _) (Nat.le_trans (sidesUpTo_length _ _) hp)
    have cK : ∀ mb W, CallsIn Fence.wide 5 Try.prog 95 #[.map mb] W fun e w' => e = .returned (.func (.func 123) #[] #[.pointer (some ⟨W.heap.size, 0, none⟩)]) ∧ w' = W.alloc (.cells #[.map mb] 131) := fun mb W => AnyZI.keys_in Vals.keysA Fence.wide 5 trivial rfl mb W
    have cS := AnyZI.sorted_in Vals.sortedA Fence.wide 5 trivial trivial trivial trivial rfl (by omega) (Vals.sortsA _) (enters_of Try.func122 (by kernel_rfl) rfl) 123 #[.pointer (some ⟨W.heap.size, 0, none⟩)] trivial (enters_of Try.func123 (by kernel_rfl) rfl) _ _ (by rw [setD_size]; unfold maxLen; omega) (by rw [setD_size]; omega) _ hseq2
    change CallsIn _ _ Try.prog 94 _ _ _ at cS
    have hfK : Fence.wide.fn 95 := trivial
    have hfS : Fence.wide.fn 94 := trivial
    gi_wp2_with (first
      | (gi_at_call 95; refine (cK _ _).mono ?_; rintro e w' ⟨rfl, rfl⟩)
      | (gi_at_call 94; refine cS.mono ?_; rintro e w' ⟨v, ss, rfl, hS, hrow, hnil, hb⟩))
    rw [setD_keys] at hS
    have hvv : ss.mergeSort (fun x y => decide (x ≤ y)) = valsOf a0 l1 (sidesUpTo (properB a0) P) := (mergeSort_of_perm_i hS).trans (sort_rising _ (valsOf_rising _ _ _))
    rw [hvv, hS.length_eq] at hrow
    have hDl := (Array.getElem?_eq_some_iff.1 hK).1
    have hK' : w'.heap[D]? = some (.deferred (some [])) := (hb.block D (by simp; omega)).trans ((Below.heap_alloc _ _ _ hDl).trans hK)
    have hrow1 : w'.ownsRow w.heap.size 3 1 v (valsOf a0 l1 (sidesUpTo (properB a0) P)).length (encs (Value.int .i64) (valsOf a0 l1 (sidesUpTo (properB a0) P))) := ownsRow_base_a hrow (by have := hB.size; simp; omega)
    have hne : v.ownBlock ≠ some D := fun e => by have := own_base hrow D e; simp at this; omega
    have hBw : Below w.heap.size w w' := hB.trans ((Below.alloc (Below.refl w.heap.size W) hB.size (.cells #[.map (some (w1.heap.size + 1))] 131)).trans (hb.mono (by have := hB.size; simp; omega)))
    refine ⟨by simp, .inl ⟨_, _, rfl, run_takeDeferred hK', ?_⟩⟩
    exact ⟨_, results_tmp2 rfl _ _ _, v, rfl, Kd.R_of_own (hrow1.kept (grownBy_putObj' _ D _) (.inr hne)) (fun _ _ => trivial), hBw.trans (belowK_b (w := w) (Nat.le_refl _) w' D _ _ (by have := hB1.size; omega) hK' rfl rfl)⟩
  case stop =>
    rintro D c pre W _ _ h _
    exact h.elim


set_option maxHeartbeats 1000000 in
theorem belt_Values.calls (a0 : Int) (A1 : Option Addr) (c1 : Nat) (l1 : List S49) (r1 : List Int) (r2 : Int) (w : World) (hr1 : Kd.C k49 w A1 l1.length l1) (hc1 : l1.length ≤ c1) (h : belt_Values.f a0 l1 = some (r1, r2)) :
    Calls Try.prog 61 #[.int .i64 a0, .slice A1 l1.length c1] w fun e w' => ∃ v0_ : Value, e = .returned (.tuple #[v0_, .int .i64 r2]) ∧ Kd.R (Kd.int .i64) 3 w' w.heap.size (fun _ => True) v0_ r1 ∧ Below w.heap.size w w' := by
  cases hg : graphOk a0 l1
  · have HC := Lib.hid hr1
    have HF := Lib.hid h
    have HG := Lib.hid hg
    clear hg hr1 h
    go_enter Try.func61, Try.ntmps61
    go_wp2_with (go_at_call 64; refine (newGraph_any a0 A1 c1 l1 _ HC.out).mono ?_; rintro e w1 ⟨rfl, hb, _⟩; have hg := HG.out)
    go_ret2
    have e1 := HF.out
    rw [belt_Values.f, HG.out] at e1
    simp only [Bool.false_eq_true, if_false, Option.some.injEq, Prod.mk.injEq] at e1
    obtain ⟨rfl, rfl⟩ := e1
    exact ⟨_, rfl, Kd.R_nil _ _ _ _ _, below_alloc hb _⟩
  · rw [belt_Values.f, hg] at h
    simp only [if_true, Option.some.injEq, Prod.mk.injEq] at h
    obtain ⟨rfl, rfl⟩ := h
    exact values_yes a0 A1 c1 l1 w hr1 hg

end Go.Proofs.Ytkefmlhkejoknaa.L
