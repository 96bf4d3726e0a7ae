import Derived.Test.YtkjojcepombhpaaXBase
import Derived.Laws.Tables
import Derived.Laws.CopyRow
import Derived.Test.YtkjojcepombhpaaM3

/- The walk of (rule).newCourse. -/
namespace Go.Proofs.Ytkjojcepombhpaa.L
set_option linter.unusedVariables false
set_option linter.unusedSimpArgs false
open Go.RowKit Go.Shelf Go.Proofs.YtkjojcepombhpaaW.PrintWords Go.Proofs.YtkjojcepombhpaaW.PrintLast Go.Proofs.YtkjojcepombhpaaW.PrintMore

/-- A course as a value: its length, its twelve numbers. -/
def cC (n : Int) (L : List Int) : Array Value := (Value.int .i64 n :: L.map (Value.int .i64)).toArray
abbrev cV (n : Int) (L : List Int) : Value := .agg (cC n L)
theorem cC_size (n : Int) (L : List Int) (hL : L.length = 12) : (cC n L).size = 13 := by simp [cC, hL]
theorem cC_zero (n : Int) (L : List Int) : (cC n L)[0]? = some (.int .i64 n) := by simp [cC]
theorem cC_at (n : Int) (L : List Int) (i : Nat) (hi : i < L.length) : (cC n L)[1 + i]? = some (.int .i64 (rd L (i : Int))) := by
  have : 1 + i = i + 1 := by omega
  simp [cC, this, hi, rd, List.getElem?_eq_getElem hi]
/-- A course's numbers, filled up. -/
def padL (l : List Int) : List Int := l ++ List.replicate (12 - l.length) 0
theorem padL_length (l : List Int) (h : l.length ≤ 12) : (padL l).length = 12 := by simp [padL]; omega
def inCourse (m : Int) (k : Int) : Bool := inB k 0 (m - 1)
def courseB (m : Int) (l : List Int) : Bool := decide (l.length ≤ 12) && l.all (inCourse m)

set_option maxHeartbeats 1000000 in
theorem newCourse1_any (m k : Int) (tv pv : Value) (g : Nat) (w : World) (hm : 2 ≤ m ∧ m ≤ 6) (hg : Whole w g 75 #[.int .i64 m, tv, pv]) :
    Calls Try.prog 89 #[.int .i64 k, .pointer (some ⟨g, 0, none⟩)] w fun e w' => e = .returned (.bool (!inCourse m k)) ∧ w = w' := by
  have g0 := hg.cell 0
  simp only [List.getElem?_toArray, List.getElem?_cons_zero] at g0
  have hlt := hg.lt
  clear hg
  go_enter Try.func89, Try.ntmps89
  go_wp2_with (go_at_call 60; refine (within_any _ _ _ _).mono ?_; rintro e w' ⟨rfl, rfl⟩)
  go_ret
  exact ⟨rfl, rfl⟩

theorem any_upTo (pb : Int → Bool) (l : List Int) (h : ∀ i, i < l.length → pb (rd l (i : Int)) = false) : l.any pb = false := by
  rw [List.any_eq_false]
  intro x hx
  obtain ⟨i, hi, rfl⟩ := List.getElem_of_mem hx
  have := h i hi
  simp [rd, List.getElem?_eq_getElem hi] at this
  simp [this]
theorem any_at (pb : Int → Bool) (l : List Int) (i : Nat) (hi : i < l.length) (h : pb (rd l (i : Int)) = true) : l.any pb = true := by
  rw [List.any_eq_true]
  refine ⟨l[i], List.getElem_mem hi, ?_⟩
  simpa [rd, List.getElem?_eq_getElem hi] using h

set_option maxHeartbeats 2000000 in
theorem index1_any (m : Int) (tv pv : Value) (g : Nat) (A : Option Addr) (c : Nat) (l : List Int) (w : World) (hm : 2 ≤ m ∧ m ≤ 6) (hl : l.length ≤ 12) (hC : Kd.C (Kd.int .i64) w A l.length l) (hg : Whole w g 75 #[.int .i64 m, tv, pv]) :
    Calls Try.prog 90 #[.slice A l.length c, .func (.func 89) #[] #[.pointer (some ⟨g, 0, none⟩)]] w fun e w' => (∃ r : Int, e = .returned (.int .i64 r) ∧ decide (0 ≤ r) = l.any (fun k => !inCourse m k)) ∧ w = w' := by
  have HC := Lib.hid hC
  have HG := Lib.hid hg
  clear hC hg
  go_enter Try.func90, Try.ntmps90
  go_wp2
  go_loopw [8] (fun i wr => ∃ k : Nat, k ≤ l.length ∧ i = .int .i64 k ∧ w = wr ∧ Hid (∀ j, j < k → (!inCourse m (rd l (j : Int))) = false)) (fun i _ => l.length - (intOf i).toNat)
  case atStart => exact ⟨0, Nat.zero_le _, rfl, rfl, Lib.hid (by omega)⟩
  case round =>
    obtain ⟨k, hk, rfl, rfl, HN⟩ := hrel
    by_cases hlt : k < l.length
    · obtain ⟨ad, rfl, hc0⟩ := Kd.at_int HC.out (k : Int) (by omega) (by omega)
      simp only [Int.toNat_natCast] at hc0
      have hno := HN.out
      have hmore : ∀ b, (!inCourse m (rd l (k : Int))) = b → b = false → ∀ j, j < k + 1 → (!inCourse m (rd l (j : Int))) = false := by
        intro b h1 h2 j hj
        by_cases e : j = k
        · subst e; rw [h1, h2]
        · exact hno j (by omega)
      have hend : ∀ b, (!inCourse m (rd l (k : Int))) = b → b = true → l.any (fun k => !inCourse m k) = true := fun b h1 h2 => any_at _ l k hlt (by rw [h1, h2])
      have hcall := newCourse1_any m (rd l (k : Int)) tv pv g w hm HG.out
      generalize (!inCourse m (rd l (k : Int))) = q at hcall hmore hend
      generalize rd l (k : Int) = x at hc0 hcall
      have HCALL := Lib.hid hcall
      have HMO := Lib.hid (hmore q rfl)
      have HEN := Lib.hid (hend q rfl)
      clear hcall hno hmore hend
      cases q
      · go_wp2_with (go_at_call 89; refine HCALL.out.mono ?_; rintro e w2 ⟨rfl, rfl⟩)
        exact ⟨⟨k + 1, by omega, by go_num, trivial, Lib.hid (HMO.out (by trivial))⟩, by simp [intOf]; omega⟩
      · go_wp2_with (go_at_call 89; refine HCALL.out.mono ?_; rintro e w2 ⟨rfl, rfl⟩)
        exact bodyPost_ret (v := .int .i64 (k : Int)) (by simp [results, Try.results90, go_sem]) rfl ⟨⟨k, rfl, by rw [HEN.out (by trivial)]; simp⟩, rfl⟩
    · obtain rfl : k = l.length := by omega
      have HX := Lib.hid (any_upTo (fun k => !inCourse m k) l HN.out)
      clear HN
      go_wp2
      exact bodyPost_ret (v := .int .i64 (-1)) (by simp [results, Try.results90, go_sem]) rfl ⟨⟨-1, rfl, by rw [HX.out]; rfl⟩, rfl⟩
theorem contains1_any (m : Int) (tv pv : Value) (g : Nat) (A : Option Addr) (c : Nat) (l : List Int) (w : World) (hm : 2 ≤ m ∧ m ≤ 6) (hl : l.length ≤ 12) (hC : Kd.C (Kd.int .i64) w A l.length l) (hg : Whole w g 75 #[.int .i64 m, tv, pv]) :
    Calls Try.prog 77 #[.slice A l.length c, .func (.func 89) #[] #[.pointer (some ⟨g, 0, none⟩)]] w fun e w' => e = .returned (.bool (l.any (fun k => !inCourse m k))) ∧ w = w' := by
  have HI := Lib.hid (index1_any m tv pv g A c l w hm hl hC hg)
  clear hC hg
  generalize l.any (fun k => !inCourse m k) = q at HI
  go_enter Try.func77, Try.ntmps77
  go_wp2_with (go_at_call 90; refine HI.out.mono ?_; rintro e w2 ⟨⟨r, rfl, hr⟩, rfl⟩)
  go_ret
  exact ⟨by rw [← hr]; rfl, rfl⟩

theorem twelve (L : List Int) (h : L.length = 12) : ∃ a0 a1 a2 a3 a4 a5 a6 a7 a8 a9 a10 a11 : Int, L = [a0, a1, a2, a3, a4, a5, a6, a7, a8, a9, a10, a11] := by
  match L, h with
  | [a0, a1, a2, a3, a4, a5, a6, a7, a8, a9, a10, a11], _ => exact ⟨_, _, _, _, _, _, _, _, _, _, _, _, rfl⟩
/-- A course as a value, its twelve numbers written out. -/
abbrev cE (n a0 a1 a2 a3 a4 a5 a6 a7 a8 a9 a10 a11 : Int) : Value := .agg #[.int .i64 n, .int .i64 a0, .int .i64 a1, .int .i64 a2, .int .i64 a3, .int .i64 a4, .int .i64 a5, .int .i64 a6, .int .i64 a7, .int .i64 a8, .int .i64 a9, .int .i64 a10, .int .i64 a11]

theorem bad_course {m : Int} {l : List Int} (h : l.any (fun k => !inCourse m k) = true) : courseB m l = false := by
  simp only [courseB, Bool.and_eq_false_iff]
  right
  rw [List.any_eq_true] at h
  obtain ⟨x, hx, hb⟩ := h
  rw [List.all_eq_false]
  exact ⟨x, hx, by simpa using hb⟩
set_option maxRecDepth 100000 in
set_option maxHeartbeats 4000000 in
theorem newCourse_no (m : Int) (tv pv : Value) (A : Option Addr) (c : Nat) (l : List Int) (w : World) (ht : tv.oneCell' = true) (hp : pv.oneCell' = true) (hm : 2 ≤ m ∧ m ≤ 6) (hC : Kd.C (Kd.int .i64) w A l.length l) (hb : courseB m l = false) :
    Calls Try.prog 72 #[rv m tv pv, .slice A l.length c] w fun e w' => e = .returned (.tuple #[.agg #[.int .i64 l.length, .int .i64 0, .int .i64 0, .int .i64 0, .int .i64 0, .int .i64 0, .int .i64 0, .int .i64 0, .int .i64 0, .int .i64 0, .int .i64 0, .int .i64 0, .int .i64 0], .bool false]) ∧ Below w.heap.size w w' := by
  have HC := Lib.hid hC
  clear hC
  by_cases hl : l.length ≤ 12
  case neg =>
    clear hb
    have hgt : (12 : Int) < (l.length : Int) := by omega
    go_enter Try.func72, Try.ntmps72
    go_wp2
    exact bodyPost_ret (v := .tuple #[.agg #[.int .i64 l.length, .int .i64 0, .int .i64 0, .int .i64 0, .int .i64 0, .int .i64 0, .int .i64 0, .int .i64 0, .int .i64 0, .int .i64 0, .int .i64 0, .int .i64 0, .int .i64 0], .bool false]) (by simp [results, Try.results72, go_sem]) rfl ⟨rfl, below_alloc (below_alloc (below_alloc (Below.refl _ _) _) _) _⟩
  · have hgt : ¬ (12 : Int) < (l.length : Int) := by omega
    have ha : l.any (fun k => !inCourse m k) = true := by
      simp only [courseB, decide_eq_true hl, Bool.true_and, List.all_eq_false] at hb
      obtain ⟨x, hx, hq⟩ := hb
      rw [List.any_eq_true]
      exact ⟨x, hx, by simpa using hq⟩
    have e0 := ((Whole.new w 75 #[.int .i64 m, tv, pv]).alloc (.cells #[.int .i64 0, .int .i64 0, .int .i64 0, .int .i64 0, .int .i64 0, .int .i64 0, .int .i64 0, .int .i64 0, .int .i64 0, .int .i64 0, .int .i64 0, .int .i64 0, .int .i64 0] 89)).alloc (.cells #[.int .i64 l.length, .int .i64 0, .int .i64 0, .int .i64 0, .int .i64 0, .int .i64 0, .int .i64 0, .int .i64 0, .int .i64 0, .int .i64 0, .int .i64 0, .int .i64 0, .int .i64 0] 89)
    have B0 := below_alloc (below_alloc (below_alloc (Below.refl w.heap.size w) (rbox m tv pv)) (.cells #[.int .i64 0, .int .i64 0, .int .i64 0, .int .i64 0, .int .i64 0, .int .i64 0, .int .i64 0, .int .i64 0, .int .i64 0, .int .i64 0, .int .i64 0, .int .i64 0, .int .i64 0] 89)) (.cells #[.int .i64 l.length, .int .i64 0, .int .i64 0, .int .i64 0, .int .i64 0, .int .i64 0, .int .i64 0, .int .i64 0, .int .i64 0, .int .i64 0, .int .i64 0, .int .i64 0, .int .i64 0] 89)
    have HK := Lib.hid (contains1_any m tv pv w.heap.size A c l _ hm hl (Kd.C_below HC.out B0) e0)
    rw [ha] at HK
    clear e0 B0 ha hb
    go_enter Try.func72, Try.ntmps72
    go_wp2_with (go_at_call 77; refine HK.out.mono ?_; rintro e w2 ⟨rfl, rfl⟩)
    exact bodyPost_ret (v := .tuple #[.agg #[.int .i64 l.length, .int .i64 0, .int .i64 0, .int .i64 0, .int .i64 0, .int .i64 0, .int .i64 0, .int .i64 0, .int .i64 0, .int .i64 0, .int .i64 0, .int .i64 0, .int .i64 0], .bool false]) (by simp [results, Try.results72, go_sem]) rfl ⟨rfl, below_alloc (below_alloc (below_alloc (Below.refl _ _) _) _) _⟩

theorem alloc_setRow (W : World) (cs cs' : Array Value) (t : TypeId) : (W.alloc (.cells cs t)).setRow W.heap.size cs' = W.alloc (.cells cs' t) := by
  unfold World.setRow World.alloc
  congr 1
  apply Array.ext_getElem?
  intro i
  rw [Array.getElem?_modify]
  simp only [Array.getElem?_push]
  by_cases h : W.heap.size = i
  · subst h; simp
  · rw [if_neg h]
    rw [if_neg (Ne.symm h), if_neg (Ne.symm h)]
theorem copy_course (W : World) (A : Option Addr) (c : Nat) (l : List Int) (n : Int) (hl : l.length ≤ 12) (hC : Kd.C (Kd.int .i64) (W.alloc (.cells #[.int .i64 n, .int .i64 0, .int .i64 0, .int .i64 0, .int .i64 0, .int .i64 0, .int .i64 0, .int .i64 0, .int .i64 0, .int .i64 0, .int .i64 0, .int .i64 0, .int .i64 0] 89)) A l.length l) (a0 a1 a2 a3 a4 a5 a6 a7 a8 a9 a10 a11 : Int) (hL : padL l = [a0, a1, a2, a3, a4, a5, a6, a7, a8, a9, a10, a11]) :
    (Builtin.copy_ #[22, 22] 3 #[.slice (some ⟨W.heap.size, 1, none⟩) 12 12, .slice A l.length c]).run Try.prog (W.alloc (.cells #[.int .i64 n, .int .i64 0, .int .i64 0, .int .i64 0, .int .i64 0, .int .i64 0, .int .i64 0, .int .i64 0, .int .i64 0, .int .i64 0, .int .i64 0, .int .i64 0, .int .i64 0] 89)) = .ok (.int .i64 l.length) (W.alloc (.cells #[.int .i64 n, .int .i64 a0, .int .i64 a1, .int .i64 a2, .int .i64 a3, .int .i64 a4, .int .i64 a5, .int .i64 a6, .int .i64 a7, .int .i64 a8, .int .i64 a9, .int .i64 a10, .int .i64 a11] 89)) := by
  have hs : (Try.prog.info? 3).map (·.size) = some 1 := by kernel_rfl
  have hg := World.alloc_heap_new W (.cells #[.int .i64 n, .int .i64 0, .int .i64 0, .int .i64 0, .int .i64 0, .int .i64 0, .int .i64 0, .int .i64 0, .int .i64 0, .int .i64 0, .int .i64 0, .int .i64 0, .int .i64 0] 89)
  have hpad : (#[Value.int .i64 n, .int .i64 0, .int .i64 0, .int .i64 0, .int .i64 0, .int .i64 0, .int .i64 0, .int .i64 0, .int .i64 0, .int .i64 0, .int .i64 0, .int .i64 0, .int .i64 0].toList.take 1 ++ l.map (Value.int .i64) ++ #[Value.int .i64 n, .int .i64 0, .int .i64 0, .int .i64 0, .int .i64 0, .int .i64 0, .int .i64 0, .int .i64 0, .int .i64 0, .int .i64 0, .int .i64 0, .int .i64 0, .int .i64 0].toList.drop (1 + l.length)).toArray = #[.int .i64 n, .int .i64 a0, .int .i64 a1, .int .i64 a2, .int .i64 a3, .int .i64 a4, .int .i64 a5, .int .i64 a6, .int .i64 a7, .int .i64 a8, .int .i64 a9, .int .i64 a10, .int .i64 a11] := by
    have e : l.map (Value.int .i64) ++ (List.replicate (12 - l.length) (Value.int .i64 0)) = [.int .i64 a0, .int .i64 a1, .int .i64 a2, .int .i64 a3, .int .i64 a4, .int .i64 a5, .int .i64 a6, .int .i64 a7, .int .i64 a8, .int .i64 a9, .int .i64 a10, .int .i64 a11] := by
      have := congrArg (List.map (Value.int .i64)) hL
      simpa [padL] using this
    have e2 : [Value.int .i64 n, .int .i64 0, .int .i64 0, .int .i64 0, .int .i64 0, .int .i64 0, .int .i64 0, .int .i64 0, .int .i64 0, .int .i64 0, .int .i64 0, .int .i64 0, .int .i64 0].drop (1 + l.length) = List.replicate (12 - l.length) (Value.int .i64 0) := by
      rw [Nat.add_comm, List.drop_succ_cons]
      show (List.replicate 12 (Value.int .i64 0)).drop l.length = _
      rw [List.drop_replicate]
    simp only [List.take_succ_cons, List.take_zero]
    rw [e2, List.append_assoc, e]
    rfl
  cases A with
  | none =>
    have hnil : l = [] := by
      cases l with
      | nil => rfl
      | cons x l =>
        obtain ⟨ad, had, _⟩ := Kd.at_int hC 0 (by omega) (by simp)
        cases had
    subst hnil
    have hp0 : #[Value.int .i64 n, .int .i64 0, .int .i64 0, .int .i64 0, .int .i64 0, .int .i64 0, .int .i64 0, .int .i64 0, .int .i64 0, .int .i64 0, .int .i64 0, .int .i64 0, .int .i64 0] = #[.int .i64 n, .int .i64 a0, .int .i64 a1, .int .i64 a2, .int .i64 a3, .int .i64 a4, .int .i64 a5, .int .i64 a6, .int .i64 a7, .int .i64 a8, .int .i64 a9, .int .i64 a10, .int .i64 a11] := by simpa using hpad
    rw [← hp0]
    cases hq : Try.prog.info? 3 with
    | none => simp [hq] at hs
    | some i => simp [Builtin.copy_, run_underlying Try.underlying22, Builtin.lenOf, Builtin.firstCells, sizeOf, typeInfo, hq, storeCells, goInt, loadCells]
  | some ad =>
    have h := run_copy_row (P := Try.prog) (W.alloc (.cells #[.int .i64 n, .int .i64 0, .int .i64 0, .int .i64 0, .int .i64 0, .int .i64 0, .int .i64 0, .int .i64 0, .int .i64 0, .int .i64 0, .int .i64 0, .int .i64 0, .int .i64 0] 89)) 22 22 3 3 W.heap.size 1 12 12 ad l.length c _ 89 (l.map (Value.int .i64)) Try.underlying22 hs hg (by rw [List.length_map]; exact (Nat.min_eq_left hl).symm) ?_ (by simp; omega) (by intro v hv; rw [List.mem_map] at hv; obtain ⟨y, _, rfl⟩ := hv; rfl)
    · rw [List.length_map, hpad, alloc_setRow] at h
      exact h
    · intro j v hv
      rw [List.getElem?_map, Option.map_eq_some_iff] at hv
      obtain ⟨y, hy, rfl⟩ := hv
      have hj := (List.getElem?_eq_some_iff.1 hy).1
      obtain ⟨ad', had, hx⟩ := Kd.at_int hC (j : Int) (by omega) (by omega)
      cases had
      rw [Int.toNat_natCast] at hx
      rw [hx]
      simp [rd, hy]

set_option maxRecDepth 100000 in
set_option maxHeartbeats 4000000 in
theorem newCourse_yes (m : Int) (tv pv : Value) (A : Option Addr) (c : Nat) (l : List Int) (w : World) (ht : tv.oneCell' = true) (hp : pv.oneCell' = true) (hm : 2 ≤ m ∧ m ≤ 6) (hC : Kd.C (Kd.int .i64) w A l.length l) (hb : courseB m l = true) (a0 a1 a2 a3 a4 a5 a6 a7 a8 a9 a10 a11 : Int) (hL : padL l = [a0, a1, a2, a3, a4, a5, a6, a7, a8, a9, a10, a11]) :
    Calls Try.prog 72 #[rv m tv pv, .slice A l.length c] w fun e w' => e = .returned (.tuple #[cE l.length a0 a1 a2 a3 a4 a5 a6 a7 a8 a9 a10 a11, .bool true]) ∧ Below w.heap.size w w' := by
  have HC := Lib.hid hC
  have HL := Lib.hid hL
  clear hC hL
  simp only [courseB, Bool.and_eq_true, decide_eq_true_eq] at hb
  obtain ⟨hl, hall⟩ := hb
  have hgt : ¬ (12 : Int) < (l.length : Int) := by omega
  have ha : l.any (fun k => !inCourse m k) = false := by
    rw [List.any_eq_false]
    intro x hx
    rw [List.all_eq_true] at hall
    simp [hall x hx]
  have e0 := ((Whole.new w 75 #[.int .i64 m, tv, pv]).alloc (.cells #[.int .i64 0, .int .i64 0, .int .i64 0, .int .i64 0, .int .i64 0, .int .i64 0, .int .i64 0, .int .i64 0, .int .i64 0, .int .i64 0, .int .i64 0, .int .i64 0, .int .i64 0] 89)).alloc (.cells #[.int .i64 l.length, .int .i64 0, .int .i64 0, .int .i64 0, .int .i64 0, .int .i64 0, .int .i64 0, .int .i64 0, .int .i64 0, .int .i64 0, .int .i64 0, .int .i64 0, .int .i64 0] 89)
  have B0 := below_alloc (below_alloc (below_alloc (Below.refl w.heap.size w) (rbox m tv pv)) (.cells #[.int .i64 0, .int .i64 0, .int .i64 0, .int .i64 0, .int .i64 0, .int .i64 0, .int .i64 0, .int .i64 0, .int .i64 0, .int .i64 0, .int .i64 0, .int .i64 0, .int .i64 0] 89)) (.cells #[.int .i64 l.length, .int .i64 0, .int .i64 0, .int .i64 0, .int .i64 0, .int .i64 0, .int .i64 0, .int .i64 0, .int .i64 0, .int .i64 0, .int .i64 0, .int .i64 0, .int .i64 0] 89)
  have HK := Lib.hid (contains1_any m tv pv w.heap.size A c l _ hm hl (Kd.C_below HC.out B0) e0)
  rw [ha] at HK
  have hcopy := copy_course ((w.alloc (rbox m tv pv)).alloc (.cells #[.int .i64 0, .int .i64 0, .int .i64 0, .int .i64 0, .int .i64 0, .int .i64 0, .int .i64 0, .int .i64 0, .int .i64 0, .int .i64 0, .int .i64 0, .int .i64 0, .int .i64 0] 89)) A c l l.length hl (Kd.C_below HC.out B0) a0 a1 a2 a3 a4 a5 a6 a7 a8 a9 a10 a11 HL.out
  simp only [World.size_alloc] at hcopy
  clear e0 B0 ha hall
  go_enter Try.func72, Try.ntmps72
  go_wp2_with (go_at_call 77; refine HK.out.mono ?_; rintro e w2 ⟨rfl, rfl⟩)
  exact bodyPost_ret (v := .tuple #[cE l.length a0 a1 a2 a3 a4 a5 a6 a7 a8 a9 a10 a11, .bool true]) (by simp [results, Try.results72, go_sem]) rfl ⟨rfl, below_alloc (below_alloc (below_alloc (Below.refl _ _) _) _) _⟩
end Go.Proofs.Ytkjojcepombhpaa.L

/- The walk of (rule).form. -/
namespace Go.Proofs.Ytkjojcepombhpaa.L
set_option linter.unusedVariables false
set_option linter.unusedSimpArgs false
open Go.RowKit Go.Shelf Go.Proofs.YtkjojcepombhpaaW.PrintWords Go.Proofs.YtkjojcepombhpaaW.PrintLast Go.Proofs.YtkjojcepombhpaaW.PrintMore

theorem slice_course (g n : Nat) (W : World) (hn : n ≤ 12) : (Instr.sliceAt 87 (.pointer (some ⟨g, 1, none⟩)) none (some (.int .i64 (n : Int))) none).run Try.prog W = .ok (.slice (some ⟨g, 1, none⟩) n 12) W := by
  have ht : Try.prog.underlying 87 = some (.array (Try.prog.arrayLen 87) (Try.prog.elem 87)) := by kernel_rfl
  have hal : Try.prog.arrayLen 87 = 12 := by kernel_rfl
  have hel : Try.prog.elem 87 = 3 := by kernel_rfl
  have hs : (sizeOf 3).run Try.prog W = .ok 1 W := by kernel_rfl
  rw [run_sliceAt_array_h W 87 _ ht .i64 n (by omega) (by rw [hal]; omega), hal, hel, hs]
  simp [slicedAt, Result.andThen, Addr.add]

section
attribute [local go_sem] max2_int min2_int max_two min_two
set_option maxRecDepth 100000 in
set_option maxHeartbeats 4000000 in
theorem form_any (m : Int) (A1 A2 : Option Addr) (c1 c2 : Nat) (t p : List Int) (n : Nat) (a0 a1 a2 a3 a4 a5 a6 a7 a8 a9 a10 a11 : Int) (w : World) (hR : RuleIs m t p) (hn : n ≤ 12) (hcr : CourseIs m ([a0, a1, a2, a3, a4, a5, a6, a7, a8, a9, a10, a11].take n)) (h1 : Kd.C (Kd.int .i64) w A1 t.length t) (h2 : Kd.C (Kd.int .i64) w A2 p.length p) (ra rb rd' : Int) (hf : formW m t p ([a0, a1, a2, a3, a4, a5, a6, a7, a8, a9, a10, a11].take n) = (ra, rb, rd')) :
    Calls Try.prog 65 #[rv m (.slice A1 t.length c1) (.slice A2 p.length c2), cE n a0 a1 a2 a3 a4 a5 a6 a7 a8 a9 a10 a11] w fun e w' => e = .returned (.tuple #[.int .i64 ra, .int .i64 rb, .int .i64 rd', .bool true]) ∧ Below w.heap.size w w' := by
  obtain ⟨L, hL⟩ : ∃ L : List Int, [a0, a1, a2, a3, a4, a5, a6, a7, a8, a9, a10, a11] = L := ⟨_, rfl⟩
  have hlen : L.length = 12 := by rw [← hL]; rfl
  have hcell : #[.int .i64 (n : Int), .int .i64 a0, .int .i64 a1, .int .i64 a2, .int .i64 a3, .int .i64 a4, .int .i64 a5, .int .i64 a6, .int .i64 a7, .int .i64 a8, .int .i64 a9, .int .i64 a10, .int .i64 a11] = cC n L := by rw [← hL]; rfl
  rw [hL] at hf hcr
  have HA := Lib.hid h1
  have HB := Lib.hid h2
  have HF := Lib.hid hf
  have HR := Lib.hid hR
  have HC := Lib.hid hcr
  have m2 := hR.m2
  have m6 := hR.m6
  have tl := hR.tl
  have pl := hR.pl
  have g1 := (Whole.new w 75 #[.int .i64 m, .slice A1 t.length c1, .slice A2 p.length c2]).alloc (.cells (cC n L) 89)
  have g2 := Whole.new (w.alloc (rbox m (.slice A1 t.length c1) (.slice A2 p.length c2))) 89 (cC n L)
  rw [World.size_alloc] at g2
  have G1 := Lib.hid g1
  have G2 := Lib.hid g2
  have HCE := Lib.hid hcell
  clear h1 h2 hf hR hcr hL g1 g2 hcell
  have hsl := fun W : World => slice_course (w.heap.size + 1) n W hn
  go_enter Try.func65, Try.ntmps65
  go_wp2
  go_loopw [8, 9, 10, 19] (fun a b d i wr => ∃ k : Nat, k ≤ n ∧ i = .int .i64 k ∧ a = .int .i64 (formW m t p (L.take k)).1 ∧ b = .int .i64 (formW m t p (L.take k)).2.1 ∧ d = .int .i64 (formW m t p (L.take k)).2.2 ∧ Below w.heap.size w wr ∧ Whole wr w.heap.size 75 #[.int .i64 m, .slice A1 t.length c1, .slice A2 p.length c2] ∧ Whole wr (w.heap.size + 1) 89 (cC n L)) (fun _ _ _ i _ => n - (intOf i).toNat)
  case atStart =>
    refine ⟨0, Nat.zero_le _, rfl, by simp [formW], by simp [formW], by simp [formW], below_alloc (below_alloc (Below.refl _ _) _) _, ?_, ?_⟩
    · rw [HCE.out]; exact G1.out
    · rw [HCE.out]; exact G2.out
  case round =>
    obtain ⟨k, hk, rfl, rfl, rfl, rfl, hB, hG, hH⟩ := hrel
    have hg0 := hG.cell 0
    have hg1 := hG.cell 1
    have hg2 := hG.cell 2
    simp only [List.getElem?_toArray, List.getElem?_cons_zero, List.getElem?_cons_succ] at hg0 hg1 hg2
    have hlt1 := hG.lt
    have hlt2 := hH.lt
    have HB3 := Lib.hid hB
    have hfin := formIn HR.out (HC.out.take k)
    have hmin : ((L.take n).take k).length = k := by rw [List.length_take, List.length_take, hlen]; omega
    have htk : (L.take n).take k = L.take k := by rw [List.take_take, Nat.min_eq_left hk]
    rw [hmin, htk] at hfin
    by_cases hlt : k < n
    · obtain ⟨r0, r1⟩ := HC.out.at hlt (by omega)
      obtain ⟨t1, t2, _, p1, p2, _⟩ := HR.out.ok _ r0 r1
      have hx := (hH.cell (1 + k)).trans (cC_at n L k (by omega))
      have hst := formW_snoc m t p (L.take k) (rd L (k : Int))
      rw [← take_succ_rd L k (by omega)] at hst
      have hfin2 := formIn_step HR.out hfin ⟨r0, r1⟩
      have hsm := hfin.less (by omega)
      have hsm2 := hfin2.small (by omega)
      obtain ⟨ad1, rfl, k1⟩ := Kd.at_int (Kd.C_below HA.out hB) _ r0 (by omega)
      obtain ⟨ad2, rfl, k2⟩ := Kd.at_int (Kd.C_below HB.out hB) _ r0 (by omega)
      have HGG := Lib.hid hG
      have HHH := Lib.hid hH
      have HST := Lib.hid hst
      have hfa := hfin.a1
      have hfd := hfin.d1
      have hfa2 := hfin2.a1
      have hfd2 := hfin2.d1
      have hb20 := mul_le_20 (x := (formW m t p (L.take k)).2.1) (B := 819200000000000) t1 t2 hsm.2.1 hsm.2.2
      have hd6 : (formW m t p (L.take k)).2.2 ≤ 362797056 := by
        have := hfin.d2
        have := pow6_le (show k ≤ 11 by omega)
        have e : (6 : Int) ^ 11 = 362797056 := by decide
        omega
      have hp50 := mul_le_50 (x := (formW m t p (L.take k)).2.2) (S := 362797056) p1 p2 (by omega) hd6
      clear hG hH hB hfin hfin2 hst
      generalize formW m t p (L.take k) = s at *
      obtain ⟨sa, sb, sd⟩ := s
      simp only [formStep] at hsm2 hfa2 hfd2 HST
      dsimp only at hsm hfa hfd hb20 hd6 hp50
      generalize rd L (k : Int) = r at *
      generalize rd t r = y at *
      generalize rd p r = z at *
      have e1 : wrap64 (sa * y) = sa * y := by unfold wrap64; omega
      have e2 : wrap64 (sb * y) = sb * y := by unfold wrap64; omega
      have e3 : wrap64 (z * sd) = z * sd := by unfold wrap64; omega
      have e4 : wrap64 (sb * y + z * sd) = sb * y + z * sd := by unfold wrap64; omega
      have e5 : wrap64 (sd * m) = sd * m := by unfold wrap64; omega
      have v1 : (57646075230342348 : Int) ≤ 1152921504606846976 / y := Int.le_ediv_of_mul_le (by omega) (by omega)
      have v2 : (57646075230342348 : Int) ≤ 2305843009213693952 / y := Int.le_ediv_of_mul_le (by omega) (by omega)
      have f1 : decide (1152921504606846976 / y < sa) = false := decide_eq_false (by omega)
      have f2 : decide (2305843009213693952 / y < sb) = false := decide_eq_false (by omega)
      have f3 : decide (2305843009213693952 / y < -sb) = false := decide_eq_false (by omega)
      go_wp2
      all_goals go_quiet (fail)
      all_goals generalize sa * y = na at *
      all_goals generalize hnb : sb * y + z * sd = nb at *
      all_goals generalize sd * m = nd at *
      all_goals have g4 : decide (2305843009213693952 < nb) = false := decide_eq_false (by omega)
      all_goals have g5 : decide (2305843009213693952 < -nb) = false := decide_eq_false (by omega)
      all_goals clear hnb hb20 hp50 e1 e2 e3 e4 e5 v1 v2 f1 f2 f3
      all_goals go_wp2
      all_goals exact ⟨⟨k + 1, by omega, by go_num, by rw [HST.out], by rw [HST.out], by rw [HST.out], pw_below_drewN HB3.out _, HGG.out, HHH.out⟩, by simp [intOf]; omega⟩
    · obtain rfl : k = n := by omega
      have hsm := hfin.small hn
      rw [HF.out] at hsm
      clear hfin
      rw [HF.out]
      dsimp only at hsm ⊢
      have g4 : decide (rb ≤ 1152921504606846976) = true := decide_eq_true (by omega)
      have g5 : decide (-rb ≤ 1152921504606846976) = true := decide_eq_true (by omega)
      go_wp2
      all_goals exact bodyPost_ret (v := .tuple #[.int .i64 ra, .int .i64 rb, .int .i64 rd', .bool true]) (by simp [results, Try.results65, go_sem]) rfl ⟨rfl, HB3.out⟩
end
end Go.Proofs.Ytkjojcepombhpaa.L

/- Form and Fixed come to what wheel_Form.f and wheel_Fixed.f say. -/
namespace Go.Proofs.Ytkjojcepombhpaa.L
set_option linter.unusedVariables false
set_option linter.unusedSimpArgs false
open Go.RowKit Go.Shelf Go.Proofs.YtkjojcepombhpaaW.PrintWords Go.Proofs.YtkjojcepombhpaaW.PrintLast Go.Proofs.YtkjojcepombhpaaW.PrintMore

def wheel_Form.f (m : Int) (t p l : List Int) : Option (Int × Int × Int × Int) :=
  some (if ruleB m t p && courseB m l then ((formW m t p l).1, (formW m t p l).2.1, (formW m t p l).2.2, 0) else (0, 0, 0, 2))
def wheel_Fixed.f (m : Int) (t p l : List Int) : Option (Int × Int × Int) :=
  some (if ruleB m t p && courseB m l then (if (formW m t p l).1 = (formW m t p l).2.2 then (0, 0, 6) else (fixNum (formW m t p l).1 (formW m t p l).2.1 (formW m t p l).2.2, fixDen (formW m t p l).1 (formW m t p l).2.1 (formW m t p l).2.2, 0)) else (0, 0, 2))

theorem course_is {m : Int} {l : List Int} (h : courseB m l = true) : CourseIs m l ∧ l.length ≤ 12 := by
  simp only [courseB, Bool.and_eq_true, decide_eq_true_eq, List.all_eq_true, inCourse, inB] at h
  exact ⟨fun r hr => by have := h.2 r hr; omega, h.1⟩
theorem rule_kept {w w2 : World} {m : Int} {tv pv : Value} (hb : Below (w.alloc (rbox m tv pv)).heap.size (w.alloc (rbox m tv pv)) w2) : w2.cell? ⟨w.heap.size, 0, none⟩ = some (.int .i64 m) ∧ w2.cell? ⟨w.heap.size, 1, none⟩ = some tv ∧ w2.cell? ⟨w.heap.size, 2, none⟩ = some pv ∧ w.heap.size < w2.heap.size := by
  have h := (Whole.new w 75 #[.int .i64 m, tv, pv]).below hb (by simp)
  exact ⟨h.cell 0, h.cell 1, h.cell 2, h.lt⟩
theorem padL_take (l : List Int) : (padL l).take l.length = l := by simp [padL]

set_option maxRecDepth 100000 in
set_option maxHeartbeats 4000000 in
theorem wheel_Form.calls (m : Int) (A1 : Option Addr) (c1 : Nat) (t : List Int) (A2 : Option Addr) (c2 : Nat) (p : List Int) (A : Option Addr) (c : Nat) (l : List Int) (r1 r2 r3 r4 : Int) (w : World) (h1 : Kd.C (Kd.int .i64) w A1 t.length t) (hc1 : t.length ≤ c1) (h2 : Kd.C (Kd.int .i64) w A2 p.length p) (hc2 : p.length ≤ c2) (h3 : Kd.C (Kd.int .i64) w A l.length l) (hc3 : l.length ≤ c) (h : wheel_Form.f m t p l = some (r1, r2, r3, r4)) :
    Calls Try.prog 36 #[.agg #[.int .i64 m, .slice A1 t.length c1, .slice A2 p.length c2], .slice A l.length c] w fun e w' => e = .returned (.tuple #[.int .i64 r1, .int .i64 r2, .int .i64 r3, .int .i64 r4]) ∧ Below w.heap.size w w' := by
  have HA := Lib.hid h1
  have HB := Lib.hid h2
  have HC := Lib.hid h3
  clear h1 h2 h3 hc1 hc2 hc3
  simp only [wheel_Form.f, Option.some.injEq] at h
  have B0 := below_alloc (Below.refl w.heap.size w) (.cells #[.int .i64 m, .slice A1 t.length c1, .slice A2 p.length c2] 24)
  have HN := Lib.hid (newRule_any m A1 A2 c1 c2 t p _ (Kd.C_below HA.out B0) (Kd.C_below HB.out B0))
  have RB : ∀ w1 : World, Below (w.alloc (.cells #[.int .i64 m, .slice A1 t.length c1, .slice A2 p.length c2] 24)).heap.size (w.alloc (.cells #[.int .i64 m, .slice A1 t.length c1, .slice A2 p.length c2] 24)) w1 → Below w.heap.size w (w1.alloc (rbox m (.slice A1 t.length c1) (.slice A2 p.length c2))) := fun w1 hb => below_alloc (below_then B0 B0.size hb) _
  have HRB := Lib.hid RB
  clear RB B0
  cases hr : ruleB m t p
  · rw [hr] at h HN
    simp only [Bool.false_and, Bool.false_eq_true, if_false, Prod.mk.injEq] at h
    obtain ⟨rfl, rfl, rfl, rfl⟩ := h
    go_enter Try.func36, Try.ntmps36
    go_wp2_with (go_at_call 58; refine HN.out.mono ?_; rintro e w1 ⟨rfl, hb⟩; have HB1 := Lib.hid (HRB.out _ hb); clear hb)
    exact bodyPost_ret (v := .tuple #[.int .i64 0, .int .i64 0, .int .i64 0, .int .i64 2]) (by simp [results, Try.results36, go_sem]) rfl ⟨rfl, HB1.out⟩
  · have hR := ruleB_is hr
    have hm : 2 ≤ m ∧ m ≤ 6 := ⟨hR.m2, hR.m6⟩
    have HR := Lib.hid hR
    rw [hr] at h HN
    clear hR
    cases hc : courseB m l
    · rw [hc] at h
      simp only [Bool.and_false, Bool.false_eq_true, if_false, Prod.mk.injEq] at h
      obtain ⟨rfl, rfl, rfl, rfl⟩ := h
      have HCC := Lib.hid hc
      clear hc hr
      go_enter Try.func36, Try.ntmps36
      go_wp2_with (first
        | (go_at_call 58; refine HN.out.mono ?_; rintro e w1 ⟨rfl, hb⟩; have HB1 := Lib.hid (HRB.out _ hb); clear hb)
        | (go_at_call 72; refine (newCourse_no m (.slice A1 t.length c1) (.slice A2 p.length c2) A c l _ rfl rfl hm (Kd.C_below HC.out HB1.out) HCC.out).mono ?_; rintro e w2 ⟨rfl, hb⟩; have HB2 := Lib.hid (below_then HB1.out HB1.out.size hb); clear hb))
      exact bodyPost_ret (v := .tuple #[.int .i64 0, .int .i64 0, .int .i64 0, .int .i64 2]) (by simp [results, Try.results36, go_sem]) rfl ⟨rfl, below_alloc HB2.out _⟩
    · rw [hc] at h
      simp only [Bool.and_self, if_true, Prod.mk.injEq] at h
      obtain ⟨rfl, rfl, rfl, rfl⟩ := h
      obtain ⟨hci, hl⟩ := course_is hc
      obtain ⟨a0, a1, a2, a3, a4, a5, a6, a7, a8, a9, a10, a11, hL⟩ := twelve (padL l) (padL_length l hl)
      have htk := padL_take l
      rw [hL] at htk
      have HL := Lib.hid hL
      have HT := Lib.hid htk
      have HCC := Lib.hid hc
      have HCI := Lib.hid hci
      clear hL htk hc hci hr
      generalize hf : formW m t p l = s
      obtain ⟨ra, rb, rd'⟩ := s
      have HF := Lib.hid hf
      clear hf
      dsimp only
      go_enter Try.func36, Try.ntmps36
      go_wp2_with (first
        | (go_at_call 58; refine HN.out.mono ?_; rintro e w1 ⟨rfl, hb⟩; have HB1 := Lib.hid (HRB.out _ hb); clear hb)
        | (go_at_call 72; refine (newCourse_yes m (.slice A1 t.length c1) (.slice A2 p.length c2) A c l _ rfl rfl hm (Kd.C_below HC.out HB1.out) HCC.out a0 a1 a2 a3 a4 a5 a6 a7 a8 a9 a10 a11 HL.out).mono ?_; rintro e w2 ⟨rfl, hb⟩; obtain ⟨z0, z1, z2, zl⟩ := rule_kept hb; have HB2 := Lib.hid (below_alloc (below_then HB1.out HB1.out.size hb) (.cells #[.int .i64 l.length, .int .i64 a0, .int .i64 a1, .int .i64 a2, .int .i64 a3, .int .i64 a4, .int .i64 a5, .int .i64 a6, .int .i64 a7, .int .i64 a8, .int .i64 a9, .int .i64 a10, .int .i64 a11] 89)); clear hb)
        | (go_at_call 65; refine (form_any m A1 A2 c1 c2 t p l.length a0 a1 a2 a3 a4 a5 a6 a7 a8 a9 a10 a11 _ HR.out hl (by rw [HT.out]; exact HCI.out) (Kd.C_below HA.out HB2.out) (Kd.C_below HB.out HB2.out) ra rb rd' (by rw [HT.out]; exact HF.out)).mono ?_; rintro e w3 ⟨rfl, hb⟩; have HB3 := Lib.hid (below_then HB2.out HB2.out.size hb); clear hb))
      exact bodyPost_ret (v := .tuple #[.int .i64 ra, .int .i64 rb, .int .i64 rd', .int .i64 0]) (by simp [results, Try.results36, go_sem]) rfl ⟨rfl, HB3.out⟩

theorem Whole.two {w : World} {g : Nat} {t : TypeId} {x y : Value} (h : Whole w g t #[x, y]) (a b : Value) : Whole ((w.setCell ⟨g, 0, none⟩ a).setCell ⟨g, 1, none⟩ b) g t #[a, b] := by
  have := (h.set 0 a).set 1 b
  simpa using this
set_option maxRecDepth 100000 in
set_option maxHeartbeats 4000000 in
theorem wheel_Fixed.calls (m : Int) (A1 : Option Addr) (c1 : Nat) (t : List Int) (A2 : Option Addr) (c2 : Nat) (p : List Int) (A : Option Addr) (c : Nat) (l : List Int) (r1 r2 r3 : Int) (w : World) (h1 : Kd.C (Kd.int .i64) w A1 t.length t) (hc1 : t.length ≤ c1) (h2 : Kd.C (Kd.int .i64) w A2 p.length p) (hc2 : p.length ≤ c2) (h3 : Kd.C (Kd.int .i64) w A l.length l) (hc3 : l.length ≤ c) (h : wheel_Fixed.f m t p l = some (r1, r2, r3)) :
    Calls Try.prog 37 #[.agg #[.int .i64 m, .slice A1 t.length c1, .slice A2 p.length c2], .slice A l.length c] w fun e w' => e = .returned (.tuple #[.agg #[.int .i64 r1, .int .i64 r2], .int .i64 r3]) ∧ Below w.heap.size w w' := by
  have B0 := below_alloc (below_alloc (Below.refl w.heap.size w) (.cells #[.int .i64 m, .slice A1 t.length c1, .slice A2 p.length c2] 24)) (.cells #[.int .i64 0, .int .i64 0] 49)
  have HF0 := Lib.hid (fun r1 r2 r3 r4 hf => wheel_Form.calls m A1 c1 t A2 c2 p A c l r1 r2 r3 r4 _ (Kd.C_below h1 B0) hc1 (Kd.C_below h2 B0) hc2 (Kd.C_below h3 B0) hc3 hf)
  have RB : ∀ w1 : World, Below ((w.alloc (.cells #[.int .i64 m, .slice A1 t.length c1, .slice A2 p.length c2] 24)).alloc (.cells #[.int .i64 0, .int .i64 0] 49)).heap.size ((w.alloc (.cells #[.int .i64 m, .slice A1 t.length c1, .slice A2 p.length c2] 24)).alloc (.cells #[.int .i64 0, .int .i64 0] 49)) w1 → Whole w1 (w.heap.size + 1) 49 #[.int .i64 0, .int .i64 0] ∧ Below w.heap.size w w1 := fun w1 hb => by
    have e := Whole.new (w.alloc (.cells #[.int .i64 m, .slice A1 t.length c1, .slice A2 p.length c2] 24)) 49 #[.int .i64 0, .int .i64 0]
    simp only [World.size_alloc] at e
    exact ⟨e.below hb (by simp), below_then B0 B0.size hb⟩
  have HRB := Lib.hid RB
  clear RB B0 h1 h2 h3 hc1 hc2 hc3
  simp only [wheel_Fixed.f, Option.some.injEq] at h
  cases hb : (ruleB m t p && courseB m l)
  · rw [hb] at h
    simp only [Bool.false_eq_true, if_false, Prod.mk.injEq] at h
    obtain ⟨rfl, rfl, rfl⟩ := h
    have HFR := Lib.hid (HF0.out 0 0 0 2 (by rw [wheel_Form.f, hb]; rfl))
    clear hb HF0
    go_enter Try.func37, Try.ntmps37
    go_wp2_with (go_at_call 36; refine HFR.out.mono ?_; rintro e w1 ⟨rfl, hb⟩; obtain ⟨hW, hBW⟩ := HRB.out _ hb; have x0 := hW.cell 0; have x1 := hW.cell 1; have xf := hW.frozen; have xl := hW.lt; simp only [List.getElem?_toArray, List.getElem?_cons_zero, List.getElem?_cons_succ] at x0 x1; have HW := Lib.hid hW; have HBW := Lib.hid hBW; clear hb hW hBW)
    exact bodyPost_ret (results_ct rfl _ _ (w.heap.size + 1) 49 #[.int .i64 0, .int .i64 0] (0, 0) _ rfl (HW.out.two _ _) Try.underlying49 rfl (by kernel_rfl)) rfl ⟨rfl, Below.setAt (Below.setAt HBW.out (by omega) 0 _) (by omega) 1 _⟩
  · rw [hb] at h
    simp only [if_true] at h
    have hform : wheel_Form.f m t p l = some ((formW m t p l).1, (formW m t p l).2.1, (formW m t p l).2.2, 0) := by rw [wheel_Form.f, hb]; rfl
    have HFR := Lib.hid (HF0.out _ _ _ _ hform)
    simp only [Bool.and_eq_true] at hb
    have hR := ruleB_is hb.1
    obtain ⟨hci, hl⟩ := course_is hb.2
    have hsm := (formIn hR hci).small hl
    have ha1 := (formIn hR hci).a1
    have hd1 := (formIn hR hci).d1
    clear hform HF0 hb hR hci
    generalize formW m t p l = s at *
    obtain ⟨ra, rb, rd'⟩ := s
    dsimp only at hsm ha1 hd1 h HFR
    by_cases hne : ra = rd'
    · subst hne
      rw [if_pos rfl] at h
      simp only [Prod.mk.injEq] at h
      obtain ⟨rfl, rfl, rfl⟩ := h
      go_enter Try.func37, Try.ntmps37
      go_wp2_with (go_at_call 36; refine HFR.out.mono ?_; rintro e w1 ⟨rfl, hb⟩; obtain ⟨hW, hBW⟩ := HRB.out _ hb; have x0 := hW.cell 0; have x1 := hW.cell 1; have xf := hW.frozen; have xl := hW.lt; simp only [List.getElem?_toArray, List.getElem?_cons_zero, List.getElem?_cons_succ] at x0 x1; have HW := Lib.hid hW; have HBW := Lib.hid hBW; clear hb hW hBW)
      exact bodyPost_ret (results_ct rfl _ _ (w.heap.size + 1) 49 #[.int .i64 0, .int .i64 0] (0, 0) _ rfl (HW.out.two _ _) Try.underlying49 rfl (by kernel_rfl)) rfl ⟨rfl, Below.setAt (Below.setAt HBW.out (by omega) 0 _) (by omega) 1 _⟩
    · rw [if_neg hne] at h
      simp only [Prod.mk.injEq] at h
      have HQ := Lib.hid h
      clear h
      have HX := Lib.hid (fun W => fixed_any ra rb rd' W ⟨by omega, by omega⟩ ⟨by omega, by omega⟩ ⟨by omega, by omega⟩ hne)
      go_enter Try.func37, Try.ntmps37
      go_wp2_with (first
        | (go_at_call 36; refine HFR.out.mono ?_; rintro e w1 ⟨rfl, hb⟩; obtain ⟨hW, hBW⟩ := HRB.out _ hb; have xl1 := hW.lt; have HW1 := Lib.hid hW; have HBW1 := Lib.hid hBW; clear hb hW hBW)
        | (go_at_call 66; refine (HX.out _).mono ?_; rintro e w2 ⟨rfl, hb⟩; have hW := HW1.out.below hb xl1; have hBW := below_then HBW1.out HBW1.out.size hb; have x0 := hW.cell 0; have x1 := hW.cell 1; have xf := hW.frozen; have xl := hW.lt; simp only [List.getElem?_toArray, List.getElem?_cons_zero, List.getElem?_cons_succ] at x0 x1; have HW := Lib.hid hW; have HBW := Lib.hid hBW; clear hb hW hBW))
      obtain ⟨rfl, rfl, rfl⟩ := HQ.out
      exact bodyPost_ret (results_ct rfl _ _ (w.heap.size + 1) 49 #[.int .i64 (fixNum ra rb rd'), .int .i64 (fixDen ra rb rd')] (0, 0) _ rfl (HW.out.two _ _) Try.underlying49 rfl (by kernel_rfl)) rfl ⟨rfl, Below.setAt (Below.setAt HBW.out (by omega) 0 _) (by omega) 1 _⟩
end Go.Proofs.Ytkjojcepombhpaa.L
