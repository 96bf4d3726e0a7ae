/- The walk of (rule).newCourse. -/
import Derived.Test.YtkjojcepombhpaaXBase
import Derived.Laws.Tables
import Derived.Laws.CopyRow
namespace Go.Proofs.Ytkjojcepombhpaa.L
set_option linter.unusedVariables false
set_option linter.unusedSimpArgs false
open Go.RowKit Go.Shelf Go.Proofs.YtkjojcepombhpaaW.PrintWords Go.Proofs.YtkjojcepombhpaaW.PrintLast Go.Proofs.YtkjojcepombhpaaW.PrintMore

/-- A course as a value: its length, its twelve numbers. -/
def cC (n : Int) (L : List Int) : Array Value := (Value.int .i64 n :: L.map (Value.int .i64)).toArray
abbrev cV (n : Int) (L : List Int) : Value := .agg (cC n L)
theorem cC_size (n : Int) (L : List Int) (hL : L.length = 12) : (cC n L).size = 13 := by simp [cC, hL]
theorem cC_zero (n : Int) (L : List Int) : (cC n L)[0]? = some (.int .i64 n) := by simp [cC]
theorem cC_at (n : Int) (L : List Int) (i : Nat) (hi : i < L.length) : (cC n L)[1 + i]? = some (.int .i64 (rd L (i : Int))) := by
  have : 1 + i = i + 1 := by omega
  simp [cC, this, hi, rd, List.getElem?_eq_getElem hi]
/-- A course's numbers, filled up. -/
def padL (l : List Int) : List Int := l ++ List.replicate (12 - l.length) 0
theorem padL_length (l : List Int) (h : l.length ≤ 12) : (padL l).length = 12 := by simp [padL]; omega
def inCourse (m : Int) (k : Int) : Bool := inB k 0 (m - 1)
def courseB (m : Int) (l : List Int) : Bool := decide (l.length ≤ 12) && l.all (inCourse m)

set_option maxHeartbeats 1000000 in
theorem newCourse1_any (m k : Int) (tv pv : Value) (g : Nat) (w : World) (hm : 2 ≤ m ∧ m ≤ 6) (hg : Whole w g 75 #[.int .i64 m, tv, pv]) :
    Calls Try.prog 89 #[.int .i64 k, .pointer (some ⟨g, 0, none⟩)] w fun e w' => e = .returned (.bool (!inCourse m k)) ∧ w = w' := by
  have g0 := hg.cell 0
  simp only [List.getElem?_toArray, List.getElem?_cons_zero] at g0
  have hlt := hg.lt
  clear hg
  go_enter Try.func89, Try.ntmps89
  go_wp2_with (go_at_call 60; refine (within_any _ _ _ _).mono ?_; rintro e w' ⟨rfl, rfl⟩)
  go_ret
  exact ⟨rfl, rfl⟩

theorem any_upTo (pb : Int → Bool) (l : List Int) (h : ∀ i, i < l.length → pb (rd l (i : Int)) = false) : l.any pb = false := by
  rw [List.any_eq_false]
  intro x hx
  obtain ⟨i, hi, rfl⟩ := List.getElem_of_mem hx
  have := h i hi
  simp [rd, List.getElem?_eq_getElem hi] at this
  simp [this]
theorem any_at (pb : Int → Bool) (l : List Int) (i : Nat) (hi : i < l.length) (h : pb (rd l (i : Int)) = true) : l.any pb = true := by
  rw [List.any_eq_true]
  refine ⟨l[i], List.getElem_mem hi, ?_⟩
  simpa [rd, List.getElem?_eq_getElem hi] using h

set_option maxHeartbeats 2000000 in
theorem index1_any (m : Int) (tv pv : Value) (g : Nat) (A : Option Addr) (c : Nat) (l : List Int) (w : World) (hm : 2 ≤ m ∧ m ≤ 6) (hl : l.length ≤ 12) (hC : Kd.C (Kd.int .i64) w A l.length l) (hg : Whole w g 75 #[.int .i64 m, tv, pv]) :
    Calls Try.prog 90 #[.slice A l.length c, .func (.func 89) #[] #[.pointer (some ⟨g, 0, none⟩)]] w fun e w' => (∃ r : Int, e = .returned (.int .i64 r) ∧ decide (0 ≤ r) = l.any (fun k => !inCourse m k)) ∧ w = w' := by
  have HC := Lib.hid hC
  have HG := Lib.hid hg
  clear hC hg
  go_enter Try.func90, Try.ntmps90
  go_wp2
  go_loopw [8] (fun i wr => ∃ k : Nat, k ≤ l.length ∧ i = .int .i64 k ∧ w = wr ∧ Hid (∀ j, j < k → (!inCourse m (rd l (j : Int))) = false)) (fun i _ => l.length - (intOf i).toNat)
  case atStart => exact ⟨0, Nat.zero_le _, rfl, rfl, Lib.hid (by omega)⟩
  case round =>
    obtain ⟨k, hk, rfl, rfl, HN⟩ := hrel
    by_cases hlt : k < l.length
    · obtain ⟨ad, rfl, hc0⟩ := Kd.at_int HC.out (k : Int) (by omega) (by omega)
      simp only [Int.toNat_natCast] at hc0
      have hno := HN.out
      have hmore : ∀ b, (!inCourse m (rd l (k : Int))) = b → b = false → ∀ j, j < k + 1 → (!inCourse m (rd l (j : Int))) = false := by
        intro b h1 h2 j hj
        by_cases e : j = k
        · subst e; rw [h1, h2]
        · exact hno j (by omega)
      have hend : ∀ b, (!inCourse m (rd l (k : Int))) = b → b = true → l.any (fun k => !inCourse m k) = true := fun b h1 h2 => any_at _ l k hlt (by rw [h1, h2])
      have hcall := newCourse1_any m (rd l (k : Int)) tv pv g w hm HG.out
      generalize (!inCourse m (rd l (k : Int))) = q at hcall hmore hend
      generalize rd l (k : Int) = x at hc0 hcall
      have HCALL := Lib.hid hcall
      have HMO := Lib.hid (hmore q rfl)
      have HEN := Lib.hid (hend q rfl)
      clear hcall hno hmore hend
      cases q
      · go_wp2_with (go_at_call 89; refine HCALL.out.mono ?_; rintro e w2 ⟨rfl, rfl⟩)
        exact ⟨⟨k + 1, by omega, by go_num, trivial, Lib.hid (HMO.out (by trivial))⟩, by simp [intOf]; omega⟩
      · go_wp2_with (go_at_call 89; refine HCALL.out.mono ?_; rintro e w2 ⟨rfl, rfl⟩)
        exact bodyPost_ret (v := .int .i64 (k : Int)) (by simp [results, Try.results90, go_sem]) rfl ⟨⟨k, rfl, by rw [HEN.out (by trivial)]; simp⟩, rfl⟩
    · obtain rfl : k = l.length := by omega
      have HX := Lib.hid (any_upTo (fun k => !inCourse m k) l HN.out)
      clear HN
      go_wp2
      exact bodyPost_ret (v := .int .i64 (-1)) (by simp [results, Try.results90, go_sem]) rfl ⟨⟨-1, rfl, by rw [HX.out]; rfl⟩, rfl⟩
theorem contains1_any (m : Int) (tv pv : Value) (g : Nat) (A : Option Addr) (c : Nat) (l : List Int) (w : World) (hm : 2 ≤ m ∧ m ≤ 6) (hl : l.length ≤ 12) (hC : Kd.C (Kd.int .i64) w A l.length l) (hg : Whole w g 75 #[.int .i64 m, tv, pv]) :
    Calls Try.prog 77 #[.slice A l.length c, .func (.func 89) #[] #[.pointer (some ⟨g, 0, none⟩)]] w fun e w' => e = .returned (.bool (l.any (fun k => !inCourse m k))) ∧ w = w' := by
  have HI := Lib.hid (index1_any m tv pv g A c l w hm hl hC hg)
  clear hC hg
  generalize l.any (fun k => !inCourse m k) = q at HI
  go_enter Try.func77, Try.ntmps77
  go_wp2_with (go_at_call 90; refine HI.out.mono ?_; rintro e w2 ⟨⟨r, rfl, hr⟩, rfl⟩)
  go_ret
  exact ⟨by rw [← hr]; rfl, rfl⟩

theorem twelve (L : List Int) (h : L.length = 12) : ∃ a0 a1 a2 a3 a4 a5 a6 a7 a8 a9 a10 a11 : Int, L = [a0, a1, a2, a3, a4, a5, a6, a7, a8, a9, a10, a11] := by
  match L, h with
  | [a0, a1, a2, a3, a4, a5, a6, a7, a8, a9, a10, a11], _ => exact ⟨_, _, _, _, _, _, _, _, _, _, _, _, rfl⟩
/-- A course as a value, its twelve numbers written out. -/
abbrev cE (n a0 a1 a2 a3 a4 a5 a6 a7 a8 a9 a10 a11 : Int) : Value := .agg #[.int .i64 n, .int .i64 a0, .int .i64 a1, .int .i64 a2, .int .i64 a3, .int .i64 a4, .int .i64 a5, .int .i64 a6, .int .i64 a7, .int .i64 a8, .int .i64 a9, .int .i64 a10, .int .i64 a11]

theorem bad_course {m : Int} {l : List Int} (h : l.any (fun k => !inCourse m k) = true) : courseB m l = false := by
  simp only [courseB, Bool.and_eq_false_iff]
  right
  rw [List.any_eq_true] at h
  obtain ⟨x, hx, hb⟩ := h
  rw [List.all_eq_false]
  exact ⟨x, hx, by simpa using hb⟩
set_option maxRecDepth 100000 in
set_option maxHeartbeats 4000000 in
theorem newCourse_no (m : Int) (tv pv : Value) (A : Option Addr) (c : Nat) (l : List Int) (w : World) (ht : tv.oneCell' = true) (hp : pv.oneCell' = true) (hm : 2 ≤ m ∧ m ≤ 6) (hC : Kd.C (Kd.int .i64) w A l.length l) (hb : courseB m l = false) :
    Calls Try.prog 72 #[rv m tv pv, .slice A l.length c] w fun e w' => e = .returned (.tuple #[.agg #[.int .i64 l.length, .int .i64 0, .int .i64 0, .int .i64 0, .int .i64 0, .int .i64 0, .int .i64 0, .int .i64 0, .int .i64 0, .int .i64 0, .int .i64 0, .int .i64 0, .int .i64 0], .bool false]) ∧ Below w.heap.size w w' := by
  have HC := Lib.hid hC
  clear hC
  by_cases hl : l.length ≤ 12
  case neg =>
    clear hb
    have hgt : (12 : Int) < (l.length : Int) := by omega
    go_enter Try.func72, Try.ntmps72
    go_wp2
    exact bodyPost_ret (v := .tuple #[.agg #[.int .i64 l.length, .int .i64 0, .int .i64 0, .int .i64 0, .int .i64 0, .int .i64 0, .int .i64 0, .int .i64 0, .int .i64 0, .int .i64 0, .int .i64 0, .int .i64 0, .int .i64 0], .bool false]) (by simp [results, Try.results72, go_sem]) rfl ⟨rfl, below_alloc (below_alloc (below_alloc (Below.refl _ _) _) _) _⟩
  · have hgt : ¬ (12 : Int) < (l.length : Int) := by omega
    have ha : l.any (fun k => !inCourse m k) = true := by
      simp only [courseB, decide_eq_true hl, Bool.true_and, List.all_eq_false] at hb
      obtain ⟨x, hx, hq⟩ := hb
      rw [List.any_eq_true]
      exact ⟨x, hx, by simpa using hq⟩
    have e0 := ((Whole.new w 75 #[.int .i64 m, tv, pv]).alloc (.cells #[.int .i64 0, .int .i64 0, .int .i64 0, .int .i64 0, .int .i64 0, .int .i64 0, .int .i64 0, .int .i64 0, .int .i64 0, .int .i64 0, .int .i64 0, .int .i64 0, .int .i64 0] 89)).alloc (.cells #[.int .i64 l.length, .int .i64 0, .int .i64 0, .int .i64 0, .int .i64 0, .int .i64 0, .int .i64 0, .int .i64 0, .int .i64 0, .int .i64 0, .int .i64 0, .int .i64 0, .int .i64 0] 89)
    have B0 := below_alloc (below_alloc (below_alloc (Below.refl w.heap.size w) (rbox m tv pv)) (.cells #[.int .i64 0, .int .i64 0, .int .i64 0, .int .i64 0, .int .i64 0, .int .i64 0, .int .i64 0, .int .i64 0, .int .i64 0, .int .i64 0, .int .i64 0, .int .i64 0, .int .i64 0] 89)) (.cells #[.int .i64 l.length, .int .i64 0, .int .i64 0, .int .i64 0, .int .i64 0, .int .i64 0, .int .i64 0, .int .i64 0, .int .i64 0, .int .i64 0, .int .i64 0, .int .i64 0, .int .i64 0] 89)
    have HK := Lib.hid (contains1_any m tv pv w.heap.size A c l _ hm hl (Kd.C_below HC.out B0) e0)
    rw [ha] at HK
    clear e0 B0 ha hb
    go_enter Try.func72, Try.ntmps72
    go_wp2_with (go_at_call 77; refine HK.out.mono ?_; rintro e w2 ⟨rfl, rfl⟩)
    exact bodyPost_ret (v := .tuple #[.agg #[.int .i64 l.length, .int .i64 0, .int .i64 0, .int .i64 0, .int .i64 0, .int .i64 0, .int .i64 0, .int .i64 0, .int .i64 0, .int .i64 0, .int .i64 0, .int .i64 0, .int .i64 0], .bool false]) (by simp [results, Try.results72, go_sem]) rfl ⟨rfl, below_alloc (below_alloc (below_alloc (Below.refl _ _) _) _) _⟩

theorem alloc_setRow (W : World) (cs cs' : Array Value) (t : TypeId) : (W.alloc (.cells cs t)).setRow W.heap.size cs' = W.alloc (.cells cs' t) := by
  unfold World.setRow World.alloc
  congr 1
  apply Array.ext_getElem?
  intro i
  rw [Array.getElem?_modify]
  simp only [Array.getElem?_push]
  by_cases h : W.heap.size = i
  · subst h; simp
  · rw [if_neg h]
    rw [if_neg (Ne.symm h), if_neg (Ne.symm h)]
theorem copy_course (W : World) (A : Option Addr) (c : Nat) (l : List Int) (n : Int) (hl : l.length ≤ 12) (hC : Kd.C (Kd.int .i64) (W.alloc (.cells #[.int .i64 n, .int .i64 0, .int .i64 0, .int .i64 0, .int .i64 0, .int .i64 0, .int .i64 0, .int .i64 0, .int .i64 0, .int .i64 0, .int .i64 0, .int .i64 0, .int .i64 0] 89)) A l.length l) (a0 a1 a2 a3 a4 a5 a6 a7 a8 a9 a10 a11 : Int) (hL : padL l = [a0, a1, a2, a3, a4, a5, a6, a7, a8, a9, a10, a11]) :
    (Builtin.copy_ #[22, 22] 3 #[.slice (some ⟨W.heap.size, 1, none⟩) 12 12, .slice A l.length c]).run Try.prog (W.alloc (.cells #[.int .i64 n, .int .i64 0, .int .i64 0, .int .i64 0, .int .i64 0, .int .i64 0, .int .i64 0, .int .i64 0, .int .i64 0, .int .i64 0, .int .i64 0, .int .i64 0, .int .i64 0] 89)) = .ok (.int .i64 l.length) (W.alloc (.cells #[.int .i64 n, .int .i64 a0, .int .i64 a1, .int .i64 a2, .int .i64 a3, .int .i64 a4, .int .i64 a5, .int .i64 a6, .int .i64 a7, .int .i64 a8, .int .i64 a9, .int .i64 a10, .int .i64 a11] 89)) := by
  have hs : (Try.prog.info? 3).map (·.size) = some 1 := by kernel_rfl
  have hg := World.alloc_heap_new W (.cells #[.int .i64 n, .int .i64 0, .int .i64 0, .int .i64 0, .int .i64 0, .int .i64 0, .int .i64 0, .int .i64 0, .int .i64 0, .int .i64 0, .int .i64 0, .int .i64 0, .int .i64 0] 89)
  have hpad : (#[Value.int .i64 n, .int .i64 0, .int .i64 0, .int .i64 0, .int .i64 0, .int .i64 0, .int .i64 0, .int .i64 0, .int .i64 0, .int .i64 0, .int .i64 0, .int .i64 0, .int .i64 0].toList.take 1 ++ l.map (Value.int .i64) ++ #[Value.int .i64 n, .int .i64 0, .int .i64 0, .int .i64 0, .int .i64 0, .int .i64 0, .int .i64 0, .int .i64 0, .int .i64 0, .int .i64 0, .int .i64 0, .int .i64 0, .int .i64 0].toList.drop (1 + l.length)).toArray = #[.int .i64 n, .int .i64 a0, .int .i64 a1, .int .i64 a2, .int .i64 a3, .int .i64 a4, .int .i64 a5, .int .i64 a6, .int .i64 a7, .int .i64 a8, .int .i64 a9, .int .i64 a10, .int .i64 a11] := by
    have e : l.map (Value.int .i64) ++ (List.replicate (12 - l.length) (Value.int .i64 0)) = [.int .i64 a0, .int .i64 a1, .int .i64 a2, .int .i64 a3, .int .i64 a4, .int .i64 a5, .int .i64 a6, .int .i64 a7, .int .i64 a8, .int .i64 a9, .int .i64 a10, .int .i64 a11] := by
      have := congrArg (List.map (Value.int .i64)) hL
      simpa [padL] using this
    have e2 : [Value.int .i64 n, .int .i64 0, .int .i64 0, .int .i64 0, .int .i64 0, .int .i64 0, .int .i64 0, .int .i64 0, .int .i64 0, .int .i64 0, .int .i64 0, .int .i64 0, .int .i64 0].drop (1 + l.length) = List.replicate (12 - l.length) (Value.int .i64 0) := by
      rw [Nat.add_comm, List.drop_succ_cons]
      show (List.replicate 12 (Value.int .i64 0)).drop l.length = _
      rw [List.drop_replicate]
    simp only [List.take_succ_cons, List.take_zero]
    rw [e2, List.append_assoc, e]
    rfl
  cases A with
  | none =>
    have hnil : l = [] := by
      cases l with
      | nil => rfl
      | cons x l =>
        obtain ⟨ad, had, _⟩ := Kd.at_int hC 0 (by omega) (by simp)
        cases had
    subst hnil
    have hp0 : #[Value.int .i64 n, .int .i64 0, .int .i64 0, .int .i64 0, .int .i64 0, .int .i64 0, .int .i64 0, .int .i64 0, .int .i64 0, .int .i64 0, .int .i64 0, .int .i64 0, .int .i64 0] = #[.int .i64 n, .int .i64 a0, .int .i64 a1, .int .i64 a2, .int .i64 a3, .int .i64 a4, .int .i64 a5, .int .i64 a6, .int .i64 a7, .int .i64 a8, .int .i64 a9, .int .i64 a10, .int .i64 a11] := by simpa using hpad
    rw [← hp0]
    cases hq : Try.prog.info? 3 with
    | none => simp [hq] at hs
    | some i => simp [Builtin.copy_, run_underlying Try.underlying22, Builtin.lenOf, Builtin.firstCells, sizeOf, typeInfo, hq, storeCells, goInt, loadCells]
  | some ad =>
    have h := run_copy_row (P := Try.prog) (W.alloc (.cells #[.int .i64 n, .int .i64 0, .int .i64 0, .int .i64 0, .int .i64 0, .int .i64 0, .int .i64 0, .int .i64 0, .int .i64 0, .int .i64 0, .int .i64 0, .int .i64 0, .int .i64 0] 89)) 22 22 3 3 W.heap.size 1 12 12 ad l.length c _ 89 (l.map (Value.int .i64)) Try.underlying22 hs hg (by rw [List.length_map]; exact (Nat.min_eq_left hl).symm) ?_ (by simp; omega) (by intro v hv; rw [List.mem_map] at hv; obtain ⟨y, _, rfl⟩ := hv; rfl)
    · rw [List.length_map, hpad, alloc_setRow] at h
      exact h
    · intro j v hv
      rw [List.getElem?_map, Option.map_eq_some_iff] at hv
      obtain ⟨y, hy, rfl⟩ := hv
      have hj := (List.getElem?_eq_some_iff.1 hy).1
      obtain ⟨ad', had, hx⟩ := Kd.at_int hC (j : Int) (by omega) (by omega)
      cases had
      rw [Int.toNat_natCast] at hx
      rw [hx]
      simp [rd, hy]

set_option maxRecDepth 100000 in
set_option maxHeartbeats 4000000 in
theorem newCourse_yes (m : Int) (tv pv : Value) (A : Option Addr) (c : Nat) (l : List Int) (w : World) (ht : tv.oneCell' = true) (hp : pv.oneCell' = true) (hm : 2 ≤ m ∧ m ≤ 6) (hC : Kd.C (Kd.int .i64) w A l.length l) (hb : courseB m l = true) (a0 a1 a2 a3 a4 a5 a6 a7 a8 a9 a10 a11 : Int) (hL : padL l = [a0, a1, a2, a3, a4, a5, a6, a7, a8, a9, a10, a11]) :
    Calls Try.prog 72 #[rv m tv pv, .slice A l.length c] w fun e w' => e = .returned (.tuple #[cE l.length a0 a1 a2 a3 a4 a5 a6 a7 a8 a9 a10 a11, .bool true]) ∧ Below w.heap.size w w' := by
  have HC := Lib.hid hC
  have HL := Lib.hid hL
  clear hC hL
  simp only [courseB, Bool.and_eq_true, decide_eq_true_eq] at hb
  obtain ⟨hl, hall⟩ := hb
  have hgt : ¬ (12 : Int) < (l.length : Int) := by omega
  have ha : l.any (fun k => !inCourse m k) = false := by
    rw [List.any_eq_false]
    intro x hx
    rw [List.all_eq_true] at hall
    simp [hall x hx]
  have e0 := ((Whole.new w 75 #[.int .i64 m, tv, pv]).alloc (.cells #[.int .i64 0, .int .i64 0, .int .i64 0, .int .i64 0, .int .i64 0, .int .i64 0, .int .i64 0, .int .i64 0, .int .i64 0, .int .i64 0, .int .i64 0, .int .i64 0, .int .i64 0] 89)).alloc (.cells #[.int .i64 l.length, .int .i64 0, .int .i64 0, .int .i64 0, .int .i64 0, .int .i64 0, .int .i64 0, .int .i64 0, .int .i64 0, .int .i64 0, .int .i64 0, .int .i64 0, .int .i64 0] 89)
  have B0 := below_alloc (below_alloc (below_alloc (Below.refl w.heap.size w) (rbox m tv pv)) (.cells #[.int .i64 0, .int .i64 0, .int .i64 0, .int .i64 0, .int .i64 0, .int .i64 0, .int .i64 0, .int .i64 0, .int .i64 0, .int .i64 0, .int .i64 0, .int .i64 0, .int .i64 0] 89)) (.cells #[.int .i64 l.length, .int .i64 0, .int .i64 0, .int .i64 0, .int .i64 0, .int .i64 0, .int .i64 0, .int .i64 0, .int .i64 0, .int .i64 0, .int .i64 0, .int .i64 0, .int .i64 0] 89)
  have HK := Lib.hid (contains1_any m tv pv w.heap.size A c l _ hm hl (Kd.C_below HC.out B0) e0)
  rw [ha] at HK
  have hcopy := copy_course ((w.alloc (rbox m tv pv)).alloc (.cells #[.int .i64 0, .int .i64 0, .int .i64 0, .int .i64 0, .int .i64 0, .int .i64 0, .int .i64 0, .int .i64 0, .int .i64 0, .int .i64 0, .int .i64 0, .int .i64 0, .int .i64 0] 89)) A c l l.length hl (Kd.C_below HC.out B0) a0 a1 a2 a3 a4 a5 a6 a7 a8 a9 a10 a11 HL.out
  simp only [World.size_alloc] at hcopy
  clear e0 B0 ha hall
  go_enter Try.func72, Try.ntmps72
  go_wp2_with (go_at_call 77; refine HK.out.mono ?_; rintro e w2 ⟨rfl, rfl⟩)
  exact bodyPost_ret (v := .tuple #[cE l.length a0 a1 a2 a3 a4 a5 a6 a7 a8 a9 a10 a11, .bool true]) (by simp [results, Try.results72, go_sem]) rfl ⟨rfl, below_alloc (below_alloc (below_alloc (Below.refl _ _) _) _) _⟩
end Go.Proofs.Ytkjojcepombhpaa.L
