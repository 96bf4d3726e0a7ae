import Derived.Test.YtkjojcepombhpaaXForm
import Derived.Test.YtkjojcepombhpaaM3
import Derived.ChangeKeysEq

/- The walk of (rule).follows. -/
namespace Go.Proofs.Ytkjojcepombhpaa.L
set_option linter.unusedVariables false
set_option linter.unusedSimpArgs false
open Go.RowKit Go.Shelf Go.Proofs.YtkjojcepombhpaaW.PrintWords Go.Proofs.YtkjojcepombhpaaW.PrintLast Go.Proofs.YtkjojcepombhpaaW.PrintMore

/-- Numbers as cells. -/
def arr (L : List Int) : Array Value := (L.map (Value.int .i64)).toArray
theorem arr_at (L : List Int) (i : Nat) (hi : i < L.length) : (arr L)[i]? = some (.int .i64 (rd L (i : Int))) := by simp [arr, rd, hi]
theorem arr_set (L : List Int) (i : Nat) (y : Int) : (arr L).setIfInBounds i (.int .i64 y) = arr (L.set i y) := by
  apply Array.ext_getElem?
  intro j
  simp only [arr, Array.getElem?_setIfInBounds, List.getElem?_toArray, List.getElem?_map, List.getElem?_set, List.size_toArray, List.length_map]
  by_cases h : i = j
  · subst h
    rw [if_pos rfl, if_pos rfl]
    by_cases h2 : i < L.length
    · rw [if_pos h2, if_pos h2]; rfl
    · rw [if_neg h2, if_neg h2]; rfl
  · rw [if_neg h, if_neg h]
theorem eqItems_ints (d : Nat) (K L : List Int) (w : World) (hK : K.length = 12) (hL : L.length = 12) : ∀ is : List Nat, (∀ i ∈ is, i < 12) → (Op.eqItems (d + 1) 3 (Try.prog.cellsOf 3) (arr K) (arr L) is).run Try.prog w = .ok (is.all fun i => rd K (i : Int) == rd L (i : Int)) w := by
  have hc : Try.prog.cellsOf 3 = 1 := by kernel_rfl
  have hp : ∀ (M : List Int) (i : Nat), i < M.length → (part 3 (arr M) (i * 1)).run Try.prog w = .ok (.int .i64 (rd M (i : Int))) w := by
    intro M i hi
    have ha : (isAgg 3).run Try.prog w = .ok false w := by kernel_rfl
    simp only [part, Sem.run_bind, ha, Result.andThen_ok, Nat.mul_one, arr_at M i hi]
    simp [Sem.run_pure]
  rw [hc]
  intro is
  induction is with
  | nil => intro _; rfl
  | cons i is ih =>
    intro h
    have hi := h i List.mem_cons_self
    simp only [Op.eqItems, Sem.run_bind, hp K i (by omega), hp L i (by omega), Result.andThen_ok, run_equalIn_int w d 3 .i64 .i64 _ _ Try.underlying3]
    rw [List.all_cons]
    cases hq : (rd K (i : Int) == rd L (i : Int))
    · simp
    · simp only [Bool.not_true, Bool.false_eq_true, if_false, Bool.true_and]
      exact ih (fun j hj => h j (List.mem_cons_of_mem _ hj))
theorem eq_of_all {K L : List Int} (hK : K.length = 12) (hL : L.length = 12) : ((List.range 12).all fun i => rd K (i : Int) == rd L (i : Int)) = decide (K = L) := by
  rw [Bool.eq_iff_iff, List.all_eq_true, decide_eq_true_eq]
  constructor
  · intro h
    apply List.ext_getElem (by omega)
    intro i h1 h2
    have := h i (List.mem_range.2 (by omega))
    simp only [beq_iff_eq] at this
    simpa [rd, List.getElem?_eq_getElem h1, List.getElem?_eq_getElem h2] using this
  · rintro rfl i _
    simp
theorem equal12 (K L : List Int) (w : World) (hK : K.length = 12) (hL : L.length = 12) : (Op.equalIn 10000 87 (.agg (arr K)) (.agg (arr L))).run Try.prog w = .ok (decide (K = L)) w := by
  have hu : Try.prog.underlying 87 = some (.array 12 3) := by kernel_rfl
  obtain ⟨i3, hi3, _⟩ := info_parts info3
  rw [show (10000 : Nat) = 9999 + 1 from rfl, run_equalIn_array w 9999 (arr K) (arr L) hu hi3, show (9999 : Nat) = 9998 + 1 from rfl, eqItems_ints 9998 K L w hK hL _ (fun i hi => List.mem_range.1 hi), eq_of_all hK hL]
/-- A load of a row of cells, wherever it begins. -/
theorem run_loadVar_at {w : World} {g o : Nat} {t : TypeId} {L : List Int} (ty : TypeId) (cs : Array Value) (hg : Whole w g t cs) (hL : ∀ i, i < L.length → cs[o + i]? = some (.int .i64 (rd L (i : Int)))) (ha : (isAgg ty).run Try.prog w = .ok true w) (hs : (sizeOf ty).run Try.prog w = .ok L.length w) :
    (loadVar ty ⟨g, o, none⟩).run Try.prog w = .ok (.agg (arr L)) w := by
  have hl := run_loadCells_list (P := Try.prog) w ⟨g, o, none⟩ (L.map (Value.int .i64)) (fun j v hv => by
    rw [List.getElem?_map, Option.map_eq_some_iff] at hv
    obtain ⟨y, hy, rfl⟩ := hv
    have hj := (List.getElem?_eq_some_iff.1 hy).1
    have hadd : (⟨g, o, none⟩ : Addr).add j = ⟨g, o + j, none⟩ := by unfold Addr.add; split <;> simp_all
    rw [hadd, hg.cell, hL j hj]
    simp [rd, hy])
  rw [List.length_map] at hl
  simp [loadVar, Sem.run_bind, ha, hs, hl, arr]
theorem wpList_loadvar {P : Program} {ops : Array Oper} {rest : List Oper} {o : Oper} {a : Act} {w : World} {Q : Exit → Act → World → Prop} (hgd : o.guard = none) (ty : TypeId) (x : Operand) (ho : o.op = .load ty x) {ad : Addr} {v : Value}
    (hx : a.eval x = .pointer (some ad)) (hr : (loadVar ty ad).run P w = .ok v w) (h : wpList P ops Q rest (a.put o.dst v) w) : wpList P ops Q (o :: rest) a w :=
  wpList_plain hgd fun K hK => by
    unfold Oper.wp execOp
    simp only [ho, hx, Instr.loadAt, Instr.sureAddr, Sem.run_bind, Sem.run_pure, Result.andThen_ok, hr]
    exact hK _ _ h

theorem got_step {m : Int} {t p L : List Int} {x : Int} {k : Nat} (hk : k < L.length) : (remW m t p x k ++ L.drop k).set k (iterW m t p k x % m) = remW m t p x (k + 1) ++ L.drop (k + 1) := by
  rw [remW_succ, List.append_assoc, List.set_append_right _ _ (by rw [remW_length]; omega), remW_length, Nat.sub_self, List.drop_eq_getElem_cons hk]
  rfl

set_option maxRecDepth 100000 in
set_option maxHeartbeats 4000000 in
theorem follows_any (m : Int) (A1 A2 : Option Addr) (c1 c2 : Nat) (t p : List Int) (x : Int) (n : Int) (a0 a1 a2 a3 a4 a5 a6 a7 a8 a9 a10 a11 : Int) (K : Nat) (w : World) (hR : RuleIs m t p) (hK : K ≤ 12) (hmid : ∀ i, i < K → midB (iterW m t p i x)) (h1 : Kd.C (Kd.int .i64) w A1 t.length t) (h2 : Kd.C (Kd.int .i64) w A2 p.length p) :
    Calls Try.prog 67 #[rv m (.slice A1 t.length c1) (.slice A2 p.length c2), .int .i64 x, cE n a0 a1 a2 a3 a4 a5 a6 a7 a8 a9 a10 a11, .int .i64 K] w fun e w' => e = .returned (.bool (followsW m t p ([a0, a1, a2, a3, a4, a5, a6, a7, a8, a9, a10, a11].take K) x)) ∧ Below w.heap.size w w' := by
  obtain ⟨L, hL⟩ : ∃ L : List Int, [a0, a1, a2, a3, a4, a5, a6, a7, a8, a9, a10, a11] = L := ⟨_, rfl⟩
  have hlen : L.length = 12 := by rw [← hL]; rfl
  have hcell : #[.int .i64 n, .int .i64 a0, .int .i64 a1, .int .i64 a2, .int .i64 a3, .int .i64 a4, .int .i64 a5, .int .i64 a6, .int .i64 a7, .int .i64 a8, .int .i64 a9, .int .i64 a10, .int .i64 a11] = cC n L := by rw [← hL]; rfl
  have harr : #[.int .i64 a0, .int .i64 a1, .int .i64 a2, .int .i64 a3, .int .i64 a4, .int .i64 a5, .int .i64 a6, .int .i64 a7, .int .i64 a8, .int .i64 a9, .int .i64 a10, .int .i64 a11] = arr L := by rw [← hL]; rfl
  rw [hL]
  have m2 := hR.m2
  have m6 := hR.m6
  have HA := Lib.hid h1
  have HB := Lib.hid h2
  have HR := Lib.hid hR
  have HM := Lib.hid hmid
  have HCE := Lib.hid hcell
  have HAR := Lib.hid harr
  clear h1 h2 hR hmid hcell harr hL
  go_enter Try.func67, Try.ntmps67
  go_wp2
  go_loopw [1, 14] (fun y i wr => ∃ k : Nat, k ≤ K ∧ i = .int .i64 k ∧ y = .int .i64 (iterW m t p k x) ∧ Below w.heap.size w wr ∧ Whole wr w.heap.size 75 #[.int .i64 m, .slice A1 t.length c1, .slice A2 p.length c2] ∧ Whole wr (w.heap.size + 1) 89 (cC n L) ∧ Whole wr (w.heap.size + 1 + 1) 87 (arr (remW m t p x k ++ L.drop k))) (fun _ i _ => K - (intOf i).toNat)
  case atStart =>
    have g1 := ((Whole.new w 75 #[.int .i64 m, .slice A1 t.length c1, .slice A2 p.length c2]).alloc (.cells (cC n L) 89)).alloc (.cells (arr L) 87)
    have g2 := (Whole.new (w.alloc (rbox m (.slice A1 t.length c1) (.slice A2 p.length c2))) 89 (cC n L)).alloc (.cells (arr L) 87)
    have g3 := Whole.new ((w.alloc (rbox m (.slice A1 t.length c1) (.slice A2 p.length c2))).alloc (.cells (cC n L) 89)) 87 (arr L)
    simp only [World.size_alloc] at g2 g3
    rw [HCE.out, HAR.out]
    exact ⟨0, Nat.zero_le _, rfl, rfl, below_alloc (below_alloc (below_alloc (Below.refl _ _) _) _) _, g1, g2, by simpa [remW] using g3⟩
  case round =>
    obtain ⟨k, hk, rfl, rfl, hB, hG, hH, hT⟩ := hrel
    have g0 := hG.cell 0
    have g1 := hG.cell 1
    have g2 := hG.cell 2
    simp only [List.getElem?_toArray, List.getElem?_cons_zero, List.getElem?_cons_succ] at g0 g1 g2
    have hlt1 := hG.lt
    by_cases hlt : k < K
    · have HG := Lib.hid hG
      have HH := Lib.hid hH
      have HT := Lib.hid hT
      have HB3 := Lib.hid hB
      have hmd := HM.out k hlt
      have HMD := Lib.hid hmd
      have HIT := Lib.hid (iterW_snoc m t p k x)
      have HGS := Lib.hid (got_step (m := m) (t := t) (p := p) (x := x) (show k < L.length by omega))
      have hlen2 : (remW m t p x k ++ L.drop k).length = 12 := by rw [List.length_append, remW_length, List.length_drop]; omega
      have HLEN := Lib.hid hlen2
      have HKI := Lib.hid (show (k : Int) < 12 by omega)
      clear hG hH hT hB hmd hlen2
      generalize hy : iterW m t p k x = y at *
      generalize remW m t p x k ++ L.drop k = M at *
      have hk12 := HKI.out
      go_wp2_with (first
        | (go_at_call 73; refine (rest_any m _ _ y _ rfl rfl m2 m6).mono ?_; rintro e w2 ⟨rfl, hb⟩; have q1 := HG.out.below hb HG.out.lt; have q2 := HH.out.below hb HH.out.lt; have q3 := HT.out.below hb HT.out.lt; have q4 := below_then HB3.out HB3.out.size hb; have d0 := q1.cell 0; have d1 := q1.cell 1; have d2 := q1.cell 2; simp only [List.getElem?_toArray, List.getElem?_cons_zero, List.getElem?_cons_succ] at d0 d1 d2; have x0 := (q3.cell k).trans (arr_at M k (by rw [HLEN.out]; omega)); have xf := q3.frozen k; have xl := q3.lt; have Q1 := Lib.hid (q1.far (p := ⟨w.heap.size + 1 + 1, k, none⟩) (by simp; omega) (.int .i64 (y % m))); have Q2 := Lib.hid (q2.far (p := ⟨w.heap.size + 1 + 1, k, none⟩) (by simp) (.int .i64 (y % m))); have Q3 := Lib.hid (q3.set k (.int .i64 (y % m))); have Q4 := Lib.hid (Below.setAt q4 (show w.heap.size ≤ w.heap.size + 1 + 1 by omega) k (.int .i64 (y % m))); clear q1 q2 q3 q4 hb)
        | (go_at_call 74; refine (sent_any m A1 A2 c1 c2 t p y _ HR.out HMD.out (Kd.C_below HA.out Q4.out) (Kd.C_below HB.out Q4.out)).mono ?_; rintro e w3 ⟨rfl, hb⟩; have HB4 := Lib.hid hb; clear hb))
      have q1 := Q1.out.below HB4.out Q1.out.lt
      have q2 := Q2.out.below HB4.out Q2.out.lt
      have q3 := Q3.out.below HB4.out Q3.out.lt
      rw [arr_set] at q3
      exact ⟨⟨k + 1, by omega, by go_num, by rw [HIT.out], below_then Q4.out Q4.out.size HB4.out, q1, q2, by rw [← HGS.out]; exact q3⟩, by simp [intOf]; omega⟩
    · obtain rfl : k = K := by omega
      have hlen2 : (remW m t p x k ++ L.drop k).length = 12 := by rw [List.length_append, remW_length, List.length_drop]; omega
      have hag : (isAgg 87).run Try.prog wr = .ok true wr := by kernel_rfl
      have hsz : (sizeOf 87).run Try.prog wr = .ok 12 wr := by kernel_rfl
      have l1 := run_loadVar_at (L := remW m t p x k ++ L.drop k) 87 _ hT (o := 0) (fun i hi => by rw [Nat.zero_add]; exact arr_at _ i hi) hag (by rw [hlen2]; exact hsz)
      have l2 := run_loadVar_at (L := L) 87 _ hH (o := 1) (fun i hi => cC_at n L i hi) hag (by rw [hlen]; exact hsz)
      have heq := fun W => equal12 (remW m t p x k ++ L.drop k) L W hlen2 hlen
      have hres : decide (remW m t p x k ++ L.drop k = L) = followsW m t p (L.take k) x := by
        rw [Bool.eq_iff_iff, decide_eq_true_eq, follows_iff]
        have hl3 : (L.take k).length = k := by rw [List.length_take]; omega
        rw [hl3]
        constructor
        · intro h
          have := congrArg (List.take k) h
          rwa [List.take_append_of_le_length (by rw [remW_length]; omega), List.take_of_length_le (by rw [remW_length]; omega)] at this
        · intro h
          rw [h, List.take_append_drop]
      rw [hres] at heq
      have HBL := Lib.hid hB
      clear hres hlen2 hag hsz hB hG hH hT
      generalize remW m t p x k ++ L.drop k = M at *
      go_wp2_with (first
        | ((with_reducible refine gate_dst (N := 26) rfl ?_); refine wpList_loadvar rfl 87 _ rfl rfl l1 ?_)
        | ((with_reducible refine gate_dst (N := 28) rfl ?_); refine wpList_loadvar rfl 87 _ rfl rfl l2 ?_))
      go_ret
      exact ⟨rfl, HBL.out⟩
end Go.Proofs.Ytkjojcepombhpaa.L

/- Start comes to what wheel_Start.f says. -/
namespace Go.Proofs.Ytkjojcepombhpaa.L
set_option linter.unusedVariables false
set_option linter.unusedSimpArgs false
open Go.RowKit Go.Shelf Go.Proofs.YtkjojcepombhpaaW.PrintWords Go.Proofs.YtkjojcepombhpaaW.PrintLast Go.Proofs.YtkjojcepombhpaaW.PrintMore

def wheel_Start.f (m : Int) (t p l : List Int) : Option (Int × Int) := some (if ruleB m t p && courseB m l then (startW m t p l l.length, 0) else (0, 2))

theorem powW_small {m : Int} {t p : List Int} (h : RuleIs m t p) (k : Nat) (hk : k ≤ 12) : 1 ≤ powW m k ∧ powW m k ≤ 2176782336 := by
  have h1 := powW_pos h k
  have h2 := powW_le6 h k
  have h3 := pow6_le hk
  have e : (6 : Int) ^ 12 = 2176782336 := by decide
  omega

set_option maxRecDepth 100000 in
set_option maxHeartbeats 4000000 in
theorem start_bad (m : Int) (A1 : Option Addr) (c1 : Nat) (t : List Int) (A2 : Option Addr) (c2 : Nat) (p : List Int) (A : Option Addr) (c : Nat) (l : List Int) (w : World) (h1 : Kd.C (Kd.int .i64) w A1 t.length t) (h2 : Kd.C (Kd.int .i64) w A2 p.length p) (h3 : Kd.C (Kd.int .i64) w A l.length l) (hb : (ruleB m t p && courseB m l) = false) :
    Calls Try.prog 35 #[.agg #[.int .i64 m, .slice A1 t.length c1, .slice A2 p.length c2], .slice A l.length c] w fun e w' => e = .returned (.tuple #[.int .i64 0, .int .i64 2]) ∧ Below w.heap.size w w' := by
  have HA := Lib.hid h1
  have HB := Lib.hid h2
  have HC := Lib.hid h3
  clear h1 h2 h3
  have B0 := below_alloc (Below.refl w.heap.size w) (.cells #[.int .i64 m, .slice A1 t.length c1, .slice A2 p.length c2] 24)
  have HN := Lib.hid (newRule_any m A1 A2 c1 c2 t p _ (Kd.C_below HA.out B0) (Kd.C_below HB.out B0))
  have RB : ∀ w1 : World, Below (w.alloc (.cells #[.int .i64 m, .slice A1 t.length c1, .slice A2 p.length c2] 24)).heap.size (w.alloc (.cells #[.int .i64 m, .slice A1 t.length c1, .slice A2 p.length c2] 24)) w1 → Below w.heap.size w (w1.alloc (rbox m (.slice A1 t.length c1) (.slice A2 p.length c2))) := fun w1 hb => below_alloc (below_then B0 B0.size hb) _
  have HRB := Lib.hid RB
  clear RB B0
  cases hr : ruleB m t p
  · rw [hr] at HN
    clear hb hr
    go_enter Try.func35, Try.ntmps35
    go_wp2_with (go_at_call 58; refine HN.out.mono ?_; rintro e w1 ⟨rfl, hb⟩; have HB1 := Lib.hid (HRB.out _ hb); clear hb)
    go_ret2
    exact ⟨rfl, HB1.out⟩
  · have hR := ruleB_is hr
    have hm : 2 ≤ m ∧ m ≤ 6 := ⟨hR.m2, hR.m6⟩
    rw [hr] at hb HN
    have HCC := Lib.hid (show courseB m l = false by simpa using hb)
    clear hR hb hr
    go_enter Try.func35, Try.ntmps35
    go_wp2_with (first
      | (go_at_call 58; refine HN.out.mono ?_; rintro e w1 ⟨rfl, hb⟩; have HB1 := Lib.hid (HRB.out _ hb); clear hb)
      | (go_at_call 72; refine (newCourse_no m (.slice A1 t.length c1) (.slice A2 p.length c2) A c l _ rfl rfl hm (Kd.C_below HC.out HB1.out) HCC.out).mono ?_; rintro e w2 ⟨rfl, hb⟩; have HB2 := Lib.hid (below_then HB1.out HB1.out.size hb); clear hb))
    go_ret2
    exact ⟨rfl, below_alloc HB2.out _⟩

set_option maxRecDepth 100000 in
set_option maxHeartbeats 8000000 in
theorem start_ok (m : Int) (A1 : Option Addr) (c1 : Nat) (t : List Int) (A2 : Option Addr) (c2 : Nat) (p : List Int) (A : Option Addr) (c : Nat) (l : List Int) (w : World) (h1 : Kd.C (Kd.int .i64) w A1 t.length t) (h2 : Kd.C (Kd.int .i64) w A2 p.length p) (h3 : Kd.C (Kd.int .i64) w A l.length l) (hrb : ruleB m t p = true) (hcb : courseB m l = true) :
    Calls Try.prog 35 #[.agg #[.int .i64 m, .slice A1 t.length c1, .slice A2 p.length c2], .slice A l.length c] w fun e w' => e = .returned (.tuple #[.int .i64 (startW m t p l l.length), .int .i64 0]) ∧ Below w.heap.size w w' := by
  have HA := Lib.hid h1
  have HB := Lib.hid h2
  have HC := Lib.hid h3
  clear h1 h2 h3
  have B0 := below_alloc (Below.refl w.heap.size w) (.cells #[.int .i64 m, .slice A1 t.length c1, .slice A2 p.length c2] 24)
  have HN := Lib.hid (newRule_any m A1 A2 c1 c2 t p _ (Kd.C_below HA.out B0) (Kd.C_below HB.out B0))
  rw [hrb] at HN
  have RB : ∀ w1 : World, Below (w.alloc (.cells #[.int .i64 m, .slice A1 t.length c1, .slice A2 p.length c2] 24)).heap.size (w.alloc (.cells #[.int .i64 m, .slice A1 t.length c1, .slice A2 p.length c2] 24)) w1 → Below w.heap.size w (w1.alloc (rbox m (.slice A1 t.length c1) (.slice A2 p.length c2))) ∧ w.heap.size ≤ w1.heap.size := fun w1 hb => ⟨below_alloc (below_then B0 B0.size hb) _, Nat.le_trans B0.size hb.size⟩
  have HRB := Lib.hid RB
  clear RB B0
  have hR := ruleB_is hrb
  have m2 := hR.m2
  have m6 := hR.m6
  have hm : 2 ≤ m ∧ m ≤ 6 := ⟨m2, m6⟩
  obtain ⟨hci, hl⟩ := course_is hcb
  obtain ⟨a0, a1, a2, a3, a4, a5, a6, a7, a8, a9, a10, a11, hL⟩ := twelve (padL l) (padL_length l hl)
  have htk := padL_take l
  rw [hL] at htk
  have HR := Lib.hid hR
  have HL := Lib.hid hL
  have HT := Lib.hid htk
  have HCC := Lib.hid hcb
  have HCI := Lib.hid hci
  clear hL htk hcb hci hrb hR
  go_enter Try.func35, Try.ntmps35
  go_wp2_with (first
    | (go_at_call 58; refine HN.out.mono ?_; rintro e w1 ⟨rfl, hb⟩; obtain ⟨hb1, hs1⟩ := HRB.out _ hb; have HB1 := Lib.hid hb1; clear hb hb1)
    | (go_at_call 72; refine (newCourse_yes m (.slice A1 t.length c1) (.slice A2 p.length c2) A c l _ rfl rfl hm (Kd.C_below HC.out HB1.out) HCC.out a0 a1 a2 a3 a4 a5 a6 a7 a8 a9 a10 a11 HL.out).mono ?_; rintro e w2 ⟨rfl, hb⟩; have gR := (Whole.new w1 75 #[.int .i64 m, .slice A1 t.length c1, .slice A2 p.length c2]).below hb (by simp); have HG := Lib.hid (gR.alloc (.cells #[.int .i64 l.length, .int .i64 a0, .int .i64 a1, .int .i64 a2, .int .i64 a3, .int .i64 a4, .int .i64 a5, .int .i64 a6, .int .i64 a7, .int .i64 a8, .int .i64 a9, .int .i64 a10, .int .i64 a11] 89)); have HH := Lib.hid (Whole.new w2 89 #[.int .i64 l.length, .int .i64 a0, .int .i64 a1, .int .i64 a2, .int .i64 a3, .int .i64 a4, .int .i64 a5, .int .i64 a6, .int .i64 a7, .int .i64 a8, .int .i64 a9, .int .i64 a10, .int .i64 a11]); have HB2 := Lib.hid (below_alloc (below_then HB1.out HB1.out.size hb) (.cells #[.int .i64 l.length, .int .i64 a0, .int .i64 a1, .int .i64 a2, .int .i64 a3, .int .i64 a4, .int .i64 a5, .int .i64 a6, .int .i64 a7, .int .i64 a8, .int .i64 a9, .int .i64 a10, .int .i64 a11] 89)); have hs2 := hb.size; simp only [World.size_alloc] at hs2; clear hb gR))
  go_loopw [9, 10, 11] (fun ov pv kv wr => ∃ k : Nat, k ≤ l.length ∧ kv = .int .i64 ((k : Int) + 1) ∧ ov = .int .i64 (startW m t p l k) ∧ pv = .int .i64 (powW m k) ∧ Below w.heap.size w wr ∧ Whole wr w1.heap.size 75 #[.int .i64 m, .slice A1 t.length c1, .slice A2 p.length c2] ∧ Whole wr w2.heap.size 89 #[.int .i64 l.length, .int .i64 a0, .int .i64 a1, .int .i64 a2, .int .i64 a3, .int .i64 a4, .int .i64 a5, .int .i64 a6, .int .i64 a7, .int .i64 a8, .int .i64 a9, .int .i64 a10, .int .i64 a11]) (fun _ _ kv _ => l.length + 1 - (intOf kv).toNat)
  case atStart => exact ⟨0, Nat.zero_le _, rfl, rfl, rfl, HB2.out, HG.out, HH.out⟩
  case round =>
    obtain ⟨k, hk, rfl, rfl, rfl, hB, hG, hH⟩ := hrel
    have hcf : ∀ i, i < 13 → wr.cell? ⟨w2.heap.size, i, none⟩ = (#[Value.int .i64 l.length, .int .i64 a0, .int .i64 a1, .int .i64 a2, .int .i64 a3, .int .i64 a4, .int .i64 a5, .int .i64 a6, .int .i64 a7, .int .i64 a8, .int .i64 a9, .int .i64 a10, .int .i64 a11] : Array Value)[i]? := fun i _ => hH.cell i
    have k0 := hcf 0 (by omega)
    simp only [List.getElem?_toArray, List.getElem?_cons_zero] at k0
    have hltH := hH.lt
    have hltG := hG.lt
    have HB3 := Lib.hid hB
    have HG3 := Lib.hid hG
    have HH3 := Lib.hid hH
    clear hcf hB hG hH
    by_cases hlt : k < l.length
    · obtain ⟨s1, s2, s3⟩ := startW_spec HR.out HCI.out k (by omega)
      have hlen : (l.take k).length = k := by rw [List.length_take]; omega
      have et := take_succ_rd l k hlt
      have hr := CourseIs.at (l := l) (n := l.length) (k := k) (by rw [List.take_length]; exact HCI.out) hlt (Nat.le_refl _)
      obtain ⟨J, hJ1, hJ, hno⟩ := find_ends HR.out s1 (HCI.out.take k) hr
      rw [hlen, ← et] at hJ hno
      have hsucc : startW m t p l (k + 1) = startW m t p l k + powW m k * J := findW_at m t p (l.take (k + 1)) (powW m k) J 6 _ (by omega) hJ hno
      have hpk := powW_small HR.out k (by omega)
      have hpk1 := powW_small HR.out (k + 1) (by omega)
      have hps : powW m (k + 1) = powW m k * m := by rw [powW_succ, Int.mul_comm]
      have HS := Lib.hid hsucc
      have HPS := Lib.hid hps
      have HJ := Lib.hid hJ
      have HNO := Lib.hid hno
      have hmidx : ∀ j : Nat, j ≤ J → ∀ i, i < k + 1 → midB (iterW m t p i (startW m t p l k + powW m k * j)) := by
        intro j hj i hi
        have q1 : powW m k * j ≤ powW m k * (m - 1) := Int.mul_le_mul_of_nonneg_left (by omega) (by omega)
        have q2 : 0 ≤ powW m k * j := Int.mul_nonneg (by omega) (by omega)
        rw [Int.mul_sub, Int.mul_one, ← hps] at q1
        exact iter_mid HR.out (k := k + 1) (by omega) (by omega) (by omega) i hi
      have HM := Lib.hid hmidx
      have htk2 : ([a0, a1, a2, a3, a4, a5, a6, a7, a8, a9, a10, a11].take l.length).take (k + 1) = [a0, a1, a2, a3, a4, a5, a6, a7, a8, a9, a10, a11].take (k + 1) := by rw [List.take_take, Nat.min_eq_left (by omega)]
      rw [HT.out] at htk2
      have HT2 := Lib.hid htk2
      have hJP : powW m k * J ≤ 13060694016 := by
        have := Int.mul_le_mul hpk.2 (show (J : Int) ≤ 6 by omega) (by omega) (by omega)
        omega
      clear hJ hno hsucc s1 et hmidx htk2 hps hlen
      generalize hS0 : startW m t p l k = S at *
      generalize powW m k = Pk at *
      generalize hP1 : powW m (k + 1) = Pk1 at *
      have HP1 := Lib.hid hP1
      clear hP1
      have hkb : decide ((k : Int) + 1 ≤ (l.length : Int)) = true := decide_eq_true (by omega)
      go_wp2
      go_loopw [9] (fun ov wr2 => ∃ j : Nat, j ≤ J ∧ ov = .int .i64 (S + Pk * j) ∧ Below w.heap.size w wr2 ∧ Whole wr2 w1.heap.size 75 #[.int .i64 m, .slice A1 t.length c1, .slice A2 p.length c2] ∧ Whole wr2 w2.heap.size 89 #[.int .i64 l.length, .int .i64 a0, .int .i64 a1, .int .i64 a2, .int .i64 a3, .int .i64 a4, .int .i64 a5, .int .i64 a6, .int .i64 a7, .int .i64 a8, .int .i64 a9, .int .i64 a10, .int .i64 a11]) (fun ov _ => (S + Pk * J - intOf ov).toNat)
      case atStart => exact ⟨0, Nat.zero_le _, by simp, HB3.out, HG3.out, HH3.out⟩
      case round =>
        obtain ⟨j, hj, rfl, hB, hG, hH⟩ := hrel
        have z0 := hG.cell 0
        have z1 := hG.cell 1
        have z2 := hG.cell 2
        have zl := hG.lt
        have k0 := hH.cell 0
        have k1 := hH.cell 1
        have k2 := hH.cell 2
        have k3 := hH.cell 3
        have k4 := hH.cell 4
        have k5 := hH.cell 5
        have k6 := hH.cell 6
        have k7 := hH.cell 7
        have k8 := hH.cell 8
        have k9 := hH.cell 9
        have k10 := hH.cell 10
        have k11 := hH.cell 11
        have k12 := hH.cell 12
        have kl := hH.lt
        simp only [List.getElem?_toArray, List.getElem?_cons_zero, List.getElem?_cons_succ] at z0 z1 z2 k0 k1 k2 k3 k4 k5 k6 k7 k8 k9 k10 k11 k12
        have hq : Pk * (j : Int) ≤ Pk * J := Int.mul_le_mul_of_nonneg_left (by omega) (by omega)
        have hq0 : 0 ≤ Pk * (j : Int) := Int.mul_nonneg (by omega) (by omega)
        have HB4 := Lib.hid hB
        have HG4 := Lib.hid hG
        have HH4 := Lib.hid hH
        have hf := follows_any m A1 A2 c1 c2 t p (S + Pk * j) l.length a0 a1 a2 a3 a4 a5 a6 a7 a8 a9 a10 a11 (k + 1) wr (by exact HR.out) (by omega) (HM.out j hj) (Kd.C_below HA.out hB) (Kd.C_below HB.out hB)
        rw [← HT2.out] at hf
        clear hB hG hH
        rw [Int.natCast_add, Int.natCast_one] at hf
        by_cases hjl : j < J
        · rw [HNO.out j hjl] at hf
          have HF := Lib.hid hf
          have hstep : Pk * ((j + 1 : Nat) : Int) = Pk * j + Pk := by rw [Int.natCast_add, Int.mul_add, Int.natCast_one, Int.mul_one]
          have hq2 : Pk * ((j + 1 : Nat) : Int) ≤ Pk * J := Int.mul_le_mul_of_nonneg_left (by omega) (by omega)
          have HST := Lib.hid hstep
          have HQ2 := Lib.hid hq2
          clear hf hstep hq2
          generalize Pk * (j : Int) = q at *
          go_wp2_with (go_at_call 67; refine HF.out.mono ?_; rintro e w3 ⟨rfl, hb⟩; have HB5 := Lib.hid hb; clear hb)
          have e1 := HST.out
          have e2 := HQ2.out
          exact ⟨⟨j + 1, by omega, by rw [e1]; go_num, below_then HB4.out HB4.out.size HB5.out, HG4.out.below HB5.out zl, HH4.out.below HB5.out kl⟩, by simp [intOf]; omega⟩
        · obtain rfl : j = J := by omega
          rw [HJ.out] at hf
          have HF := Lib.hid hf
          have e0 := HS.out
          have HE0 := Lib.hid e0
          clear hf e0
          have hz : Pk1 = Pk * m := HPS.out
          have HZ := Lib.hid hz
          clear hz
          have hmm : Pk * m ≤ 2176782336 ∧ 1 ≤ Pk * m := by have := HZ.out; omega
          generalize Pk * (j : Int) = q at *
          go_wp2_with (go_at_call 67; refine HF.out.mono ?_; rintro e w3 ⟨rfl, hb⟩; have y0 := (HG4.out.below hb zl).cell 0; simp only [List.getElem?_toArray, List.getElem?_cons_zero] at y0; have yl := (HG4.out.below hb zl).lt; have HB5 := Lib.hid hb; clear hb)
          have e1 := HE0.out
          have e2 := HZ.out
          exact ⟨⟨k + 1, by omega, by go_num, by rw [e1], by rw [HP1.out, e2], below_then HB4.out HB4.out.size HB5.out, HG4.out.below HB5.out zl, HH4.out.below HB5.out kl⟩, by simp [intOf]; omega⟩
    · obtain rfl : k = l.length := by omega
      go_wp2
      go_ret2
      exact ⟨rfl, HB3.out⟩

theorem wheel_Start.calls (m : Int) (A1 : Option Addr) (c1 : Nat) (t : List Int) (A2 : Option Addr) (c2 : Nat) (p : List Int) (A : Option Addr) (c : Nat) (l : List Int) (r1 r2 : Int) (w : World) (h1 : Kd.C (Kd.int .i64) w A1 t.length t) (hc1 : t.length ≤ c1) (h2 : Kd.C (Kd.int .i64) w A2 p.length p) (hc2 : p.length ≤ c2) (h3 : Kd.C (Kd.int .i64) w A l.length l) (hc3 : l.length ≤ c) (h : wheel_Start.f m t p l = some (r1, r2)) :
    Calls Try.prog 35 #[.agg #[.int .i64 m, .slice A1 t.length c1, .slice A2 p.length c2], .slice A l.length c] w fun e w' => e = .returned (.tuple #[.int .i64 r1, .int .i64 r2]) ∧ Below w.heap.size w w' := by
  simp only [wheel_Start.f, Option.some.injEq] at h
  cases hb : (ruleB m t p && courseB m l)
  · rw [hb] at h
    simp only [Bool.false_eq_true, if_false, Prod.mk.injEq] at h
    obtain ⟨rfl, rfl⟩ := h
    exact start_bad m A1 c1 t A2 c2 p A c l w h1 h2 h3 hb
  · rw [hb] at h
    simp only [if_true, Prod.mk.injEq] at h
    obtain ⟨rfl, rfl⟩ := h
    simp only [Bool.and_eq_true] at hb
    exact start_ok m A1 c1 t A2 c2 p A c l w h1 h2 h3 hb.1 hb.2
end Go.Proofs.Ytkjojcepombhpaa.L
