/- Falls comes to what wheel_Falls.f says. -/
import Derived.Test.YtkjojcepombhpaaXOrbit
import Derived.Maps.RangeWalk
namespace Go.Proofs.Ytkjojcepombhpaa.L
set_option linter.unusedVariables false
set_option linter.unusedSimpArgs false
open Go.RowKit Go.Shelf Go.Maps Go.Proofs.YtkjojcepombhpaaW.PrintWords Go.Proofs.YtkjojcepombhpaaW.PrintLast Go.Proofs.YtkjojcepombhpaaW.PrintMore

/-- The products of the courses of a length. -/
def prodsW (t : List Int) : Nat → List Int
  | 0 => [1]
  | k + 1 => (prodsW t k).flatMap fun a => t.map (a * ·)
def fallsW (m : Int) (t : List Int) (k : Nat) : Int := (((prodsW t k).filter fun a => decide (a < powW m k)).length : Int)
def wheel_Falls.f (m : Int) (t p : List Int) (k : Int) : Option (Int × Int) := some (if ruleB m t p && inB k 0 12 then (fallsW m t k.toNat, 0) else (0, 2))

/-- How often. -/
def cntF (c : Int → Nat) (v : Int) : Option Int := if c v = 0 then none else some (c v : Int)

/-- A look-up, its run being known. -/
theorem wpList_lookup_runP {P : Program} {w : World} {ops : Array Oper} {rest : List Oper} {o : Oper} {a : Act} {Q : Exit → Act → World → Prop} (hg : o.guard = none) (m x : Operand) (t : TypeId) {ok : Bool} (hop : o.op = Op.lookup t m x ok)
    {mv key v : Value} (hm : a.eval m = mv) (hx : a.eval x = key) (hrun : (Instr.lookup t mv key ok).run P w = .ok v w) (hK : wpList P ops Q rest (a.put o.dst v) w) :
    wpList P ops Q (o :: rest) a w := by
  refine wpList_plain hg fun K' hK' => ?_
  unfold Oper.wp
  simp [execOp, hop, hm, hx, hrun, Result.andThen]
  exact hK' _ _ hK
/-- A store in a map, its run being known. -/
theorem wpList_mapUpdate_runP {P : Program} {w w' : World} {ops : Array Oper} {rest : List Oper} {o : Oper} {a : Act} {Q : Exit → Act → World → Prop} (hg : o.guard = none) (m x v : Operand) (t : TypeId) (hop : o.op = Op.mapUpdate t m x v)
    {mv key val : Value} (hm : a.eval m = mv) (hx : a.eval x = key) (hv : a.eval v = val) (hrun : (Instr.mapUpdate t mv key val).run P w = .ok () w') (hK : wpList P ops Q rest (a.put o.dst undef) w') :
    wpList P ops Q (o :: rest) a w := by
  refine wpList_plain hg fun K' hK' => ?_
  unfold Oper.wp
  simp [execOp, hop, hm, hx, hv, hrun, Result.andThen]
  exact hK' _ _ hK
/-- An entry of a map's literal. -/
theorem wpList_insert_runP {P : Program} {w w' : World} {ops : Array Oper} {rest : List Oper} {o : Oper} {a : Act} {Q : Exit → Act → World → Prop} (hg : o.guard = none) (m x v : Operand) (t : TypeId) (hop : o.op = Op.insert t m x v)
    {mv key val : Value} (hm : a.eval m = mv) (hx : a.eval x = key) (hv : a.eval v = val) (hrun : (Instr.mapUpdate t mv key val).run P w = .ok () w') (hK : wpList P ops Q rest (a.put o.dst undef) w') :
    wpList P ops Q (o :: rest) a w := by
  refine wpList_plain hg fun K' hK' => ?_
  unfold Oper.wp
  simp [execOp, hop, hm, hx, hv, hrun, Result.andThen]
  exact hK' _ _ hK
theorem under102' : Try.prog.underlying 102 = some (.map 3 3) := by kernel_rfl
theorem NumsIs.look0 {W : World} {b n : Nat} {f : Int → Option Int} (h : NumsIs W b n f) (v : Int) (hv : (Lit.int .i64 v).wf = true) : (Instr.lookup 102 (.map (some b)) (.int .i64 v) false).run Try.prog W = .ok (.int .i64 ((f v).getD 0)) W := by
  obtain ⟨D, h, hD⟩ := h
  have hz : (zeroValue 3).run Try.prog W = .ok (.int .i64 0) W := by kernel_rfl
  obtain ⟨u, ps, hrun, hu⟩ := h.lookup (Maps.int_keyed Try.underlying3) under102' hz (plainElem_int Try.underlying3 (a := 0) (by decide)) (Maps.keyOf_int_mk Try.underlying3 hv)
  rw [hrun]
  obtain ⟨c, rfl, hc, _⟩ := plainElem_int_inv Try.underlying3 hu
  have hc := congrArg Prod.fst hc
  simp only at hc
  rw [hD] at hc
  cases hf : f v with
  | none => rw [hf] at hc; simp only [DataW.lit.injEq, Lit.int.injEq, true_and] at hc; simp [← hc]
  | some y => rw [hf] at hc; simp only [DataW.lit.injEq, Lit.int.injEq, true_and] at hc; simp [← hc]
theorem NumsIs.putB {W : World} {b n : Nat} {f : Int → Option Int} (h : NumsIs W b n f) (y u : Int) (hv : (Lit.int .i64 y).wf = true) (hu : (Lit.int .i64 u).wf = true) (hl : n < 4611686018427387904) :
    ∃ w', (Instr.mapUpdate 102 (.map (some b)) (.int .i64 y) (.int .i64 u)).run Try.prog W = .ok () w' ∧ NumsIs w' b (n + 1) (fun v => if v = y then some u else f v) ∧ W.grownBy w' (some b) := by
  obtain ⟨D, h, hD⟩ := h
  obtain ⟨w', r1, r2, r3⟩ := h.update (Maps.int_keyed Try.underlying3) under102' (by unfold maxLen; omega) (Maps.keyOf_int_mk Try.underlying3 hv) (plainElem_int Try.underlying3 hu)
  refine ⟨w', r1, ⟨_, r2, fun v z => ?_⟩, r3⟩
  by_cases e : v = y
  · subst e
    rw [Maps.atKey_put_same h.isMap (key_i64 v)]
    simp
  · rw [Maps.atKey_put_other (lit_ne e), hD]
    simp [e]
/-- Block b counts: c. -/
def CntIs (W : World) (b n : Nat) (c : Int → Nat) : Prop := NumsIs W b n (cntF c)
theorem CntIs.more {W : World} {b n : Nat} {c : Int → Nat} {y : Int} {q : Nat} (h : NumsIs W b n (fun v => if v = y then some ((c y + q : Nat) : Int) else cntF c v)) (hq : 0 < q) : CntIs W b n (fun v => c v + if v = y then q else 0) := by
  have e : (fun v => if v = y then some ((c y + q : Nat) : Int) else cntF c v) = cntF (fun v => c v + if v = y then q else 0) := by
    funext v
    unfold cntF
    by_cases h1 : v = y
    · subst h1
      rw [if_pos rfl, if_neg (by simp; omega)]
      simp
    · rw [if_neg h1]
      simp [h1]
  unfold CntIs
  rw [← e]
  exact h
theorem cntF_getD (c : Int → Nat) (v : Int) : (cntF c v).getD 0 = (c v : Int) := by
  unfold cntF
  split
  · rename_i h; rw [h]; rfl
  · rfl
/-- A sum over what has been met, by one key more. -/
theorem sum_left (P : List Int) (left : Lit → Bool) (x : Int) (hx : left (.int .i64 x) = true) (g : Int → Nat) :
    ((P.filter fun a => !(left (.int .i64 a) && !(Lit.int .i64 a).sameKey (.int .i64 x))).map g).sum = ((P.filter fun a => !left (.int .i64 a)).map g).sum + P.count x * g x := by
  induction P with
  | nil => simp
  | cons a P ih =>
    by_cases e : a = x
    · subst e
      have hs : (Lit.int .i64 a).sameKey (.int .i64 a) = true := by simp [Lit.sameKey]
      rw [List.filter_cons_of_pos (by rw [hs]; simp), List.filter_cons_of_neg (by rw [hx]; simp), List.map_cons, List.sum_cons, ih, List.count_cons_self, Nat.add_mul]
      omega
    · have hs : (Lit.int .i64 a).sameKey (.int .i64 x) = false := by simp [Lit.sameKey, e]
      rw [List.count_cons_of_ne (fun h => e h)]
      cases hl : left (.int .i64 a)
      · rw [List.filter_cons_of_pos (by rw [hl]; rfl), List.filter_cons_of_pos (by rw [hl]; rfl), List.map_cons, List.sum_cons, List.map_cons, List.sum_cons, ih]
        omega
      · rw [List.filter_cons_of_neg (by rw [hl, hs]; decide), List.filter_cons_of_neg (by rw [hl]; decide), ih]
theorem prodsW_in {t : List Int} (ht : ∀ a ∈ t, 1 ≤ a ∧ a ≤ 20) : ∀ k, ∀ a ∈ prodsW t k, 1 ≤ a ∧ a ≤ 20 ^ k := by
  intro k
  induction k with
  | zero => intro a ha; simp [prodsW] at ha; subst ha; decide
  | succ k ih =>
    intro a ha
    simp only [prodsW, List.mem_flatMap, List.mem_map] at ha
    obtain ⟨b, hb, c, hc, rfl⟩ := ha
    have h1 := ih b hb
    have h2 := ht c hc
    refine ⟨?_, ?_⟩
    · have := Int.mul_le_mul h1.1 h2.1 (by decide) (by omega)
      simpa using this
    · rw [Int.pow_succ]
      exact Int.mul_le_mul h1.2 h2.2 (by omega) (by omega)
theorem prodsW_length (t : List Int) : ∀ k, (prodsW t k).length = t.length ^ k := by
  intro k
  induction k with
  | zero => rfl
  | succ k ih =>
    have : ∀ l : List Int, (l.flatMap fun a => t.map (a * ·)).length = l.length * t.length := by
      intro l
      induction l with
      | nil => simp
      | cons a l ih => simp [ih, Nat.succ_mul, Nat.add_comm]
    rw [prodsW, this, ih, Nat.pow_succ]
theorem count_flat (t P : List Int) (v : Int) : (P.flatMap fun a => t.map (a * ·)).count v = (P.map fun a => (t.map (a * ·)).count v).sum := by
  induction P with
  | nil => rfl
  | cons a P ih => rw [List.flatMap_cons, List.count_append, ih, List.map_cons, List.sum_cons]
theorem count_take (t : List Int) (x v : Int) (j : Nat) (hj : j < t.length) : ((t.take (j + 1)).map (x * ·)).count v = ((t.take j).map (x * ·)).count v + if v = x * rd t (j : Int) then 1 else 0 := by
  have e : rd t (j : Int) = t[j] := by simp [rd, hj]
  rw [List.take_succ_eq_append_getElem hj, List.map_append, List.count_append, List.map_singleton, List.count_singleton, e]
  congr 1
  by_cases h : v = x * t[j]
  · rw [if_pos h, h]; simp
  · rw [if_neg h, if_neg]
    simpa using fun e => h e.symm
/-- What an entry says. -/
theorem cnt_entry {D : DataW Unit} {c : Int → Nat} (hD : ∀ v z, D.atKey (.int .i64 v) z = match cntF c v with | some y => .lit (.int .i64 y) | none => z) {x q : Int} (h : ∀ zd, D.atKey (.int .i64 x) zd = .lit (.int .i64 q)) : q = (c x : Int) ∧ 0 < c x := by
  have h1 := h (.lit (.int .i64 (q + 1)))
  rw [hD] at h1
  unfold cntF at h1
  by_cases e : c x = 0
  · rw [if_pos e] at h1
    simp only [DataW.lit.injEq, Lit.int.injEq, true_and] at h1
    omega
  · rw [if_neg e] at h1
    simp only [DataW.lit.injEq, Lit.int.injEq, true_and] at h1
    exact ⟨h1.symm, by omega⟩
/-- The sum of what the keys that have been met give. -/
def metW (t P : List Int) (left : Lit → Bool) (v : Int) : Nat := ((P.filter fun a => !left (.int .i64 a)).map fun a => (t.map (a * ·)).count v).sum
theorem metW_le (t P : List Int) (left : Lit → Bool) (v : Int) : metW t P left v ≤ P.length * t.length := by
  unfold metW
  have : ∀ l : List Int, (l.map fun a => (t.map (a * ·)).count v).sum ≤ l.length * t.length := by
    intro l
    induction l with
    | nil => simp
    | cons a l ih =>
      have h := List.count_le_length (a := v) (l := t.map (a * ·))
      rw [List.length_map] at h
      rw [List.map_cons, List.sum_cons, List.length_cons, Nat.succ_mul]
      omega
  exact Nat.le_trans (this _) (Nat.mul_le_mul_right _ (List.length_filter_le _ _))
theorem metW_start {t P : List Int} {D : DataW Unit} (hD : ∀ v z, D.atKey (.int .i64 v) z = match cntF (fun v => P.count v) v with | some y => .lit (.int .i64 y) | none => z) (v : Int) : metW t P (Maps.has D) v = 0 := by
  unfold metW
  have : (P.filter fun a => !Maps.has D (.int .i64 a)) = [] := by
    rw [List.filter_eq_nil_iff]
    intro a ha
    have : Maps.has D (.int .i64 a) = true := Maps.has_true_of_atKey (y := .lit (.int .i64 (P.count a : Int))) (fun z => by
      rw [hD]
      unfold cntF
      rw [if_neg (show ¬ P.count a = 0 by have := List.count_pos_iff.2 ha; omega)])
    rw [this]; decide
  rw [this]; rfl
theorem metW_end {t P : List Int} {left : Lit → Bool} (h : ∀ kl, left kl = false) (v : Int) : metW t P left v = (P.flatMap fun a => t.map (a * ·)).count v := by
  unfold metW
  rw [count_flat]
  have : (P.filter fun a => !left (.int .i64 a)) = P := by
    rw [List.filter_eq_self]
    intro a _
    rw [h]; rfl
  rw [this]
theorem metW_step (t P : List Int) {left : Lit → Bool} {x : Int} (hx : left (.int .i64 x) = true) (v : Int) : metW t P (fun z => left z && !z.sameKey (.int .i64 x)) v = metW t P left v + P.count x * (t.map (x * ·)).count v :=
  sum_left P left x hx (fun a => (t.map (a * ·)).count v)

/-- How many of what has been met are less. -/
def metF (P : List Int) (left : Lit → Bool) (d : Int) : Nat := ((P.filter fun a => !left (.int .i64 a)).map fun a => if a < d then 1 else 0).sum
theorem metF_le (P : List Int) (left : Lit → Bool) (d : Int) : metF P left d ≤ P.length := by
  unfold metF
  have : ∀ l : List Int, (l.map fun a => if a < d then 1 else 0).sum ≤ l.length := by
    intro l
    induction l with
    | nil => simp
    | cons a l ih =>
      rw [List.map_cons, List.sum_cons, List.length_cons]
      split <;> omega
  exact Nat.le_trans (this _) (List.length_filter_le _ _)
theorem metF_start {P : List Int} {D : DataW Unit} (hD : ∀ v z, D.atKey (.int .i64 v) z = match cntF (fun v => P.count v) v with | some y => .lit (.int .i64 y) | none => z) (d : Int) : metF P (Maps.has D) d = 0 := by
  unfold metF
  have : (P.filter fun a => !Maps.has D (.int .i64 a)) = [] := by
    rw [List.filter_eq_nil_iff]
    intro a ha
    have : Maps.has D (.int .i64 a) = true := Maps.has_true_of_atKey (y := .lit (.int .i64 (P.count a : Int))) (fun z => by
      rw [hD]
      unfold cntF
      rw [if_neg (show ¬ P.count a = 0 by have := List.count_pos_iff.2 ha; omega)])
    rw [this]; decide
  rw [this]; rfl
theorem metF_end {P : List Int} {left : Lit → Bool} (h : ∀ kl, left kl = false) (d : Int) : metF P left d = (P.filter fun a => decide (a < d)).length := by
  unfold metF
  have : (P.filter fun a => !left (.int .i64 a)) = P := by
    rw [List.filter_eq_self]
    intro a _
    rw [h]; rfl
  rw [this]
  clear this h
  induction P with
  | nil => rfl
  | cons a P ih =>
    rw [List.map_cons, List.sum_cons, ih]
    by_cases ha : a < d
    · rw [if_pos ha, List.filter_cons_of_pos (by simpa using ha), List.length_cons]; omega
    · rw [if_neg ha, List.filter_cons_of_neg (by simpa using ha)]; omega
theorem metF_step (P : List Int) {left : Lit → Bool} {x : Int} (hx : left (.int .i64 x) = true) (d : Int) : metF P (fun z => left z && !z.sameKey (.int .i64 x)) d = metF P left d + P.count x * (if x < d then 1 else 0) :=
  sum_left P left x hx (fun a => if a < d then 1 else 0)
theorem wf_nat (n : Nat) (h : n ≤ 9000000000) : (Lit.int .i64 (n : Int)).wf = true := by
  have e1 : IntKind.i64.min = -9223372036854775808 := rfl
  have e2 : IntKind.i64.max = 9223372036854775807 := rfl
  simp only [Lit.wf, e1, e2, Bool.and_eq_true, decide_eq_true_eq]
  omega
theorem step_cnt {W : World} {b n y : _} {q c0 : Nat} (c c' : Int → Nat) (hc0 : c y = c0) (hq : 0 < q) (hc' : ∀ v, c' v = c v + if v = y then q else 0) (h : NumsIs W b n (fun v => if v = y then some ((c0 + q : Nat) : Int) else cntF c v)) : CntIs W b n c' := by
  subst hc0
  have h2 := CntIs.more h hq
  rw [← (funext hc' : c' = _)] at h2
  exact h2
theorem wf_i64 {v : Int} (h1 : -9000000000000000000 ≤ v) (h2 : v ≤ 9000000000000000000) : (Lit.int .i64 v).wf = true := by
  have e1 : IntKind.i64.min = -9223372036854775808 := rfl
  have e2 : IntKind.i64.max = 9223372036854775807 := rfl
  simp only [Lit.wf, e1, e2, Bool.and_eq_true, decide_eq_true_eq]
  omega
set_option maxRecDepth 100000 in
set_option maxHeartbeats 8000000 in
theorem falls_ok (m : Int) (A1 : Option Addr) (c1 : Nat) (t : List Int) (A2 : Option Addr) (c2 : Nat) (p : List Int) (K : Nat) (w : World) (h1 : Kd.C (Kd.int .i64) w A1 t.length t) (h2 : Kd.C (Kd.int .i64) w A2 p.length p) (hrb : ruleB m t p = true) (hi : inB K 0 12 = true) :
    Calls Try.prog 48 #[.agg #[.int .i64 m, .slice A1 t.length c1, .slice A2 p.length c2], .int .i64 K] w fun e w' => e = .returned (.tuple #[.int .i64 (fallsW m t K), .int .i64 0]) ∧ Below w.heap.size w w' := by
  have hst : K ≤ 12 := by simp [inB] at hi; omega
  have hmm := @run_makeMap Try.prog
  have HA := Lib.hid h1
  have HB := Lib.hid h2
  have hRU := ruleB_is hrb
  have htl := hRU.tl
  have hm2 := hRU.m2
  have hm6 := hRU.m6
  have htin : ∀ a ∈ t, 1 ≤ a ∧ a ≤ 20 := by
    intro a ha
    obtain ⟨j, hj, rfl⟩ := List.getElem_of_mem ha
    have := hRU.ok (j : Int) (by omega) (by omega)
    rw [show rd t (j : Int) = t[j] by simp [rd, hj]] at this
    exact ⟨this.1, this.2.1⟩
  have HT := Lib.hid htin
  have HRU := Lib.hid hRU
  have B0 := below_alloc (Below.refl w.heap.size w) (rbox24 m (.slice A1 t.length c1) (.slice A2 p.length c2))
  have HN := Lib.hid (newRule_any m A1 A2 c1 c2 t p _ (Kd.C_below h1 B0) (Kd.C_below h2 B0))
  rw [hrb] at HN
  clear h1 h2 hrb hRU htin
  go_enter Try.func48, Try.ntmps48
  go_wp2_with (first
    | (go_at_call 58; refine HN.out.mono ?_; rintro e w1 ⟨rfl, hb⟩; have HB1 := Lib.hid (below_then B0 B0.size hb); have hbs := hb.size; simp only [World.size_alloc] at hbs; obtain ⟨wi, ri, hni, hgi⟩ := (NumsIs.new (w1.alloc (rbox m (.slice A1 t.length c1) (.slice A2 p.length c2)))).putB 1 1 (by decide) (by decide) (by decide); simp only [World.size_alloc] at ri; have HNI := Lib.hid hni; have HGI := Lib.hid hgi; clear hb hni hgi)
    | (go_at_call 60; refine (within_any _ _ _ _).mono ?_; rintro e w2 ⟨rfl, rfl⟩)
    | (refine wpList_insert_runP rfl _ _ _ 102 rfl rfl rfl rfl ri ?_))
  have hc0 : CntIs wi (w1.heap.size + 1) 1 (fun v => (prodsW t 0).count v) := by
    have h := HNI.out
    simp only [World.size_alloc] at h
    have e : (fun v : Int => if v = 1 then some (1 : Int) else none) = cntF (fun v => (prodsW t 0).count v) := by
      funext v
      unfold cntF
      by_cases h : v = 1
      · subst h; simp [prodsW]
      · simp [prodsW, h, Ne.symm h]
    unfold CntIs
    rw [← e]
    exact h
  have hg1 := HGI.out
  simp only [World.size_alloc] at hg1
  have hr0 : Whole wi w1.heap.size 75 #[.int .i64 m, .slice A1 t.length c1, .slice A2 p.length c2] := ((Whole.new w1 75 _).alloc _).grown hg1 (by simp)
  have hb0 : Below w.heap.size w wi := (below_alloc (below_alloc HB1.out _) _).grown hg1 (below_alloc (below_alloc HB1.out _) _).size (fun k e => by injection e with e; omega)
  have hs0 := hg1.size
  simp only [World.size_alloc] at hs0
  have HC0 := Lib.hid hc0
  have HR0 := Lib.hid hr0
  have HBW0 := Lib.hid hb0
  clear hc0 hr0 hb0 hg1 HNI HGI ri
  go_loopw [8, 9, 33] (fun u d i wr => ∃ (k bn n : Nat), k ≤ K ∧ i = .int .i64 k ∧ d = .int .i64 (powW m k) ∧ u = .map (some bn) ∧ CntIs wr bn n (fun v => (prodsW t k).count v) ∧ n ≤ 6 ^ k ∧ w1.heap.size < bn ∧ Whole wr w1.heap.size 75 #[.int .i64 m, .slice A1 t.length c1, .slice A2 p.length c2] ∧ Below w.heap.size w wr ∧ w1.heap.size + 1 ≤ wr.heap.size) (fun _ _ i _ => K - (intOf i).toNat)
  case atStart => exact ⟨0, _, 1, Nat.zero_le _, rfl, rfl, rfl, HC0.out, by decide, by omega, HR0.out, HBW0.out, by omega⟩
  case round =>
    obtain ⟨k, bn, n, hk, rfl, rfl, rfl, hC, hn, hbn, hRl, hBl, hsz⟩ := hrel
    obtain ⟨D, hown, hD⟩ := hC
    have hpin := prodsW_in HT.out k
    have hpl := prodsW_length t k
    by_cases hlt : k < K
    · have HOWN := Lib.hid hown
      have HD := Lib.hid hD
      have HRl := Lib.hid hRl
      have HBl := Lib.hid hBl
      have HPI := Lib.hid hpin
      clear hown hD hRl hBl hpin
      go_wp2_with (at_range; refine wpList_range_own _ rfl _ 102 rfl 3 3 (Maps.int_keyed Try.underlying3) under102' _ bn n D rfl (HOWN.out.kept (World.grownBy_alloc _ (.map #[] 0) none) (by simp)) ?_; intro w2 hrg hg2 hs2; have HRG := Lib.hid hrg; have HG2 := Lib.hid hg2; have HS2 := Lib.hid hs2; clear hrg hg2 hs2)
      have hlt' := HOWN.out.lt
      have hrg := HRG.out
      have hg2 := HG2.out
      have hs2 := HS2.out
      simp only [World.size_alloc] at hrg hs2
      have hcn : CntIs w2 wr.heap.size 0 (metW t (prodsW t k) (Maps.has D)) := by
        have e : (fun _ : Int => (none : Option Int)) = cntF (metW t (prodsW t k) (Maps.has D)) := by
          funext v
          unfold cntF
          rw [metW_start HD.out v]
          rfl
        unfold CntIs
        rw [← e]
        exact (NumsIs.new wr).kept hg2 (by simp)
      have hr2 := (HRl.out.alloc (.map #[] 0)).grown hg2 (by simp)
      have hb2 := (below_alloc HBl.out (.map #[] 0)).grown hg2 (below_alloc HBl.out (.map #[] 0)).size (fun k e => by cases e)
      have hsl := HOWN.out.size_le
      have HRG2 := Lib.hid hrg
      have HCN := Lib.hid hcn
      have HR2 := Lib.hid hr2
      have HB2 := Lib.hid hb2
      clear hrg hg2 hcn hr2 hb2 HRG HG2 HS2
      go_frame
      simp only [World.size_alloc]
      have hSw := HBl.out.size
      generalize hS : wr.heap.size = S at *
      go_loopw [46] (fun u W' => ∃ (left : Lit → Bool) (cnt n2 : Nat), W'.ranges Try.prog 3 (plainElem (H := Unit) Try.prog 3) bn (S + 1) n D left cnt ∧ CntIs W' S n2 (metW t (prodsW t k) left) ∧ n2 + 6 * cnt ≤ 6 * n ∧ Whole W' w1.heap.size 75 #[.int .i64 m, .slice A1 t.length c1, .slice A2 p.length c2] ∧ Below w.heap.size w W' ∧ S + 1 + 1 ≤ W'.heap.size) (fun _ W' => W'.rangeLeft bn (S + 1))
      case atStart => exact ⟨_, _, 0, HRG2.out, HCN.out, by omega, HR2.out, HB2.out, by omega⟩
      case round =>
        obtain ⟨left, cnt, n2, hrg, hcn, hn2, hr2, hb2, hs3⟩ := hrel
        have HRG3 := Lib.hid hrg
        have HCN3 := Lib.hid hcn
        have HR3 := Lib.hid hr2
        have HB3 := Lib.hid hb2
        clear hrg hcn hr2 hb2
        go_wp2_with (at_next; refine wpList_next_ranges_ii _ rfl _ rfl 3 3 .i64 .i64 (Maps.int_keyed Try.underlying3) Try.underlying3 Try.underlying3 bn (S + 1) n D left cnt rfl HRG3.out ?_ ?_)
        · intro hc0 hl0
          subst hc0
          have hcn' : CntIs wr S n2 (fun v => (prodsW t (k + 1)).count v) := by
            have h := HCN3.out
            rw [show metW t (prodsW t k) left = fun v => (prodsW t (k + 1)).count v from funext (metW_end hl0)] at h
            exact h
          have hp1 := powW_pos HRU.out k
          have hp2 := powW_le6 HRU.out (k + 1)
          have hp3 := powW_pos HRU.out (k + 1)
          have hp4 := pow6_le (show k + 1 ≤ 12 by omega)
          have hp5 : (6 : Int) ^ 12 = 2176782336 := by decide
          have hpm : powW m k * m = powW m (k + 1) := by rw [powW_succ, Int.mul_comm]
          have w3 : wrap64 (powW m k * m) = powW m (k + 1) := by rw [hpm]; unfold wrap64; omega
          have r0 := HR3.out.cell 0
          have rlt := HR3.out.lt
          simp only [List.getElem?_toArray, List.getElem?_cons_zero] at r0
          have hn6 : n2 ≤ 6 ^ (k + 1) := by rw [Nat.pow_succ]; omega
          have HC4 := Lib.hid hcn'
          clear hcn' hl0 hp1 hp2 hp3 hp4 hp5 hpm
          go_wp2
          exact ⟨⟨k + 1, S, n2, by omega, by go_num, congrArg (Value.int .i64) w3, rfl, HC4.out, hn6, by omega, HR3.out, HB3.out, by omega⟩, by simp [intOf]; omega⟩
        · intro x c w' cnt' hwx hwc hlx hat hrg' hlt2 hg hs hen
          obtain ⟨hc, hcp⟩ := cnt_entry HD.out hat
          have hxP := List.count_pos_iff.1 hcp
          obtain ⟨hx1, hx2⟩ := HPI.out x hxP
          have hk11 := pow20_le (show k ≤ 11 by omega)
          have e20 : (20 : Int) ^ 11 = 204800000000000 := by decide
          have hcl := List.count_le_length (a := x) (l := prodsW t k)
          have ht6 : t.length ≤ 6 := by omega
          have hpl6 : t.length ^ k ≤ 6 ^ 11 := Nat.le_trans (Nat.pow_le_pow_left ht6 k) (Nat.pow_le_pow_right (by decide) (by omega))
          have e6 : (6 : Nat) ^ 11 = 362797056 := by decide
          have hn11 : n ≤ 6 ^ 11 := Nat.le_trans hn (Nat.pow_le_pow_right (by decide) (by omega))
          have hr4 := HR3.out.grown hg (by simp; omega)
          have hb4 := HB3.out.grown hg HB3.out.size (fun k e => by injection e with e; omega)
          have hcn4 : CntIs w' S n2 (metW t (prodsW t k) left) := HCN3.out.kept hg (by simp)
          have hmet := metW_le t (prodsW t k) left
          have hmul : (prodsW t k).length * t.length ≤ 362797056 * 6 := Nat.mul_le_mul (by omega) ht6
          have hstep := metW_step t (prodsW t k) hlx
          obtain ⟨q, hq⟩ : ∃ q, (prodsW t k).count x = q := ⟨_, rfl⟩
          rw [hq] at hc hcp hcl hstep
          subst hc
          have hq9 : q ≤ 362797056 := Nat.le_trans hcl (by rw [hpl, ← e6]; exact hpl6)
          have g1 := hr4.cell 1
          have glt := hr4.lt
          simp only [List.getElem?_toArray, List.getElem?_cons_succ, List.getElem?_cons_zero] at g1
          have HRG4 := Lib.hid hrg'
          have HR4 := Lib.hid hr4
          have HB4 := Lib.hid hb4
          have HCN4 := Lib.hid hcn4
          have HMET := Lib.hid hmet
          have HSTEP := Lib.hid hstep
          clear hr4 hb4 hcn4 hrg' hmet hstep hat hlx hg hxP
          go_wp2
          go_loopw [46] (fun u W' => ∃ j : Nat, j ≤ t.length ∧ u = .int .i64 j ∧ W'.ranges Try.prog 3 (plainElem (H := Unit) Try.prog 3) bn (S + 1) n D (fun z => left z && !z.sameKey (.int .i64 x)) cnt' ∧ CntIs W' S (n2 + j) (fun v => metW t (prodsW t k) left v + q * ((t.take j).map (x * ·)).count v) ∧ Whole W' w1.heap.size 75 #[.int .i64 m, .slice A1 t.length c1, .slice A2 p.length c2] ∧ Below w.heap.size w W' ∧ S + 1 + 1 ≤ W'.heap.size) (fun u _ => t.length - (intOf u).toNat)
          case atStart => exact ⟨0, Nat.zero_le _, rfl, HRG4.out, by simpa using HCN4.out, HR4.out, HB4.out, by omega⟩
          case round =>
            obtain ⟨j, hj, rfl, hrg5, hcn5, hr5, hb5, hs5⟩ := hrel
            by_cases hlj : j < t.length
            · obtain ⟨ad, rfl, k1⟩ := Kd.at_int (Kd.C_below HA.out hb5) (j : Int) (by omega) (by omega)
              simp only [Int.toNat_natCast] at k1
              have htj := HT.out (rd t (j : Int)) (by rw [show rd t (j : Int) = t[j] by simp [rd, hlj]]; exact List.getElem_mem _)
              have hct := fun v => count_take t x v j hlj
              have hcb := HMET.out (x * rd t (j : Int))
              have hcc : ((t.take j).map (x * ·)).count (x * rd t (j : Int)) ≤ 6 := by
                have := List.count_le_length (a := x * rd t (j : Int)) (l := (t.take j).map (x * ·))
                rw [List.length_map, List.length_take] at this
                omega
              generalize rd t (j : Int) = a at *
              obtain ⟨y, hy⟩ : ∃ y, x * a = y := ⟨_, rfl⟩
              rw [hy] at hcb hcc
              have hyb : 1 ≤ y ∧ y ≤ 4096000000000000 := by
                rw [← hy]
                refine ⟨?_, ?_⟩
                · have := Int.mul_le_mul hx1 htj.1 (by decide) (by omega); simpa using this
                · have := Int.mul_le_mul (show x ≤ 204800000000000 by omega) htj.2 (by omega) (by decide); omega
              have wy : wrap64 (x * a) = y := by rw [hy]; unfold wrap64; omega
              have hwy : (Lit.int .i64 y).wf = true := wf_i64 (by omega) (by omega)
              obtain ⟨c0, hc0⟩ : ∃ c0, metW t (prodsW t k) left y + q * ((t.take j).map (x * ·)).count y = c0 := ⟨_, rfl⟩
              have hqc : q * ((t.take j).map (x * ·)).count y ≤ 362797056 * 6 := Nat.mul_le_mul (by omega) hcc
              have hc0b : c0 ≤ 5000000000 := by omega
              have hlk := NumsIs.look0 (show NumsIs wr S (n2 + j) (cntF _) from hcn5) y hwy
              rw [cntF_getD, hc0] at hlk
              have wc : wrap64 ((c0 : Int) + (q : Int)) = ((c0 + q : Nat) : Int) := by unfold wrap64; omega
              have hnj : n2 + j < 4611686018427387904 := by omega
              have hcq : c0 + q ≤ 9000000000 := Nat.le_trans (Nat.add_le_add hc0b hq9) (by decide)
              have hwc2 : (Lit.int .i64 ((c0 + q : Nat) : Int)).wf = true := wf_nat (c0 + q) hcq
              obtain ⟨w6, r1, r2, r3⟩ := NumsIs.putB (show NumsIs wr S (n2 + j) (cntF _) from hcn5) y ((c0 + q : Nat) : Int) hwy hwc2 hnj
              have r2' : CntIs w6 S (n2 + j + 1) (fun v => metW t (prodsW t k) left v + q * ((t.take (j + 1)).map (x * ·)).count v) :=
                step_cnt (fun v => metW t (prodsW t k) left v + q * ((t.take j).map (x * ·)).count v) _ hc0 hcp (fun v => by rw [hct v, hy, Nat.mul_add, Nat.add_assoc]; split <;> simp) r2
              have HLK := Lib.hid hlk
              have HR1 := Lib.hid r1
              have HC6 := Lib.hid r2'
              have HG6 := Lib.hid r3
              have HRG5 := Lib.hid hrg5
              have HR5 := Lib.hid hr5
              have HB5 := Lib.hid hb5
              clear hlk r1 r2 r2' r3 hrg5 hcn5 hr5 hb5 hct hc0 hy
              have HQ9 := Lib.hid hq9
              have HCQ := Lib.hid hcq
              clear hpl hpl6 e6 hn11 hk11 e20 hx2 hcl hmul hq9 hcb hcc hqc hc0b hcq hnj hyb htj hwy hwc2 hwx hwc hcp hn hq HMET HSTEP
              go_wp2_with (first
                | (at_lookup; refine wpList_lookup_runP rfl _ _ 102 rfl (mv := .map (some S)) (key := .int .i64 y) rfl (by go_simp) HLK.out ?_)
                | (at_mapUpdate; refine wpList_mapUpdate_runP rfl _ _ _ 102 rfl (mv := .map (some S)) (key := .int .i64 y) (val := .int .i64 ((c0 + q : Nat) : Int)) rfl (by go_simp) (by go_simp) HR1.out ?_))
              have hs6 := HG6.out.size
              exact ⟨⟨j + 1, by omega, by go_num, HRG5.out.kept HG6.out (by simp; omega) (by simp), HC6.out, HR5.out.grown HG6.out (by simp; omega), HB5.out.grown HG6.out HB5.out.size (fun k e => by injection e with e; omega), by omega⟩, by simp [intOf]; omega⟩
            · obtain rfl : j = t.length := by omega
              have hcn6 : CntIs wr S (n2 + t.length) (metW t (prodsW t k) (fun z => left z && !z.sameKey (.int .i64 x))) := by
                have h := hcn5
                rw [List.take_length] at h
                rw [show (metW t (prodsW t k) fun z => left z && !z.sameKey (.int .i64 x)) = fun v => metW t (prodsW t k) left v + q * (t.map (x * ·)).count v from funext HSTEP.out]
                exact h
              have HC6 := Lib.hid hcn6
              have HRG5 := Lib.hid hrg5
              have HR5 := Lib.hid hr5
              have HB5 := Lib.hid hb5
              clear hrg5 hcn5 hcn6 hr5 hb5
              go_wp2
              refine ⟨⟨_, cnt', n2 + t.length, HRG5.out, HC6.out, by omega, HR5.out, HB5.out, hs5⟩, ?_⟩
              rw [HRG5.out.left_eq, HRG3.out.left_eq]
              omega
    · obtain rfl : k = K := by omega
      have hpl6 : t.length ^ k ≤ 6 ^ 12 := Nat.le_trans (Nat.pow_le_pow_left (show t.length ≤ 6 by omega) k) (Nat.pow_le_pow_right (by decide) (by omega))
      have e6 : (6 : Nat) ^ 12 = 2176782336 := by decide
      have hplb : (prodsW t k).length ≤ 2176782336 := by rw [hpl, ← e6]; exact hpl6
      clear hpl hpl6 e6 hn hpin
      have HOWN := Lib.hid hown
      have HD := Lib.hid hD
      have HRl := Lib.hid hRl
      have HBl := Lib.hid hBl
      obtain ⟨d, hd⟩ : ∃ d, powW m k = d := ⟨_, rfl⟩
      have HDD := Lib.hid hd
      rw [hd]
      clear hown hD hRl hBl hd
      go_wp2_with (at_range; refine wpList_range_own _ rfl _ 102 rfl 3 3 (Maps.int_keyed Try.underlying3) under102' _ bn n D rfl HOWN.out ?_; intro w2 hrg hg2 hs2; have HRG := Lib.hid hrg; have HG2 := Lib.hid hg2; have HS2 := Lib.hid hs2; clear hrg hg2 hs2)
      have hb2 := HBl.out.grown HG2.out HBl.out.size (fun k e => by cases e)
      have hm0 := metF_start HD.out d
      have HRG2 := Lib.hid HRG.out
      have HB2 := Lib.hid hb2
      have hS2 := HBl.out.size
      have HM0 := Lib.hid hm0
      have hlt2 := HOWN.out.lt
      clear hb2 HRG HG2 HS2 hm0
      go_frame
      generalize hS : wr.heap.size = S at *
      go_loopw [15] (fun u W' => ∃ (left : Lit → Bool) (cnt : Nat), u = .int .i64 (metF (prodsW t k) left d : Int) ∧ W'.ranges Try.prog 3 (plainElem (H := Unit) Try.prog 3) bn S n D left cnt ∧ Below w.heap.size w W') (fun _ W' => W'.rangeLeft bn S)
      case atStart => exact ⟨_, _, by rw [HM0.out]; rfl, HRG2.out, HB2.out⟩
      case round =>
        obtain ⟨left, cnt, rfl, hrg, hb3⟩ := hrel
        have HRG3 := Lib.hid hrg
        have HB3 := Lib.hid hb3
        have hml := metF_le (prodsW t k) left d
        clear hrg hb3
        go_wp2_with (at_next; refine wpList_next_ranges_ii _ rfl _ rfl 3 3 .i64 .i64 (Maps.int_keyed Try.underlying3) Try.underlying3 Try.underlying3 bn S n D left cnt rfl HRG3.out ?_ ?_)
        · intro hc0 hl0
          subst hc0
          have he : ((metF (prodsW t k) left d : Nat) : Int) = fallsW m t k := by unfold fallsW; rw [metF_end hl0, HDD.out]
          have HE := Lib.hid he
          clear he hl0
          go_wp2
          go_ret2
          exact ⟨by rw [← HE.out]; rfl, HB3.out⟩
        · intro x c w' cnt' hwx hwc hlx hat hrg' hlt2 hg hs hen
          obtain ⟨hc, hcp⟩ := cnt_entry HD.out hat
          have hcl := List.count_le_length (a := x) (l := prodsW t k)
          have hstep := metF_step (prodsW t k) hlx d
          obtain ⟨q, hq⟩ : ∃ q, (prodsW t k).count x = q := ⟨_, rfl⟩
          rw [hq] at hc hcp hcl hstep
          subst hc
          obtain ⟨s0, hs0'⟩ : ∃ s0, metF (prodsW t k) left d = s0 := ⟨_, rfl⟩
          rw [hs0'] at hstep hml ⊢
          have wc : wrap64 ((s0 : Int) + (q : Int)) = ((s0 + q : Nat) : Int) := by
            have h1 : s0 ≤ 2176782336 := Nat.le_trans hml hplb
            have h2 : q ≤ 2176782336 := Nat.le_trans hcl hplb
            clear hcl hml hplb
            unfold wrap64; omega
          have hb4 := HB3.out.grown hg HB3.out.size (fun k e => by injection e with e; omega)
          have HRG4 := Lib.hid hrg'
          have HB4 := Lib.hid hb4
          have HLT := Lib.hid hlt2
          have HST := Lib.hid hstep
          clear hrg' hb4 hat hlx hg hwx hwc hcl hml hplb hcp hq hs0' hstep hlt2
          by_cases hxd : x < d
          · have HX := Lib.hid hxd
            go_wp2
            refine ⟨⟨_, cnt', ?_, HRG4.out, HB4.out⟩, ?_⟩
            · rw [HST.out, if_pos HX.out, Nat.mul_one]
              exact congrArg (Value.int .i64) wc
            · rw [HRG4.out.left_eq, HRG3.out.left_eq]
              exact HLT.out
          · have HX := Lib.hid hxd
            go_wp2
            refine ⟨⟨_, cnt', ?_, HRG4.out, HB4.out⟩, ?_⟩
            · rw [HST.out, if_neg HX.out, Nat.mul_zero, Nat.add_zero]
            · rw [HRG4.out.left_eq, HRG3.out.left_eq]
              exact HLT.out
theorem wheel_Falls.calls (m : Int) (A1 : Option Addr) (c1 : Nat) (t : List Int) (A2 : Option Addr) (c2 : Nat) (p : List Int) (k : Int) (r1 r2 : Int) (w : World) (h1 : Kd.C (Kd.int .i64) w A1 t.length t) (hc1 : t.length ≤ c1) (h2 : Kd.C (Kd.int .i64) w A2 p.length p) (hc2 : p.length ≤ c2) (h : wheel_Falls.f m t p k = some (r1, r2)) :
    Calls Try.prog 48 #[.agg #[.int .i64 m, .slice A1 t.length c1, .slice A2 p.length c2], .int .i64 k] w fun e w' => e = .returned (.tuple #[.int .i64 r1, .int .i64 r2]) ∧ Below w.heap.size w w' := by
  simp only [wheel_Falls.f, Option.some.injEq] at h
  cases hb : (ruleB m t p && inB k 0 12)
  · rw [hb] at h
    simp only [Bool.false_eq_true, if_false, Prod.mk.injEq] at h
    obtain ⟨rfl, rfl⟩ := h
    have HA := Lib.hid h1
    have HB := Lib.hid h2
    have B0 := below_alloc (Below.refl w.heap.size w) (rbox24 m (.slice A1 t.length c1) (.slice A2 p.length c2))
    have HN := Lib.hid (newRule_any m A1 A2 c1 c2 t p _ (Kd.C_below HA.out B0) (Kd.C_below HB.out B0))
    clear h1 h2
    cases hq : ruleB m t p
    · rw [hq] at HN
      clear hb hq
      go_enter Try.func48, Try.ntmps48
      go_wp2_with (go_at_call 58; refine HN.out.mono ?_; rintro e w1 ⟨rfl, hb⟩; have HB1 := Lib.hid hb; clear hb)
      go_ret2
      exact ⟨rfl, below_alloc (below_then B0 B0.size HB1.out) _⟩
    · rw [hq] at HN hb
      clear hq
      rw [Bool.true_and] at hb
      go_enter Try.func48, Try.ntmps48
      go_wp2_with (first
        | (go_at_call 58; refine HN.out.mono ?_; rintro e w1 ⟨rfl, hb⟩; have HB1 := Lib.hid hb; clear hb)
        | (go_at_call 60; refine (within_any _ _ _ _).mono ?_; rintro e w2 ⟨rfl, rfl⟩))
      go_ret2
      exact ⟨rfl, below_alloc (below_then B0 B0.size HB1.out) _⟩
  · rw [hb] at h
    simp only [if_true, Prod.mk.injEq] at h
    obtain ⟨rfl, rfl⟩ := h
    simp only [Bool.and_eq_true] at hb
    obtain ⟨K, rfl⟩ : ∃ K : Nat, k = (K : Int) := ⟨k.toNat, by have := hb.2; simp [inB] at this; omega⟩
    exact falls_ok m A1 c1 t A2 c2 p K w h1 h2 hb.1 hb.2
end Go.Proofs.Ytkjojcepombhpaa.L
