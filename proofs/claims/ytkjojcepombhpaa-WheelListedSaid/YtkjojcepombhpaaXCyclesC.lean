/- Cycles comes to what wheel_Cycles.f says. -/
import Derived.Test.YtkjojcepombhpaaXSorts
namespace Go.Proofs.Ytkjojcepombhpaa.L
set_option linter.unusedVariables false
set_option linter.unusedSimpArgs false
open Go.RowKit Go.Shelf Go.Proofs.YtkjojcepombhpaaW.PrintWords Go.Proofs.YtkjojcepombhpaaW.PrintLast Go.Proofs.YtkjojcepombhpaaW.PrintMore

def wheel_Cycles.f (m : Int) (t p : List Int) (lo hi steps : Int) : Option (List (List Int) × Int) :=
  some (if ruleB m t p && (smallB lo && (smallB hi && (inB (wrap64 (hi - lo)) 0 500 && inB steps 0 500))) then (cyclesW m t p lo hi steps, 0) else ([], 2))

/-- A look-up, its run being known; the guard is decided. -/
theorem wpList_lookup_runC {P : Program} {w : World} {ops : Array Oper} {rest : List Oper} {o : Oper} {a : Act} {Q : Exit → Act → World → Prop} (hw : Region.wanted o (yielded ops a.tmps) = true) (m x : Operand) (t : TypeId) {ok : Bool} (hop : o.op = Op.lookup t m x ok)
    {mv key v : Value} (hm : a.eval m = mv) (hx : a.eval x = key) (hrun : (Instr.lookup t mv key ok).run P w = .ok v w) (hK : wpList P ops Q rest (a.put o.dst v) w) :
    wpList P ops Q (o :: rest) a w := by
  refine wpList_step fun K' hK' => ?_
  rw [if_pos hw]
  unfold Oper.wp
  simp [execOp, hop, hm, hx, hrun, Result.andThen]
  exact hK' _ _ hK
theorem wpList_mapUpdate_runC {P : Program} {w w' : World} {ops : Array Oper} {rest : List Oper} {o : Oper} {a : Act} {Q : Exit → Act → World → Prop} (hg : o.guard = none) (m x v : Operand) (t : TypeId) (hop : o.op = Op.mapUpdate t m x v)
    {mv key val : Value} (hm : a.eval m = mv) (hx : a.eval x = key) (hv : a.eval v = val) (hrun : (Instr.mapUpdate t mv key val).run P w = .ok () w') (hK : wpList P ops Q rest (a.put o.dst undef) w') :
    wpList P ops Q (o :: rest) a w := by
  refine wpList_plain hg fun K' hK' => ?_
  unfold Oper.wp
  simp [execOp, hop, hm, hx, hv, hrun, Result.andThen]
  exact hK' _ _ hK

/-- What holds within a round. -/
structure CyV (w : World) (R : Nat) (m : Int) (tv pv v : Value) (ps : List (Value × List Int)) (st : List Int) (W : World) : Prop where
  rule : Whole W R 75 #[.int .i64 m, tv, pv]
  set : SetIs W (R + 1) st
  rows : RowsIs W (R + 1 + 1) v ps
  bel : Below w.heap.size w W
  size : R + 1 + 1 ≤ W.heap.size
  base : w.heap.size < R
section
variable {w : World} {R : Nat} {m : Int} {tv pv v : Value} {ps : List (Value × List Int)} {st : List Int} {X Y : World}
theorem CyV.below (h : CyV w R m tv pv v ps st X) (hb : Below X.heap.size X Y) : CyV w R m tv pv v ps st Y :=
  ⟨h.rule.below hb h.rule.lt, h.set.kept (grown_of_below hb none) (fun e => by cases e), h.rows.below hb, h.bel.trans (hb.mono h.bel.size), Nat.le_trans h.size hb.size, h.base⟩
theorem CyV.mapped {st' : List Int} (h : CyV w R m tv pv v ps st X) (hg : X.grownBy Y (some (R + 1))) (hs : SetIs Y (R + 1) st') : CyV w R m tv pv v ps st' Y :=
  ⟨h.rule.grown hg (fun e => by injection e with e; omega), hs, h.rows.kept hg (fun k e => by injection e with e; exact .inl (by omega)), h.bel.grown hg h.bel.size (fun k e => by injection e with e; have := h.base; omega), Nat.le_trans h.size hg.size, h.base⟩
theorem CyV.append {v' : Value} {ps' : List (Value × List Int)} (h : CyV w R m tv pv v ps st X) (hg : X.grownBy Y v.ownBlock) (hr : RowsIs Y (R + 1 + 1) v' ps') : CyV w R m tv pv v' ps' st Y := by
  have hlow := fun k (e : v.ownBlock = some k) => (h.rows.block e).1
  exact ⟨h.rule.grown hg (fun e => by have := hlow _ e.symm; omega), h.set.kept hg (fun e => by have := hlow _ e.symm; omega), hr, h.bel.grown hg h.bel.size (fun k e => by have := hlow _ e; have := h.base; omega), Nat.le_trans h.size hg.size, h.base⟩
end

set_option maxRecDepth 100000 in
set_option maxHeartbeats 8000000 in
theorem cycles_ok (m : Int) (A1 : Option Addr) (c1 : Nat) (t : List Int) (A2 : Option Addr) (c2 : Nat) (p : List Int) (lo hi steps : Int) (w : World) (h1 : Kd.C (Kd.int .i64) w A1 t.length t) (h2 : Kd.C (Kd.int .i64) w A2 p.length p)
    (hrb : ruleB m t p = true) (hlo : smallB lo = true) (hhi : smallB hi = true) (hwd : inB (wrap64 (hi - lo)) 0 500 = true) (hst : inB steps 0 500 = true) :
    Calls Try.prog 56 #[.agg #[.int .i64 m, .slice A1 t.length c1, .slice A2 p.length c2], .int .i64 lo, .int .i64 hi, .int .i64 steps] w fun e w' => ∃ v0_ : Value, e = .returned (.tuple #[v0_, .int .i64 0]) ∧ Kd.S (Kd.slice 3 (Kd.int .i64)) 22 w' w.heap.size (fun _ => True) v0_ (cyclesW m t p lo hi steps) ∧ Below w.heap.size w w' := by
  have HA := Lib.hid h1
  have HB := Lib.hid h2
  have hRU := ruleB_is hrb
  have HRU := Lib.hid hRU
  have hss : 0 ≤ steps ∧ steps ≤ 500 := by simpa [inB] using hst
  have hl1 := (small_iff lo).1 hlo
  have hh1 := (small_iff hi).1 hhi
  have hwr : wrap64 (hi - lo) = hi - lo := by unfold wrap64; omega
  have hwd2 : 0 ≤ hi - lo ∧ hi - lo ≤ 500 := by rw [hwr] at hwd; simpa [inB] using hwd
  obtain ⟨K, hK⟩ : ∃ K : Nat, (K : Int) = hi - lo + 1 := ⟨(hi - lo + 1).toNat, by omega⟩
  have hK2 : (hi - lo + 1).toNat = K := by omega
  rw [hwr] at hwd
  have B0 := below_alloc (Below.refl w.heap.size w) (rbox24 m (.slice A1 t.length c1) (.slice A2 p.length c2))
  have HN := Lib.hid (newRule_any m A1 A2 c1 c2 t p _ (Kd.C_below h1 B0) (Kd.C_below h2 B0))
  rw [hrb] at HN
  unfold cyclesW
  rw [hK2]
  clear h1 h2 hrb hRU hwr hK2
  have hmm := @run_makeMap Try.prog
  go_enter Try.func56, Try.ntmps56
  go_wp2_with (first
    | (go_at_call 58; refine HN.out.mono ?_; rintro e w1 ⟨rfl, hb⟩; have HB1 := Lib.hid (below_then B0 B0.size hb); have hbs := hb.size; simp only [World.size_alloc] at hbs; clear hb)
    | (go_at_call 59; refine (small_any _ _).mono ?_; rintro e w2 ⟨rfl, rfl⟩)
    | (go_at_call 60; refine (within_any _ _ _ _).mono ?_; rintro e w2 ⟨rfl, rfl⟩))
  clear hlo hhi hwd hst hmm
  have g0 := (Whole.new w1 75 #[.int .i64 m, .slice A1 t.length c1, .slice A2 p.length c2])
  have hV0 : CyV w w1.heap.size m (.slice A1 t.length c1) (.slice A2 p.length c2) (.slice none 0 0) [] [] ((w1.alloc (rbox m (.slice A1 t.length c1) (.slice A2 p.length c2))).alloc (.map #[] 0)) :=
    ⟨g0.alloc _, by have := SetIs.new (w1.alloc (rbox m (.slice A1 t.length c1) (.slice A2 p.length c2))); rwa [World.size_alloc] at this, RowsIs.nil _ _, below_alloc (below_alloc HB1.out _) _, by simp, by omega⟩
  have HV0 := Lib.hid hV0
  clear g0 hV0
  go_loopw [12, 14] (fun v i wr => ∃ (k : Nat) (ps : List (Value × List Int)), k ≤ K ∧ i = .int .i64 (lo + (k : Int)) ∧ CyV w w1.heap.size m (.slice A1 t.length c1) (.slice A2 p.length c2) v ps ((ps.map Prod.snd).map hd) wr ∧ Hid (ps.map Prod.snd = cycRows m t p steps lo k)) (fun _ i _ => (hi + 1 - intOf i).toNat)
  case atStart => exact ⟨0, [], Nat.zero_le _, by simp, HV0.out, Lib.hid rfl⟩
  case round =>
    obtain ⟨k, ps, hk, rfl, hV, HPS⟩ := hrel
    by_cases hlt : k < K
    · have hr := hV.rule
      have g0 := hr.cell 0
      have g1 := hr.cell 1
      have g2 := hr.cell 2
      have glt := hr.lt
      simp only [List.getElem?_toArray, List.getElem?_cons_zero, List.getElem?_cons_succ] at g0 g1 g2
      have hnl : lo + (k : Int) ≤ hi := by omega
      have hcs : cycRows m t p steps lo (k + 1) = cycStep m t p steps (cycRows m t p steps lo k) (lo + (k : Int)) := rfl
      have hpl : ps.length ≤ K := by
        have := cycRows_length (m := m) (t := t) (p := p) steps lo k
        rw [← HPS.out, List.length_map] at this
        omega
      have HCY := Lib.hid (fun W hA hB => cycle_any m A1 c1 t A2 c2 p (lo + (k : Int)) steps W hA hB HRU.out hss _ rfl)
      have hrow := cycleW_row (m := m) (t := t) (p := p) (x := lo + (k : Int)) (steps := steps)
      rw [← HPS.out, cycStep] at hcs
      generalize cycleW m t p (lo + (k : Int)) steps = res at HCY hrow hcs
      obtain ⟨row, at', e⟩ := res
      have HCS := Lib.hid hcs
      have HV := Lib.hid hV
      have HWB := Lib.hid hV.bel
      clear hcs hV hr
      by_cases he : e = 0
      · subst he
        obtain ⟨hr1, hr2, hr3⟩ := hrow rfl
        have hr1 : 0 < row.length := hr1
        have hr2 : (row.length : Int) ≤ steps := hr2
        have hwf : (Lit.int .i64 (hd row)).wf = true := wf_small (hr3 _ (hd_mem hr1))
        have hne : row ≠ [] := by intro e; subst e; simp at hr1
        have HWF := Lib.hid hwf
        clear hr3 hrow hwf
        by_cases hc : hd row ∈ (ps.map Prod.snd).map hd
        · have hst2 : cycRows m t p steps lo (k + 1) = ps.map Prod.snd := by
            rw [HCS.out, if_neg (fun h => h.2 hc)]
          have HS2 := Lib.hid hst2
          have HC := Lib.hid (show ((ps.map Prod.snd).map hd).contains (hd row) = true from List.contains_iff_mem.2 hc)
          have hl0 : (0 : Int) < (row.length : Int) := by omega
          clear hst2 hc
          go_wp2_with (first
            | (go_at_call 68; refine (HCY.out _ (Kd.C_below HA.out HWB.out) (Kd.C_below HB.out HWB.out)).mono ?_; rintro e w4 ⟨vb, rfl, hrow, hb⟩; obtain ⟨g, cap, rfl, hcell⟩ := hrow.head hne; have HV4 := Lib.hid (HV.out.below hb); have HLK := Lib.hid (HV4.out.set.look (hd row) HWF.out); clear hb hrow)
            | (at_lookup; refine wpList_lookup_runC rfl _ _ 79 rfl (mv := .map (some (w1.heap.size + 1))) (key := .int .i64 (hd row)) rfl (by go_simp) HLK.out ?_; rw [HC.out]))
          exact ⟨⟨k + 1, ps, by omega, by go_num, HV4.out, Lib.hid HS2.out.symm⟩, by simp [intOf]; omega⟩
        · have hst2 : cycRows m t p steps lo (k + 1) = ps.map Prod.snd ++ [row] := by
            rw [HCS.out, if_pos ⟨rfl, hc⟩]
          have HS2 := Lib.hid hst2
          have HC := Lib.hid (show ((ps.map Prod.snd).map hd).contains (hd row) = false from by
            rw [Bool.eq_false_iff]
            intro h
            exact hc (List.contains_iff_mem.1 h))
          have hl0 : (0 : Int) < (row.length : Int) := by omega
          have hsl : ((ps.map Prod.snd).map hd).length < 100000 := by simp; omega
          clear hst2 hc
          go_wp2_with (first
            | (go_at_call 68; refine (HCY.out _ (Kd.C_below HA.out HWB.out) (Kd.C_below HB.out HWB.out)).mono ?_; rintro e w4 ⟨vb, rfl, hrow, hb⟩; obtain ⟨g, cap, rfl, hcell⟩ := hrow.head hne; have HR4 := Lib.hid hrow; have HV4 := Lib.hid (HV.out.below hb); have HLK := Lib.hid (HV4.out.set.look (hd row) HWF.out); have HPT := Lib.hid (parted_new HV.out.rows hrow); have hws := HV.out.size; clear hb hrow)
            | (at_lookup; refine wpList_lookup_runC rfl _ _ 79 rfl (mv := .map (some (w1.heap.size + 1))) (key := .int .i64 (hd row)) rfl (by go_simp) HLK.out ?_; rw [HC.out])
            | (at_mapUpdate; obtain ⟨w5, r1, r2, r3⟩ := HV4.out.set.put (hd row) HWF.out hsl; refine wpList_mapUpdate_runC rfl _ _ _ 79 rfl (mv := .map (some (w1.heap.size + 1))) (key := .int .i64 (hd row)) (val := .bool true) rfl (by go_simp) rfl r1 ?_; have HV5 := Lib.hid (HV4.out.mapped r3 r2); have HR5 := Lib.hid (HR4.out.far r3 (by omega)); clear r1 r2 r3)
            | (at_builtin; refine appendRs _ rfl (.tmp 76) (.tmp 78) rfl (w1.heap.size + 1 + 1) _ ps rfl (HV5.out.rows.alloc _) ⟨w5.heap.size, 0, none⟩ [(.slice (some ⟨g, 0, none⟩) row.length cap, row)] 1 1 rfl rfl (cell_one_new _ _ _) (by intro q hq; rw [List.mem_singleton.1 hq]; exact (HR5.out.alloc _).mono hws) (List.pairwise_append.2 ⟨HV5.out.rows.2.2, by simp, fun a ha b hb => by rw [List.mem_singleton.1 hb]; exact HPT.out a ha⟩) (by omega) (by have := HV5.out.size; simp; omega) ?_; intro v' w6 hrows hgrow hat; have HV6 := Lib.hid ((HV5.out.below (below_alloc (Below.refl _ _) _)).append hgrow hrows); clear hrows hgrow hat))
          have e1 : ((ps ++ [(Value.slice (some ⟨g, 0, none⟩) row.length cap, row)]).map Prod.snd).map hd = (ps.map Prod.snd).map hd ++ [hd row] := by simp
          exact ⟨⟨k + 1, ps ++ [(Value.slice (some ⟨g, 0, none⟩) row.length cap, row)], by omega, by go_num, by rw [e1]; exact HV6.out, Lib.hid (by rw [HS2.out]; simp)⟩, by simp [intOf]; omega⟩
      · have hst2 : cycRows m t p steps lo (k + 1) = ps.map Prod.snd := by
          rw [HCS.out, if_neg (fun h => he h.1)]
        have HS2 := Lib.hid hst2
        clear hst2 hrow
        go_wp2_with (go_at_call 68; refine (HCY.out _ (Kd.C_below HA.out HWB.out) (Kd.C_below HB.out HWB.out)).mono ?_; rintro e w4 ⟨vb, rfl, hrow, hb⟩; have HV4 := Lib.hid (HV.out.below hb); clear hb hrow)
        exact ⟨⟨k + 1, ps, by omega, by go_num, HV4.out, Lib.hid HS2.out.symm⟩, by simp [intOf]; omega⟩
    · obtain rfl : k = K := by omega
      have hnl : ¬ lo + (k : Int) ≤ hi := by omega
      have hnd := cycRows_nodup (m := m) (t := t) (p := p) steps lo k
      have hle := cycRows_length (m := m) (t := t) (p := p) steps lo k
      rw [← HPS.out] at hnd hle
      rw [List.length_map] at hle
      have hrl : ∀ q ∈ ps, 0 < q.2.length ∧ q.2.length ≤ 100000 := by
        intro q hq
        have hq2 : q.2 ∈ cycRows m t p steps lo k := by rw [← HPS.out]; exact List.mem_map_of_mem hq
        obtain ⟨i, _, e, h0⟩ := cycRows_row _ _ _ _ hq2
        obtain ⟨h1, h2, _⟩ := cycleW_row h0
        rw [e]
        omega
      have HSO := Lib.hid (sortRows_own _ _ _ _ hV.rows (by omega) hrl hnd)
      have HV := Lib.hid hV
      clear hV hrl hnd hle
      go_wp2_with (go_at_call 80; refine HSO.out.mono ?_; rintro e w4 ⟨rfl, ps', hr, hs, hg⟩; have HR := Lib.hid hr; have HS := Lib.hid hs; have HG := Lib.hid hg; clear hr hs hg)
      go_ret2
      refine ⟨_, rfl, ?_, ?_⟩
      · rw [← HPS.out, ← HS.out]
        exact HR.out.S (by omega)
      · exact HV.out.bel.grown HG.out HV.out.bel.size (fun q e => by have := (HV.out.rows.block e).1; omega)

set_option maxHeartbeats 2000000 in
theorem wheel_Cycles.calls (m : Int) (A1 : Option Addr) (c1 : Nat) (t : List Int) (A2 : Option Addr) (c2 : Nat) (p : List Int) (lo hi steps : Int) (r1 : List (List Int)) (r2 : Int) (w : World) (h1 : Kd.C (Kd.int .i64) w A1 t.length t) (hc1 : t.length ≤ c1) (h2 : Kd.C (Kd.int .i64) w A2 p.length p) (hc2 : p.length ≤ c2) (h : wheel_Cycles.f m t p lo hi steps = some (r1, r2)) :
    Calls Try.prog 56 #[.agg #[.int .i64 m, .slice A1 t.length c1, .slice A2 p.length c2], .int .i64 lo, .int .i64 hi, .int .i64 steps] w fun e w' => ∃ v0_ : Value, e = .returned (.tuple #[v0_, .int .i64 r2]) ∧ Kd.S (Kd.slice 3 (Kd.int .i64)) 22 w' w.heap.size (fun _ => True) v0_ r1 ∧ Below w.heap.size w w' := by
  unfold wheel_Cycles.f at h
  simp only [Option.some.injEq] at h
  cases hg : (ruleB m t p && (smallB lo && (smallB hi && (inB (wrap64 (hi - lo)) 0 500 && inB steps 0 500))))
  · rw [hg] at h
    simp only [Bool.false_eq_true, if_false, Prod.mk.injEq] at h
    obtain ⟨rfl, rfl⟩ := h
    refine (cycles_bad m A1 c1 t A2 c2 p lo hi steps w h1 h2 hg).mono ?_
    rintro e w' ⟨rfl, hb⟩
    exact ⟨_, rfl, Kd.S_nil _ _ _ _ _, hb⟩
  · rw [if_pos hg] at h
    simp only [Prod.mk.injEq] at h
    obtain ⟨rfl, rfl⟩ := h
    simp only [Bool.and_eq_true] at hg
    exact cycles_ok m A1 c1 t A2 c2 p lo hi steps w h1 h2 hg.1 hg.2.1 hg.2.2.1 hg.2.2.2.1 hg.2.2.2.2
end Go.Proofs.Ytkjojcepombhpaa.L
