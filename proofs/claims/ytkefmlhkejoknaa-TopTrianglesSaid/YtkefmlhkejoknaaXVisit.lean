/- The closure visit of tread.(machine).longest. -/
import Derived.Test.YtkefmlhkejoknaaXSteps
import Derived.Maps.OwnSet
import Derived.Maps.OwnIn
import Derived.Maps.Range
namespace Go.Proofs.Ytkefmlhkejoknaa.L
set_option linter.unusedVariables false
set_option linter.unusedSimpArgs false
open Go.RowKit Go.Shelf Go.Maps Go.Proofs.YtkefmlhkejoknaaW.PrintWords Go.Proofs.YtkefmlhkejoknaaW.PrintLast Go.Proofs.YtkefmlhkejoknaaW.PrintMore
attribute [local go_sem] max2_int min2_int max_two min_two Oper.semAt_some

theorem under195 : Try.prog.underlying 195 = some (.map 3 3) := by kernel_rfl
theorem zero3V (w : World) : (zeroValue 3).run Try.prog w = .ok (.int .i64 0) w := by kernel_rfl
def putI (D : DataW Unit) (i v : Int) : DataW Unit := D.put (.int .i64 i) (.lit (.int .i64 v))
/-- Where visit's own things lie. -/
structure VisP where
  B : Nat
  D : MacD
  tK : Nat
  kB : Nat
  xB : Nat
  vB : Nat
def VisP.args (p : VisP) : Array Value := #[.pointer (some ⟨p.kB, 0, none⟩), .pointer (some ⟨p.xB, 0, none⟩), .pointer (some ⟨p.vB, 0, none⟩)]
def VisP.fn (p : VisP) : Value := .func (.func 157) #[] #[.pointer (some ⟨p.kB, 0, none⟩), .pointer (some ⟨p.xB, 0, none⟩), .pointer (some ⟨p.vB, 0, none⟩)]
def VisM (p : VisP) (n : Nat) (D : DataW Unit) (W : World) : Prop := W.ownsMap Try.prog 3 (plainElem (H := Unit) Try.prog 3) p.tK n D
structure VisE (p : VisP) (W : World) : Prop where
  m : MacR p.B p.D W
  k : Whole W p.kB 195 #[.map (some p.tK)]
  x : Whole W p.xB 174 #[.pointer (some ⟨p.D.mB, 0, none⟩)]
  v : Whole W p.vB 196 #[.func (.func 157) #[] #[.pointer (some ⟨p.kB, 0, none⟩), .pointer (some ⟨p.xB, 0, none⟩), .pointer (some ⟨p.vB, 0, none⟩)]]
  le : p.B ≤ p.tK ∧ p.tK ≠ p.kB ∧ p.tK ≠ p.xB ∧ p.tK ≠ p.vB ∧ p.B ≤ W.heap.size
theorem VisE.below {p : VisP} {W W' : World} {row : Option Nat} (h : VisE p W) (hg : W.grownBy W' row) (hr : ∀ r, row = some r → p.B ≤ r) : Below p.B W W' :=
  ⟨hg.os, hg.tape, hg.output, hg.size, fun k hk => hg.block k (by have := h.le; omega) (fun e => by have := hr k e.symm; omega)⟩
theorem VisE.kept {p : VisP} {W W' : World} {row : Option Nat} (h : VisE p W) (hg : W.grownBy W' row) (hr : ∀ r, row = some r → p.B ≤ r ∧ r ≠ p.kB ∧ r ≠ p.xB ∧ r ≠ p.vB) : VisE p W' :=
  ⟨h.m.kept (h.below hg fun r e => (hr r e).1), h.k.grown hg (fun e => (hr _ e.symm).2.1 rfl), h.x.grown hg (fun e => (hr _ e.symm).2.2.1 rfl), h.v.grown hg (fun e => (hr _ e.symm).2.2.2 rfl), ⟨h.le.1, h.le.2.1, h.le.2.2.1, h.le.2.2.2.1, Nat.le_trans h.le.2.2.2.2 hg.size⟩⟩
theorem VisE.turned {p : VisP} {W W' : World} (h : VisE p W) (hg : W.grownBy W' (some p.tK)) : VisE p W' :=
  h.kept hg (fun r e => by cases e; exact ⟨h.le.1, h.le.2.1, h.le.2.2.1, h.le.2.2.2.1⟩)
theorem VisE.alloc {p : VisP} {W : World} (h : VisE p W) (o : Obj) : VisE p (W.alloc o) := h.kept (World.grownBy_alloc W o none) (fun r e => by cases e)
/-- A visit of i, where the numbers known are D: it returns r, and D' are known then. -/
def VisOk (p : VisP) (i : Int) (n : Nat) (D : DataW Unit) (r : Int) (n' : Nat) (D' : DataW Unit) : Prop :=
  ∀ W, VisE p W → VisM p n D W →
    Calls Try.prog 157 #[.int .i64 i, .pointer (some ⟨p.kB, 0, none⟩), .pointer (some ⟨p.xB, 0, none⟩), .pointer (some ⟨p.vB, 0, none⟩)] W fun e W' => e = .returned (.int .i64 r) ∧ W.grownBy W' (some p.tK) ∧ VisM p n' D' W'
theorem wf_small (i : Int) (h0 : -100 ≤ i) (h1 : i ≤ 100) : (Lit.int .i64 i).wf = true := by
  have e1 : IntKind.i64.min = -9223372036854775808 := rfl
  have e2 : IntKind.i64.max = 9223372036854775807 := rfl
  simp only [Lit.wf, e1, e2, Bool.and_eq_true, decide_eq_true_eq]
  omega
theorem lit_same {x : DataW Unit} {c d : Int} (h : x = .lit (.int .i64 c)) (h' : x = .lit (.int .i64 d)) : d = c := by
  rw [h] at h'
  cases h'
  rfl
set_option maxRecDepth 100000 in
set_option maxHeartbeats 2000000 in
theorem visit_known (p : VisP) (i c : Int) (n : Nat) (D : DataW Unit) (h0 : 0 ≤ i) (h1 : i ≤ 100) (hhas : Maps.has D (.int .i64 i) = true) (hat : D.atKey (.int .i64 i) (.lit (.int .i64 0)) = .lit (.int .i64 c)) (hc : 0 ≤ c) : VisOk p i n D c n D := by
  intro W hE hO
  have k0 := hE.k.cell 0
  simp only [List.getElem?_toArray, List.getElem?_cons_zero, List.getElem?_cons_succ] at k0
  have HO := Lib.hid hO
  have hkey := Maps.keyOf_int_mk Try.underlying3 (wf_small i (by omega) h1)
  have hc1 : ¬ c < -1 := by omega
  clear hE hO
  go_enter Try.func157, Try.ntmps157
  go_wp2_with (at_lookup; (refine wpList_lookup_own_ok_int _ rfl _ _ 195 rfl 3 3 .i64 (Maps.int_keyed Try.underlying3) under195 Try.underlying3 (zero3V _) p.tK n D rfl HO.out _ _ rfl hkey ?_); intro cc hcat hwc; rw [hhas]; have hcc : cc = c := lit_same hat hcat; subst hcc; clear hcat hwc)
  go_ret
  exact ⟨rfl, World.grownBy.refl _ _, HO.out⟩
theorem grownBy_set1 (W : World) (b i : Nat) (v : Value) : W.grownBy (W.setCell ⟨b, i, none⟩ v) (some b) :=
  ⟨rfl, rfl, rfl, (KeepsWalks.setCell W _ v).size, fun k _ hk => Below.heap_setCell _ _ _ k (fun e => hk (by rw [e]))⟩
/-- The state within a visit: the box of the greatest length so far. -/
def VisI (p : VisP) (W0 : World) (mo : Nat) (st : Nat → Nat × DataW Unit × Int) (pre : List AStep) (X : World) : Prop :=
  VisE p X ∧ VisM p (st pre.length).1 (st pre.length).2.1 X ∧ Whole X mo 3 #[.int .i64 (st pre.length).2.2] ∧ W0.grownBy X (some p.tK)
theorem visI_own (p : VisP) (W0 W5 : World) (mo : Nat) (st : Nat → Nat × DataW Unit × Int) (B : Nat) (hB : W5.heap.size ≤ B) (h5 : VisE p W5) (hk : p.tK < W5.heap.size) (hmo : mo < W5.heap.size) (hW : W0.heap.size ≤ W5.heap.size) : OwnFrom B (VisI p W0 mo st) := by
  rintro pre X Y row ⟨h1, h2, h3, h4⟩ hg hr
  have hb := h5.le
  have lk := h5.k.lt
  have lx := h5.x.lt
  have lv := h5.v.lt
  refine ⟨h1.kept hg (fun r e => ?_), h2.kept hg (fun e => ?_), h3.grown hg (fun e => ?_), h4.andThen hg (fun j e => .inl ?_)⟩
  · have := (hr r e).1; omega
  · have := (hr _ e.symm).1; omega
  · have := (hr _ e.symm).1; omega
  · have := (hr _ e).1; omega
set_option maxRecDepth 100000 in
set_option maxHeartbeats 4000000 in
theorem visit_miss (p : VisP) (i : Nat) (hi : i < 4) (n : Nat) (D : DataW Unit) (hn : n ≤ 100) (hno : Maps.has D (.int .i64 (i : Int)) = false)
    (st : Nat → Nat × DataW Unit × Int) (h0 : st 0 = (n + 1, putI D i (-2), 0)) (hb : ∀ t, (st t).1 ≤ 200 ∧ 0 ≤ (st t).2.2 ∧ (st t).2.2 ≤ 50)
    (hst : ∀ t x, (stepsL i)[t]? = some x → ∃ r, 0 ≤ r ∧ r ≤ 50 ∧ (if (st t).2.2 < r + 1 then r + 1 else (st t).2.2) = (st (t + 1)).2.2 ∧ VisOk p x.2 (st t).1 (st t).2.1 r (st (t + 1)).1 (st (t + 1)).2.1) :
    VisOk p i n D (st (stepsL i).length).2.2 ((st (stepsL i).length).1 + 1) (putI (st (stepsL i).length).2.1 i (st (stepsL i).length).2.2) := by
  intro W hE hO
  have k0 := hE.k.cell 0
  have x0 := hE.x.cell 0
  simp only [List.getElem?_toArray, List.getElem?_cons_zero, List.getElem?_cons_succ] at k0 x0
  have HE := Lib.hid hE
  have HO := Lib.hid hO
  have HST := Lib.hid hst
  have HB := Lib.hid hb
  have H0 := Lib.hid h0
  have hkey := Maps.keyOf_int_mk Try.underlying3 (wf_small (i : Int) (by omega) (by omega))
  clear hE hO hst hb h0
  refine (callsIn_wide (n := 6)).1 ?_
  refine callsIn_of_wp_marks Try.func157 rfl trivial ?_ rfl
  simp only [Try.ntmps157, List.size_toArray, List.length_cons, List.length_nil, Nat.reduceAdd, Nat.reduceSub, Array.replicate_succ, Array.replicate_zero, List.push_toArray, List.append_toArray, List.nil_append, List.cons_append]
  gi_wp2_with (first
    | (gi_at_lookup; (refine wpListIn_lookup_own_ok_int _ rfl _ _ 195 rfl 3 3 .i64 (Maps.int_keyed Try.underlying3) under195 Try.underlying3 (zero3V _) p.tK n D rfl HO.out _ _ rfl hkey ?_); intro cc hcat hwc; rw [hno]; clear hcat hwc)
    | (gi_at_mapUpdate; (refine wpListIn_mapUpdate_own _ rfl _ _ _ 195 rfl 3 3 (Maps.int_keyed Try.underlying3) under195 _ p.tK n D rfl HO.out (by unfold maxLen; omega) _ _ _ rfl rfl hkey _ [] (plainElem_int Try.underlying3 (by decide)) ?_); intro W1 ho1 hg1; have HG1 := Lib.hid hg1; have HO1 := Lib.hid ho1; have HE1 := Lib.hid (HE.out.turned hg1); have lx1 := HE1.out.x.lt; have x1 := HE1.out.x.cell 0; simp only [List.getElem?_toArray, List.getElem?_cons_zero, List.getElem?_cons_succ] at x1; clear ho1 hg1)
    | (refine ⟨trivial, ?_⟩; gi_at_call 138; refine (callsIn_wide.2 (steps_any _ _ _)).mono ?_; rintro e w' ⟨rfl, rfl⟩))
  have mo5 := ((Whole.new W1 3 #[.int .i64 0]).alloc (.cells #[.pointer (some ⟨p.D.mB, 0, none⟩)] 174)).alloc (.cells #[.int .i64 (i : Int)] 3)
  have b174 := (Whole.new (W1.alloc (.cells #[.int .i64 0] 3)) 174 #[.pointer (some ⟨p.D.mB, 0, none⟩)]).alloc (.cells #[.int .i64 (i : Int)] 3)
  have b3 := Whole.new ((W1.alloc (.cells #[.int .i64 0] 3)).alloc (.cells #[.pointer (some ⟨p.D.mB, 0, none⟩)] 174)) 3 #[.int .i64 (i : Int)]
  have hg5 : W1.grownBy (((W1.alloc (.cells #[.int .i64 0] 3)).alloc (.cells #[.pointer (some ⟨p.D.mB, 0, none⟩)] 174)).alloc (.cells #[.int .i64 (i : Int)] 3)) none := ((World.grownBy_alloc W1 _ none).trans (World.grownBy_alloc _ _ none)).trans (World.grownBy_alloc _ _ none)
  have hz5 : (((W1.alloc (.cells #[.int .i64 0] 3)).alloc (.cells #[.pointer (some ⟨p.D.mB, 0, none⟩)] 174)).alloc (.cells #[.int .i64 (i : Int)] 3)).heap.size = W1.heap.size + 1 + 1 + 1 := by simp only [World.size_alloc]
  simp only [World.size_alloc] at b174 b3
  generalize ((W1.alloc (.cells #[.int .i64 0] 3)).alloc (.cells #[.pointer (some ⟨p.D.mB, 0, none⟩)] 174)).alloc (.cells #[.int .i64 (i : Int)] 3) = W5 at mo5 b174 b3 hg5 hz5 ⊢
  have hE5 := HE1.out.kept hg5 (fun r e => by cases e)
  have hgives := steps1_gives 5 p.B p.D i hi (W1.heap.size + 1) (W1.heap.size + 1 + 1) W5 b174 b3 hE5.m hE5.le.2.2.2.2
  have hO5 : VisM p (n + 1) (putI D i (-2)) W5 := HO1.out.kept hg5 (fun e => by cases e)
  have hG5 : W.grownBy W5 (some p.tK) := HG1.out.andThen hg5 (fun j e => by cases e)
  have hI0 : VisI p W W1.heap.size st [] W5 := ⟨hE5, by rw [List.length_nil, H0.out]; exact hO5, by rw [List.length_nil, H0.out]; exact mo5, hG5⟩
  have htk : p.tK < W5.heap.size := hO5.lt
  have hmo : W1.heap.size < W5.heap.size := by omega
  have hWs := hG5.size
  refine wpIn_rangeC rfl (by omega) (gf := 158) (lb := #[.pointer (some ⟨W1.heap.size + 1, 0, none⟩), .pointer (some ⟨W1.heap.size + 1 + 1, 0, none⟩)]) rfl trivial (enters_of Try.func158 (by kernel_rfl) rfl) hgives (fun h k => h.trans k) ?hKb (Below.refl _ _) (fun _ => rfl) (fun x => by intro s X Y row _ _ _; trivial)
    (VisI p W W1.heap.size st) (fun _ _ _ => False) (visI_own p W W5 W1.heap.size st _ (Nat.le_refl _) hE5 htk hmo hWs) (fun _ => by intro s X Y row h _ _; exact h) hI0 ?a1 ?assign ?body ?done ?stop
  case assign =>
    intro lp x X K hK
    gi_wp2
    exact hK
  case hKb =>
    intro X l o o' hl ho hc hw
    exact Below.putObj (Below.refl _ _) (by have := hE5.le; omega) _
  case body =>
    rintro lp pre x X hlp hsp hI _
    have hx : (stepsL i)[pre.length]? = some x := by obtain ⟨t, ht⟩ := hsp; rw [← ht]; simp
    obtain ⟨r, hr0, hr1, hmx, hV⟩ := HST.out _ _ hx
    obtain ⟨h1, h2, h3, h4⟩ := hI
    have hbb := HB.out pre.length
    obtain ⟨mo, hmov⟩ : ∃ m, (st pre.length).2.2 = m := ⟨_, rfl⟩
    rw [hmov] at hmx h3 hbb
    have hlen : (pre ++ [x]).length = pre.length + 1 := by simp
    have HNX := Lib.hid (show (fun X' => VisE p X' ∧ VisM p (st (pre.length + 1)).1 (st (pre.length + 1)).2.1 X' ∧ Whole X' W1.heap.size 3 #[.int .i64 (if mo < r + 1 then r + 1 else mo)] ∧ W.grownBy X' (some p.tK)) = VisI p W W1.heap.size st (pre ++ [x]) from by
      funext X'
      unfold VisI
      rw [hlen, hmx])
    have v0 := h1.v.cell 0
    simp only [List.getElem?_toArray, List.getElem?_cons_zero, List.getElem?_cons_succ] at v0
    have HCALL := Lib.hid (hV X h1 h2)
    have H1 := Lib.hid h1
    have H3 := Lib.hid h3
    have H4 := Lib.hid h4
    have hXs := h4.size
    have hkX := h2.lt
    have hmX := h3.lt
    have hlB := h1.le
    obtain ⟨xc, xj⟩ := x
    dsimp only at HCALL
    have hr2 : ¬ r < 0 := by omega
    have hw1 : wrap64 (r + 1) = r + 1 := by unfold wrap64; omega
    clear hV h1 h2 h3 h4 hmx HST hx hsp hgives hI0
    gi_wp2_with fail
    refine ⟨trivial, ((callsIn_wide.2 HCALL.out).inRound lp).mono ?_⟩
    rintro e X2 ⟨rfl, hg2, ho2⟩
    have hne : some W1.heap.size ≠ some p.tK := fun e => by injection e with e; have := HO1.out.lt; omega
    have h3' := H3.out.grown hg2 hne
    have m0 := h3'.cell 0
    have f0 := h3'.frozen 0
    simp only [List.getElem?_toArray, List.getElem?_cons_zero, List.getElem?_cons_succ] at m0
    have HG2 := Lib.hid hg2
    have HO2 := Lib.hid ho2
    have H3' := Lib.hid h3'
    clear hg2 ho2 h3' HCALL
    have hfin : ∀ v : Int, (fun X' => VisE p X' ∧ VisM p (st (pre.length + 1)).1 (st (pre.length + 1)).2.1 X' ∧ Whole X' W1.heap.size 3 #[.int .i64 v] ∧ W.grownBy X' (some p.tK)) = VisI p W W1.heap.size st (pre ++ [(xc, xj)]) →
        KeepsFrom W5.heap.size X (X2.setCell ⟨W1.heap.size, 0, none⟩ (.int .i64 v)) ∧ Below p.B X (X2.setCell ⟨W1.heap.size, 0, none⟩ (.int .i64 v)) ∧ VisI p W W1.heap.size st (pre ++ [(xc, xj)]) (X2.setCell ⟨W1.heap.size, 0, none⟩ (.int .i64 v)) := by
      intro v hv
      have hset := grownBy_set1 X2 W1.heap.size 0 (.int .i64 v)
      have l1 := HE1.out.k.lt
      have l2 := HE1.out.x.lt
      have l3 := HE1.out.v.lt
      have l4 := HE1.out.le
      have l5 := HO1.out.lt
      have l6 := HG1.out.size
      refine ⟨(KeepsFrom.of_grownBy HG2.out (fun j e => by cases e; exact htk)).trans ((KeepsOthers.setCell _ _ _).from _), Below.setAt (H1.out.below HG2.out (fun q e => by cases e; exact l4.1)) (by omega) 0 _, ?_⟩
      rw [← hv]
      refine ⟨(H1.out.turned HG2.out).kept hset (fun q e => by cases e; exact ⟨by omega, by omega, by omega, by omega⟩), HO2.out.kept hset (fun e => hne e.symm), by have := H3'.out.set 0 (.int .i64 v); simpa using this, (H4.out.trans HG2.out).andThen hset (fun j e => by cases e; left; omega)⟩
    by_cases hlt : mo < r + 1
    · rw [if_pos hlt] at HNX
      gi_wp2
      exact hfin _ HNX.out
    · rw [if_neg hlt] at HNX
      gi_wp2
      exact hfin _ HNX.out
  case done =>
    rintro D' ys X hD rfl ⟨h1, h2, h3, h4⟩ hK hlt
    have hbb := HB.out (stepsL i).length
    obtain ⟨n', D2, mo, hs⟩ : ∃ n' D2 mo, st (stepsL i).length = (n', D2, mo) := ⟨_, _, _, rfl⟩
    rw [hs] at h2 h3 hbb
    dsimp only at h2 h3 hbb
    have HS := Lib.hid hs
    clear hs
    have k1 := h1.k.cell 0
    have m0 := h3.cell 0
    simp only [List.getElem?_toArray, List.getElem?_cons_zero, List.getElem?_cons_succ] at k1 m0
    have H1 := Lib.hid h1
    have H2 := Lib.hid h2
    have H3 := Lib.hid h3
    have H4 := Lib.hid h4
    have hlB := h1.le
    clear h1 h2 h3 h4 hgives hI0
    gi_wp2_with (gi_at_mapUpdate; (refine wpListIn_mapUpdate_own _ rfl _ _ _ 195 rfl 3 3 (Maps.int_keyed Try.underlying3) under195 _ p.tK n' D2 rfl H2.out (by unfold maxLen; omega) _ _ _ rfl rfl hkey _ [] (plainElem_int Try.underlying3 (wf_small _ (by omega) (by omega))) ?_); intro X1 ho1 hg1; have HX1 := Lib.hid hg1; have HOX1 := Lib.hid ho1; have m1 := (H3.out.grown hg1 (fun e => by injection e with e; have := HO1.out.lt; omega)).cell 0; simp only [List.getElem?_toArray, List.getElem?_cons_zero, List.getElem?_cons_succ] at m1; clear ho1 hg1)
    have hkD : some D' ≠ some p.tK := fun e => by injection e with e; omega
    have hK1 := (HX1.out.block D' (Array.getElem?_eq_some_iff.1 hK).1 hkD).trans hK
    have hXs := H4.out.size
    refine ⟨by simp, .inl ⟨_, _, rfl, run_takeDeferred hK1, ?_⟩⟩
    refine ⟨.int .i64 mo, by simp [results, Try.results157, go_sem], by rw [HS.out], ?_, ?_⟩
    · exact (H4.out.trans HX1.out).andThen (grownBy_putObj' X1 D' _) (fun j e => by cases e; left; omega)
    · rw [HS.out]
      exact HOX1.out.kept (grownBy_putObj' X1 D' _) (fun e => hkD e.symm)
  case stop => 
    rintro D' c pre X _ _ h _
    exact h.elim
/-- The numbers known behind the first visit. -/
def d1 : DataW Unit := putI (.map []) 0 (-2)
def d2 : DataW Unit := putI (putI d1 1 (-2)) 1 0
def d3a : DataW Unit := putI d2 2 (-2)
def d3b : DataW Unit := putI (putI d3a 3 (-2)) 3 0
def d3 : DataW Unit := putI d3b 2 1
def d4 : DataW Unit := putI d3 0 2
def nN (i : Nat) : Nat := if i = 0 then 0 else 8
def dN (i : Nat) : DataW Unit := if i = 0 then .map [] else d4
def lenL : List Int := [2, 0, 1, 0]
theorem stepsL_is : stepsL 0 = [(⟨#[97]⟩, 1), (⟨#[98]⟩, 2)] ∧ stepsL 1 = [] ∧ stepsL 2 = [(⟨#[97]⟩, 3)] ∧ stepsL 3 = [] := by
  refine ⟨?_, ?_, ?_, ?_⟩ <;> kernel_rfl
theorem visit_leaf (p : VisP) (i : Nat) (hi : i < 4) (hl : stepsL i = []) (n : Nat) (D : DataW Unit) (hn : n ≤ 100) (hno : Maps.has D (.int .i64 (i : Int)) = false) : VisOk p i n D 0 (n + 2) (putI (putI D i (-2)) i 0) := by
  have h := visit_miss p i hi n D hn hno (fun _ => (n + 1, putI D i (-2), 0)) rfl (fun _ => ⟨by show n + 1 ≤ 200; omega, Int.le_refl _, show (0 : Int) ≤ 50 by decide⟩) (fun t x hx => by rw [hl] at hx; simp at hx)
  exact h
theorem visit_two (p : VisP) : VisOk p 2 3 d2 1 7 d3 := by
  have h := visit_miss p 2 (by decide) 3 d2 (by decide) (by kernel_rfl) (fun t => if t = 0 then (4, d3a, 0) else (6, d3b, 1)) rfl (fun t => by
    by_cases h0 : t = 0
    · rw [if_pos h0]; decide
    · rw [if_neg h0]; decide) (fun t x hx => by
    rw [stepsL_is.2.2.1] at hx
    cases t with
    | zero =>
      cases hx
      exact ⟨0, by decide, by decide, by decide, visit_leaf p 3 (by decide) stepsL_is.2.2.2 4 d3a (by decide) (by kernel_rfl)⟩
    | succ t => simp at hx)
  rw [stepsL_is.2.2.1] at h
  exact h
theorem visit_zero (p : VisP) : VisOk p 0 0 (.map []) 2 8 d4 := by
  have h := visit_miss p 0 (by decide) 0 (.map []) (by decide) (by kernel_rfl) (fun t => if t = 0 then (1, d1, 0) else if t = 1 then (3, d2, 1) else (7, d3, 2)) rfl (fun t => by
    by_cases h0 : t = 0
    · rw [if_pos h0]; decide
    · by_cases h1 : t = 1
      · rw [if_neg h0, if_pos h1]; decide
      · rw [if_neg h0, if_neg h1]; decide) (fun t x hx => by
    rw [stepsL_is.1] at hx
    cases t with
    | zero =>
      cases hx
      exact ⟨0, by decide, by decide, by decide, visit_leaf p 1 (by decide) stepsL_is.2.1 1 d1 (by decide) (by kernel_rfl)⟩
    | succ t =>
      cases t with
      | zero =>
        cases hx
        exact ⟨1, by decide, by decide, by decide, visit_two p⟩
      | succ t => simp at hx)
  rw [stepsL_is.1] at h
  exact h
theorem visit_all (p : VisP) (i : Nat) (hi : i < 4) : VisOk p i (nN i) (dN i) (lenL.getD i 0) (nN (i + 1)) (dN (i + 1)) := by
  obtain rfl | rfl | rfl | rfl : i = 0 ∨ i = 1 ∨ i = 2 ∨ i = 3 := by omega
  · exact visit_zero p
  · exact visit_known p 1 0 8 d4 (by decide) (by decide) (by kernel_rfl) (by kernel_rfl) (by decide)
  · exact visit_known p 2 1 8 d4 (by decide) (by decide) (by kernel_rfl) (by kernel_rfl) (by decide)
  · exact visit_known p 3 0 8 d4 (by decide) (by decide) (by kernel_rfl) (by kernel_rfl) (by decide)
end Go.Proofs.Ytkefmlhkejoknaa.L
