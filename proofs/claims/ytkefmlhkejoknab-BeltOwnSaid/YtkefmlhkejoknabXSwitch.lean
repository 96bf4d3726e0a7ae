/- Switch comes to what belt_Switch.f says. -/
import Derived.Test.YtkefmlhkejoknabXClimb
namespace Go.Proofs.Ytkefmlhkejoknab.L
set_option linter.unusedVariables false
set_option linter.unusedSimpArgs false
open Go.RowKit Go.Shelf Go.Proofs.YtkefmlhkejoknabW.PrintWords Go.Proofs.YtkefmlhkejoknabW.PrintLast

theorem switchB_take (n : Int) (s : Nat) (l : List S46) (k : Nat) (hk : k < l.length) : (switchB n s l).take (k + 1) = (switchB n s l).take k ++ [if cutB n s (rd_T46 l (k : Int)) then ⟨(rd_T46 l (k : Int)).f0, (rd_T46 l (k : Int)).f1, - (rd_T46 l (k : Int)).f2⟩ else rd_T46 l (k : Int)] := by
  have e : rd_T46 l (k : Int) = l[k] := by simp [rd_T46, List.getElem?_eq_getElem hk]
  rw [e, List.take_succ_eq_append_getElem (by simpa [switchB] using hk)]
  simp [switchB]
theorem swt_R {W : World} {base b : Nat} {v : Value} {out : List S46} (hO : Kd.R k46 46 W base (fun k => True ∧ k ≠ b) v out) (i : Nat) (u : Value) : Kd.R k46 46 (W.setCell ⟨b, i, none⟩ u) base (fun _ => True) v out :=
  Kd.R_mono (Kd.R_far hO (p := ⟨b, i, none⟩) (fun k hk => hk.2) u) (fun _ _ => trivial)
theorem swt_X {W : World} {b : Nat} (i : Nat) (u : Value) : (W.setCell ⟨b, i, none⟩ u).heap.size = W.heap.size := by simp
theorem swt_R0 {W : World} {base b : Nat} {v : Value} {out : List S46} (hO : Kd.R k46 46 W base (fun k => True ∧ k ≠ b) v out) : Kd.R k46 46 W base (fun _ => True) v out := Kd.R_mono hO (fun _ _ => trivial)

set_option maxHeartbeats 4000000 in
set_option maxRecDepth 100000 in
theorem belt_Switch.calls (a0 : Int) (A1 : Option Addr) (c1 : Nat) (l1 : List S46) (a2 : ByteArray) (r1 : List S46) (r2 : Int) (w : World) (hr1 : Kd.C k46 w A1 l1.length l1) (hc1 : l1.length ≤ c1) (h : belt_Switch.f a0 l1 a2 = some (r1, r2)) :
    Calls Try.prog 15 #[.int .i64 a0, .slice A1 l1.length c1, .string a2] w fun e w' => ∃ v0_ : Value, e = .returned (.tuple #[v0_, .int .i64 r2]) ∧ Kd.R k46 46 w' w.heap.size (fun _ => True) v0_ r1 ∧ Below w.heap.size w w' := by
  have HC := Lib.hid hr1
  rw [belt_Switch.f] at h
  by_cases ha2 : a2.size ≤ 140737488351232
  case neg => rw [if_neg ha2] at h; cases h
  rw [if_pos ha2] at h
  have HF := Lib.hid h
  clear hr1 h
  cases hok : graphOk a0 l1 && sideOk a0 a2
  · have HG := Lib.hid hok
    clear hok
    go_enter Try.func15, Try.ntmps15
    go_wp2_with (go_at_call 41; refine (both_any a0 A1 c1 l1 a2 _ HC.out ha2).mono ?_; rintro e w1 ⟨x, rfl, hx, hb⟩; have hg := HG.out; have HB := Lib.hid hb; clear hx hb)
    go_ret2
    have e1 := HF.out
    rw [HG.out] at e1
    simp only [Bool.false_eq_true, if_false, Option.some.injEq, Prod.mk.injEq] at e1
    obtain ⟨rfl, rfl⟩ := e1
    exact ⟨_, rfl, Kd.R_nil _ _ _ _ _, below_alloc HB.out _⟩
  · have HG := Lib.hid hok
    simp only [Bool.and_eq_true] at hok
    obtain ⟨hg, hsd⟩ := hok
    obtain ⟨h0, hn⟩ := graphOk_n hg
    have hl := graphOk_len hg
    have Hg := Lib.hid hg
    have Hs := Lib.hid hsd
    have HEd := Lib.hid (graphOk_edges hg)
    have e1 := HF.out
    rw [HG.out] at e1
    simp only [if_true, Option.some.injEq, Prod.mk.injEq] at e1
    obtain ⟨E1, E2⟩ := e1
    have hs4 := numB_lt a0 a2 a2.size hn h0
    generalize hxx : numB a0 a2 a2.size = xx at E1 hs4
    have HXX := Lib.hid hxx
    have H1 := Lib.hid E1
    subst E2
    clear hg hsd E1 hxx
    go_enter Try.func15, Try.ntmps15
    go_wp2_with (go_at_call 41; refine (both_any a0 A1 c1 l1 a2 _ HC.out ha2).mono ?_; rintro e w1 ⟨x, rfl, hx, hb⟩; have hg := HG.out; have hxe := (hx Hg.out Hs.out).1.trans HXX.out; subst hxe; have HB0 := Lib.hid hb; clear hx hb)
    have hB0 : Below w.heap.size w (w1.alloc (gbox a0 (.slice A1 l1.length c1) (w.heap.size + 1 + 1))) := below_alloc HB0.out _
    have hG0 := Whole.new w1 52 #[.int .i64 a0, .slice A1 l1.length c1, .map (some (w.heap.size + 1 + 1))]
    have hgB : w.heap.size ≤ w1.heap.size := HB0.out.size
    generalize w1.heap.size = gB at hG0 hgB ⊢
    generalize w1.alloc (Obj.cells #[.int .i64 a0, .slice A1 l1.length c1, .map (some (w.heap.size + 1 + 1))] 52) = W0 at hB0 hG0 ⊢
    clear HB0
    go_loopw [11, 26] (fun ov iv wr => ∃ (k : Nat), k ≤ l1.length ∧ iv = .int .i64 k ∧ Kd.R k46 46 wr w.heap.size (fun _ => True) ov ((switchB a0 x l1).take k) ∧ Whole wr gB 52 #[.int .i64 a0, .slice A1 l1.length c1, .map (some (w.heap.size + 1 + 1))] ∧ Below w.heap.size w wr) (fun _ iv _ => l1.length - (intOf iv).toNat)
    case atStart => exact ⟨0, Nat.zero_le _, rfl, Kd.R_nil _ _ _ _ _, hG0, hB0⟩
    case round =>
      obtain ⟨k, hk, rfl, hO, hG, hB⟩ := hrel
      by_cases hlt : k < l1.length
      · obtain ⟨ad, rfl, hc0, hc1, hc2⟩ := at_T46 (Kd.C_below HC.out hB) (k : Int) (by omega) (by omega)
        simp only [Int.toNat_natCast] at hc0 hc1 hc2
        obtain ⟨Ao, co, rfl⟩ := Kd.R_slice hO
        have hlo : ((switchB a0 x l1).take k).length = k := by simp [switchB]; omega
        rw [hlo] at hO ⊢
        have HG := Lib.hid hG
        have HB := Lib.hid hB
        have HO := Lib.hid hO
        have HT := Lib.hid (switchB_take a0 x l1 k hlt)
        have hlt' := hG.lt
        obtain ⟨e0, e1, e2, e3, e4, e5⟩ := HEd.out k hlt
        generalize rd_T46 l1 (k : Int) = ed at hc0 hc1 hc2 HT e0 e1 e2 e3 e4 e5
        clear hG hB hO
        go_wp2
        obtain ⟨W1, hW1⟩ : ∃ W1, wr.alloc (Obj.cells #[Value.int IntKind.i64 ed.f0, Value.int IntKind.i64 ed.f1, Value.int IntKind.i64 ed.f2] 46) = W1 := ⟨_, rfl⟩
        have G1 := HG.out.alloc (Obj.cells #[Value.int IntKind.i64 ed.f0, Value.int IntKind.i64 ed.f1, Value.int IntKind.i64 ed.f2] 46)
        have E1 := Whole.new wr 46 #[Value.int IntKind.i64 ed.f0, Value.int IntKind.i64 ed.f1, Value.int IntKind.i64 ed.f2]
        have B1 := HB.out.alloc HB.out.size (Obj.cells #[Value.int IntKind.i64 ed.f0, Value.int IntKind.i64 ed.f1, Value.int IntKind.i64 ed.f2] 46)
        have O1 := Kd.R_alloc (Kd.R_elderB HO.out wr.heap.size (Nat.le_refl _)) (Obj.cells #[Value.int IntKind.i64 ed.f0, Value.int IntKind.i64 ed.f1, Value.int IntKind.i64 ed.f2] 46)
        rw [hW1] at G1 E1 B1 O1 ⊢
        have hne := Kd.R_ne HO.out HG.out (by decide)
        have HNE := Lib.hid hne
        have hgw : gB ≠ wr.heap.size := by omega
        have hwb : w.heap.size ≤ wr.heap.size := HB.out.size
        clear hW1 hc0 hc1 hc2 hne
        have g0 := G1.cell 0
        have g1 := G1.cell 1
        have g2 := G1.cell 2
        have x0 := E1.cell 0
        have x1 := E1.cell 1
        simp only [List.getElem?_toArray, List.getElem?_cons_zero, List.getElem?_cons_succ] at g0 g1 g2 x0 x1
        have hlt1 := E1.lt
        have HO1 := Lib.hid O1
        have HG1 := Lib.hid G1
        have HE1 := Lib.hid E1
        have HB1 := Lib.hid B1
        clear O1 G1 E1 B1
        go_region_held3 (fun w' => w'.cell? ⟨gB, 0, none⟩ = some (.int .i64 a0) ∧ w'.cell? ⟨gB, 1, none⟩ = some (.slice (some ad) l1.length c1) ∧ w'.cell? ⟨gB, 2, none⟩ = some (.map (some (w.heap.size + 1 + 1))) ∧ w'.cell? ⟨wr.heap.size, 0, none⟩ = some (.int .i64 ed.f0) ∧ w'.cell? ⟨wr.heap.size, 1, none⟩ = some (.int .i64 ed.f1)) (go_keep)
          (first | (go_at_call 42; refine (has_any a0 _ (w.heap.size + 1 + 1) x _ _ rfl hn ?_ ?_ hs4).mono ?_; (first | exact e0 | exact e2); (first | exact e1 | exact e3); rintro e w' ⟨rfl, rfl⟩))
        obtain ⟨W2, hW2⟩ : ∃ W2, ((W1.alloc (gbox a0 (.slice (some ad) l1.length c1) (w.heap.size + 1 + 1))).alloc (gbox a0 (.slice (some ad) l1.length c1) (w.heap.size + 1 + 1))).drew = W2 := ⟨_, rfl⟩
        have O2 := Kd.R_drew (Kd.R_alloc (Kd.R_alloc HO1.out (gbox a0 (.slice (some ad) l1.length c1) (w.heap.size + 1 + 1))) (gbox a0 (.slice (some ad) l1.length c1) (w.heap.size + 1 + 1)))
        have G2 := ((HG1.out.alloc (gbox a0 (.slice (some ad) l1.length c1) (w.heap.size + 1 + 1))).alloc (gbox a0 (.slice (some ad) l1.length c1) (w.heap.size + 1 + 1))).drew
        have E2 := ((HE1.out.alloc (gbox a0 (.slice (some ad) l1.length c1) (w.heap.size + 1 + 1))).alloc (gbox a0 (.slice (some ad) l1.length c1) (w.heap.size + 1 + 1))).drew
        have B2 := ((HB1.out.alloc HB1.out.size (gbox a0 (.slice (some ad) l1.length c1) (w.heap.size + 1 + 1))).alloc (by have := HB1.out.size; simp; omega) (gbox a0 (.slice (some ad) l1.length c1) (w.heap.size + 1 + 1))).drew
        rw [hW2] at O2 G2 E2 B2 ⊢
        have y0 := E2.cell 0
        have y1 := E2.cell 1
        have y2 := E2.cell 2
        have fz := E2.frozen 2
        simp only [List.getElem?_toArray, List.getElem?_cons_zero, List.getElem?_cons_succ] at y0 y1 y2
        have hlt2 := E2.lt
        have HO2 := Lib.hid O2
        have HG2 := Lib.hid G2
        have HB2 := Lib.hid B2
        clear O2 G2 E2 B2 hW2 g0 g1 g2 x0 x1 HO1 HG1 HE1 HB1
        obtain ⟨f0, f1, f2⟩ := ed
        replace e4 : -50 ≤ f2 := e4
        replace e5 : f2 ≤ 50 := e5
        cases hcut : (!(hasB a0 x f0 == hasB a0 x f1))
        · have hc : cutB a0 x ⟨f0, f1, f2⟩ = false := hcut
          have HT' := HT.out
          rw [hc, if_neg (by decide)] at HT'
          have HV := Lib.hid HT'
          clear HT HT' hc
          go_wp2_with ((with_reducible refine gate_builtin (b := .append) (xs := #[.tmp 45, .tmp 47]) rfl ?_); at_builtin; refine Kd.R_append k46 (w0 := w) w.heap.size rfl (.tmp 45) (.tmp 47) 22 46 (.agg #[.int .i64 0, .int .i64 0, .int .i64 0]) 24 rfl Try.underlying22 info46 rfl (by decide) (by omega) (.slice Ao k co) ((switchB a0 x l1).take k) ⟨f0, f1, f2⟩ [.int .i64 f0, .int .i64 f1, .int .i64 f2] (fun _ => True) (fun _ => False) rfl ?aX ?aP (fun _ hk => hk.elim) ?aF ?aO ?aB ?aS ?aL ?_; (case aX => rfl); (case aP => exact k46_mkM _ _ _ _); (case aF => exact fun _ _ => trivial); (case aO => exact swt_R0 HO2.out); (case aB => exact HB2.out); (case aS => exact HB2.out.size); (case aL => rw [hlo]; omega); intro v1 w8 ho hb hg hat; have HO8 := Lib.hid ho; have HB8 := Lib.hid hb; have HG8 := Lib.hid hg; clear ho hb hg hat)
          exact ⟨⟨k + 1, by omega, by go_num, by rw [HV.out]; exact HO8.out, HG2.out.grown HG8.out HNE.out, HB8.out⟩, by simp [intOf]; omega⟩
        · have hc : cutB a0 x ⟨f0, f1, f2⟩ = true := hcut
          have HT' := HT.out
          rw [hc, if_pos rfl] at HT'
          have HV := Lib.hid HT'
          clear HT HT' hc
          go_wp2_with ((with_reducible refine gate_builtin (b := .append) (xs := #[.tmp 45, .tmp 47]) rfl ?_); at_builtin; refine Kd.R_append k46 (w0 := w) w.heap.size rfl (.tmp 45) (.tmp 47) 22 46 (.agg #[.int .i64 0, .int .i64 0, .int .i64 0]) 24 rfl Try.underlying22 info46 rfl (by decide) (by omega) (.slice Ao k co) ((switchB a0 x l1).take k) ⟨f0, f1, - f2⟩ [.int .i64 f0, .int .i64 f1, .int .i64 (- f2)] (fun _ => True) (fun _ => False) rfl ?aX ?aP (fun _ hk => hk.elim) ?aF ?aO ?aB ?aS ?aL ?_; (case aX => rw [swt_X]; rfl); (case aP => exact k46_mkM _ _ _ _); (case aF => exact fun _ _ => trivial); (case aO => exact swt_R HO2.out _ _); (case aB => exact Below.setAt HB2.out hwb _ _); (case aS => rw [swt_X]; exact HB2.out.size); (case aL => rw [hlo]; omega); intro v1 w8 ho hb hg hat; have HO8 := Lib.hid ho; have HB8 := Lib.hid hb; have HG8 := Lib.hid hg; clear ho hb hg hat)
          exact ⟨⟨k + 1, by omega, by go_num, by rw [HV.out]; exact HO8.out, (HG2.out.far (p := ⟨wr.heap.size, 2, none⟩) hgw _).grown HG8.out HNE.out, HB8.out⟩, by simp [intOf]; omega⟩
      · obtain rfl : k = l1.length := by omega
        rw [List.take_of_length_le (by simp [switchB])] at hO
        go_wp2
        go_ret2
        exact ⟨_, rfl, by rw [← H1.out]; exact hO, hB⟩

end Go.Proofs.Ytkefmlhkejoknab.L
