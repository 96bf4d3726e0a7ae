/- belt.Apart (63): the walk. -/
import Derived.Test.YtkefmlhkejoknabXChoose
import Derived.Test.YtkefmlhkejoknabXSortB
import Derived.Test.YtkefmlhkejoknabP38
namespace Go.Proofs.Ytkefmlhkejoknab.L
set_option linter.unusedVariables false
set_option linter.unusedSimpArgs false
open Go.RowKit Go.Shelf Go.Proofs.YtkefmlhkejoknabW.PrintWords Go.Proofs.YtkefmlhkejoknabW.PrintLast Go.Proofs.YtkefmlhkejoknabW.PrintMore

/-- The cycles of the first j odd sizes. -/
def upB (n : Int) (l : List S46) (j : Nat) : List (List Int) := (List.range j).flatMap fun i => cyclesB n l (2 * i + 3)
theorem upB_succ (n : Int) (l : List S46) (j : Nat) : upB n l (j + 1) = upB n l j ++ cyclesB n l (2 * j + 3) := by simp [upB, List.range_succ]
theorem upB_all {n : Int} {l : List S46} {j : Nat} (h1 : n < ((2 * j + 3 : Nat) : Int)) (h2 : ((2 * j + 3 : Nat) : Int) ≤ n + 2) : upB n l j = allB n l := by
  unfold upB allB oddSizes
  rw [List.flatMap_map, show (n.toNat - 1) / 2 = j by omega]
theorem upB_len (n : Int) (l : List S46) (hn : n ≤ 12) : ∀ j : Nat, j ≤ 5 → (upB n l j).length ≤ j * 743008370688
  | 0, _ => by simp [upB]
  | j + 1, h => by
    have ih := upB_len n l hn j (by omega)
    have h1 := cyclesB_count n l (2 * j + 3) hn (by omega)
    have h2 : 12 ^ (2 * j + 3) ≤ 12 ^ 11 := Nat.pow_le_pow_right (by omega) (by omega)
    have h3 : 12 ^ 11 = 743008370688 := by decide
    rw [upB_succ, List.length_append]
    omega
theorem upB_nodup (n : Int) (l : List S46) (j : Nat) : (upB n l j).Nodup := by
  unfold upB
  rw [List.Nodup, List.pairwise_flatMap]
  refine ⟨fun k _ => cyclesB_nodup n l _, ?_⟩
  refine List.Pairwise.imp ?_ (List.pairwise_lt_range)
  intro i k hik c hc d hd e
  have h1 := cyclesB_len (by omega) hc
  have h2 := cyclesB_len (by omega) hd
  rw [e] at h1
  omega
theorem upB_mem {n : Int} {l : List S46} {j : Nat} {c : List Int} (h : c ∈ upB n l j) : ∃ i, i < j ∧ c.length = 2 * i + 3 ∧ CycIs l c := by
  unfold upB at h
  rw [List.mem_flatMap] at h
  obtain ⟨i, hi, hc⟩ := h
  exact ⟨i, by simpa using hi, cyclesB_len (by omega) hc, cycles_sound (by omega) (by omega) hc⟩
def gcells (a0 : Int) (A1 : Option Addr) (c1 : Nat) (l1 : List S46) (m : Nat) : Array Value := #[.int .i64 a0, .slice A1 l1.length c1, .map (some m)]
def ApV (w : World) (base gB aB m : Nat) (a0 : Int) (A1 : Option Addr) (c1 : Nat) (l1 : List S46) (v : Value) (ps : List ACyc) (W : World) : Prop :=
  Whole W aB 24 #[v] ∧ Whole W gB 52 #[.int .i64 a0, .slice A1 l1.length c1, .map (some m)] ∧ MapIs W m l1 ∧ RowsIs W (aB + 1) v ps ∧ Below base w W ∧ (base ≤ gB ∧ gB < aB ∧ m < aB ∧ aB + 1 ≤ W.heap.size)
section
variable {w : World} {base gB aB m : Nat} {a0 : Int} {A1 : Option Addr} {c1 : Nat} {l1 : List S46} {v v' : Value} {ps ps' : List ACyc} {W W' : World}
theorem ApV.below (h : ApV w base gB aB m a0 A1 c1 l1 v ps W) (hb : Below W.heap.size W W') : ApV w base gB aB m a0 A1 c1 l1 v ps W' := by
  obtain ⟨h1, h2, h3, h4, h5, h6⟩ := h
  have := hb.size
  exact ⟨h1.below hb h1.lt, h2.below hb h2.lt, h3.below hb h3.lt, h4.below hb, below_then h5 (by omega) hb, by omega⟩
theorem ApV.facts (h : ApV w base gB aB m a0 A1 c1 l1 v ps W) :
    (W.cell? ⟨aB, 0, none⟩ = some v ∧ W.frozen? ⟨aB, 0, none⟩ = false) ∧ W.cell? ⟨gB, 0, none⟩ = some (.int .i64 a0) ∧ W.cell? ⟨gB, 1, none⟩ = some (.slice A1 l1.length c1) ∧ W.cell? ⟨gB, 2, none⟩ = some (.map (some m)) ∧ gB < W.heap.size ∧ aB < W.heap.size := by
  obtain ⟨h1, h2, h3, h4, h5, h6⟩ := h
  exact ⟨⟨h1.cell 0, h1.frozen 0⟩, h2.cell 0, h2.cell 1, h2.cell 2, h2.lt, h1.lt⟩
theorem ApV.made (h : ApV w base gB aB m a0 A1 c1 l1 v ps W) {s : Int} (hw : (W.drew.alloc (gbox a0 (.slice A1 l1.length c1) m)).alloc (.cells #[.int .i64 s] 3) = W') :
    ApV w base gB aB m a0 A1 c1 l1 v ps W' ∧ Whole W' (W.heap.size + 1) 3 #[.int .i64 s] ∧ Whole W' W.heap.size 52 #[.int .i64 a0, .slice A1 l1.length c1, .map (some m)] := by
  subst hw
  refine ⟨h.below (below_alloc (below_alloc (Below.refl _ _).drew _) _), ?_, ?_⟩
  · have := Whole.new (W.drew.alloc (gbox a0 (.slice A1 l1.length c1) m)) 3 #[.int .i64 s]
    rw [World.size_alloc] at this
    exact this
  · exact (Whole.new W.drew 52 #[.int .i64 a0, .slice A1 l1.length c1, .map (some m)]).alloc _
theorem ApV.turned (h : ApV w base gB aB m a0 A1 c1 l1 v ps W) (hr : RowsIs W' (aB + 1) v' ps') (hb : Below (aB + 1) W W') :
    (W'.cell? ⟨aB, 0, none⟩ = some v ∧ W'.frozen? ⟨aB, 0, none⟩ = false) ∧ ApV w base gB aB m a0 A1 c1 l1 v' ps' (W'.setCell ⟨aB, 0, none⟩ v') := by
  obtain ⟨h1, h2, h3, h4, h5, h6⟩ := h
  have k1 := h1.below hb (by omega)
  have k2 := h2.below hb (by omega)
  have k3 := h3.below hb (by omega)
  have hs : (W'.setCell ⟨aB, 0, none⟩ v').heap.size = W'.heap.size := by simp [World.setCell]
  have hsz := hb.size
  have h7 : Below base w W' := h5.trans (hb.mono (by omega))
  refine ⟨⟨k1.cell 0, k1.frozen 0⟩, by have := k1.set 0 v'; simpa using this, k2.far (by show gB ≠ aB; omega) v', k3.setCell _ _, hr.kept (setCell_grown W' aB 0 v') (fun k e => ?_), Below.setAt h7 (by omega) 0 v', by omega⟩
  injection e with e
  subst e
  exact .inl (by omega)
theorem parted_nil (u : Value) : Parted (.slice none 0 0) u := fun k e => by cases e
/-- What choose finds when it is called first. -/
theorem ChV.start (h : ApV w base gB aB m a0 A1 c1 l1 v ps W) (hr : RowsIs W' (aB + 1) v ps') (hg : W.grownBy W' v.ownBlock) (cl : Value) (hcl : cl = cloV (W'.heap.size + 1 + 1) (W'.heap.size + 1 + 1 + 1) aB (W'.heap.size + 1) (W'.heap.size + 1 + 1 + 1 + 1)) :
    ChV w base (W'.heap.size + 1 + 1) (W'.heap.size + 1 + 1 + 1) aB (W'.heap.size + 1) (W'.heap.size + 1 + 1 + 1 + 1) W'.heap.size (aB + 1) v ps' (.slice none 0 0) (.slice none 0 0) [] [] (keysOf []) (((((W'.alloc (.map #[] 0)).alloc (.cells #[.map (some W'.heap.size)] 61)).alloc (.cells #[.slice none 0 0] 24)).alloc (.cells #[.slice none 0 0] 24)).alloc (.cells #[cl] 62)) := by
  subst hcl
  obtain ⟨h1, h2, h3, h4, h5, h6⟩ := h
  have hsz := hg.size
  have hne : ∀ k, v.ownBlock = some k → aB + 1 ≤ k := fun k e => own_base h4.1 k e
  have k1 : Whole W' aB 24 #[v] := h1.grown hg (fun e => by have := hne _ e.symm; omega)
  have k5 : Below base w W' := h5.grown hg (by omega) (fun k e => by have := hne k e; omega)
  have b1 := (((((Below.refl W'.heap.size W').alloc (Nat.le_refl _) (.map #[] 0)).alloc (by simp) (.cells #[.map (some W'.heap.size)] 61)).alloc (by simp <;> omega) (.cells #[.slice none 0 0] 24)).alloc (by simp <;> omega) (.cells #[.slice none 0 0] 24)).alloc (by simp <;> omega) (.cells #[cloV (W'.heap.size + 1 + 1) (W'.heap.size + 1 + 1 + 1) aB (W'.heap.size + 1) (W'.heap.size + 1 + 1 + 1 + 1)] 62)
  have hown : ∀ (W : World), W.ownsRow (aB + 1) 33 1 (.slice none 0 0) 0 [] := fun W => ⟨rfl, .inl ⟨rfl, rfl⟩⟩
  have u0 : Whole (W'.alloc (.map #[] 0) |>.alloc (.cells #[.map (some W'.heap.size)] 61)) (W'.heap.size + 1) 61 #[.map (some W'.heap.size)] := by
    have := Whole.new (W'.alloc (.map #[] 0)) 61 #[.map (some W'.heap.size)]
    rw [World.size_alloc] at this
    exact this
  have n0 : Whole ((W'.alloc (.map #[] 0) |>.alloc (.cells #[.map (some W'.heap.size)] 61)).alloc (.cells #[.slice none 0 0] 24)) (W'.heap.size + 1 + 1) 24 #[.slice none 0 0] := by
    have := Whole.new (W'.alloc (.map #[] 0) |>.alloc (.cells #[.map (some W'.heap.size)] 61)) 24 #[.slice none 0 0]
    rw [World.size_alloc, World.size_alloc] at this
    exact this
  have bb0 : Whole (((W'.alloc (.map #[] 0) |>.alloc (.cells #[.map (some W'.heap.size)] 61)).alloc (.cells #[.slice none 0 0] 24)).alloc (.cells #[.slice none 0 0] 24)) (W'.heap.size + 1 + 1 + 1) 24 #[.slice none 0 0] := by
    have := Whole.new ((W'.alloc (.map #[] 0) |>.alloc (.cells #[.map (some W'.heap.size)] 61)).alloc (.cells #[.slice none 0 0] 24)) 24 #[.slice none 0 0]
    rw [World.size_alloc, World.size_alloc, World.size_alloc] at this
    exact this
  have hlt : aB < W'.heap.size := k1.lt
  refine ⟨⟨(n0.alloc _).alloc _, bb0.alloc _, k1.below b1 hlt, ((u0.alloc _).alloc _).alloc _, ?_⟩, ⟨hown _, hown _, hr.below b1⟩, ?_, below_then k5 (by omega) b1, ⟨parted_nil _, parted_nil _⟩, by omega, by omega, by omega, by omega, ?_, by omega, by omega, by omega⟩
  · have := Whole.new (((W'.alloc (.map #[] 0) |>.alloc (.cells #[.map (some W'.heap.size)] 61)).alloc (.cells #[.slice none 0 0] 24)).alloc (.cells #[.slice none 0 0] 24)) 62 #[cloV (W'.heap.size + 1 + 1) (W'.heap.size + 1 + 1 + 1) aB (W'.heap.size + 1) (W'.heap.size + 1 + 1 + 1 + 1)]
    rw [World.size_alloc, World.size_alloc, World.size_alloc, World.size_alloc] at this
    exact this
  · have hm := MapK.new W'
    have b2 := ((((Below.refl (W'.alloc (.map #[] 0)).heap.size (W'.alloc (.map #[] 0))).alloc (Nat.le_refl _) (.cells #[.map (some W'.heap.size)] 61)).alloc (by simp) (.cells #[.slice none 0 0] 24)).alloc (by simp <;> omega) (.cells #[.slice none 0 0] 24)).alloc (by simp <;> omega) (.cells #[cloV (W'.heap.size + 1 + 1) (W'.heap.size + 1 + 1 + 1) aB (W'.heap.size + 1) (W'.heap.size + 1 + 1 + 1 + 1)] 62)
    exact hm.below b2
  · simp
    omega
end

set_option maxHeartbeats 4000000 in
theorem belt_Apart.calls (a0 : Int) (A1 : Option Addr) (c1 : Nat) (l1 : List S46) (r1 : List (List Int)) (r2 : Int) (w : World) (hr1 : Kd.C k46 w A1 l1.length l1) (hc1 : l1.length ≤ c1) (h : belt_Apart.f a0 l1 = some (r1, r2)) :
    Calls Try.prog 6 #[.int .i64 a0, .slice A1 l1.length c1] w fun e w' => ∃ v0_ : Value, e = .returned (.tuple #[v0_, .int .i64 r2]) ∧ Kd.S (Kd.slice 3 (Kd.int .i64)) 33 w' w.heap.size (fun _ => True) v0_ r1 ∧ Below w.heap.size w w' := by
  have HC := Lib.hid hr1
  have HF := Lib.hid h
  clear hr1 h
  cases hg : graphOk a0 l1
  · have HG := Lib.hid hg
    clear hg
    go_enter Try.func6, Try.ntmps6
    go_wp2_with (go_at_call 23; refine (newGraph_any a0 A1 c1 l1 _ HC.out).mono ?_; rintro e w1 ⟨rfl, hb, _⟩; have hg := HG.out; have HB := Lib.hid hb; clear hb)
    go_ret2
    have e1 := HF.out
    rw [belt_Apart.f, HG.out] at e1
    simp only [Bool.false_and, Bool.false_eq_true, if_false, Option.some.injEq, Prod.mk.injEq] at e1
    obtain ⟨rfl, rfl⟩ := e1
    exact ⟨_, rfl, (RowsIs.nil _ w.heap.size).S (Nat.le_refl _), below_alloc HB.out _⟩
  obtain ⟨h0, hn⟩ := graphOk_n hg
  have HG := Lib.hid hg
  clear hg
  have hmm := @run_makeMap Try.prog
  by_cases hlen : l1.length ≤ 12
  case neg =>
    have hlen2 : (12 : Int) < l1.length := by omega
    go_enter Try.func6, Try.ntmps6
    go_wp2_with (go_at_call 23; refine (newGraph_any a0 A1 c1 l1 _ HC.out).mono ?_; rintro e w1 ⟨rfl, hb, _⟩; have hg := HG.out; have HB := Lib.hid hb; clear hb)
    go_ret2
    have e1 := HF.out
    rw [belt_Apart.f, HG.out, decide_eq_false hlen] at e1
    simp only [Bool.and_false, Bool.false_eq_true, if_false, Option.some.injEq, Prod.mk.injEq] at e1
    obtain ⟨rfl, rfl⟩ := e1
    exact ⟨_, rfl, (RowsIs.nil _ w.heap.size).S (Nat.le_refl _), below_alloc HB.out _⟩
  have e1 := HF.out
  rw [belt_Apart.f, HG.out, decide_eq_true hlen] at e1
  simp only [Bool.and_self, if_true, Option.some.injEq, Prod.mk.injEq] at e1
  obtain ⟨E1, rfl⟩ := e1
  have HE := Lib.hid E1
  clear E1
  go_enter Try.func6, Try.ntmps6
  go_wp2_with (go_at_call 23; refine (newGraph_any a0 A1 c1 l1 _ HC.out).mono ?_; rintro e w1 ⟨rfl, hb, hm⟩; have hg := HG.out; have HM := Lib.hid (hm hg); have HB := Lib.hid hb; clear hm hb)
  have hmlt := HM.out.lt
  have hs1 : w.heap.size ≤ w1.heap.size := HB.out.size
  have hA0 : ApV w w.heap.size w1.heap.size (w1.heap.size + 1) (w.heap.size + 1) a0 A1 c1 l1 (.slice none 0 0) [] ((w1.alloc (gbox a0 (.slice A1 l1.length c1) (w.heap.size + 1))).alloc (.cells #[.slice none 0 0] 24)) := by
    refine ⟨?_, (Whole.new w1 52 #[.int .i64 a0, .slice A1 l1.length c1, .map (some (w.heap.size + 1))]).alloc _, (HM.out.alloc _).alloc _, RowsIs.nil _ _, below_alloc (below_alloc HB.out _) _, by omega, by omega, by omega, by simp⟩
    have := Whole.new (w1.alloc (gbox a0 (.slice A1 l1.length c1) (w.heap.size + 1))) 24 #[.slice none 0 0]
    rw [World.size_alloc] at this
    exact this
  have HA0 := Lib.hid hA0
  clear hA0
  generalize (w1.alloc (Obj.cells #[.int .i64 a0, .slice A1 l1.length c1, .map (some (w.heap.size + 1))] 52)).alloc (Obj.cells #[.slice none 0 0] 24) = W0 at HA0 ⊢
  generalize w.heap.size + 1 = m at hmlt HA0 ⊢
  generalize haB : w1.heap.size + 1 = aB at HA0 ⊢
  generalize w1.heap.size = gB at hs1 hmlt haB HA0 ⊢
  clear HM HB
  go_loopw [9] (fun iv wr => ∃ (s j : Nat) (Av : Option Addr) (cv : Nat) (ps : List ACyc), iv = .int .i64 (s : Int) ∧ Hid (s = 2 * j + 3) ∧ (s : Int) ≤ a0 + 2 ∧ ApV w w.heap.size gB aB m a0 A1 c1 l1 (.slice Av ps.length cv) ps wr ∧ Hid (ps.map Prod.snd = upB a0 l1 j)) (fun iv _ => 20 - (intOf iv).toNat)
  case atStart => exact ⟨3, 0, none, 0, [], rfl, Lib.hid rfl, by omega, HA0.out, Lib.hid rfl⟩
  case round =>
    obtain ⟨s, j, Av, cv, ps, rfl, HS, hsn, hA, HPS⟩ := hrel
    have HA := Lib.hid hA
    obtain ⟨⟨f1, f2⟩, g0, g1, g2, z1, z2⟩ := hA.facts
    clear hA
    have hpl : ps.length ≤ 4000000000000 := by
      have h1 := congrArg List.length HPS.out
      rw [List.length_map] at h1
      have hs := HS.out
      have h2 := upB_len a0 l1 hn j (by omega)
      have : j ≤ 5 := by omega
      omega
    by_cases hle : (s : Int) ≤ a0
    · have HLN := Lib.hid hpl
      clear hpl
      go_wp2
      refine wp_region_any (by kernel_rfl) ?_
      change wpAny _ _ _ _ _ _ _ (World.drew _)
      refine takeP (i := 2) (v := ?vc1) (a' := ?bc1) rfl (by kernel_rfl) (by kernel_rfl) (by kernel_rfl) (fun _ _ _ h => h) (Or.inl ⟨by rfl, ?hyc1⟩) ?hac1 ?_
      case hyc1 => (intro w; go_simp; try first | with_reducible rfl | omega)
      case hac1 => (go_simp; try with_reducible rfl)
      refine wpAny_ready (rs := [0, 1]) (by kernel_rfl) (by simp) ?_
      refine AllReady.cons rfl (fun K hK => ?_) ?_
      · go_simp
        refine hK _ _ ?_
        clear hK K
        refine wpAny_ready (rs := [1]) (by kernel_rfl) (by simp) ?_
        refine AllReady.cons rfl (fun K hK => ?_) AllReady.nil
        go_simp
        refine hK _ _ ?_
        clear hK K
        refine wpAny_ready (rs := [3]) (by kernel_rfl) (by simp) ?_
        refine AllReady.cons rfl (fun K hK => ?_) AllReady.nil
        go_simp
        go_at_call 25
        refine (cycles_any _ _ _ _ _ rfl).mono ?_
        rintro e w2 ⟨rfl, hw2⟩
        obtain ⟨hA2, hS2, hG2⟩ := HA.out.made hw2
        have HA2 := Lib.hid hA2; have HS2 := Lib.hid hS2; have HG2 := Lib.hid hG2
        clear f1 f2 g0 g1 g2 z1 z2 hA2 hS2 hG2 hw2
        obtain ⟨⟨f1, f2⟩, g0, g1, g2, z1, z2⟩ := HA2.out.facts
        go_simp
        refine hK _ _ ?_
        clear hK K
        refine wpAny_ready (rs := [4]) (by kernel_rfl) (by simp) ?_
        refine AllReady.cons rfl (fun K hK => ?_) AllReady.nil
        go_simp
        go_at_call 24
        refine (appendSeq_any a0 A1 c1 m l1 s _ _ (aB + 1) _ ps _ hn h0 (by have := HS.out; omega) (by have := HS.out; omega) HS2.out HG2.out HA2.out.2.2.1 HA2.out.2.2.2.1 HA2.out.2.2.2.2.2.2.2.2 HLN.out).mono ?_
        rintro e w3 ⟨v3, qs, rfl, hqs, hr3, hb3⟩
        obtain ⟨A3, k3, rfl⟩ := own_form hr3.1
        obtain ⟨⟨t1, t2⟩, hA4⟩ := HA2.out.turned hr3 hb3
        have z3 : aB < w3.heap.size := (by have := hb3.size; omega)
        have HA4 := Lib.hid hA4; have HQ := Lib.hid hqs
        clear f1 f2 g0 g1 g2 z1 z2 hr3 hb3 hA4 hqs
        go_simp
        refine hK _ _ ?_
        clear hK K
        refine wpAny_ready (rs := [5]) (by kernel_rfl) (by simp) ?_
        refine AllReady.cons rfl (fun K hK => ?_) AllReady.nil
        go_simp
        refine hK _ _ ?_
        clear hK K
        refine wpAny_done (by kernel_rfl) ?_ _
        go_wp2
        exact ⟨⟨s + 2, j + 1, A3, k3, ps ++ qs, by go_num, Lib.hid (by have := HS.out; omega), by omega, (by have := HA4.out; rw [List.length_append] at this ⊢; exact this), Lib.hid (by rw [List.map_append, HPS.out, HQ.out, upB_succ, HS.out])⟩, by simp [intOf]; omega⟩
      refine AllReady.cons rfl (fun K hK => ?_) AllReady.nil
      go_simp
      refine hK _ _ ?_
      clear hK K
      refine wpAny_ready (rs := [0, 3]) (by kernel_rfl) (by simp) ?_
      refine AllReady.cons rfl (fun K hK => ?_) ?_
      · go_simp
        refine hK _ _ ?_
        clear hK K
        refine wpAny_ready (rs := [3]) (by kernel_rfl) (by simp) ?_
        refine AllReady.cons rfl (fun K hK => ?_) AllReady.nil
        go_simp
        go_at_call 25
        refine (cycles_any _ _ _ _ _ rfl).mono ?_
        rintro e w2 ⟨rfl, hw2⟩
        obtain ⟨hA2, hS2, hG2⟩ := HA.out.made hw2
        have HA2 := Lib.hid hA2; have HS2 := Lib.hid hS2; have HG2 := Lib.hid hG2
        clear f1 f2 g0 g1 g2 z1 z2 hA2 hS2 hG2 hw2
        obtain ⟨⟨f1, f2⟩, g0, g1, g2, z1, z2⟩ := HA2.out.facts
        go_simp
        refine hK _ _ ?_
        clear hK K
        refine wpAny_ready (rs := [4]) (by kernel_rfl) (by simp) ?_
        refine AllReady.cons rfl (fun K hK => ?_) AllReady.nil
        go_simp
        go_at_call 24
        refine (appendSeq_any a0 A1 c1 m l1 s _ _ (aB + 1) _ ps _ hn h0 (by have := HS.out; omega) (by have := HS.out; omega) HS2.out HG2.out HA2.out.2.2.1 HA2.out.2.2.2.1 HA2.out.2.2.2.2.2.2.2.2 HLN.out).mono ?_
        rintro e w3 ⟨v3, qs, rfl, hqs, hr3, hb3⟩
        obtain ⟨A3, k3, rfl⟩ := own_form hr3.1
        obtain ⟨⟨t1, t2⟩, hA4⟩ := HA2.out.turned hr3 hb3
        have z3 : aB < w3.heap.size := (by have := hb3.size; omega)
        have HA4 := Lib.hid hA4; have HQ := Lib.hid hqs
        clear f1 f2 g0 g1 g2 z1 z2 hr3 hb3 hA4 hqs
        go_simp
        refine hK _ _ ?_
        clear hK K
        refine wpAny_ready (rs := [5]) (by kernel_rfl) (by simp) ?_
        refine AllReady.cons rfl (fun K hK => ?_) AllReady.nil
        go_simp
        refine hK _ _ ?_
        clear hK K
        refine wpAny_done (by kernel_rfl) ?_ _
        go_wp2
        exact ⟨⟨s + 2, j + 1, A3, k3, ps ++ qs, by go_num, Lib.hid (by have := HS.out; omega), by omega, (by have := HA4.out; rw [List.length_append] at this ⊢; exact this), Lib.hid (by rw [List.map_append, HPS.out, HQ.out, upB_succ, HS.out])⟩, by simp [intOf]; omega⟩
      refine AllReady.cons rfl (fun K hK => ?_) AllReady.nil
      go_simp
      go_at_call 25
      refine (cycles_any _ _ _ _ _ rfl).mono ?_
      rintro e w2 ⟨rfl, hw2⟩
      obtain ⟨hA2, hS2, hG2⟩ := HA.out.made hw2
      have HA2 := Lib.hid hA2; have HS2 := Lib.hid hS2; have HG2 := Lib.hid hG2
      clear f1 f2 g0 g1 g2 z1 z2 hA2 hS2 hG2 hw2
      obtain ⟨⟨f1, f2⟩, g0, g1, g2, z1, z2⟩ := HA2.out.facts
      go_simp
      refine hK _ _ ?_
      clear hK K
      refine wpAny_ready (rs := [0]) (by kernel_rfl) (by simp) ?_
      refine AllReady.cons rfl (fun K hK => ?_) AllReady.nil
      go_simp
      refine hK _ _ ?_
      clear hK K
      refine wpAny_ready (rs := [4]) (by kernel_rfl) (by simp) ?_
      refine AllReady.cons rfl (fun K hK => ?_) AllReady.nil
      go_simp
      go_at_call 24
      refine (appendSeq_any a0 A1 c1 m l1 s _ _ (aB + 1) _ ps _ hn h0 (by have := HS.out; omega) (by have := HS.out; omega) HS2.out HG2.out HA2.out.2.2.1 HA2.out.2.2.2.1 HA2.out.2.2.2.2.2.2.2.2 HLN.out).mono ?_
      rintro e w3 ⟨v3, qs, rfl, hqs, hr3, hb3⟩
      obtain ⟨A3, k3, rfl⟩ := own_form hr3.1
      obtain ⟨⟨t1, t2⟩, hA4⟩ := HA2.out.turned hr3 hb3
      have z3 : aB < w3.heap.size := (by have := hb3.size; omega)
      have HA4 := Lib.hid hA4; have HQ := Lib.hid hqs
      clear f1 f2 g0 g1 g2 z1 z2 hr3 hb3 hA4 hqs
      go_simp
      refine hK _ _ ?_
      clear hK K
      refine wpAny_ready (rs := [5]) (by kernel_rfl) (by simp) ?_
      refine AllReady.cons rfl (fun K hK => ?_) AllReady.nil
      go_simp
      refine hK _ _ ?_
      clear hK K
      refine wpAny_done (by kernel_rfl) ?_ _
      go_wp2
      exact ⟨⟨s + 2, j + 1, A3, k3, ps ++ qs, by go_num, Lib.hid (by have := HS.out; omega), by omega, (by have := HA4.out; rw [List.length_append] at this ⊢; exact this), Lib.hid (by rw [List.map_append, HPS.out, HQ.out, upB_succ, HS.out])⟩, by simp [intOf]; omega⟩
    · have hall : upB a0 l1 j = allB a0 l1 := upB_all (by rw [← HS.out]; omega) (by rw [← HS.out]; omega)
      have hps : ps.map Prod.snd = allB a0 l1 := HPS.out.trans hall
      have hnd : (ps.map Prod.snd).Nodup := by rw [HPS.out]; exact upB_nodup a0 l1 j
      have hrow : ∀ c ∈ allB a0 l1, 3 ≤ c.length ∧ c.length ≤ 11 ∧ (endsB c).Nodup := by
        intro c hc
        have hs := HS.out
        rw [← hall] at hc
        obtain ⟨i, h1, h2, h3⟩ := upB_mem hc
        exact ⟨by omega, by omega, ends_nodup h3⟩
      have HROW := Lib.hid hrow; have HND := Lib.hid hnd; have HP := Lib.hid hps; have HLN := Lib.hid hpl
      clear hall hps hnd hrow hpl
      go_wp2_with (first
        | (go_at_call 26; refine (sortB_own (aB + 1) _ ps _ HA.out.2.2.2.1 HLN.out (fun q hq => by have := (HROW.out q.2 (by rw [← HP.out]; exact List.mem_map_of_mem hq)).2.1; omega) HND.out).mono ?_; rintro e w4 ⟨rfl, ps4, hr4, hp4, hg4⟩; have hcl := ChV.start HA.out hr4 hg4 _ rfl; have hl4 : ps4.length = ps.length := (by have h1 := congrArg List.length hp4; unfold sortB at h1; rw [List.length_mergeSort, List.length_map, List.length_map] at h1; exact h1); rw [← hl4] at hcl; have HCH := Lib.hid hcl; have HP4 := Lib.hid (hp4.trans (congrArg sortB HP.out)); have HL4 := Lib.hid (show ps4.length ≤ 4000000000000 from by rw [hl4]; exact HLN.out); have haw : aB < w4.heap.size := (by have := hg4.size; omega); clear hr4 hp4 hg4 hcl hl4)
        | (go_at_call 28; refine (choose_any w w.heap.size _ _ aB _ _ _ (aB + 1) Av cv ps4 HL4.out (fun q hq => HROW.out q.2 (by have h1 : q.2 ∈ ps4.map Prod.snd := List.mem_map_of_mem hq; rw [HP4.out] at h1; exact sortB_mem.1 h1)) (ps4.length + 1) [] ps4 rfl (by omega) (.slice none 0 0) (.slice none 0 0) [] [] _ HCH.out (List.Sublist.refl _) (List.nil_sublist _)).mono ?_; rintro e w7 ⟨rfl, vn7, vb7, bs7, hV7, hsub7, hb7, _⟩; obtain ⟨Ab7, cb7, rfl⟩ := own_form hV7.2.1.2.1; clear f1 f2 g0 g1 g2 z1 z2; obtain ⟨⟨f1, f2⟩, ⟨f3, f4⟩, f5, f6, f7, f8, f9, f10, f11, f12⟩ := hV7.facts; have HV7 := Lib.hid hV7; have HSUB := Lib.hid hsub7; have HB7 := Lib.hid hb7; clear hV7 hsub7 hb7))
      refine bodyPost_ret (v := .tuple #[.slice Ab7 bs7.length cb7, .int .i64 0]) (by simp [results, Try.results6, go_sem]) rfl ⟨_, rfl, ?_, HV7.out.2.2.2.1⟩
      have hr7 : RowsIs w7 (aB + 1) (.slice Ab7 bs7.length cb7) bs7 := ⟨HV7.out.2.1.2.1, fun q hq => HV7.out.2.1.2.2.2.1 q (HSUB.out.subset hq), List.Pairwise.sublist HSUB.out HV7.out.2.1.2.2.2.2⟩
      have hq7 := hr7.S (base := w.heap.size) (by omega)
      have e7 : bs7.map Prod.snd = r1 := by
        rw [← HE.out, HB7.out, HP4.out]
        rfl
      rw [e7] at hq7
      exact hq7
end Go.Proofs.Ytkefmlhkejoknab.L
