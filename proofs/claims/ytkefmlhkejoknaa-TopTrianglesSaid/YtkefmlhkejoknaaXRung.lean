/- gauge.rung of 0 to 5. -/
import Derived.Test.YtkefmlhkejoknaaXGold
import Derived.Test.YtkefmlhkejoknaaXRoots
namespace Go.Proofs.Ytkefmlhkejoknaa.L
set_option linter.unusedVariables false
set_option linter.unusedSimpArgs false
section
variable {P : Program} {ops : Array Oper} {md : Region.Mode} {Q : Exit → Act → World → Prop}
/-- An operation taken first, the frame written out anew. -/
theorem takeP {i : Nat} {oi : Oper} {v : Value} {fuel : Nat} {listed : Array Bool} {a a' : Act} {w : World} (hi : ops[i]? = some oi)
    (hs : Region.noSelect ops = true) (hf : Region.free md ops listed i = true) (hr : (Region.ready md ops listed).contains i = true)
    (hQ : ∀ c a w, Q (.panic c) (a.put oi.dst v) w → Q (.panic c) a w) (hy : Yields P ops oi v a) (ha : a.put oi.dst v = a')
    (h : wpAny P md ops Q fuel (listed.setIfInBounds i true) a' w) : wpAny P md ops Q (fuel + 1) listed a w := by
  subst ha
  exact wpAny_take hi hs hf hr hQ hy h
end
open Go.RowKit Go.Shelf Go.Proofs.YtkefmlhkejoknaaW.PrintWords Go.Proofs.YtkefmlhkejoknaaW.PrintLast Go.Proofs.YtkefmlhkejoknaaW.PrintMore

theorem of_any (pB : Nat) (C : Array Value) (i : Nat) (hi : i ≤ 3) (w : World) (hC : Whole w pB 210 C) (hG : GoodC C) : Calls Try.prog 174 #[.pointer (some ⟨pB, 0, none⟩), .int .i64 (i : Int)] w fun e w' => e = .returned (.agg #[.int .i64 (upW i).1, .int .i64 (upW i).2]) ∧ Below w.heap.size w w' := by
  obtain ⟨a, b⟩ := hG.2.2 i (by omega)
  have c0 : w.cell? ⟨pB, (40 + i) * 2, none⟩ = some (.int .i64 (upW i).1) := by rw [hC.cell, show (40 + i) * 2 = 80 + i * 2 by omega, a]
  have c1 : w.cell? ⟨pB, (40 + i) * 2 + 1, none⟩ = some (.int .i64 (upW i).2) := by rw [hC.cell, show (40 + i) * 2 + 1 = 80 + i * 2 + 1 by omega, b]
  have hlt := hC.lt
  clear hC hG a b
  generalize upW i = u at c0 c1
  obtain ⟨u1, u2⟩ := u
  dsimp only at c0 c1 ⊢
  go_enter Try.func174, Try.ntmps174
  go_wp2
  refine bodyPost_ret (v := .agg #[.int .i64 u1, .int .i64 u2]) (by simp [results, Try.results174, go_sem]) rfl ⟨rfl, ?_⟩
  exact below_alloc (Below.refl _ _) _

/-- What rung keeps in memory. -/
structure RunV (w : World) (pB : Nat) (C : Array Value) (A : Option Addr) (c : Nat) (fs : List Int) (W : World) : Prop where
  fib : Kd.R (Kd.int .i64) 3 W w.heap.size (fun _ => True) (.slice A fs.length c) fs
  p : Whole W pB 210 C
  r : Whole W w.heap.size 168 #[.int .i64 0, .int .i64 0]
  bel : Below w.heap.size w W
theorem RunV.below {w : World} {pB : Nat} {C : Array Value} {A : Option Addr} {c : Nat} {fs : List Int} {W W' : World} (h : RunV w pB C A c fs W) (hb : Below W.heap.size W W') : RunV w pB C A c fs W' :=
  ⟨Kd.R_below h.fib hb, h.p.below hb h.p.lt, h.r.below hb h.r.lt, h.bel.trans (hb.mono h.bel.size)⟩
theorem RunV.append {w : World} {pB : Nat} {C : Array Value} {A : Option Addr} {c : Nat} {fs : List Int} {y : Int} {W W' : World} {v : Value} (h : RunV w pB C A c fs W) (ho : Kd.R (Kd.int .i64) 3 W' w.heap.size (fun _ => True) v (fs ++ [y])) (hb : Below w.heap.size w W') (hg : W.grownBy W' (Value.slice A fs.length c).ownBlock) : ∃ A' c', v = .slice A' (fs ++ [y]).length c' ∧ RunV w pB C A' c' (fs ++ [y]) W' := by
  obtain ⟨A', c', rfl⟩ := Kd.R_slice ho
  have hne : ∀ {b t : Nat} {cs : Array Value}, Whole W b t cs → t ≠ 3 → some b ≠ (Value.slice A fs.length c).ownBlock := by
    intro b t cs hw ht e
    obtain ⟨cs', hc⟩ := Kd.R_typed h.fib _ e.symm
    rw [show W.heap[b]? = _ from hw] at hc
    cases hc
    exact ht rfl
  exact ⟨A', c', rfl, ho, h.p.grown hg (hne h.p (by decide)), h.r.grown hg (hne h.r (by decide)), hb⟩
theorem RunV.at {w : World} {pB : Nat} {C : Array Value} {ad : Addr} {c : Nat} {fs : List Int} {W : World} (h : RunV w pB C (some ad) c fs W) (i : Nat) (hi : i < fs.length) : W.cell? (ad.add i) = some (.int .i64 (rd fs (i : Int))) := by
  obtain ⟨ad2, e, hc⟩ := Kd.at_int (Kd.R_reads' h.fib).2.2 (i : Int) (by omega) (by omega)
  cases e
  simpa using hc
theorem RunV.some {w : World} {pB : Nat} {C : Array Value} {A : Option Addr} {c : Nat} {fs : List Int} {W : World} (h : RunV w pB C A c fs W) (hl : 0 < fs.length) : ∃ ad, A = some ad := by
  obtain ⟨ad2, e, hc⟩ := Kd.at_int (Kd.R_reads' h.fib).2.2 (0 : Int) (by omega) (by omega)
  exact ⟨ad2, e⟩
theorem fibLit (w : World) (base : Nat) (hb : base ≤ w.heap.size) : Kd.R (Kd.int .i64) 3 (w.alloc (.cells #[.int .i64 1, .int .i64 2] 3)) base (fun _ => True) (.slice (some ⟨w.heap.size, 0, none⟩) 2 2) [1, 2] :=
  Kd.R_of_own (World.ownsRow_lit (base := base) w #[.int .i64 1, .int .i64 2] 2 hb (by simp [maxLen]) rfl) (fun _ _ => trivial)

/-- The numbers of Fibonacci that rung asks, what comes behind the first m + 2, and the sum that it makes. -/
def fibN : Nat → Int | 0 => 1 | 1 => 2 | 2 => 3 | _ => 5
def fibX : Nat → Int | 0 => 3 | 1 => 5 | _ => 8
def fibL (m : Nat) : List Int := [1, 2, 3, 5].take (m + 2)
def greedy : Nat → Int → Int → Int → Int × Int
  | 0, _, a, b => (a, b)
  | j + 1, k, a, b => if fibN j ≤ k then greedy j (k - fibN j) (wrap64 (a + (upW j).1)) (wrap64 (b + (upW j).2)) else greedy j k a b
structure RunO (w : World) (pB : Nat) (C : Array Value) (ad : Addr) (n o : Nat) (a b : Int) (W : World) : Prop where
  fib : ∀ j, j < n → W.cell? (ad.add j) = some (.int .i64 (fibN j))
  lt : pB < o ∧ w.heap.size < o ∧ ad.block < o
  p : Whole W pB 210 C
  r : Whole W w.heap.size 168 #[.int .i64 0, .int .i64 0]
  o : Whole W o 168 #[.int .i64 a, .int .i64 b]
  bel : Below w.heap.size w W
section
variable {w : World} {pB : Nat} {C : Array Value} {ad : Addr} {n o : Nat} {a b : Int} {W W' : World}
theorem add_block (p : Addr) (j : Nat) : (p.add j).block = p.block := by unfold Addr.add; split <;> rfl
theorem RunO.at (h : RunO w pB C ad n o a b W) (j : Nat) (hj : j < n) : W.cell? (ad.add j) = some (.int .i64 (fibN j)) := h.fib j hj
theorem RunO.below (h : RunO w pB C ad n o a b W) (hb : Below W.heap.size W W') : RunO w pB C ad n o a b W' :=
  ⟨fun j hj => (hb.cell (p := ad.add j) (by rw [add_block]; exact Nat.lt_trans h.lt.2.2 h.o.lt)).trans (h.fib j hj), h.lt, h.p.below hb h.p.lt, h.r.below hb h.r.lt, h.o.below hb h.o.lt, h.bel.trans (hb.mono h.bel.size)⟩
theorem RunO.put (h : RunO w pB C ad n o a b W) (a' b' : Int) : RunO w pB C ad n o a' b' (W.setRow o #[.int .i64 a', .int .i64 b']) := by
  have hb : Below o W (W.setRow o #[.int .i64 a', .int .i64 b']) := below_setRow (Below.mono (Below.refl _ _) (Nat.le_of_lt h.o.lt)) (Nat.le_refl _) _
  exact ⟨fun j hj => (hb.cell (p := ad.add j) (by rw [add_block]; exact h.lt.2.2)).trans (h.fib j hj), h.lt, h.p.below hb h.lt.1, h.r.below hb h.lt.2.1, setRow_heap _ _ _ _ _ _ h.o, below_setRow h.bel (Nat.le_of_lt h.lt.2.1) _⟩
theorem RunO.oCells (h : RunO w pB C ad n o a b W) : W.cell? ⟨o, 0, none⟩ = some (.int .i64 a) ∧ W.cell? ⟨o, 1, none⟩ = some (.int .i64 b) := ⟨by rw [h.o.cell]; rfl, by rw [h.o.cell]; rfl⟩
theorem RunO.drew (h : RunO w pB C ad n o a b W) : RunO w pB C ad n o a b W.drew := h.below (Below.refl _ _).drew
end
theorem turnV {w : World} {pB : Nat} {C : Array Value} {ad : Addr} {c m : Nat} {W : World} (h : RunV w pB C (some ad) c (fibL m) W) (hm : m ≤ 2) : RunO w pB C ad (m + 2) W.heap.size 0 0 (W.alloc (.cells #[.int .i64 0, .int .i64 0] 168)) := by
  have hl : (fibL m).length = m + 2 := by simp [fibL]; omega
  have hat : ∀ j, j < m + 2 → W.cell? (ad.add j) = some (.int .i64 (fibN j)) := fun j hj => by
    rw [h.at j (by omega)]
    have : rd (fibL m) (j : Int) = fibN j := by
      obtain rfl | rfl | rfl : m = 0 ∨ m = 1 ∨ m = 2 := by omega
      all_goals (obtain rfl | rfl | rfl | rfl : j = 0 ∨ j = 1 ∨ j = 2 ∨ j = 3 := by omega) <;> first | rfl | omega
    rw [this]
  have hb := below_alloc (Below.refl W.heap.size W) (.cells #[.int .i64 0, .int .i64 0] 168)
  exact ⟨fun j hj => (hb.cell (p := ad.add j) (block_lt_of_cell (hat j hj))).trans (hat j hj), ⟨h.p.lt, h.r.lt, block_lt_of_cell (hat 0 (by omega))⟩, h.p.alloc _, h.r.alloc _, Whole.new _ _ _, below_alloc h.bel _⟩

set_option maxRecDepth 100000 in
set_option maxHeartbeats 4000000 in
theorem rung_any (k0 : Int) (h0 : 0 ≤ k0) (h5 : k0 ≤ 5) (w : World) : Calls Try.prog 153 #[.int .i64 k0] w fun e w' => ∃ m, m ≤ 2 ∧ k0 < fibX m ∧ e = .returned (.agg #[.int .i64 (greedy (m + 2) k0 0 0).1, .int .i64 (greedy (m + 2) k0 0 0).2]) ∧ Below w.heap.size w w' := by
  have HZ := Lib.hid (fun W : World => Whole.new W 210 Try.zeroCells210)
  have HR0 := Lib.hid (Whole.new w 168 #[.int .i64 0, .int .i64 0])
  go_enter Try.func153, Try.ntmps153
  go_wp2_with (first
    | (go_at_call 173; refine (newPowers_any _).mono ?_; rintro e w1 ⟨C, rfl, hc1, hc2, hc3, hb⟩; have HG := Lib.hid (show GoodC C from ⟨hc1, hc2, hc3⟩); have HB1 := Lib.hid hb; clear hb hc1 hc2 hc3)
    | (refine wpList_store_row rfl 210 (.tmp 3) (.tmp 8) rfl w1.heap.size C rfl rfl 210 _ (HZ.out _) (by rw [info210, HG.out.1]) (by rw [HG.out.1]; exact zero210.1) HG.out.2.1 ?_))
  have hs1 : w.heap.size + 1 ≤ w1.heap.size := by have := HB1.out.size; simpa using this
  have hV0 : RunV w w1.heap.size C (some ⟨w1.heap.size + 1, 0, none⟩) 2 (fibL 0) (((w1.alloc (.cells Try.zeroCells210 210)).setRow w1.heap.size C).alloc (.cells #[.int .i64 1, .int .i64 2] 3)) := by
    have hsz : ((w1.alloc (.cells Try.zeroCells210 210)).setRow w1.heap.size C).heap.size = w1.heap.size + 1 := by rw [size_setRow, World.size_alloc]
    have hbw : Below w.heap.size w ((w1.alloc (.cells Try.zeroCells210 210)).setRow w1.heap.size C) := below_setRow (below_alloc ((below_alloc (Below.refl _ _) _).trans (HB1.out.mono (by simp))) _) (by omega) _
    have hf := fibLit ((w1.alloc (.cells Try.zeroCells210 210)).setRow w1.heap.size C) w.heap.size (by omega)
    rw [hsz] at hf
    refine ⟨hf, (show Whole _ _ _ _ from setRow_heap _ _ _ _ _ _ (HZ.out w1)).alloc _, ?_, below_alloc hbw _⟩
    have h1 := (HR0.out.below HB1.out (by simp)).alloc (.cells Try.zeroCells210 210)
    exact (show Whole ((w1.alloc (.cells Try.zeroCells210 210)).setRow w1.heap.size C) w.heap.size 168 #[.int .i64 0, .int .i64 0] from (setRow_other _ _ _ _ (by omega)).trans h1).alloc _
  have HV0 := Lib.hid hV0
  clear hV0 HR0 HB1
  generalize ((w1.alloc (Obj.cells Try.zeroCells210 210)).setRow w1.heap.size C).alloc (Obj.cells #[Value.int IntKind.i64 1, Value.int IntKind.i64 2] 3) = W0 at HV0 ⊢
  generalize w1.heap.size = pB at HV0 hs1 ⊢
  generalize (⟨pB + 1, 0, none⟩ : Addr) = ad0 at HV0 ⊢
  go_loopw [4, 5] (fun v1 nv wr => ∃ (m : Nat) (ad : Addr) (c : Nat), m ≤ 2 ∧ v1 = .slice (some ad) (m + 2) c ∧ nv = .int .i64 (fibX m) ∧ Hid (RunV w pB C (some ad) c (fibL m) wr)) (fun _ nv _ => 20 - (intOf nv).toNat)
  case atStart => exact ⟨0, _, _, by omega, rfl, rfl, HV0⟩
  case round =>
    obtain ⟨m, ad, c, hm, rfl, rfl, HV⟩ := hrel
    by_cases hlt : fibX m ≤ k0
    · obtain rfl | rfl : m = 0 ∨ m = 1 := by
        rcases Nat.lt_or_ge m 2 with h | h
        · omega
        · obtain rfl : m = 2 := by omega
          simp [fibX] at hlt
          omega
      · go_wp2_with ((with_reducible refine gate_builtin (b := .append) (xs := #[.tmp 26, .tmp 28]) rfl ?_); at_builtin; (refine Kd.R_append_rows (Kd.int .i64) (w0 := w) w.heap.size rfl (.tmp 26) (.tmp 28) 39 3 (.int .i64 0) 8 rfl Try.underlying39 info3 rfl (by decide) (by omega) (.slice (some ad) 2 c) [1, 2] [3] _ _ _ (fun _ => True) (fun _ => False) rfl rfl ?aO ?aR (fun _ _ h => h) (fun _ h => h.elim) ?aF ?aB ?aS ?aL ?_); ((case aR => exact lit_reads _ _); (case aB => exact below_alloc HV.out.bel _); (case aF => exact (fun _ _ => trivial)); (case aO => exact Kd.R_alloc HV.out.fib _); (case aS => exact below_size (below_alloc HV.out.bel _)); (case aL => simp); intro v3 w3 ho hb hg hat; obtain ⟨A3, c3, rfl, hv3⟩ : ∃ A' c', v3 = .slice A' 3 c' ∧ RunV w pB C A' c' (fibL 1) w3 := (HV.out.below (below_alloc (Below.refl _ _) (.cells #[.int .i64 3] 3))).append ho hb hg; obtain ⟨ad3, rfl⟩ := hv3.some (by simp [fibL]); have HV3 := Lib.hid hv3; have k1 : w3.cell? ⟨ad3.block, ad3.off + 1, none⟩ = some (.int .i64 2) := hv3.at 1 (by simp [fibL]); have k2 : w3.cell? ⟨ad3.block, ad3.off + 2, none⟩ = some (.int .i64 3) := hv3.at 2 (by simp [fibL]); clear ho hb hg hat hv3))
        have hw1 : IntKind.i64.wrap 1 = 1 := rfl
        have hw2 : IntKind.i64.wrap 2 = 2 := rfl
        have hw5 : IntKind.i64.wrap 5 = 5 := rfl
        go_quiet (fail)
        go_wp2
        exact ⟨⟨1, _, _, by omega, rfl, rfl, Lib.hid (HV3.out.below (pw_below_drewN (Below.refl _ _) nq))⟩, by simp [intOf, fibX]⟩
      · go_wp2_with ((with_reducible refine gate_builtin (b := .append) (xs := #[.tmp 26, .tmp 28]) rfl ?_); at_builtin; (refine Kd.R_append_rows (Kd.int .i64) (w0 := w) w.heap.size rfl (.tmp 26) (.tmp 28) 39 3 (.int .i64 0) 8 rfl Try.underlying39 info3 rfl (by decide) (by omega) (.slice (some ad) 3 c) [1, 2, 3] [5] _ _ _ (fun _ => True) (fun _ => False) rfl rfl ?aO ?aR (fun _ _ h => h) (fun _ h => h.elim) ?aF ?aB ?aS ?aL ?_); ((case aR => exact lit_reads _ _); (case aB => exact below_alloc HV.out.bel _); (case aF => exact (fun _ _ => trivial)); (case aO => exact Kd.R_alloc HV.out.fib _); (case aS => exact below_size (below_alloc HV.out.bel _)); (case aL => simp); intro v3 w3 ho hb hg hat; obtain ⟨A3, c3, rfl, hv3⟩ : ∃ A' c', v3 = .slice A' 4 c' ∧ RunV w pB C A' c' (fibL 2) w3 := (HV.out.below (below_alloc (Below.refl _ _) (.cells #[.int .i64 5] 3))).append ho hb hg; obtain ⟨ad3, rfl⟩ := hv3.some (by simp [fibL]); have HV3 := Lib.hid hv3; have k1 : w3.cell? ⟨ad3.block, ad3.off + 2, none⟩ = some (.int .i64 3) := hv3.at 2 (by simp [fibL]); have k2 : w3.cell? ⟨ad3.block, ad3.off + 3, none⟩ = some (.int .i64 5) := hv3.at 3 (by simp [fibL]); clear ho hb hg hat hv3))
        have hw1 : IntKind.i64.wrap 2 = 2 := rfl
        have hw2 : IntKind.i64.wrap 3 = 3 := rfl
        have hw5 : IntKind.i64.wrap 8 = 8 := rfl
        go_quiet (fail)
        go_wp2
        exact ⟨⟨2, _, _, by omega, rfl, rfl, Lib.hid (HV3.out.below (pw_below_drewN (Below.refl _ _) nq))⟩, by simp [intOf, fibX]⟩
    · have hmX : k0 < fibX m := by omega
      have HX := Lib.hid hmX
      clear hmX
      go_wp2
      have HT := Lib.hid (turnV HV.out hm)
      clear HV HZ
      generalize wr.heap.size = o at HT ⊢
      generalize wr.alloc (Obj.cells #[.int .i64 0, .int .i64 0] 168) = W1 at HT ⊢
      clear hlt
      go_loopw [0, 7] (fun kv iv wr => ∃ (j : Nat) (k ga gb : Int), j ≤ m + 2 ∧ (0 ≤ k ∧ k ≤ 5) ∧ kv = .int .i64 k ∧ iv = .int .i64 ((j : Int) - 1) ∧ Hid (RunO w pB C ad (m + 2) o ga gb wr) ∧ Hid (greedy j k ga gb = greedy (m + 2) k0 0 0)) (fun _ iv _ => (intOf iv + 1).toNat)
      case atStart => exact ⟨m + 2, k0, 0, 0, by omega, ⟨h0, h5⟩, rfl, by go_num, HT, Lib.hid rfl⟩
      case round =>
        obtain ⟨j1, k, ga, gb, hj, hk05, rfl, rfl, HV, HGR⟩ := hrel
        rcases j1 with _ | j
        · obtain ⟨o0, o1⟩ := HV.out.oCells
          go_wp2_with (refine wpList_store_row rfl 168 (.tmp 2) (.tmp 53) rfl w.heap.size #[.int .i64 ga, .int .i64 gb] rfl rfl 168 _ HV.out.r (by kernel_rfl) rfl (by simp [Value.oneCell']) ?_)

          refine bodyPost_ret (v := .agg #[.int .i64 ga, .int .i64 gb]) (results_cell_row (by rfl) _ _ w.heap.size 168 #[.int .i64 ga, .int .i64 gb] (0, 0) _ (by rfl) (setRow_heap _ _ _ _ _ _ HV.out.r) Try.underlying168 rfl (by kernel_rfl)) rfl ⟨m, hm, HX.out, ?_, below_setRow HV.out.bel (Nat.le_refl _) _⟩
          have := HGR.out
          rw [greedy] at this
          rw [← this]
        · obtain hcell := HV.out.at j (by omega)
          have hfn : 0 < fibN j := by rcases j with _ | _ | _ | j <;> simp [fibN]
          by_cases hle : fibN j ≤ k
          · obtain ⟨o0, o1⟩ := HV.out.oCells
            go_wp2
            refine wp_region_any (by kernel_rfl) ?_
            change wpAny _ _ _ _ _ _ _ (World.drew _)
            have HVD := Lib.hid (HV.out.drew)
            refine takeP (i := 1) (v := ?vc1) (a' := ?bc1) rfl (by kernel_rfl) (by kernel_rfl) (by kernel_rfl) (fun _ _ _ h => h) (Or.inl ⟨by rfl, ?hyc1⟩) ?hac1 ?_
            case hyc1 => (intro w; go_simp; try first | with_reducible rfl | omega)
            case hac1 => (go_simp; try with_reducible rfl)
            refine wpAny_ready (rs := [0, 2]) (by kernel_rfl) (by simp) ?_
            refine AllReady.cons rfl (fun K hK => ?_) ?_
            · go_simp
              refine hK _ _ ?_
              clear hK K
              refine wpAny_ready (rs := [2]) (by kernel_rfl) (by simp) ?_
              refine AllReady.cons rfl (fun K hK => ?_) AllReady.nil
              go_simp
              go_at_call 174
              refine (of_any pB C j (by omega) _ HVD.out.p HG.out).mono ?_
              rintro e w2 ⟨rfl, hb2⟩
              have HV2 := Lib.hid (HVD.out.below hb2)
              clear o0 o1 hb2
              obtain ⟨o0, o1⟩ := HV2.out.oCells
              go_simp
              refine hK _ _ ?_
              clear hK K
              refine wpAny_ready (rs := [3]) (by kernel_rfl) (by simp) ?_
              refine AllReady.cons rfl (fun K hK => ?_) AllReady.nil
              go_simp
              go_at_call 134
              refine (gauge_plus.calls ga gb (upW j).1 (upW j).2 _ _ _ rfl).mono ?_
              rintro e w3 ⟨rfl, hb3⟩
              have HV3 := Lib.hid (HV2.out.below hb3)
              clear o0 o1 hb3
              obtain ⟨o0, o1⟩ := HV3.out.oCells
              go_simp
              refine hK _ _ ?_
              clear hK K
              refine wpAny_ready (rs := [4]) (by kernel_rfl) (by simp) ?_
              refine AllReady.cons rfl (fun K hK => ?_) AllReady.nil
              refine wp_store_row 168 (.tmp 6) (.tmp 52) rfl o _ rfl rfl 168 _ HV3.out.o (by kernel_rfl) rfl (by simp [Value.oneCell']) ?_
              have HV4 := Lib.hid (HV3.out.put (wrap64 (ga + (upW j).1)) (wrap64 (gb + (upW j).2)))
              clear o0 o1
              refine hK _ _ ?_
              clear hK K
              refine wpAny_done (by kernel_rfl) ?_ _
              go_wp2
              exact ⟨⟨j, k - fibN j, _, _, by omega, by omega, by first | rfl | (rw [wrap64_in _ (by omega)]), by go_num, HV4, Lib.hid (by have := HGR.out; rw [greedy, if_pos hle] at this; exact this)⟩, by simp [intOf]⟩
            refine AllReady.cons rfl (fun K hK => ?_) AllReady.nil
            go_simp
            go_at_call 174
            refine (of_any pB C j (by omega) _ HVD.out.p HG.out).mono ?_
            rintro e w2 ⟨rfl, hb2⟩
            have HV2 := Lib.hid (HVD.out.below hb2)
            clear o0 o1 hb2
            obtain ⟨o0, o1⟩ := HV2.out.oCells
            go_simp
            refine hK _ _ ?_
            clear hK K
            refine wpAny_ready (rs := [0]) (by kernel_rfl) (by simp) ?_
            refine AllReady.cons rfl (fun K hK => ?_) AllReady.nil
            go_simp
            refine hK _ _ ?_
            clear hK K
            refine wpAny_ready (rs := [3]) (by kernel_rfl) (by simp) ?_
            refine AllReady.cons rfl (fun K hK => ?_) AllReady.nil
            go_simp
            go_at_call 134
            refine (gauge_plus.calls ga gb (upW j).1 (upW j).2 _ _ _ rfl).mono ?_
            rintro e w3 ⟨rfl, hb3⟩
            have HV3 := Lib.hid (HV2.out.below hb3)
            clear o0 o1 hb3
            obtain ⟨o0, o1⟩ := HV3.out.oCells
            go_simp
            refine hK _ _ ?_
            clear hK K
            refine wpAny_ready (rs := [4]) (by kernel_rfl) (by simp) ?_
            refine AllReady.cons rfl (fun K hK => ?_) AllReady.nil
            refine wp_store_row 168 (.tmp 6) (.tmp 52) rfl o _ rfl rfl 168 _ HV3.out.o (by kernel_rfl) rfl (by simp [Value.oneCell']) ?_
            have HV4 := Lib.hid (HV3.out.put (wrap64 (ga + (upW j).1)) (wrap64 (gb + (upW j).2)))
            clear o0 o1
            refine hK _ _ ?_
            clear hK K
            refine wpAny_done (by kernel_rfl) ?_ _
            go_wp2
            exact ⟨⟨j, k - fibN j, _, _, by omega, by omega, by first | rfl | (rw [wrap64_in _ (by omega)]), by go_num, HV4, Lib.hid (by have := HGR.out; rw [greedy, if_pos hle] at this; exact this)⟩, by simp [intOf]⟩
          · go_wp2
            exact ⟨⟨j, k, _, _, by omega, hk05, rfl, by go_num, HV, Lib.hid (by have := HGR.out; rw [greedy, if_neg hle] at this; exact this)⟩, by simp [intOf]⟩
/-- The values of the ladder that Gaps asks. -/
def rungW (k : Nat) : Int × Int := greedy 4 (k : Int) 0 0
theorem rungs_is : rungW 0 = (0, 0) ∧ rungW 1 = (1, 0) ∧ rungW 2 = (0, 1) ∧ rungW 3 = (1, 1) ∧ rungW 4 = (2, 1) ∧ rungW 5 = (1, 2) := by refine ⟨?_, ?_, ?_, ?_, ?_, ?_⟩ <;> kernel_rfl
theorem rung_val (k : Nat) (hk : k ≤ 5) (w : World) : Calls Try.prog 153 #[.int .i64 (k : Int)] w fun e w' => e = .returned (.agg #[.int .i64 (rungW k).1, .int .i64 (rungW k).2]) ∧ Below w.heap.size w w' := by
  refine (rung_any (k : Int) (by omega) (by omega) w).mono ?_
  rintro e w' ⟨m, hm, hx, rfl, hb⟩
  refine ⟨?_, hb⟩
  have : greedy (m + 2) (k : Int) 0 0 = rungW k := by
    obtain rfl | rfl | rfl : m = 0 ∨ m = 1 ∨ m = 2 := by omega
    · simp only [fibX] at hx
      obtain rfl | rfl | rfl : k = 0 ∨ k = 1 ∨ k = 2 := by omega
      all_goals kernel_rfl
    · simp only [fibX] at hx
      obtain rfl | rfl | rfl | rfl | rfl : k = 0 ∨ k = 1 ∨ k = 2 ∨ k = 3 ∨ k = 4 := by omega
      all_goals kernel_rfl
    · rfl
  rw [this]
end Go.Proofs.Ytkefmlhkejoknaa.L
