/- tread.(machine).longest and tread.Longest at the set aa, ab, bb. -/
import Derived.Test.YtkefmlhkejoknaaXMach
import Derived.Test.YtkefmlhkejoknaaXVisit
import Derived.Sort.QuietIn
import Derived.LoopNIn
namespace Go.Proofs.Ytkefmlhkejoknaa.L
set_option linter.unusedVariables false
set_option linter.unusedSimpArgs false
open Go.RowKit Go.Shelf Go.Maps Go.Proofs.YtkefmlhkejoknaaW.PrintWords Go.Proofs.YtkefmlhkejoknaaW.PrintLast Go.Proofs.YtkefmlhkejoknaaW.PrintMore
attribute [local go_sem] max2_int min2_int max_two min_two Oper.semAt_some

theorem vis_row {p : VisP} {n base : Nat} {D : DataW Unit} {v : Value} {xs : List Int} {W W' : World} (hE : VisE p W) (hV : VisM p n D W) (hR : RowIs W base v xs) (hb : p.B ≤ base) (hg : W.grownBy W' v.ownBlock) : VisE p W' ∧ VisM p n D W' := by
  have hne : ∀ {k t : Nat} {cs : Array Value}, W.heap[k]? = some (.cells cs t (0, 0)) → 3 ≠ t → ∀ r, v.ownBlock = some r → r ≠ k := by
    intro k t cs h ht r hr e
    subst e
    obtain ⟨cs', hc⟩ := hR.typed hr
    rw [h] at hc; cases hc; exact ht rfl
  refine ⟨hE.kept hg (fun r e => ⟨Nat.le_trans hb (hR.block e).1, hne hE.k (by decide) r e, hne hE.x (by decide) r e, hne hE.v (by decide) r e⟩), hV.kept hg (fun e => ?_)⟩
  obtain ⟨es, ck, hm, _⟩ := hV
  obtain ⟨cs', hc⟩ := hR.typed e.symm
  rw [hm] at hc; cases hc
set_option maxRecDepth 100000 in
set_option maxHeartbeats 4000000 in
theorem longest_any (D : MacD) (w : World) (hM : MacR w.heap.size D w) :
    Calls Try.prog 137 #[.pointer (some ⟨D.mB, 0, none⟩)] w fun e w' => ∃ v, e = .returned v ∧ RowIs w' w.heap.size v lenL ∧ Below w.heap.size w w' := by
  have hmm := @run_makeMap Try.prog
  have HM := Lib.hid hM
  have m1 := hM.m.cell 1
  simp only [List.getElem?_toArray, List.getElem?_cons_zero, List.getElem?_cons_succ] at m1
  have hml := hM.lt.1
  have A1 := (Whole.new w 174 #[.pointer (some ⟨D.mB, 0, none⟩)])
  have A3 := (Whole.new ((w.alloc (.cells #[.pointer (some ⟨D.mB, 0, none⟩)] 174)).alloc (.map #[] 0)) 195 #[.map (some (w.heap.size + 1))])
  have A4 := (Whole.new (((w.alloc (.cells #[.pointer (some ⟨D.mB, 0, none⟩)] 174)).alloc (.map #[] 0)).alloc (.cells #[.map (some (w.heap.size + 1))] 195)) 196 #[.func (.func 157) #[] #[.pointer (some ⟨w.heap.size + 1 + 1, 0, none⟩), .pointer (some ⟨w.heap.size, 0, none⟩), .pointer (some ⟨w.heap.size + 1 + 1 + 1, 0, none⟩)]])
  have hmp := (World.ownsMap_made (w.alloc (.cells #[.pointer (some ⟨D.mB, 0, none⟩)] 174)) Try.prog 3 (plainElem (H := Unit) Try.prog 3))
  simp only [World.size_alloc] at A3 A4 hmp
  have B1 := ((A1.alloc (.map #[] 0)).alloc (.cells #[.map (some (w.heap.size + 1))] 195)).alloc (.cells #[.func (.func 157) #[] #[.pointer (some ⟨w.heap.size + 1 + 1, 0, none⟩), .pointer (some ⟨w.heap.size, 0, none⟩), .pointer (some ⟨w.heap.size + 1 + 1 + 1, 0, none⟩)]] 196)
  have B3 := A3.alloc (.cells #[.func (.func 157) #[] #[.pointer (some ⟨w.heap.size + 1 + 1, 0, none⟩), .pointer (some ⟨w.heap.size, 0, none⟩), .pointer (some ⟨w.heap.size + 1 + 1 + 1, 0, none⟩)]] 196)
  have hO := (hmp.alloc (.cells #[.map (some (w.heap.size + 1))] 195)).alloc (.cells #[.func (.func 157) #[] #[.pointer (some ⟨w.heap.size + 1 + 1, 0, none⟩), .pointer (some ⟨w.heap.size, 0, none⟩), .pointer (some ⟨w.heap.size + 1 + 1 + 1, 0, none⟩)]] 196)
  have hB := below_alloc (below_alloc (below_alloc (below_alloc (Below.refl w.heap.size w) (.cells #[.pointer (some ⟨D.mB, 0, none⟩)] 174)) (.map #[] 0)) (.cells #[.map (some (w.heap.size + 1))] 195)) (.cells #[.func (.func 157) #[] #[.pointer (some ⟨w.heap.size + 1 + 1, 0, none⟩), .pointer (some ⟨w.heap.size, 0, none⟩), .pointer (some ⟨w.heap.size + 1 + 1 + 1, 0, none⟩)]] 196)
  have m5 := (hM.m.below hB hml).cell 1
  simp only [List.getElem?_toArray, List.getElem?_cons_zero, List.getElem?_cons_succ] at m5
  have hz : ((((w.alloc (.cells #[.pointer (some ⟨D.mB, 0, none⟩)] 174)).alloc (.map #[] 0)).alloc (.cells #[.map (some (w.heap.size + 1))] 195)).alloc (.cells #[.func (.func 157) #[] #[.pointer (some ⟨w.heap.size + 1 + 1, 0, none⟩), .pointer (some ⟨w.heap.size, 0, none⟩), .pointer (some ⟨w.heap.size + 1 + 1 + 1, 0, none⟩)]] 196)).heap.size = w.heap.size + 1 + 1 + 1 + 1 := by simp only [World.size_alloc]
  obtain ⟨p, hp⟩ : ∃ p : VisP, p = ⟨w.heap.size, D, w.heap.size + 1, w.heap.size + 1 + 1, w.heap.size, w.heap.size + 1 + 1 + 1⟩ := ⟨_, rfl⟩
  have hE : VisE p ((((w.alloc (.cells #[.pointer (some ⟨D.mB, 0, none⟩)] 174)).alloc (.map #[] 0)).alloc (.cells #[.map (some (w.heap.size + 1))] 195)).alloc (.cells #[.func (.func 157) #[] #[.pointer (some ⟨w.heap.size + 1 + 1, 0, none⟩), .pointer (some ⟨w.heap.size, 0, none⟩), .pointer (some ⟨w.heap.size + 1 + 1 + 1, 0, none⟩)]] 196)) := by
    subst hp
    refine ⟨hM.kept hB, B3, B1, A4, ?_⟩
    dsimp only
    omega
  have hV : VisM p (nN 0) (dN 0) ((((w.alloc (.cells #[.pointer (some ⟨D.mB, 0, none⟩)] 174)).alloc (.map #[] 0)).alloc (.cells #[.map (some (w.heap.size + 1))] 195)).alloc (.cells #[.func (.func 157) #[] #[.pointer (some ⟨w.heap.size + 1 + 1, 0, none⟩), .pointer (some ⟨w.heap.size, 0, none⟩), .pointer (some ⟨w.heap.size + 1 + 1 + 1, 0, none⟩)]] 196)) := by
    subst hp
    exact hO
  have HE := Lib.hid hE
  have HV := Lib.hid hV
  have HB := Lib.hid hB
  clear hM A1 A3 A4 hmp B1 B3 hO hB hE hV m1
  go_enter Try.func137, Try.ntmps137
  go_wp2
  generalize ((((w.alloc (.cells #[.pointer (some ⟨D.mB, 0, none⟩)] 174)).alloc (.map #[] 0)).alloc (.cells #[.map (some (w.heap.size + 1))] 195)).alloc (.cells #[.func (.func 157) #[] #[.pointer (some ⟨w.heap.size + 1 + 1, 0, none⟩), .pointer (some ⟨w.heap.size, 0, none⟩), .pointer (some ⟨w.heap.size + 1 + 1 + 1, 0, none⟩)]] 196)) = W0 at HE HV HB hz ⊢
  have HP := Lib.hid hp
  go_loopw [5, 14] (fun v' iv wr => ∃ (i : Nat) (v : Value), i ≤ 4 ∧ v = v' ∧ iv = .int .i64 (i : Int) ∧ Hid (RowIs wr w.heap.size v (lenL.take i)) ∧ Hid (VisE p wr) ∧ Hid (VisM p (nN i) (dN i) wr) ∧ Hid (Below w.heap.size w wr)) (fun v iv _ => 4 - (intOf iv).toNat)
  case atStart => exact ⟨0, _, by omega, rfl, rfl, Lib.hid (RowIs.nil _ _), HE, HV, HB⟩
  case round =>
    obtain ⟨i, v, hi, rfl, rfl, HR, HEw, HVw, HBw⟩ := hrel
    by_cases hlt : i < 4
    · have hltI : (i : Int) < 4 := by omega
      have hpv := HP.out
      have v0 := HEw.out.v.cell 0
      simp only [List.getElem?_toArray, List.getElem?_cons_zero, List.getElem?_cons_succ] at v0
      rw [show p.vB = w.heap.size + 1 + 1 + 1 by rw [hpv], show p.kB = w.heap.size + 1 + 1 by rw [hpv], show p.xB = w.heap.size by rw [hpv]] at v0
      have hcall := visit_all p i hlt wr HEw.out HVw.out
      rw [show p.vB = w.heap.size + 1 + 1 + 1 by rw [hpv], show p.kB = w.heap.size + 1 + 1 by rw [hpv], show p.xB = w.heap.size by rw [hpv]] at hcall
      have HCALL := Lib.hid hcall
      have hlen : (lenL.take i).length = i := by simp [lenL]; omega
      have HL := Lib.hid hlen
      have hgd : ∀ y, lenL.getD i 0 = y → lenL.take i ++ [y] = lenL.take (i + 1) := by
        intro y hy
        subst hy
        obtain rfl | rfl | rfl | rfl : i = 0 ∨ i = 1 ∨ i = 2 ∨ i = 3 := by omega
        all_goals rfl
      generalize hy : lenL.getD i 0 = y at HCALL
      have HY := Lib.hid (hgd y hy)
      have w1 : wrap64 ((i : Int) + 1) = ((i + 1 : Nat) : Int) := by unfold wrap64; omega
      clear hcall hgd hy hlen hpv
      have htk : w.heap.size ≤ p.tK := by rw [HP.out]; exact Nat.le_succ _
      have hpB : p.B ≤ w.heap.size := by rw [HP.out]; exact Nat.le_refl _
      go_wp2_with (first
        | (go_at_call 157; refine HCALL.out.mono ?_; rintro e X ⟨rfl, hg, ho⟩; have HRX := Lib.hid (HR.out.own hg (fun r e => by cases e; obtain ⟨es, ck, hb, _⟩ := HVw.out; exact ⟨_, hb, rfl⟩)); have HEX := Lib.hid (HEw.out.turned hg); have HVX := Lib.hid ho; have HBX := Lib.hid (HBw.out.grown hg HBw.out.size (fun k e => by cases e; exact htk)); clear hg ho)
        | ((with_reducible refine gate_builtin (b := .append) (xs := #[.tmp 17, .tmp 21]) rfl ?_); at_builtin; (refine wpList_append1 _ rfl (.tmp 17) (.tmp 21) 39 rfl w.heap.size 3 (.int .i64 0) 8 Try.underlying39 info3 rfl (by decide) v (lenL.take i).length _ rfl (HRX.out.alloc _) _ _ (.int .i64 y) rfl (newCellQ _ _ 3 (.int .i64 y) (by simp)) rfl (by rw [HL.out]; omega) (below_alloc HBX.out (.cells #[.int .i64 y] 3)).size ?_); intro v5 w5 ho5 hg5; have HR5 := Lib.hid (RowIs.snoc ho5); have HEV := Lib.hid (vis_row (HEX.out.alloc _) (HVX.out.alloc _) (HRX.out.alloc _) hpB hg5); have HB5 := Lib.hid ((below_alloc HBX.out (.cells #[.int .i64 y] 3)).grown hg5 (below_alloc HBX.out (.cells #[.int .i64 y] 3)).size (fun k e => ((HRX.out.alloc (.cells #[.int .i64 y] 3)).block e).1)); clear ho5 hg5))
      exact ⟨⟨i + 1, v5, by omega, rfl, by go_num, Lib.hid (by rw [← HY.out]; exact HR5.out), Lib.hid HEV.out.1, Lib.hid HEV.out.2, HB5⟩, by simp [intOf]; omega⟩
    · obtain rfl : i = 4 := by omega
      go_wp2
      go_ret
      exact ⟨_, rfl, HR.out, HBw.out⟩

/- A region that draws its order, within a round: the quiet walk serves every order. -/
section
variable {F : Fence} {n : Nat} {P : Program} {ops : Array Oper} {md : Region.Mode} {C : World → Prop}
theorem wpIn_of_quietR {o : Oper} {a : Act} {K : Act → Prop} {K' : Act → World → Prop} {Q' : Exit → Act → World → Prop} {w : World} (hnd : ∀ c, o.op ≠ .defer c) (hw : C w) (h : ∀ a w', C w' → K a → K' a w')
    (ha : o.askedIn F P a C) (hh : o.quietIn F n P a C K) : o.wpIn F n P a w K' Q' := by
  obtain ⟨v, h1, h2⟩ := hh
  have h3 := h1 w hw
  unfold Oper.quietAtIn at h3
  unfold Oper.wpIn
  refine ⟨ha w hw, ?_⟩
  rw [Oper.semAt_eq F.round _ _ hnd]
  generalize (execOp a.eval o).run P w = r at *
  cases r with
  | ok x w' =>
    cases x <;> simp only [Oper.quietUponIn] at h3 <;> simp only [Oper.uponIn]
    case value u =>
      obtain ⟨e1, e2⟩ := h3
      rw [e1, e2]
      exact h _ _ hw h2
    case skip =>
      obtain ⟨e1, e2⟩ := h3
      rw [e1, ← e2]
      exact h _ _ hw h2
    case enter f args =>
      obtain ⟨e1, hd, hc⟩ := h3
      rw [e1]
      exact ⟨hd, hc.mono fun e w'' ⟨he, hw''⟩ => by subst he; exact h _ _ hw'' h2⟩
  | halt x w' => simp only [Oper.quietUponIn] at h3
theorem wpOpIn_of_qOpInR {i : Nat} {a : Act} {K : Act → Prop} {K' : Act → World → Prop} {Q' : Exit → Act → World → Prop} {w : World} (hnd : ∀ o, ops[i]? = some o → ∀ c, o.op ≠ .defer c) (hC : C w) (h : ∀ a w', C w' → K a → K' a w')
    (hh : qOpIn F n P ops C i K a) : wpOpIn F n P ops Q' i K' a w := by
  unfold qOpIn at hh
  unfold wpOpIn
  split
  · rename_i ho; simp only [ho] at hh; exact h _ _ hC hh
  · rename_i o ho
    simp only [ho] at hh
    obtain ⟨ha, hh⟩ := hh
    split
    · rename_i hw; simp only [hw, if_true] at hh; exact wpIn_of_quietR (hnd o ho) hC h ha hh
    · rename_i hw; simp only [hw] at hh; exact ⟨ha w hC, h _ _ hC hh⟩
theorem wpAnyIn_of_quietR {Q : Act → Prop} {Q' : Exit → Act → World → Prop} (hnd : ∀ (i : Nat) o, ops[i]? = some o → ∀ c, o.op ≠ .defer c) (hQ : ∀ a w, C w → Q a → Q' .normal a w) : ∀ (fuel : Nat) (listed : Array Bool) (a : Act) (w : World), C w →
    wpAnyQIn F n P md ops C Q fuel listed a → wpAnyIn F n P md ops Q' fuel listed a w
  | 0, _, _, _, hw, h => ⟨h.1, hQ _ _ hw h.2⟩
  | fuel + 1, _, _, _, hw, h => ⟨fun h0 => hQ _ _ hw (h.1 h0), fun i hi => wpOpIn_of_qOpInR (hnd i) hw (fun a' w' hw' => wpAnyIn_of_quietR hnd hQ fuel _ a' w' hw') (h.2 i hi)⟩
def noDefer (l : List Oper) : Bool := l.all fun o => match o.op with | .defer _ => false | _ => true
theorem wpIn_region_quietR {id : Nat} {Q : Exit → Act → World → Prop} {a : Act} {w : World} {l : List Oper} (hm : P.follows .mixedOrders = true) (hB : Region.lexB .any l.toArray = true) (hd : noDefer l = true)
    (h : wpQuietIn F n P l.toArray (fun w' => ∃ n, w' = w.drewN n) (fun a' => ∀ w', (∃ n, w' = w.drewN n) → Q .normal a' w') l a) : (Code.region id l.toArray true).wpIn F n P Q a w := by
  simp only [Region.lexB, Bool.and_eq_true] at hB
  have hnd : ∀ (i : Nat) o, l.toArray[i]? = some o → ∀ c, o.op ≠ .defer c := by
    intro i o ho c hc
    have hmem : o ∈ l := by
      rw [List.getElem?_toArray] at ho
      exact List.mem_of_getElem? ho
    have := List.all_eq_true.1 hd o hmem
    rw [hc] at this
    cases this
  refine wpIn_region_any hm (wpAnyIn_of_quietR (C := fun w' => ∃ n, w' = w.drewN n) (Q := fun a' => ∀ w', (∃ n, w' = w.drewN n) → Q .normal a' w') hnd (fun _ w' hw' h => h w' hw') _ _ _ _ ⟨1, rfl⟩ ?_)
  have := wpAnyQIn_lex (F := F) (n := n) (C := fun w' => ∃ n, w' = w.drewN n) (md := .any) hB.1 l 0 (Array.replicate l.toArray.size false) a (by simp) (by simpa using hB.2) h
  simpa using this
end
/-- What newMachine lays, to be read. -/
theorem MacV.reads {w : World} {S : MacS} {W : World} (h : MacV w S W) (hss : S.ss = allS) (hps : S.ps.map Prod.snd = allR) : ∃ D : MacD, D.mB = S.mB ∧ MacR W.heap.size D W := by
  obtain ⟨sB, sc, hv1, _⟩ := h.form (by rw [hss]; simp [allS])
  have hl1 : S.ss.length = 4 := by rw [hss]; rfl
  rw [hl1] at hv1
  obtain ⟨q0, q1, q2, q3, hq⟩ : ∃ q0 q1 q2 q3 : ACyc, S.ps = [q0, q1, q2, q3] := by
    have := congrArg List.length hps
    rw [List.length_map] at this
    match hp : S.ps, this with
    | [q0, q1, q2, q3], _ => exact ⟨q0, q1, q2, q3, rfl⟩
  obtain ⟨hn1, hn2, _⟩ := h.nx
  rw [hq] at hn1 hn2 hps
  have e0 : q0.2 = [1, 2] := by injection hps
  have e1 : q1.2 = [-1, -1] := by injection hps with _ h; injection h
  have e2 : q2.2 = [3, -1] := by injection hps with _ h; injection h with _ h; injection h
  have e3 : q3.2 = [-1, -1] := by injection hps with _ h; injection h with _ h; injection h with _ h; injection h
  obtain ⟨nB, nc, hv2, hcell⟩ : ∃ nB nc, S.v2 = .slice (some ⟨nB, 0, none⟩) 4 nc ∧ ∀ (j : Nat) u, [q0.1, q1.1, q2.1, q3.1][j]? = some u → W.cell? ⟨nB, j, none⟩ = some u := by
    rcases hn1.2 with ⟨_, h3⟩ | ⟨g, cap, cur, hv, _⟩
    · simp at h3
    · refine ⟨g, cap, hv, fun j u hj => ?_⟩
      have := hn1.cells (g := g) (by rw [hv]; rfl) j u hj
      rwa [add_plain] at this
  have hlt2 : nB < W.heap.size := block_lt_of_cell (hcell 0 q0.1 rfl)
  have f : ∀ q ∈ [q0, q1, q2, q3], q.2.length = 2 → ∃ g c, q.1 = .slice (some ⟨g, 0, none⟩) 2 c ∧ g < W.heap.size ∧ ∀ k : Nat, k < 2 → W.cell? ⟨g, k, none⟩ = some (.int .i64 (q.2.getD k 0)) := by
    intro q hq hl
    obtain ⟨g, c, hv, _, _, hlt, _, hc⟩ := CyC.form (RowIs.toC (x := q) (hn2 q hq)) (by intro e; rw [e] at hl; cases hl)
    rw [hl] at hv
    exact ⟨g, c, hv, hlt, fun k hk => by rw [hc k (by omega)]; simp [rd, List.getD_eq_getElem?_getD]⟩
  obtain ⟨g0, c0, v0, l0, k0⟩ := f q0 (by simp) (by rw [e0]; rfl)
  obtain ⟨g1, c1, v1, l1, k1⟩ := f q1 (by simp) (by rw [e1]; rfl)
  obtain ⟨g2, c2, v2, l2, k2⟩ := f q2 (by simp) (by rw [e2]; rfl)
  obtain ⟨g3, c3, v3, l3, k3⟩ := f q3 (by simp) (by rw [e3]; rfl)
  rw [e0] at k0
  rw [e1] at k1
  rw [e2] at k2
  rw [e3] at k3
  have hm := h.m
  rw [hv1, hv2] at hm
  refine ⟨⟨S.mB, sB, sc, nB, nc, fun i => [g0, g1, g2, g3].getD i 0, fun i => [c0, c1, c2, c3].getD i 0⟩, rfl, hm, fun i hi => ?_, fun i k hi hk => ?_, hm.lt, hlt2, fun i hi => ?_⟩
  · obtain rfl | rfl | rfl | rfl : i = 0 ∨ i = 1 ∨ i = 2 ∨ i = 3 := by omega
    · exact (hcell 0 _ rfl).trans (by rw [v0]; rfl)
    · exact (hcell 1 _ rfl).trans (by rw [v1]; rfl)
    · exact (hcell 2 _ rfl).trans (by rw [v2]; rfl)
    · exact (hcell 3 _ rfl).trans (by rw [v3]; rfl)
  · obtain rfl | rfl | rfl | rfl : i = 0 ∨ i = 1 ∨ i = 2 ∨ i = 3 := by omega
    · exact k0 k hk
    · exact k1 k hk
    · exact k2 k hk
    · exact k3 k hk
  · obtain rfl | rfl | rfl | rfl : i = 0 ∨ i = 1 ∨ i = 2 ∨ i = 3 := by omega
    · exact l0
    · exact l1
    · exact l2
    · exact l3

/-- What Longest's loop has in memory: all of it below N. -/
structure LonS (w : World) (B N : Nat) (D : MacD) (gl cl lB oB iB : Nat) (s : ByteArray) (i : Int) (W : World) : Prop where
  m : MacR B D W
  l : Whole W lB 39 #[.slice (some ⟨gl, 0, none⟩) 4 cl]
  c : ∀ j, j < 4 → W.cell? ⟨gl, j, none⟩ = some (.int .i64 (lenL.getD j 0))
  o : Whole W oB 9 #[.string s]
  i : Whole W iB 3 #[.int .i64 i]
  bel : Below w.heap.size w W
  lt : gl < lB ∧ lB < oB ∧ oB < iB ∧ iB < N ∧ B ≤ gl ∧ w.heap.size ≤ B
  sz : N ≤ W.heap.size
section
variable {w : World} {B N : Nat} {D : MacD} {gl cl lB oB iB : Nat} {s : ByteArray} {i : Int} {W W' : World}
theorem LonS.kept (h : LonS w B N D gl cl lB oB iB s i W) (hb : Below N W W') : LonS w B N D gl cl lB oB iB s i W' :=
  have hl := h.lt
  ⟨h.m.kept (hb.mono (by omega)), h.l.below hb (by omega), fun j hj => (hb.cell (p := ⟨gl, j, none⟩) (by show gl < N; omega)).trans (h.c j hj), h.o.below hb (by omega), h.i.below hb (by omega), h.bel.trans (hb.mono (by omega)), h.lt, Nat.le_trans h.sz hb.size⟩
theorem LonS.grown (h : LonS w B N D gl cl lB oB iB s i W) {row : Option Nat} (hg : W.grownBy W' row) (hr : ∀ r, row = some r → N ≤ r) : LonS w B N D gl cl lB oB iB s i W' :=
  h.kept ⟨hg.os, hg.tape, hg.output, hg.size, fun k hk => hg.block k (Nat.lt_of_lt_of_le hk h.sz) (fun e => by have := hr k e.symm; omega)⟩
theorem LonS.put (h : LonS w B N D gl cl lB oB iB s i W) (s' : ByteArray) (i' : Int) : LonS w B N D gl cl lB oB iB s' i' ((W.setCell ⟨oB, 0, none⟩ (.string s')).setCell ⟨iB, 0, none⟩ (.int .i64 i')) := by
  have hl := h.lt
  have hb : Below oB W ((W.setCell ⟨oB, 0, none⟩ (.string s')).setCell ⟨iB, 0, none⟩ (.int .i64 i')) := Below.setAt (Below.setAt (Below.refl _ _) (Nat.le_refl _) 0 _) (by omega) 0 _
  have ho := (h.o.set 0 (.string s')).far (p := ⟨iB, 0, none⟩) (by show oB ≠ iB; omega) (.int .i64 i')
  have hi := (h.i.far (p := ⟨oB, 0, none⟩) (by show iB ≠ oB; omega) (.string s')).set 0 (.int .i64 i')
  refine ⟨h.m.kept (hb.mono (by omega)), h.l.below hb hl.2.1, fun j hj => (hb.cell (p := ⟨gl, j, none⟩) (by show gl < oB; omega)).trans (h.c j hj), by simpa using ho, by simpa using hi, h.bel.trans (hb.mono (by omega)), h.lt, Nat.le_trans h.sz hb.size⟩
/-- The next round has a box of its own. -/
theorem LonS.next (h : LonS w B N D gl cl lB oB iB s i W) : LonS w B (W.heap.size + 1) D gl cl lB oB W.heap.size s i (W.alloc (.cells #[.int .i64 i] 3)) :=
  have hl := h.lt
  have hs := h.sz
  have hb : Below N W (W.alloc (.cells #[.int .i64 i] 3)) := (below_alloc (Below.refl W.heap.size W) _).mono h.sz
  have h' := h.kept hb
  ⟨h'.m, h'.l, h'.c, h'.o, Whole.new W 3 _, h'.bel, ⟨hl.1, hl.2.1, by omega, by omega, hl.2.2.2.2⟩, by simp⟩
end
set_option maxRecDepth 100000 in
set_option maxHeartbeats 8000000 in
theorem longest_top (ad : Addr) (c : Nat) (w : World) (hsp : ad.spot = none) (hm : GlobM w) (hS : SetAt ad w) :
    Calls Try.prog 116 #[.int .i64 2, .slice (some ad) 3 c] w fun e w' => e = .returned (.tuple #[.string ⟨#[98, 97]⟩, .int .i64 0]) ∧ Below w.heap.size w w' := by
  have HM := Lib.hid hm
  have HS := Lib.hid hS
  clear hm hS
  refine (callsIn_wide (n := 6)).1 ?_
  refine callsIn_of_wp_marks Try.func116 rfl trivial ?_ rfl
  simp only [Try.ntmps116, List.size_toArray, List.length_cons, List.length_nil, Nat.reduceAdd, Nat.reduceSub, Array.replicate_succ, Array.replicate_zero, List.push_toArray, List.append_toArray, List.nil_append, List.cons_append]
  gi_wp2_with (first
    | (refine ⟨trivial, ?_⟩; gi_at_call 135; refine (callsIn_wide.2 (isSet_any ad c w HS.out)).mono ?_; rintro e w1 ⟨rfl, hb1⟩; have HB1 := Lib.hid hb1; have HM1 := Lib.hid (HM.out.below hb1); have HS1 := Lib.hid (HS.out.below hb1); clear hb1)
    | (refine ⟨trivial, ?_⟩; gi_at_call 136; refine (callsIn_wide.2 (newMachine_any ad c w1 hsp HM1.out HS1.out)).mono ?_; rintro e w2 ⟨S, rfl, hss, hps, hMV⟩; obtain ⟨D, hD, hMR⟩ := hMV.reads hss hps; rw [← hD]; have HB2 := Lib.hid (HB1.out.trans (hMV.bel.mono HB1.out.size)); have HMR := Lib.hid hMR; clear hss hps hMV hMR hD)
    | (refine ⟨trivial, ?_⟩; gi_at_call 137; refine (callsIn_wide.2 (longest_any D w2 HMR.out)).mono ?_; rintro e w3 ⟨v3, rfl, hR3, hb3⟩; obtain ⟨gl, cl, hv3⟩ := hR3.form (by simp [lenL]); rw [show lenL.length = 4 from rfl] at hv3; subst hv3; obtain ⟨_, _, e3, _, hg3, hgl3, _, hc3⟩ := CyC.form (RowIs.toC (x := (.slice (some ⟨gl, 0, none⟩) 4 cl, lenL)) hR3) (by simp [lenL]); cases e3; have HC3 := Lib.hid hc3; have HB3 := Lib.hid hb3; have c30 : w3.cell? ⟨gl, 0, none⟩ = some (.int .i64 2) := hc3 0 (by simp [lenL]); clear hR3 hb3 hc3))
  have hb0 := below_alloc (below_alloc (below_alloc (Below.refl w3.heap.size w3) (.cells #[.slice (some ⟨gl, 0, none⟩) 4 cl] 39)) (.cells #[.string ⟨#[]⟩] 9)) (.cells #[.int .i64 0] 3)
  have hLA : LonS w w2.heap.size (w3.heap.size + 1 + 1 + 1) D gl cl w3.heap.size (w3.heap.size + 1) (w3.heap.size + 1 + 1) ⟨#[]⟩ 0 (((w3.alloc (.cells #[.slice (some ⟨gl, 0, none⟩) 4 cl] 39)).alloc (.cells #[.string ⟨#[]⟩] 9)).alloc (.cells #[.int .i64 0] 3)) := by
    have s2 := HB2.out.size
    have s3 := HB3.out.size
    have q1 := (((Whole.new w3 39 #[.slice (some ⟨gl, 0, none⟩) 4 cl]).alloc (.cells #[.string ⟨#[]⟩] 9)).alloc (.cells #[.int .i64 0] 3))
    have q2 := ((Whole.new (w3.alloc (.cells #[.slice (some ⟨gl, 0, none⟩) 4 cl] 39)) 9 #[.string ⟨#[]⟩]).alloc (.cells #[.int .i64 0] 3))
    have q3 := Whole.new ((w3.alloc (.cells #[.slice (some ⟨gl, 0, none⟩) 4 cl] 39)).alloc (.cells #[.string ⟨#[]⟩] 9)) 3 #[.int .i64 0]
    simp only [World.size_alloc] at q2 q3
    refine ⟨HMR.out.kept (HB3.out.trans (hb0.mono s3)), q1, fun j hj => (hb0.cell (p := ⟨gl, j, none⟩) hgl3).trans ?_, q2, q3, (HB2.out.trans (HB3.out.mono s2)).trans (hb0.mono (by omega)), ⟨hgl3, by omega, by omega, by omega, hg3, s2⟩, by simp only [World.size_alloc]; omega⟩
    have := HC3.out j hj
    rw [this]
    simp [rd, List.getD_eq_getElem?_getD]
  generalize ((w3.alloc (.cells #[.slice (some ⟨gl, 0, none⟩) 4 cl] 39)).alloc (.cells #[.string ⟨#[]⟩] 9)).alloc (.cells #[.int .i64 0] 3) = W0 at hLA ⊢
  refine wpIn_loop_rounds 3 ?_
  rw [roundsIn_succ]
  have lA := hLA.l.cell 0
  have iA := hLA.i.cell 0
  simp only [List.getElem?_toArray, List.getElem?_cons_zero, List.getElem?_cons_succ] at lA iA
  have cA : W0.cell? ⟨gl, 0, none⟩ = some (.int .i64 2) := hLA.c 0 (by decide)
  gi_wp2_with (refine ⟨trivial, ?_⟩; gi_at_call 138; refine (callsIn_wide.2 (steps_any _ _ _)).mono ?_; rintro e w' ⟨rfl, rfl⟩)
  have u1A := (Whole.new W0 174 #[.pointer (some ⟨D.mB, 0, none⟩)]).alloc (.cells #[.int .i64 0] 3)
  have u2A := Whole.new (W0.alloc (.cells #[.pointer (some ⟨D.mB, 0, none⟩)] 174)) 3 #[.int .i64 0]
  rw [World.size_alloc] at u2A
  have hgA : W0.grownBy ((W0.alloc (.cells #[.pointer (some ⟨D.mB, 0, none⟩)] 174)).alloc (.cells #[.int .i64 0] 3)) none := (World.grownBy_alloc _ _ none).trans (World.grownBy_alloc _ _ none)
  have hMA := hLA.grown hgA (fun r e => by cases e)
  generalize (W0.alloc (.cells #[.pointer (some ⟨D.mB, 0, none⟩)] 174)).alloc (.cells #[.int .i64 0] 3) = VA at u1A u2A hMA hgA ⊢
  have hgivesA := steps1_gives 5 w2.heap.size D 0 (by decide) W0.heap.size (W0.heap.size + 1) VA u1A u2A hMA.m (by have := hMA.sz; have := hMA.lt; omega)
  have HMA := Lib.hid hMA
  clear hLA lA iA cA hgA
  refine wpIn_rangeC rfl (by omega) (gf := 158) (lb := #[.pointer (some ⟨W0.heap.size, 0, none⟩), .pointer (some ⟨W0.heap.size + 1, 0, none⟩)]) rfl trivial (enters_of Try.func158 (by kernel_rfl) rfl) hgivesA (fun h k => h.trans k) ?hKbA (Below.refl _ _) (fun _ => rfl) (fun x => by intro s X Y row _ _ _; trivial)
    (fun pre X => pre.length < 2 ∧ LonS w w2.heap.size (w3.heap.size + 1 + 1 + 1) D gl cl w3.heap.size (w3.heap.size + 1) (w3.heap.size + 1 + 1) ⟨#[]⟩ 0 X)
    (fun co pre X => co = .exit 2 ∧ LonS w w2.heap.size (w3.heap.size + 1 + 1 + 1) D gl cl w3.heap.size (w3.heap.size + 1) (w3.heap.size + 1 + 1) ⟨#[98]⟩ 2 X)
    ?hIA ?hIxA ⟨by decide, hMA⟩ ?a1A ?assignA ?bodyA ?doneA ?stopA
  case assignA =>
    intro lp x X K hK
    gi_wp2
    exact hK
  case hKbA =>
    intro X l o o' hl ho hc hw
    exact Below.putObj (Below.refl _ _) (by have := HMA.out.sz; have := HMA.out.lt; omega) _
  case hIA =>
    intro pre X Y row ⟨h1, h2⟩ hg hr
    exact ⟨h1, h2.grown hg (fun r e => by have := (hr r e).1; have := HMA.out.sz; omega)⟩
  case hIxA =>
    intro co pre X Y row ⟨h1, h2⟩ hg hr
    exact ⟨h1, h2.grown hg (fun r e => by have := (hr r e).1; have := HMA.out.sz; omega)⟩
  case doneA =>
    rintro D' ys X hD hys ⟨h1, _⟩ _ _
    exfalso
    rw [hys] at h1
    exact absurd h1 (by decide)
  case bodyA =>
    rintro lp pre x X hlp hsp ⟨hpl, hL⟩ _
    clear hgivesA
    rw [stepsL_is.1] at hsp
    match pre, hsp, hpl with
    | [], hsp, _ =>
      obtain rfl : x = (⟨#[97]⟩, 1) := by simpa using hsp
      have l0 := hL.l.cell 0
      have i0 := hL.i.cell 0
      have o0 := hL.o.cell 0
      have fo := hL.o.frozen 0
      simp only [List.getElem?_toArray, List.getElem?_cons_zero, List.getElem?_cons_succ] at l0 i0 o0
      have cj : X.cell? ⟨gl, 1, none⟩ = some (.int .i64 0) := hL.c 1 (by decide)
      have ci : X.cell? ⟨gl, 0, none⟩ = some (.int .i64 2) := hL.c 0 (by decide)
      have hlt := hL.lt
      have fi := hL.i.frozen 0
      skip
      have HL := Lib.hid hL
      clear hL
      gi_wp2
      refine wpIn_region_quietR (by kernel_rfl) (by kernel_rfl) (by kernel_rfl) ?_
      repeat (gi_big_quiet_step (fail))
      refine wpQuietIn_nil ?_
      rintro _ ⟨nq, rfl⟩
      have hdr : Below X.heap.size X (X.drewN nq) := pw_below_drewN (Below.refl _ _) nq
      gi_wp2
      exact ⟨keepsFrom_below hdr, hdr.mono (by have := HL.out.sz; omega), by simp, HL.out.kept (hdr.mono HL.out.sz)⟩
    | [p], hsp, _ =>
      obtain ⟨rfl, rfl⟩ : p = (⟨#[97]⟩, 1) ∧ x = (⟨#[98]⟩, 2) := by simpa using hsp
      have l0 := hL.l.cell 0
      have i0 := hL.i.cell 0
      have o0 := hL.o.cell 0
      have fo := hL.o.frozen 0
      simp only [List.getElem?_toArray, List.getElem?_cons_zero, List.getElem?_cons_succ] at l0 i0 o0
      have cj : X.cell? ⟨gl, 2, none⟩ = some (.int .i64 1) := hL.c 2 (by decide)
      have ci : X.cell? ⟨gl, 0, none⟩ = some (.int .i64 2) := hL.c 0 (by decide)
      have hlt := hL.lt
      have fi := hL.i.frozen 0
      have hcat : (⟨#[]⟩ : ByteArray) ++ (⟨#[98]⟩ : ByteArray) = ⟨#[98]⟩ := by kernel_rfl
      have HL := Lib.hid hL
      clear hL
      gi_wp2
      refine wpIn_region_quietR (by kernel_rfl) (by kernel_rfl) (by kernel_rfl) ?_
      repeat (gi_big_quiet_step (fail))
      refine wpQuietIn_nil ?_
      rintro _ ⟨nq, rfl⟩
      have hdr : Below X.heap.size X (X.drewN nq) := pw_below_drewN (Below.refl _ _) nq
      gi_wp2
      exact ⟨((keepsFrom_below hdr).trans ((KeepsOthers.setCell _ _ _).from _)).trans ((KeepsOthers.setCell _ _ _).from _), rfl, (HL.out.kept (hdr.mono HL.out.sz)).put _ _⟩
  rintro DA co pre XA hDA _ ⟨rfl, hSA⟩ hKA hDA2
  have i0 := hSA.i.cell 0
  simp only [List.getElem?_toArray, List.getElem?_cons_zero, List.getElem?_cons_succ] at i0
  have HSA := Lib.hid hSA
  clear hgivesA hSA
  gi_wp2
  have hLB := HSA.out.next
  have hKB := (Below.heap_alloc XA (.cells #[.int .i64 2] 3) DA (Array.getElem?_eq_some_iff.1 hKA).1).trans hKA
  have hdA1 : DA ≠ w3.heap.size + 1 := by have := HMA.out.sz; have := HMA.out.lt; omega
  have hsX := HSA.out.sz
  have hdA2 : DA ≠ XA.heap.size := by have := (Array.getElem?_eq_some_iff.1 hKA).1; omega
  have HLA2 := Lib.hid HSA.out.lt
  obtain ⟨iB, hiB⟩ : ∃ iB, XA.heap.size = iB := ⟨_, rfl⟩
  rw [hiB] at hLB hdA2
  rw [hiB]
  generalize XA.alloc (.cells #[.int .i64 2] 3) = W1 at hLB hKB ⊢
  clear i0 hKA hiB HSA hsX
  rw [roundsIn_succ]
  have lB := hLB.l.cell 0
  have iB := hLB.i.cell 0
  simp only [List.getElem?_toArray, List.getElem?_cons_zero, List.getElem?_cons_succ] at lB iB
  have cB : W1.cell? ⟨gl, 2, none⟩ = some (.int .i64 1) := hLB.c 2 (by decide)
  gi_wp2_with (refine ⟨trivial, ?_⟩; gi_at_call 138; refine (callsIn_wide.2 (steps_any _ _ _)).mono ?_; rintro e w' ⟨rfl, rfl⟩)
  have u1B := (Whole.new W1 174 #[.pointer (some ⟨D.mB, 0, none⟩)]).alloc (.cells #[.int .i64 2] 3)
  have u2B := Whole.new (W1.alloc (.cells #[.pointer (some ⟨D.mB, 0, none⟩)] 174)) 3 #[.int .i64 2]
  rw [World.size_alloc] at u2B
  have hgB : W1.grownBy ((W1.alloc (.cells #[.pointer (some ⟨D.mB, 0, none⟩)] 174)).alloc (.cells #[.int .i64 2] 3)) none := (World.grownBy_alloc _ _ none).trans (World.grownBy_alloc _ _ none)
  have hMB := hLB.grown hgB (fun r e => by cases e)
  have hKA := (Below.heap_alloc _ (.cells #[.int .i64 2] 3) DA (Array.getElem?_eq_some_iff.1 ((Below.heap_alloc W1 (.cells #[.pointer (some ⟨D.mB, 0, none⟩)] 174) DA (Array.getElem?_eq_some_iff.1 hKB).1).trans hKB)).1).trans ((Below.heap_alloc W1 (.cells #[.pointer (some ⟨D.mB, 0, none⟩)] 174) DA (Array.getElem?_eq_some_iff.1 hKB).1).trans hKB)
  generalize (W1.alloc (.cells #[.pointer (some ⟨D.mB, 0, none⟩)] 174)).alloc (.cells #[.int .i64 2] 3) = VB at u1B u2B hMB hgB hKA ⊢
  have hgivesB := steps1_gives 5 w2.heap.size D 2 (by decide) W1.heap.size (W1.heap.size + 1) VB u1B u2B hMB.m (by have := hMB.sz; have := hMB.lt; omega)
  have HMB := Lib.hid hMB
  clear hLB lB iB cB hgB
  refine wpIn_rangeC rfl (by omega) (gf := 158) (lb := #[.pointer (some ⟨W1.heap.size, 0, none⟩), .pointer (some ⟨W1.heap.size + 1, 0, none⟩)]) rfl trivial (enters_of Try.func158 (by kernel_rfl) rfl) hgivesB (fun h k => h.trans k) ?hKbB (Below.refl _ _) (fun _ => rfl) (fun x => by intro s X Y row _ _ _; trivial)
    (fun pre X => pre.length < 1 ∧ LonS w w2.heap.size (iB + 1) D gl cl w3.heap.size (w3.heap.size + 1) iB ⟨#[98]⟩ 2 X ∧ X.heap[DA]? = some (.deferred (some [])))
    (fun co pre X => co = .exit 2 ∧ LonS w w2.heap.size (iB + 1) D gl cl w3.heap.size (w3.heap.size + 1) iB ⟨#[98, 97]⟩ 3 X ∧ X.heap[DA]? = some (.deferred (some [])))
    ?hIB ?hIxB ⟨by decide, ⟨hMB, hKA⟩⟩ ?a1B ?assignB ?bodyB ?doneB ?stopB
  case assignB =>
    intro lp x X K hK
    gi_wp2
    exact hK
  case hKbB =>
    intro X l o o' hl ho hc hw
    exact Below.putObj (Below.refl _ _) (by have := HMB.out.sz; have := HMB.out.lt; omega) _
  case hIB =>
    intro pre X Y row ⟨h1, h2⟩ hg hr
    exact ⟨h1, ⟨h2.1.grown hg (fun r e => by have := (hr r e).1; have := HMB.out.sz; omega), (hg.block DA (Array.getElem?_eq_some_iff.1 h2.2).1 (fun e => by have := (hr _ e.symm).1; have := (Array.getElem?_eq_some_iff.1 hKA).1; omega)).trans h2.2⟩⟩
  case hIxB =>
    intro co pre X Y row ⟨h1, h2⟩ hg hr
    exact ⟨h1, ⟨h2.1.grown hg (fun r e => by have := (hr r e).1; have := HMB.out.sz; omega), (hg.block DA (Array.getElem?_eq_some_iff.1 h2.2).1 (fun e => by have := (hr _ e.symm).1; have := (Array.getElem?_eq_some_iff.1 hKA).1; omega)).trans h2.2⟩⟩
  case doneB =>
    rintro D' ys X hD hys ⟨h1, _⟩ _ _
    exfalso
    rw [hys] at h1
    exact absurd h1 (by decide)
  case bodyB =>
    rintro lp pre x X hlp hsp ⟨hpl, hL⟩ _
    clear hgivesB
    rw [stepsL_is.2.2.1] at hsp
    obtain rfl : pre = [] := by cases pre with | nil => rfl | cons a l => simp at hpl
    obtain rfl : x = (⟨#[97]⟩, 3) := by simpa using hsp
    have l0 := hL.1.l.cell 0
    have i0 := hL.1.i.cell 0
    have o0 := hL.1.o.cell 0
    have fo := hL.1.o.frozen 0
    simp only [List.getElem?_toArray, List.getElem?_cons_zero, List.getElem?_cons_succ] at l0 i0 o0
    have cj : X.cell? ⟨gl, 3, none⟩ = some (.int .i64 0) := hL.1.c 3 (by decide)
    have ci : X.cell? ⟨gl, 2, none⟩ = some (.int .i64 1) := hL.1.c 2 (by decide)
    have hlt := hL.1.lt
    have fi := hL.1.i.frozen 0
    have hcat : (⟨#[98]⟩ : ByteArray) ++ (⟨#[97]⟩ : ByteArray) = ⟨#[98, 97]⟩ := by kernel_rfl
    have HL := Lib.hid hL
    clear hL
    gi_wp2
    refine wpIn_region_quietR (by kernel_rfl) (by kernel_rfl) (by kernel_rfl) ?_
    repeat (gi_big_quiet_step (fail))
    refine wpQuietIn_nil ?_
    rintro _ ⟨nq, rfl⟩
    have hdr : Below X.heap.size X (X.drewN nq) := pw_below_drewN (Below.refl _ _) nq
    gi_wp2
    have hLd := HL.out.1.kept (hdr.mono HL.out.1.sz)
    refine ⟨((keepsFrom_below hdr).trans ((KeepsOthers.setCell _ _ _).from _)).trans ((KeepsOthers.setCell _ _ _).from _), rfl, hLd.put _ _, ?_⟩
    exact ((Below.heap_setCell _ _ _ DA (fun e => hdA2 e)).trans (Below.heap_setCell _ _ _ DA (fun e => hdA1 e))).trans HL.out.2
  rintro DB co pre XB hDB _ ⟨rfl, hSB, hKAB⟩ hKB2 hDB2
  have i0 := hSB.i.cell 0
  simp only [List.getElem?_toArray, List.getElem?_cons_zero, List.getElem?_cons_succ] at i0
  have hne : DB ≠ DA := by have := (Array.getElem?_eq_some_iff.1 hKA).1; omega
  have HSB := Lib.hid hSB
  clear hgivesB hSB
  gi_wp2
  have hLC := HSB.out.next
  have hKA3 := (Below.heap_alloc XB (.cells #[.int .i64 3] 3) DA (Array.getElem?_eq_some_iff.1 hKAB).1).trans hKAB
  have hKB3 := (Below.heap_alloc XB (.cells #[.int .i64 3] 3) DB (Array.getElem?_eq_some_iff.1 hKB2).1).trans hKB2
  have hwA : w.heap.size ≤ DA := by have := HMA.out.sz; have := HMA.out.lt; omega
  have hwB : w.heap.size ≤ DB := by have := HMB.out.sz; have := HMB.out.lt; omega
  obtain ⟨iC, hiC⟩ : ∃ iC, XB.heap.size = iC := ⟨_, rfl⟩
  rw [hiC] at hLC
  rw [hiC]
  generalize XB.alloc (.cells #[.int .i64 3] 3) = W2 at hLC hKA3 hKB3 ⊢
  rw [roundsIn_succ]
  have l1 := hLC.l.cell 0
  have i1 := hLC.i.cell 0
  have o1 := hLC.o.cell 0
  simp only [List.getElem?_toArray, List.getElem?_cons_zero, List.getElem?_cons_succ] at l1 i1 o1
  have c1 : W2.cell? ⟨gl, 3, none⟩ = some (.int .i64 0) := hLC.c 3 (by decide)
  have HLC := Lib.hid hLC.bel
  clear hLC i0 hiC hKB2 hKAB HSB
  gi_wp2
  refine ⟨by simp, .inl ⟨_, _, rfl, run_takeDeferred hKB3, ?_⟩⟩
  have hKA4 := (World.putObj_heap_other (o := .deferred none) (show DA ≠ DB from fun e => hne e.symm)).trans hKA3
  refine ⟨by simp, .inl ⟨_, _, rfl, run_takeDeferred hKA4, ?_⟩⟩
  exact ⟨_, results_tmp2 rfl _ _ _, rfl, Below.putObj (Below.putObj HLC.out hwB _) hwA _⟩
theorem own_spot {α : Type} {d : Kd α} {e : Nat} {W : World} {base : Nat} {ok : Nat → Prop} {A : Option Addr} {n c : Nat} {xs : List α} (h : Kd.R d e W base ok (.slice A n c) xs) : ∀ ad, A = some ad → ad.spot = none := by
  obtain ⟨inner, ho⟩ := Kd.R_own h
  intro ad e
  subst e
  rcases ho.2 with ⟨hv, _⟩ | ⟨g, cap, cur, hv, _⟩
  · cases hv
  · cases hv; rfl
/-- tread.Longest, where it is asked. -/
def tread_Longest.f (n : Int) (l : List ByteArray) : Option (ByteArray × Int) := if n = 2 ∧ l = setL then some (⟨#[98, 97]⟩, 0) else none
theorem set_at {w : World} {ad : Addr} (hs : ad.spot = none) (h : Kd.C Kd.string w (some ad) 3 setL) : SetAt ad w := by
  obtain ⟨a0, e0, c0⟩ := Kd.at_string h 0 (by decide) (by decide)
  obtain ⟨a1, e1, c1⟩ := Kd.at_string h 1 (by decide) (by decide)
  obtain ⟨a2, e2, c2⟩ := Kd.at_string h 2 (by decide) (by decide)
  cases e0
  cases e1
  cases e2
  obtain ⟨b, o, sp⟩ := ad
  obtain rfl : sp = none := hs
  exact ⟨c0, c1, c2⟩
theorem tread_Longest.calls (a0 : Int) (A1 : Option Addr) (c1 : Nat) (l1 : List ByteArray) (r1 : ByteArray) (r2 : Int) (w : World) (hr1 : Kd.C Kd.string w A1 l1.length l1) (hc1 : l1.length ≤ c1) (h : tread_Longest.f a0 l1 = some (r1, r2)) (hG : GlobM w) (hS : ∀ ad, A1 = some ad → ad.spot = none) :
    Calls Try.prog 116 #[.int .i64 a0, .slice A1 l1.length c1] w fun e w' => e = .returned (.tuple #[.string r1, .int .i64 r2]) ∧ Below w.heap.size w w' := by
  unfold tread_Longest.f at h
  split at h
  · rename_i hc
    obtain ⟨rfl, rfl⟩ := hc
    cases h
    obtain ⟨ad, rfl, _⟩ := Kd.at_string hr1 0 (by decide) (by decide)
    exact longest_top ad c1 w (hS ad rfl) hG (set_at (hS ad rfl) hr1)
  · cases h
end Go.Proofs.Ytkefmlhkejoknaa.L
