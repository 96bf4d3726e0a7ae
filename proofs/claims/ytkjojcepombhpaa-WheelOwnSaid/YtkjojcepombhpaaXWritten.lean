/- The walks of slices.Min, slices.Index, slices.Grow, slices.Concat and written. -/
import Derived.Test.YtkjojcepombhpaaXOrbit
import Derived.Maps.AppendAt
import Derived.StillTailTactics
namespace Go.Proofs.Ytkjojcepombhpaa.L
set_option linter.unusedVariables false
set_option linter.unusedSimpArgs false
open Go.RowKit Go.Shelf Go.Proofs.YtkjojcepombhpaaW.PrintWords Go.Proofs.YtkjojcepombhpaaW.PrintLast Go.Proofs.YtkjojcepombhpaaW.PrintMore

/-- The smallest one of the first k + 1 numbers. -/
def minTo (l : List Int) : Nat → Int
  | 0 => rd l 0
  | k + 1 => if rd l ((k + 1 : Nat) : Int) < minTo l k then rd l ((k + 1 : Nat) : Int) else minTo l k
theorem minTo_mem (l : List Int) : ∀ k, k < l.length → ∃ i, i ≤ k ∧ minTo l k = rd l (i : Int) := by
  intro k
  induction k with
  | zero => intro _; exact ⟨0, Nat.le_refl _, rfl⟩
  | succ k ih =>
    intro hk
    obtain ⟨i, h1, h2⟩ := ih (by omega)
    unfold minTo
    split
    · exact ⟨k + 1, Nat.le_refl _, rfl⟩
    · exact ⟨i, by omega, h2⟩
theorem minTo_le (l : List Int) : ∀ k i, i ≤ k → minTo l k ≤ rd l (i : Int) := by
  intro k
  induction k with
  | zero => intro i hi; have : i = 0 := by omega
            subst this; exact Int.le_refl _
  | succ k ih =>
    intro i hi
    unfold minTo
    by_cases e : i = k + 1
    · subst e; split <;> omega
    · have := ih i (by omega)
      split <;> omega
def minL (l : List Int) : Int := minTo l (l.length - 1)
section
attribute [local go_sem] max2_int min2_int max_two min_two
set_option maxHeartbeats 1000000 in
theorem min_any (A : Option Addr) (c : Nat) (l : List Int) (w : World) (h0 : 0 < l.length) (hl : l.length ≤ 1000) (hC : Kd.C (Kd.int .i64) w A l.length l) :
    Calls Try.prog 94 #[.slice A l.length c] w fun e w' => e = .returned (.int .i64 (minL l)) ∧ w = w' := by
  have HC := Lib.hid hC
  clear hC
  obtain ⟨ad, rfl, hx0⟩ := Kd.at_int HC.out 0 (by omega) (by omega)
  simp only [Int.toNat_zero] at hx0
  replace hx0 : w.cell? ad = some (.int .i64 (rd l 0)) := hx0
  have hz0 : ¬ (l.length : Int) < 1 := by omega
  go_enter Try.func94, Try.ntmps94
  go_wp2
  go_loopw [3, 4] (fun mv iv wr => ∃ k : Nat, k < l.length ∧ iv = .int .i64 ((k : Int) + 1) ∧ mv = .int .i64 (minTo l k) ∧ w = wr) (fun _ iv _ => l.length + 1 - (intOf iv).toNat)
  case atStart => exact ⟨0, h0, rfl, rfl, rfl⟩
  case round =>
    obtain ⟨k, hk, rfl, rfl, rfl⟩ := hrel
    by_cases hlt : k + 1 < l.length
    · obtain ⟨ad', had, hx⟩ := Kd.at_int HC.out ((k + 1 : Nat) : Int) (by omega) (by omega)
      cases had
      simp only [Int.toNat_natCast] at hx
      have ea : ad.add (k + 1) = { block := ad.block, off := ad.off + (k + 1) } := by simp [Addr.add]
      rw [ea] at hx
      clear ea
      have hst : minTo l (k + 1) = if rd l ((k + 1 : Nat) : Int) < minTo l k then rd l ((k + 1 : Nat) : Int) else minTo l k := rfl
      have HS := Lib.hid hst
      have hn : ((k : Int) + 1).toNat = k + 1 := by omega
      clear hst
      generalize rd l ((k + 1 : Nat) : Int) = y at *
      generalize minTo l k = mk at *
      by_cases hq : y < mk
      · have hs := HS.out
        rw [if_pos hq] at hs
        have HS2 := Lib.hid hs
        clear hs HS
        go_wp2
        exact ⟨⟨k + 1, hlt, by go_num, by rw [HS2.out], trivial⟩, by simp [intOf]; omega⟩
      · have hs := HS.out
        rw [if_neg hq] at hs
        have HS2 := Lib.hid hs
        clear hs HS
        go_wp2
        exact ⟨⟨k + 1, hlt, by go_num, by rw [HS2.out], trivial⟩, by simp [intOf]; omega⟩
    · have hm : minL l = minTo l k := by unfold minL; congr 1; omega
      have HM := Lib.hid hm
      clear hm
      go_wp2
      go_ret
      exact ⟨by rw [HM.out]; rfl, rfl⟩
end

set_option maxHeartbeats 1000000 in
theorem index_any (A : Option Addr) (c : Nat) (xs : List Int) (v : Int) (K : Nat) (w : World) (hK : K < xs.length) (hl : xs.length ≤ 1000) (hC : Kd.C (Kd.int .i64) w A xs.length xs) (hv : rd xs (K : Int) = v) (hno : ∀ j : Nat, j < K → rd xs (j : Int) ≠ v) :
    Calls Try.prog 93 #[.slice A xs.length c, .int .i64 v] w fun e w' => e = .returned (.int .i64 K) ∧ w = w' := by
  have HC := Lib.hid hC
  have HV := Lib.hid hv
  have HNO := Lib.hid hno
  clear hC hv hno
  go_enter Try.func93, Try.ntmps93
  go_wp2
  go_loopw [8] (fun i wr => ∃ k : Nat, k ≤ K ∧ i = .int .i64 k ∧ w = wr) (fun i _ => xs.length - (intOf i).toNat)
  case atStart => exact ⟨0, Nat.zero_le _, rfl, rfl⟩
  case round =>
    obtain ⟨k, hk, rfl, rfl⟩ := hrel
    obtain ⟨ad, rfl, hx⟩ := Kd.at_int HC.out (k : Int) (by omega) (by omega)
    simp only [Int.toNat_natCast] at hx
    by_cases hlt : k < K
    · have hne := HNO.out k hlt
      have hq : (v == rd xs (k : Int)) = false := by rw [beq_eq_false_iff_ne]; exact Ne.symm hne
      clear hne
      generalize rd xs (k : Int) = y at *
      go_wp2
      exact ⟨⟨k + 1, by omega, by go_num, trivial⟩, by simp [intOf]; omega⟩
    · obtain rfl : k = K := by omega
      have hq : (v == rd xs (k : Int)) = true := by rw [beq_iff_eq]; exact HV.out.symm
      generalize rd xs (k : Int) = y at hx hq
      go_wp2
      exact bodyPost_ret (v := .int .i64 (k : Int)) (by simp [results, Try.results93, go_sem]) rfl ⟨rfl, rfl⟩

theorem zeros_form {W : World} {B n : Nat} {ok : Nat → Prop} {v : Value} (hn : 0 < n) (h : Kd.R (Kd.int .i64) 3 W B ok v ([] ++ List.replicate (n : Int).toNat 0)) : ∃ g cap cur, v = .slice (some ⟨g, 0, none⟩) n cap ∧ B ≤ g ∧ W.heap[g]? = some (.cells cur 3 (0, 0)) ∧ cap ≤ maxLen ∧ cur.size = cap := by
  obtain ⟨_, cs, hown, _⟩ := h
  rcases hown.2 with h | ⟨g, cap, cur, h1, h2, h3, h4, h5, h6, _⟩
  · have := h.2
    simp at this
    omega
  · exact ⟨g, cap, cur, by rw [h1]; simp, h2, h3, h5, by rw [h6]; exact Nat.mul_one _⟩
/-- A slice with room for n numbers. -/
theorem grow_any (n : Nat) (w : World) (hn : n ≤ 100000) :
    Calls Try.prog 116 #[.slice none 0 0, .int .i64 n] w fun e w' => ∃ v, e = .returned v ∧ RowIs w' w.heap.size v [] ∧ Below w.heap.size w w' := by
  by_cases h0 : n = 0
  · subst h0
    go_enter Try.func116, Try.ntmps116
    go_wp2
    go_ret
    exact ⟨_, rfl, RowIs.nil _ _, Below.refl _ _⟩
  · have hn0 : (0 : Int) < (n : Int) := by omega
    have hnn : ¬ (n : Int) < 0 := by omega
    go_enter Try.func116, Try.ntmps116
    go_wp2_with ((with_reducible refine gate_dst (N := 22) rfl ?_); refine Kd.R_append_zeros (Kd.int .i64) (w0 := w) w.heap.size rfl _ _ 22 3 3 (.int .i64 0) 8 rfl Try.underlying22 Try.underlying3 info3 rfl (by decide) (by decide) (.slice none 0 0) [] 0 (n : Int) (fun _ => True) rfl rfl (show Kd.M (Kd.int .i64) _ _ _ 0 [.int .i64 0] from rfl) (fun _ _ => trivial) (Kd.R_nil _ _ _ _ _) (by omega) (Below.refl _ _) (Nat.le_refl _) (by simp; omega) ?_; intro v1 w1 hR hB hg hat; obtain ⟨g, cap, cur, rfl, hgb, hcur, hcap, hcs⟩ := zeros_form (by omega) hR; have HCUR := Lib.hid hcur; have HB := Lib.hid hB; clear hR hB hg hat hcur)
    go_ret
    exact ⟨_, rfl, ⟨rfl, .inr ⟨g, cap, cur, rfl, hgb, HCUR.out, Nat.zero_le _, hcap, by omega, rfl⟩⟩, HB.out⟩

/-- Several numbers more behind a row. -/
theorem appendL {w : World} {ops : Array Oper} {rest : List Oper} {o : Oper} {a : Act} {Q : Exit → Act → World → Prop}
    (hg : o.guard = none) (s x : Operand) (hop : o.op = Op.call { callee := Callee.builtin Builtin.append, args := #[s, x], argTypes := #[22, 22] })
    (B : Nat) (v : Value) (xs : List Int) (hs : a.eval s = v) (hown : RowIs w B v xs) (ad : Addr) (c : Nat) (ys : List Int) (hx : a.eval x = .slice (some ad) ys.length c) (hc : Kd.C (Kd.int .i64) w (some ad) ys.length ys) (hl : xs.length ≤ 100000) (hl2 : ys.length ≤ 100000) (hB : B ≤ w.heap.size)
    (hK : ∀ v' w', RowIs w' B v' (xs ++ ys) → w.grownBy w' v.ownBlock → wpList Try.prog ops Q rest (a.put o.dst v') w') :
    wpList Try.prog ops Q (o :: rest) a w := by
  obtain ⟨i3, hi3, hz3, hs3, hb3⟩ := info_parts info3
  refine wpList_append_own_at w hg s x 22 hop B 3 i3 _ 1 8 Try.underlying22 hi3 hz3 hs3 hb3 rfl (by decide) v xs.length (encs (Value.int .i64) xs) hs hown ad ys.length c (encs (Value.int .i64) ys) hx (by simp [encs]) ?_ (by intro u hu; simp only [encs, List.mem_map] at hu; obtain ⟨y, _, rfl⟩ := hu; rfl) (by unfold maxLen; omega) (by omega) hB ?_
  · intro j u hu
    simp only [encs, List.getElem?_map, Option.map_eq_some_iff] at hu
    obtain ⟨y, hy, rfl⟩ := hu
    have hj := (List.getElem?_eq_some_iff.1 hy).1
    obtain ⟨ad', had, hx⟩ := Kd.at_int hc (j : Int) (by omega) (by omega)
    cases had
    rw [Int.toNat_natCast] at hx
    rw [hx]
    simp [rd, hy]
  · intro v' w' h1 h2 _ _
    refine hK v' w' ?_ h2
    unfold RowIs
    rw [List.length_append]
    have e : encs (Value.int .i64) (xs ++ ys) = encs (Value.int .i64) xs ++ encs (Value.int .i64) ys := by simp [encs]
    rw [e]
    exact h1

/-- What the first k of two rows come to. -/
def two (l0 l1 : List Int) (k : Nat) : List Int := if k = 0 then [] else if k = 1 then l0 else l0 ++ l1
set_option maxRecDepth 100000 in
set_option maxHeartbeats 2000000 in
theorem concat_any (g : Nat) (ad0 ad1 : Addr) (c0 c1 : Nat) (l0 l1 : List Int) (w : World) (hl0 : l0.length ≤ 600) (hl1 : l1.length ≤ 600) (h0 : Kd.C (Kd.int .i64) w (some ad0) l0.length l0) (h1 : Kd.C (Kd.int .i64) w (some ad1) l1.length l1) (hg : Whole w g 22 #[.slice (some ad0) l0.length c0, .slice (some ad1) l1.length c1]) :
    Calls Try.prog 95 #[.slice (some ⟨g, 0, none⟩) 2 2] w fun e w' => ∃ v, e = .returned v ∧ RowIs w' w.heap.size v (l0 ++ l1) ∧ Below w.heap.size w w' := by
  have H0 := Lib.hid h0
  have H1 := Lib.hid h1
  have HG := Lib.hid hg
  have x0 := hg.cell 0
  have x1 := hg.cell 1
  have xl := hg.lt
  simp only [List.getElem?_toArray, List.getElem?_cons_zero, List.getElem?_cons_succ] at x0 x1
  clear h0 h1 hg
  go_enter Try.func95, Try.ntmps95
  go_wp2
  go_loopw [3, 11] (fun sv iv wr => ∃ k : Nat, k ≤ 2 ∧ iv = .int .i64 k ∧ sv = .int .i64 ((two l0 l1 k).length : Int) ∧ w = wr) (fun _ iv _ => 2 - (intOf iv).toNat)
  case atStart => exact ⟨0, Nat.zero_le _, rfl, rfl, rfl⟩
  case round =>
    obtain ⟨k, hk, rfl, rfl, rfl⟩ := hrel
    have hk3 : k = 0 ∨ k = 1 ∨ k = 2 := by omega
    rcases hk3 with rfl | rfl | rfl
    · simp only [two, if_true, List.length_nil]
      go_wp2
      exact ⟨⟨1, by omega, rfl, rfl, trivial⟩, by simp [intOf]⟩
    · simp only [two]
      go_wp2
      exact ⟨⟨2, by omega, rfl, by simp [two], trivial⟩, by simp [intOf]⟩
    · obtain ⟨N, hN, hN2⟩ : ∃ N : Nat, (two l0 l1 2).length = N ∧ N ≤ 1000000 := ⟨_, rfl, by simp [two]; omega⟩
      have hN3 : N ≤ 1200 := by rw [← hN]; simp [two]; omega
      rw [hN]
      clear hN
      go_wp2_with (go_at_call 116; refine (grow_any N w (by omega)).mono ?_; rintro e w1 ⟨v, rfl, hv, hb⟩; have HV := Lib.hid hv; have HB := Lib.hid hb; have hs1 := hb.size; clear hv hb)
      go_loopw [6, 27] (fun vv iv wr => ∃ k : Nat, k ≤ 2 ∧ iv = .int .i64 k ∧ RowIs wr w.heap.size vv (two l0 l1 k) ∧ Below w.heap.size w wr) (fun _ iv _ => 2 - (intOf iv).toNat)
      case atStart => exact ⟨0, Nat.zero_le _, rfl, HV.out, HB.out⟩
      case round =>
        obtain ⟨k, hk, rfl, hv, hb⟩ := hrel
        have q0 := (HG.out.below hb xl).cell 0
        have q1 := (HG.out.below hb xl).cell 1
        have ql := (HG.out.below hb xl).lt
        simp only [List.getElem?_toArray, List.getElem?_cons_zero, List.getElem?_cons_succ] at q0 q1
        have hss := hb.size
        have HV := Lib.hid hv
        have HB := Lib.hid hb
        clear hv hb
        have hk3 : k = 0 ∨ k = 1 ∨ k = 2 := by omega
        rcases hk3 with rfl | rfl | rfl
        · go_wp2_with ((with_reducible refine gate_dst (N := 33) rfl ?_); refine appendL rfl _ _ rfl w.heap.size _ (two l0 l1 0) rfl HV.out ad0 c0 l0 rfl (Kd.C_below H0.out HB.out) (by simp [two]) (by omega) hss ?_; intro v' w2 hr hg2; have HR := Lib.hid hr; have HB2 := Lib.hid (HB.out.grown hg2 hss (fun k e => (HV.out.block e).1)); clear hr hg2)
          exact ⟨⟨1, by omega, rfl, HR.out, HB2.out⟩, by simp [intOf]⟩
        · go_wp2_with ((with_reducible refine gate_dst (N := 33) rfl ?_); refine appendL rfl _ _ rfl w.heap.size _ (two l0 l1 1) rfl HV.out ad1 c1 l1 rfl (Kd.C_below H1.out HB.out) (by simp [two]; omega) (by omega) hss ?_; intro v' w2 hr hg2; have HR := Lib.hid hr; have HB2 := Lib.hid (HB.out.grown hg2 hss (fun k e => (HV.out.block e).1)); clear hr hg2)
          exact ⟨⟨2, by omega, rfl, HR.out, HB2.out⟩, by simp [intOf]⟩
        · go_wp2
          go_ret
          exact ⟨_, rfl, HV.out, HB.out⟩

/-- Where the smallest number is first. -/
def minAt (l : List Int) : Nat := l.findIdx (· == minL l)
def writtenL (l : List Int) : List Int := l.drop (minAt l) ++ l.take (minAt l)
theorem minAt_spec (l : List Int) (h0 : 0 < l.length) : minAt l < l.length ∧ rd l (minAt l : Int) = minL l ∧ ∀ j : Nat, j < minAt l → rd l (j : Int) ≠ minL l := by
  obtain ⟨i, hi, he⟩ := minTo_mem l (l.length - 1) (by omega)
  have hlt : minAt l < l.length := by
    unfold minAt
    rw [List.findIdx_lt_length]
    refine ⟨l[i]'(by omega), List.getElem_mem _, ?_⟩
    rw [beq_iff_eq]
    show _ = minTo l (l.length - 1)
    rw [he]
    simp [rd, List.getElem?_eq_getElem (show i < l.length by omega)]
  refine ⟨hlt, ?_, fun j hj => ?_⟩
  · have := List.findIdx_getElem (xs := l) (p := (· == minL l)) (w := hlt)
    rw [beq_iff_eq] at this
    simp only [rd, Int.toNat_natCast, List.getD_eq_getElem?_getD, List.getElem?_eq_getElem hlt]
    exact this
  · have := List.not_of_lt_findIdx (xs := l) (p := (· == minL l)) hj
    intro e
    rw [beq_eq_false_iff_ne] at this
    apply this
    refine Eq.trans ?_ e
    simp [rd, List.getElem?_eq_getElem (show j < l.length by omega)]

set_option maxRecDepth 100000 in
set_option maxHeartbeats 2000000 in
theorem written_any (A : Option Addr) (c : Nat) (l : List Int) (w : World) (h0 : 0 < l.length) (hl : l.length ≤ 600) (hc : l.length ≤ c) (hC : Kd.C (Kd.int .i64) w A l.length l) :
    Calls Try.prog 86 #[.slice A l.length c] w fun e w' => ∃ v, e = .returned v ∧ RowIs w' w.heap.size v (writtenL l) ∧ Below w.heap.size w w' := by
  obtain ⟨ad, rfl, _⟩ := Kd.at_int hC 0 (by omega) (by omega)
  have HC := Lib.hid hC
  obtain ⟨m1, m2, m3⟩ := minAt_spec l h0
  have hd := Kd.C_drop (c := c) hC (m := minAt l) (by omega) hc
  have ht := Kd.C_take hC (m := minAt l) (by omega)
  rw [if_neg (by omega)] at hd
  have HD := Lib.hid hd
  have HT := Lib.hid ht
  have H2 := Lib.hid m2
  have H3 := Lib.hid m3
  have hw : writtenL l = l.drop (minAt l) ++ l.take (minAt l) := rfl
  rw [hw]
  clear hC hd ht m2 m3 hw
  generalize minAt l = K at *
  have hdl : (l.drop K).length = l.length - K := List.length_drop
  have htl : (l.take K).length = K := by rw [List.length_take]; omega
  have b1 : (0 : Int) ≤ (K : Int) := by omega
  have b2 : (K : Int) ≤ (l.length : Int) := by omega
  have b3 : (K : Int) ≤ (c : Int) := by omega
  have b4 : ¬ c = K := by omega
  go_enter Try.func86, Try.ntmps86
  go_wp2_with (first
    | (go_at_call 94; refine (min_any (some ad) c l w h0 (by omega) HC.out).mono ?_; rintro e w1 ⟨rfl, rfl⟩)
    | (go_at_call 93; refine (index_any (some ad) c l (minL l) K w m1 (by omega) HC.out H2.out H3.out).mono ?_; rintro e w1 ⟨rfl, rfl⟩))
  go_still_tail 6, (by kernel_rfl)
  change wpList _ _ _ _ _ w.drew
  have hD := HD.out
  have hT := HT.out
  simp only [Option.map_some, hdl, htl] at hD hT
  have q1 := Kd.C_alloc (Kd.C_drew hD) (.cells #[.slice (some (ad.add (K * (Kd.int .i64).sz))) (l.length - K) (c - K), .slice (some ad) K c] 22)
  have q2 := Kd.C_alloc (Kd.C_drew hT) (.cells #[.slice (some (ad.add (K * (Kd.int .i64).sz))) (l.length - K) (c - K), .slice (some ad) K c] 22)
  have q3 := Whole.new w.drew 22 #[.slice (some (ad.add (K * (Kd.int .i64).sz))) (l.length - K) (c - K), .slice (some ad) K c]
  have hk1 : K * (Kd.int .i64).sz = K := Nat.mul_one K
  rw [hk1] at q1 q2 q3
  have hq := concat_any w.drew.heap.size (ad.add K) ad (c - K) c (l.drop K) (l.take K) _ (by omega) (by omega) (by rw [hdl]; exact q1) (by rw [htl]; exact q2) (by rw [hdl, htl]; exact q3)
  have HQ := Lib.hid hq
  clear hD hT q1 q2 q3 hk1 hq hdl htl
  go_wp2_with (go_at_call 95; refine HQ.out.mono ?_; rintro e w2 ⟨v, rfl, hr, hb⟩; have HR := Lib.hid hr; have HB := Lib.hid hb; clear hr hb)
  go_ret
  have hr := HR.out
  have hb := HB.out
  refine ⟨_, rfl, ?_, ?_⟩
  · exact own_weaken hr (below_alloc (below_drew1 (Below.refl w.heap.size w)) _).size
  · exact below_then (below_alloc (below_drew1 (Below.refl w.heap.size w)) _) (below_alloc (below_drew1 (Below.refl w.heap.size w)) _).size hb
end Go.Proofs.Ytkjojcepombhpaa.L
