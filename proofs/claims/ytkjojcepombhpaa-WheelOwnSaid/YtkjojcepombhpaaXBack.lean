/- Back comes to what wheel_Back.f says; (rule).back. -/
import Derived.Test.YtkjojcepombhpaaXWhole
import Derived.Deep.RegionWith
namespace Go.Proofs.Ytkjojcepombhpaa.L
set_option linter.unusedVariables false
set_option linter.unusedSimpArgs false
open Go.RowKit Go.Shelf Go.Proofs.YtkjojcepombhpaaW.PrintWords Go.Proofs.YtkjojcepombhpaaW.PrintLast Go.Proofs.YtkjojcepombhpaaW.PrintMore

/-- The number with remainder r that is sent to y, if there is one. -/
def backAt (m : Int) (t p : List Int) (y r : Int) : Option Int :=
  if (m * y - rd p r).tmod (rd t r) = 0 ∧ ((m * y - rd p r).tdiv (rd t r)) % m = r then some ((m * y - rd p r).tdiv (rd t r)) else none
def backTo (m : Int) (t p : List Int) (y : Int) (k : Nat) : List Int := (List.range k).filterMap fun (j : Nat) => backAt m t p y (j : Int)
theorem backTo_succ (m : Int) (t p : List Int) (y : Int) (k : Nat) : backTo m t p y (k + 1) = match backAt m t p y (k : Int) with | some n => backTo m t p y k ++ [n] | none => backTo m t p y k := by
  unfold backTo
  rw [List.range_succ, List.filterMap_append]
  cases h : backAt m t p y (k : Int) <;> simp [h]
theorem backTo_length (m : Int) (t p : List Int) (y : Int) (k : Nat) : (backTo m t p y k).length ≤ k := by
  unfold backTo
  have := List.length_filterMap_le (fun j : Nat => backAt m t p y (j : Int)) (List.range k)
  simpa using this
def backW (m : Int) (t p : List Int) (y : Int) : List Int := (backTo m t p y t.length).mergeSort fun x y => decide (x ≤ y)
def wheel_Back.f (m : Int) (t p : List Int) (y : Int) : Option (List Int × Int) :=
  some (if ruleB m t p && smallB y then (if (backW m t p y).any (fun n => !smallB n) then ([], 5) else (backW m t p y, 0)) else ([], 2))

theorem not_small79 (k : Int) (w : World) : Calls Try.prog 79 #[.int .i64 k] w fun e w' => e = .returned (.bool (!smallB k)) ∧ w = w' := by
  go_enter Try.func79, Try.ntmps79
  go_wp2_with (go_at_call 59; refine (small_any _ _).mono ?_; rintro e w' ⟨rfl, rfl⟩)
  go_ret
  exact ⟨rfl, rfl⟩
theorem not_small78 (k : Int) (w : World) : Calls Try.prog 78 #[.int .i64 k] w fun e w' => e = .returned (.bool (!smallB k)) ∧ w = w' := by
  go_enter Try.func78, Try.ntmps78
  go_wp2_with (go_at_call 59; refine (small_any _ _).mono ?_; rintro e w' ⟨rfl, rfl⟩)
  go_ret
  exact ⟨rfl, rfl⟩
set_option maxHeartbeats 2000000 in
theorem index79_any (A : Option Addr) (c : Nat) (l : List Int) (w : World) (hl : l.length ≤ 100000) (hC : Kd.C (Kd.int .i64) w A l.length l) :
    Calls Try.prog 90 #[.slice A l.length c, .func (.func 79) #[] #[]] w fun e w' => (∃ r : Int, e = .returned (.int .i64 r) ∧ decide (0 ≤ r) = l.any (fun k => !smallB k)) ∧ w = w' := by
  have HC := Lib.hid hC
  clear hC
  go_enter Try.func90, Try.ntmps90
  go_wp2
  go_loopw [8] (fun i wr => ∃ k : Nat, k ≤ l.length ∧ i = .int .i64 k ∧ w = wr ∧ Hid (∀ j, j < k → (!smallB (rd l (j : Int))) = false)) (fun i _ => l.length - (intOf i).toNat)
  case atStart => exact ⟨0, Nat.zero_le _, rfl, rfl, Lib.hid (by omega)⟩
  case round =>
    obtain ⟨k, hk, rfl, rfl, HN⟩ := hrel
    by_cases hlt : k < l.length
    · obtain ⟨ad, rfl, hc0⟩ := Kd.at_int HC.out (k : Int) (by omega) (by omega)
      simp only [Int.toNat_natCast] at hc0
      have hno := HN.out
      have hmore : ∀ b, (!smallB (rd l (k : Int))) = b → b = false → ∀ j, j < k + 1 → (!smallB (rd l (j : Int))) = false := by
        intro b h1 h2 j hj
        by_cases e : j = k
        · subst e; rw [h1, h2]
        · exact hno j (by omega)
      have hend : ∀ b, (!smallB (rd l (k : Int))) = b → b = true → l.any (fun k => !smallB k) = true := fun b h1 h2 => any_at _ l k hlt (by rw [h1, h2])
      have hcall := not_small79 (rd l (k : Int)) w
      generalize (!smallB (rd l (k : Int))) = q at hcall hmore hend
      generalize rd l (k : Int) = x at hc0 hcall
      have HCALL := Lib.hid hcall
      have HMO := Lib.hid (hmore q rfl)
      have HEN := Lib.hid (hend q rfl)
      clear hcall hno hmore hend
      cases q
      · go_wp2_with (go_at_call 79; refine HCALL.out.mono ?_; rintro e w2 ⟨rfl, rfl⟩)
        exact ⟨⟨k + 1, by omega, by go_num, trivial, Lib.hid (HMO.out (by trivial))⟩, by simp [intOf]; omega⟩
      · go_wp2_with (go_at_call 79; refine HCALL.out.mono ?_; rintro e w2 ⟨rfl, rfl⟩)
        exact bodyPost_ret (v := .int .i64 (k : Int)) (by simp [results, Try.results90, go_sem]) rfl ⟨⟨k, rfl, by rw [HEN.out (by trivial)]; simp⟩, rfl⟩
    · obtain rfl : k = l.length := by omega
      have HX := Lib.hid (any_upTo (fun k => !smallB k) l HN.out)
      clear HN
      go_wp2
      exact bodyPost_ret (v := .int .i64 (-1)) (by simp [results, Try.results90, go_sem]) rfl ⟨⟨-1, rfl, by rw [HX.out]; rfl⟩, rfl⟩
theorem large79_any (A : Option Addr) (c : Nat) (l : List Int) (w : World) (hl : l.length ≤ 100000) (hC : Kd.C (Kd.int .i64) w A l.length l) :
    Calls Try.prog 77 #[.slice A l.length c, .func (.func 79) #[] #[]] w fun e w' => e = .returned (.bool (l.any (fun k => !smallB k))) ∧ w = w' := by
  have HI := Lib.hid (index79_any A c l w hl hC)
  clear hC
  generalize l.any (fun k => !smallB k) = q at HI
  go_enter Try.func77, Try.ntmps77
  go_wp2_with (go_at_call 90; refine HI.out.mono ?_; rintro e w2 ⟨⟨r, rfl, hr⟩, rfl⟩)
  go_ret
  exact ⟨by rw [← hr]; rfl, rfl⟩

section
variable {P : Program} {ops : Array Oper} {md : Region.Mode} {Q : Exit → Act → World → Prop}
/-- An operation taken first, the frame written out anew. -/
theorem takeP {i : Nat} {oi : Oper} {v : Value} {fuel : Nat} {listed : Array Bool} {a a' : Act} {w : World} (hi : ops[i]? = some oi)
    (hs : Region.noSelect ops = true) (hf : Region.free md ops listed i = true) (hr : (Region.ready md ops listed).contains i = true)
    (hQ : ∀ c a w, Q (.panic c) (a.put oi.dst v) w → Q (.panic c) a w) (hy : Yields P ops oi v a) (ha : a.put oi.dst v = a')
    (h : wpAny P md ops Q fuel (listed.setIfInBounds i true) a' w) : wpAny P md ops Q (fuel + 1) listed a w := by
  subst ha
  exact wpAny_take hi hs hf hr hQ hy h
end

/-- One number more behind a row. -/
theorem appendP (w : World) {ops : Array Oper} {rest : List Oper} {o : Oper} {a : Act} {Q : Exit → Act → World → Prop}
    (hg : o.guard = none) (s x : Operand) (hop : o.op = Op.call { callee := Callee.builtin Builtin.append, args := #[s, x], argTypes := #[22, 22] })
    (B : Nat) (v : Value) (xs : List Int) (hs : a.eval s = v) (hown : RowIs w B v xs) (g : Nat) (y : Int) (hx : a.eval x = .slice (some ⟨g, 0, none⟩) 1 1) (hc : w.cell? ⟨g, 0, none⟩ = some (.int .i64 y)) (hl : xs.length < 100000) (hB : B ≤ w.heap.size)
    (hK : ∀ v' w', RowIs w' B v' (xs ++ [y]) → w.grownBy w' v.ownBlock → (v'.ownBlock = v.ownBlock ∨ v'.ownBlock = some w.heap.size) → wpList Try.prog ops Q rest (a.put o.dst v') w') :
    wpList Try.prog ops Q (o :: rest) a w := by
  obtain ⟨i3, hi3, hz3, hs3, hb3⟩ := info_parts info3
  refine wpList_append_own_at w hg s x 22 hop B 3 i3 _ 1 8 Try.underlying22 hi3 hz3 hs3 hb3 rfl (by decide) v xs.length (encs (Value.int .i64) xs) hs hown ⟨g, 0, none⟩ 1 1 [.int .i64 y] hx rfl ?_ (by simp [Value.oneCell']) (by unfold maxLen; omega) (by omega) hB ?_
  · intro j u hu
    cases j with
    | zero => simp at hu; subst hu; simpa [Addr.add] using hc
    | succ j => simp at hu
  · intro v' w' h1 h2 _ h4
    refine hK v' w' ?_ h2 h4
    unfold RowIs
    rw [List.length_append]
    have e : encs (Value.int .i64) (xs ++ [y]) = encs (Value.int .i64) xs ++ [Value.int .i64 y] := by simp [encs]
    rw [e]
    exact h1

section
attribute [local irreducible] wpQuiet
set_option maxRecDepth 100000 in
set_option maxHeartbeats 8000000 in
theorem back_any (m : Int) (A1 A2 : Option Addr) (c1 c2 : Nat) (t p : List Int) (y : Int) (w : World) (hR : RuleIs m t p) (hy : smallB y = true) (h1 : Kd.C (Kd.int .i64) w A1 t.length t) (h2 : Kd.C (Kd.int .i64) w A2 p.length p) :
    Calls Try.prog 76 #[rv m (.slice A1 t.length c1) (.slice A2 p.length c2), .int .i64 y] w fun e w' => ∃ v : Value, e = .returned v ∧ RowIs w' (w.heap.size + 1) v (backW m t p y) ∧ Below w.heap.size w w' := by
  have HA := Lib.hid h1
  have HB := Lib.hid h2
  have hm := hR.m2
  have hm6 := hR.m6
  have htl := hR.tl
  have hpl := hR.pl
  have HR := Lib.hid hR
  have hys := (small_iff y).1 hy
  have hmy : -6597069766656 ≤ m * y ∧ m * y ≤ 6597069766656 := by
    refine ⟨?_, ?_⟩
    · have e1 := Int.mul_le_mul_of_nonneg_left hys.1 (show 0 ≤ m by omega)
      have e2 := Int.mul_le_mul_of_nonneg_right hm6 (show (0 : Int) ≤ 1099511627776 by decide)
      have e : m * -1099511627776 = -(m * 1099511627776) := Int.mul_neg ..
      omega
    · have e1 := Int.mul_le_mul_of_nonneg_left hys.2 (show 0 ≤ m by omega)
      have e2 := Int.mul_le_mul_of_nonneg_right hm6 (show (0 : Int) ≤ 1099511627776 by decide)
      omega
  clear h1 h2 hR hy hys
  go_enter Try.func76, Try.ntmps76
  go_wp2
  go_loopw [5, 12] (fun v i wr => ∃ k : Nat, k ≤ t.length ∧ i = .int .i64 k ∧ Below w.heap.size w wr ∧ Whole wr w.heap.size 75 #[.int .i64 m, .slice A1 t.length c1, .slice A2 p.length c2] ∧ RowIs wr (w.heap.size + 1) v (backTo m t p y k) ∧ w.heap.size + 1 ≤ wr.heap.size) (fun _ i _ => t.length - (intOf i).toNat)
  case atStart =>
    exact ⟨0, Nat.zero_le _, rfl, below_alloc (Below.refl _ _) _, Whole.new w 75 _, RowIs.nil _ _, by simp⟩
  case round =>
    obtain ⟨k, hk, rfl, hB, hG, hV, hsz⟩ := hrel
    have g0 := hG.cell 0
    have g1 := hG.cell 1
    have g2 := hG.cell 2
    simp only [List.getElem?_toArray, List.getElem?_cons_zero, List.getElem?_cons_succ] at g0 g1 g2
    by_cases hlt : k < t.length
    · obtain ⟨ad1, rfl, k1⟩ := Kd.at_int (Kd.C_below HA.out hB) (k : Int) (by omega) (by omega)
      obtain ⟨ad2, rfl, k2⟩ := Kd.at_int (Kd.C_below HB.out hB) (k : Int) (by omega) (by omega)
      simp only [Int.toNat_natCast] at k1 k2
      obtain ⟨q1, q2, _, q3, q4, _⟩ := HR.out.ok (k : Int) (by omega) (by omega)
      have hsucc := backTo_succ m t p y k
      have hlen := backTo_length m t p y k
      have HG := Lib.hid hG
      have HV := Lib.hid hV
      have HBL := Lib.hid hB
      clear hG hV hB
      unfold backAt at hsucc
      generalize rd t (k : Int) = a at *
      generalize rd p (k : Int) = b at *
      have w1 : wrap64 (m * y) = m * y := by unfold wrap64; omega
      obtain ⟨n, hn⟩ : ∃ n, m * y - b = n := ⟨_, rfl⟩
      rw [hn] at hsucc
      have w2 : wrap64 (m * y - b) = n := by unfold wrap64; omega
      have hnb : -6597069766706 ≤ n ∧ n ≤ 6597069766706 := by omega
      have w3 : wrap64 (n.tdiv a) = n.tdiv a := by
        have : (n.tdiv a).natAbs ≤ n.natAbs := by rw [Int.natAbs_tdiv]; exact Nat.div_le_self _ _
        unfold wrap64; omega
      have ha0 : ¬ a = 0 := by omega
      clear hn hnb hmy
      by_cases hd : n.tmod a = 0
      · obtain ⟨z, hz⟩ : ∃ z, n.tdiv a = z := ⟨_, rfl⟩
        rw [hz] at hsucc w3
        by_cases hr : z % m = (k : Int)
        · rw [if_pos ⟨hd, hr⟩] at hsucc
          have HSU := Lib.hid hsucc
          have HRT := Lib.hid (fun W => rest_any m (.slice (some ad1) t.length c1) (.slice (some ad2) p.length c2) z W rfl rfl hm hm6)
          rw [hr] at HRT
          have HW3 := Lib.hid (show IntKind.i64.wrap z = z from (i64_w z).trans w3)
          go_wp2
          go_quiet (fail)
          go_wp2
          refine wp_region_any (by kernel_rfl) ?_
          change wpAny _ _ _ _ _ _ _ (World.drew _)
          refine takeP (i := 0) (v := ?vp1) (a' := ?bp1) rfl (by kernel_rfl) (by kernel_rfl) (by kernel_rfl) (fun _ _ _ h => h) (Or.inl ⟨by rfl, ?hyp1⟩) ?hap1 ?_
          case hyp1 => (intro w; go_simp; try first | with_reducible rfl | omega)
          case hap1 => (go_simp; try with_reducible rfl)
          refine takeP (i := 1) (v := ?vp2) (a' := ?bp2) rfl (by kernel_rfl) (by kernel_rfl) (by kernel_rfl) (fun _ _ _ h => h) (Or.inl ⟨by rfl, ?hyp2⟩) ?hap2 ?_
          case hyp2 => (intro w; go_simp; try first | with_reducible rfl | omega)
          case hap2 => (go_simp; try with_reducible rfl)
          refine takeP (i := 2) (v := ?vp3) (a' := ?bp3) rfl (by kernel_rfl) (by kernel_rfl) (by kernel_rfl) (fun _ _ _ h => h) (Or.inl ⟨by rfl, ?hyp3⟩) ?hap3 ?_
          case hyp3 => (intro w; go_simp; try first | with_reducible rfl | omega)
          case hap3 => (go_simp; try with_reducible rfl)
          refine takeP (i := 3) (v := ?vp4) (a' := ?bp4) rfl (by kernel_rfl) (by kernel_rfl) (by kernel_rfl) (fun _ _ _ h => h) (Or.inl ⟨by rfl, ?hyp4⟩) ?hap4 ?_
          case hyp4 => (intro w; go_simp; try first | with_reducible rfl | omega)
          case hap4 => (go_simp; try with_reducible rfl)
          refine takeP (i := 4) (v := ?vp5) (a' := ?bp5) rfl (by kernel_rfl) (by kernel_rfl) (by kernel_rfl) (fun _ _ _ h => h) (Or.inl ⟨by rfl, ?hyp5⟩) ?hap5 ?_
          case hyp5 => (intro w; go_simp; try first | with_reducible rfl | omega)
          case hap5 => (go_simp; try with_reducible rfl)
          refine takeP (i := 6) (v := ?vp6) (a' := ?bp6) rfl (by kernel_rfl) (by kernel_rfl) (by kernel_rfl) (fun _ _ _ h => h) (Or.inl ⟨by rfl, ?hyp6⟩) ?hap6 ?_
          case hyp6 => (intro w; go_simp; try first | with_reducible rfl | omega)
          case hap6 => (go_simp; try with_reducible rfl)
          refine takeP (i := 7) (v := ?vp7) (a' := ?bp7) rfl (by kernel_rfl) (by kernel_rfl) (by kernel_rfl) (fun _ _ _ h => h) (Or.inl ⟨by rfl, ?hyp7⟩) ?hap7 ?_
          case hyp7 => (intro w; go_simp; try first | with_reducible rfl | omega)
          case hap7 => (go_simp; try with_reducible rfl)
          refine takeP (i := 8) (v := ?vp8) (a' := ?bp8) rfl (by kernel_rfl) (by kernel_rfl) (by kernel_rfl) (fun _ _ _ h => h) (Or.inl ⟨by rfl, ?hyp8⟩) ?hap8 ?_
          case hyp8 => (intro w; go_simp; try first | with_reducible rfl | omega)
          case hap8 => (go_simp; try with_reducible rfl)
          refine takeP (i := 10) (v := ?vp9) (a' := ?bp9) rfl (by kernel_rfl) (by kernel_rfl) (by kernel_rfl) (fun _ _ _ h => h) (Or.inl ⟨by rfl, ?hyp9⟩) ?hap9 ?_
          case hyp9 => (intro w; go_simp; try first | with_reducible rfl | omega)
          case hap9 => (go_simp; try with_reducible rfl)
          refine wpAny_ready (rs := [5]) (by kernel_rfl) (by simp) ?_
          refine AllReady.cons rfl (fun K hK => ?_) AllReady.nil
          go_simp
          refine hK _ _ ?_
          clear hK K
          refine wpAny_ready (rs := [9]) (by kernel_rfl) (by simp) ?_
          refine AllReady.cons rfl (fun K hK => ?_) AllReady.nil
          go_simp
          rw [HW3.out]
          refine (HRT.out _).mono ?_
          rintro e w4 ⟨rfl, hb⟩
          have HB4 := Lib.hid hb
          clear hb
          refine hK _ _ ?_
          clear hK K
          refine takeP (i := 11) (v := ?vp10) (a' := ?bp10) rfl (by kernel_rfl) (by kernel_rfl) (by kernel_rfl) (fun _ _ _ h => h) (Or.inl ⟨by rfl, ?hyp10⟩) ?hap10 ?_
          case hyp10 => (intro w; go_simp; try first | with_reducible rfl | omega)
          case hap10 => (go_simp; try with_reducible rfl)
          refine takeP (i := 12) (v := ?vp11) (a' := ?bp11) rfl (by kernel_rfl) (by kernel_rfl) (by kernel_rfl) (fun _ _ _ h => h) (Or.inl ⟨by rfl, ?hyp11⟩) ?hap11 ?_
          case hyp11 => (intro w; go_simp; try first | with_reducible rfl | omega)
          case hap11 => (go_simp; try with_reducible rfl)
          refine wpAny_done (by kernel_rfl) ?_ _
          have hgw : wr.grownBy w4 none := grown_of_below (Below.trans (pw_below_drewN (Below.refl _ _) _) HB4.out) none
          have hB4 : Below w.heap.size w w4 := HBL.out.trans ((Below.trans (pw_below_drewN (Below.refl _ _) _) HB4.out : Below wr.heap.size wr w4).mono HBL.out.size)
          have HV4 := Lib.hid (HV.out.own hgw (fun r e => by cases e))
          have HG4 := Lib.hid (HG.out.grown hgw (by simp))
          have HBW4 := Lib.hid hB4
          have hsz4 : w.heap.size + 1 ≤ w4.heap.size := Nat.le_trans hsz hgw.size
          clear hgw hB4
          go_wp2_with (at_builtin; refine appendP _ rfl (.tmp 40) (.tmp 44) rfl (w.heap.size + 1) _ (backTo m t p y k) rfl (HV4.out.alloc _) w4.heap.size z rfl (by simp) (by omega) (by simp; omega) ?_; intro v' w5 hrow hgrow hat; have hne := fun k e => ((HV4.out.block (k := k) e).1); have HG5 := Lib.hid ((HG4.out.alloc (.cells #[.int .i64 z] 3)).grown hgrow (fun e => by have := hne _ e.symm; omega)); have HB5 := Lib.hid ((below_alloc HBW4.out (.cells #[.int .i64 z] 3)).grown hgrow (below_alloc HBW4.out _).size (fun k e => by have := hne _ e; omega)); have hs5 := hgrow.size; have HR5 := Lib.hid hrow; clear hne hrow hgrow hat)
          exact ⟨⟨k + 1, by omega, by go_num, HB5.out, HG5.out, by rw [HSU.out]; exact HR5.out, by simp at hs5; omega⟩, by simp [intOf]; omega⟩
        · rw [if_neg (fun h => hr h.2)] at hsucc
          have HSU := Lib.hid hsucc
          obtain ⟨r, hrr⟩ : ∃ r, z % m = r := ⟨_, rfl⟩
          rw [hrr] at hr
          have HRT := Lib.hid (fun W => rest_any m (.slice (some ad1) t.length c1) (.slice (some ad2) p.length c2) z W rfl rfl hm hm6)
          rw [hrr] at HRT
          have HW3 := Lib.hid (show IntKind.i64.wrap z = z from (i64_w z).trans w3)
          have hrb : (r == (k : Int)) = false := beq_eq_false_iff_ne.2 hr
          clear hrr
          go_wp2
          go_quiet (fail)
          go_wp2
          refine wp_region_any (by kernel_rfl) ?_
          change wpAny _ _ _ _ _ _ _ (World.drew _)
          refine takeP (i := 0) (v := ?vp51) (a' := ?bp51) rfl (by kernel_rfl) (by kernel_rfl) (by kernel_rfl) (fun _ _ _ h => h) (Or.inl ⟨by rfl, ?hyp51⟩) ?hap51 ?_
          case hyp51 => (intro w; go_simp; try first | with_reducible rfl | omega)
          case hap51 => (go_simp; try with_reducible rfl)
          refine takeP (i := 1) (v := ?vp52) (a' := ?bp52) rfl (by kernel_rfl) (by kernel_rfl) (by kernel_rfl) (fun _ _ _ h => h) (Or.inl ⟨by rfl, ?hyp52⟩) ?hap52 ?_
          case hyp52 => (intro w; go_simp; try first | with_reducible rfl | omega)
          case hap52 => (go_simp; try with_reducible rfl)
          refine takeP (i := 2) (v := ?vp53) (a' := ?bp53) rfl (by kernel_rfl) (by kernel_rfl) (by kernel_rfl) (fun _ _ _ h => h) (Or.inl ⟨by rfl, ?hyp53⟩) ?hap53 ?_
          case hyp53 => (intro w; go_simp; try first | with_reducible rfl | omega)
          case hap53 => (go_simp; try with_reducible rfl)
          refine takeP (i := 3) (v := ?vp54) (a' := ?bp54) rfl (by kernel_rfl) (by kernel_rfl) (by kernel_rfl) (fun _ _ _ h => h) (Or.inl ⟨by rfl, ?hyp54⟩) ?hap54 ?_
          case hyp54 => (intro w; go_simp; try first | with_reducible rfl | omega)
          case hap54 => (go_simp; try with_reducible rfl)
          refine takeP (i := 4) (v := ?vp55) (a' := ?bp55) rfl (by kernel_rfl) (by kernel_rfl) (by kernel_rfl) (fun _ _ _ h => h) (Or.inl ⟨by rfl, ?hyp55⟩) ?hap55 ?_
          case hyp55 => (intro w; go_simp; try first | with_reducible rfl | omega)
          case hap55 => (go_simp; try with_reducible rfl)
          refine takeP (i := 6) (v := ?vp56) (a' := ?bp56) rfl (by kernel_rfl) (by kernel_rfl) (by kernel_rfl) (fun _ _ _ h => h) (Or.inl ⟨by rfl, ?hyp56⟩) ?hap56 ?_
          case hyp56 => (intro w; go_simp; try first | with_reducible rfl | omega)
          case hap56 => (go_simp; try with_reducible rfl)
          refine takeP (i := 7) (v := ?vp57) (a' := ?bp57) rfl (by kernel_rfl) (by kernel_rfl) (by kernel_rfl) (fun _ _ _ h => h) (Or.inl ⟨by rfl, ?hyp57⟩) ?hap57 ?_
          case hyp57 => (intro w; go_simp; try first | with_reducible rfl | omega)
          case hap57 => (go_simp; try with_reducible rfl)
          refine takeP (i := 8) (v := ?vp58) (a' := ?bp58) rfl (by kernel_rfl) (by kernel_rfl) (by kernel_rfl) (fun _ _ _ h => h) (Or.inl ⟨by rfl, ?hyp58⟩) ?hap58 ?_
          case hyp58 => (intro w; go_simp; try first | with_reducible rfl | omega)
          case hap58 => (go_simp; try with_reducible rfl)
          refine takeP (i := 10) (v := ?vp59) (a' := ?bp59) rfl (by kernel_rfl) (by kernel_rfl) (by kernel_rfl) (fun _ _ _ h => h) (Or.inl ⟨by rfl, ?hyp59⟩) ?hap59 ?_
          case hyp59 => (intro w; go_simp; try first | with_reducible rfl | omega)
          case hap59 => (go_simp; try with_reducible rfl)
          refine wpAny_ready (rs := [5]) (by kernel_rfl) (by simp) ?_
          refine AllReady.cons rfl (fun K hK => ?_) AllReady.nil
          go_simp
          refine hK _ _ ?_
          clear hK K
          refine wpAny_ready (rs := [9]) (by kernel_rfl) (by simp) ?_
          refine AllReady.cons rfl (fun K hK => ?_) AllReady.nil
          go_simp
          rw [HW3.out]
          refine (HRT.out _).mono ?_
          rintro e w4 ⟨rfl, hb⟩
          have HB4 := Lib.hid hb
          clear hb
          refine hK _ _ ?_
          clear hK K
          refine takeP (i := 11) (v := ?vp60) (a' := ?bp60) rfl (by kernel_rfl) (by kernel_rfl) (by kernel_rfl) (fun _ _ _ h => h) (Or.inl ⟨by rfl, ?hyp60⟩) ?hap60 ?_
          case hyp60 => (intro w; go_simp; try first | with_reducible rfl | omega)
          case hap60 => (go_simp; try with_reducible rfl)
          refine takeP (i := 12) (v := ?vp61) (a' := ?bp61) rfl (by kernel_rfl) (by kernel_rfl) (by kernel_rfl) (fun _ _ _ h => h) (Or.inl ⟨by rfl, ?hyp61⟩) ?hap61 ?_
          case hyp61 => (intro w; go_simp; try first | with_reducible rfl | omega)
          case hap61 => (go_simp; try with_reducible rfl)
          refine wpAny_done (by kernel_rfl) ?_ _
          have hgw : wr.grownBy w4 none := grown_of_below (Below.trans (pw_below_drewN (Below.refl _ _) _) HB4.out) none
          have hB4 : Below w.heap.size w w4 := HBL.out.trans ((Below.trans (pw_below_drewN (Below.refl _ _) _) HB4.out : Below wr.heap.size wr w4).mono HBL.out.size)
          have HV4 := Lib.hid (HV.out.own hgw (fun r e => by cases e))
          have HG4 := Lib.hid (HG.out.grown hgw (by simp))
          have HBW4 := Lib.hid hB4
          have hsz4 : w.heap.size + 1 ≤ w4.heap.size := Nat.le_trans hsz hgw.size
          clear hgw hB4
          go_wp2
          exact ⟨⟨k + 1, by omega, by go_num, HBW4.out, HG4.out, by rw [HSU.out]; exact HV4.out, hsz4⟩, by simp [intOf]; omega⟩
      · rw [if_neg (fun h => hd h.1)] at hsucc
        have HSU := Lib.hid hsucc
        go_wp2
        go_quiet (fail)
        go_wp2
        go_quiet (fail)
        go_wp2
        exact ⟨⟨k + 1, by omega, by go_num, pw_below_drewN HBL.out _, HG.out, by rw [HSU.out]; exact HV.out, hsz⟩, by simp [intOf]; omega⟩
    · obtain rfl : k = t.length := by omega
      have hlen := backTo_length m t p y t.length
      have HV := Lib.hid hV
      have HBL := Lib.hid hB
      clear hV hG hB
      go_wp2_with (go_at_call 69; refine (sort_own _ _ _ _ HV.out (by omega)).mono ?_; rintro e w3 ⟨rfl, hr, hg⟩; have HR3 := Lib.hid hr; have HG3 := Lib.hid hg; clear hr hg)
      have hne := fun k e => ((HV.out.block (k := k) e).1)
      have hB3 := HBL.out.grown HG3.out HBL.out.size (fun k e => by have := hne _ e; omega)
      clear hne
      go_ret
      exact ⟨_, rfl, HR3.out, hB3⟩
end
theorem backW_length {m : Int} {t p : List Int} (y : Int) : (backW m t p y).length ≤ t.length := by
  unfold backW
  rw [List.length_mergeSort]
  exact backTo_length _ _ _ _ _
set_option maxHeartbeats 2000000 in
theorem wheel_Back.calls (m : Int) (A1 : Option Addr) (c1 : Nat) (t : List Int) (A2 : Option Addr) (c2 : Nat) (p : List Int) (y : Int) (r1 : List Int) (r2 : Int) (w : World) (h1 : Kd.C (Kd.int .i64) w A1 t.length t) (hc1 : t.length ≤ c1) (h2 : Kd.C (Kd.int .i64) w A2 p.length p) (hc2 : p.length ≤ c2) (h : wheel_Back.f m t p y = some (r1, r2)) :
    Calls Try.prog 53 #[.agg #[.int .i64 m, .slice A1 t.length c1, .slice A2 p.length c2], .int .i64 y] w fun e w' => ∃ v0_ : Value, e = .returned (.tuple #[v0_, .int .i64 r2]) ∧ Kd.R (Kd.int .i64) 3 w' w.heap.size (fun _ => True) v0_ r1 ∧ Below w.heap.size w w' := by
  have HA := Lib.hid h1
  have HB := Lib.hid h2
  clear h1 h2 hc1 hc2
  simp only [wheel_Back.f, Option.some.injEq] at h
  obtain ⟨q, hq⟩ : ∃ q, ruleB m t p = q := ⟨_, rfl⟩
  have HQ := Lib.hid hq
  have B0 := below_alloc (Below.refl w.heap.size w) (rbox24 m (.slice A1 t.length c1) (.slice A2 p.length c2))
  have HN := Lib.hid (newRule_any m A1 A2 c1 c2 t p _ (Kd.C_below HA.out B0) (Kd.C_below HB.out B0))
  rw [hq] at h HN
  clear hq
  cases q
  · simp only [Bool.false_and, Bool.false_eq_true, if_false, Prod.mk.injEq] at h
    obtain ⟨rfl, rfl⟩ := h
    go_enter Try.func53, Try.ntmps53
    go_wp2_with (go_at_call 58; refine HN.out.mono ?_; rintro e w1 ⟨rfl, hb⟩; have HB1 := Lib.hid hb; clear hb)
    go_ret2
    exact ⟨_, rfl, Kd.R_nil _ _ _ _ _, below_alloc (below_then B0 B0.size HB1.out) _⟩
  · cases hs : smallB y
    · rw [hs] at h
      simp only [Bool.and_false, Bool.false_eq_true, if_false, Prod.mk.injEq] at h
      obtain ⟨rfl, rfl⟩ := h
      go_enter Try.func53, Try.ntmps53
      go_wp2_with (first
        | (go_at_call 58; refine HN.out.mono ?_; rintro e w1 ⟨rfl, hb⟩; have HB1 := Lib.hid hb; clear hb)
        | (go_at_call 59; refine (small_any _ _).mono ?_; rintro e w2 ⟨rfl, rfl⟩))
      go_ret2
      exact ⟨_, rfl, Kd.R_nil _ _ _ _ _, below_alloc (below_then B0 B0.size HB1.out) _⟩
    · have hR := ruleB_is HQ.out
      have hl := backW_length (m := m) (t := t) (p := p) y
      have htl := hR.tl
      have hm6 := hR.m6
      have HY := Lib.hid (fun W hA hB => back_any m A1 A2 c1 c2 t p y W hR hs hA hB)
      clear hR
      rw [hs] at h
      simp only [Bool.and_self, if_true] at h
      have HL := Lib.hid (fun A c W => large79_any A c (backW m t p y) W (by omega))
      generalize backW m t p y = row at *
      cases hs2 : row.any (fun n => !smallB n)
      all_goals
        rw [hs2] at h HL
        simp only [Bool.false_eq_true, if_false, if_true, Prod.mk.injEq] at h
        obtain ⟨rfl, rfl⟩ := h
        go_enter Try.func53, Try.ntmps53
        go_wp2_with (first
          | (go_at_call 58; refine HN.out.mono ?_; rintro e w1 ⟨rfl, hb⟩; have HB1 := Lib.hid (below_alloc (below_then B0 B0.size hb) (rbox m (.slice A1 t.length c1) (.slice A2 p.length c2))); clear hb)
          | (go_at_call 59; refine (small_any _ _).mono ?_; rintro e w2 ⟨rfl, rfl⟩)
          | (go_at_call 76; refine (HY.out _ (Kd.C_below HA.out HB1.out) (Kd.C_below HB.out HB1.out)).mono ?_; rintro e w2 ⟨v, rfl, hrow, hb⟩; obtain ⟨A3, c3, rfl, hc3, hC3⟩ := hrow.reads; have HB2 := Lib.hid (below_then HB1.out HB1.out.size hb); have HRW := Lib.hid hrow; have HC3 := Lib.hid hC3; have hsz := HB1.out.size; simp only [World.size_alloc] at hsz; clear hb hrow hC3)
          | (go_at_call 77; refine (HL.out _ _ _ HC3.out).mono ?_; rintro e w3 ⟨rfl, rfl⟩))
        go_ret2
        first
          | exact ⟨_, rfl, HRW.out.R (by simp only [World.size_alloc]; omega), HB2.out⟩
          | exact ⟨_, rfl, Kd.R_nil _ _ _ _ _, HB2.out⟩
end Go.Proofs.Ytkjojcepombhpaa.L
