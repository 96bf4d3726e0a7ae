/- gauge.newPowers: the powers of w. -/
import Derived.Test.YtkefmlhkejoknaaXEnds
import Derived.Test.YtkefmlhkejoknaaL33
import Derived.Test.YtkefmlhkejoknaaL34
import Derived.Laws.CopyOwn
namespace Go.Proofs.Ytkefmlhkejoknaa.L
set_option linter.unusedVariables false
set_option linter.unusedSimpArgs false
open Go.RowKit Go.Shelf Go.Proofs.YtkefmlhkejoknaaW.PrintWords Go.Proofs.YtkefmlhkejoknaaW.PrintLast Go.Proofs.YtkefmlhkejoknaaW.PrintMore

theorem info168 : (Try.prog.info? 168).map (fun i => (i.zero, i.size, i.bytes)) = some (some (.agg #[.int .i64 0, .int .i64 0]), 2, 16) := by kernel_rfl
theorem under210 : Try.prog.underlying 210 = some (.array 81 168) := by kernel_rfl
theorem info210 : (Try.prog.info? 210).map (·.size) = some 162 := by kernel_rfl
theorem under222 : Try.prog.underlying 222 = some (.slice 168) := by kernel_rfl
/-- copy between rows of elements of two cells. -/
theorem run_copy_two (P : Program) (w : World) (dT sT ty elem : TypeId) (g o dLen dCap : Nat) (a : Addr) (sLen sCap : Nat) (cur : Array Value) (t : TypeId) (cs : List Value)
    (hu : P.underlying dT = some (.slice elem)) (hs : (P.info? elem).map (·.size) = some 2)
    (hg : w.heap[g]? = some (.cells cur t (0, 0))) (hn : cs.length = Nat.min sLen dLen * 2)
    (hsrc : ∀ j v, cs[j]? = some v → w.cell? (a.add j) = some v) (hfit : o + cs.length ≤ cur.size) (h1 : ∀ v ∈ cs, v.oneCell' = true) :
    (Builtin.copy_ #[dT, sT] ty #[.slice (some ⟨g, o, none⟩) dLen dCap, .slice (some a) sLen sCap]).run P w =
      .ok (goInt (Nat.min sLen dLen)) (w.setRow g (cur.toList.take o ++ cs ++ cur.toList.drop (o + cs.length)).toArray) := by
  have hl := run_loadCells_list (P := P) w a cs hsrc
  have hst := run_storeCells_at P g o t cs 0 cur w hg (by simpa using hfit) h1
  rw [hn] at hl
  cases hq : P.info? elem with
  | none => simp [hq] at hs
  | some i =>
    have hi : i.size = 2 := by simpa [hq] using hs
    simp [Builtin.copy_, run_underlying hu, Builtin.lenOf, Builtin.firstCells, sizeOf, typeInfo, hq, hi, hl, hst]
theorem wpList_copy_two {P : Program} {w : World} {ops : Array Oper} {rest : List Oper} {o : Oper} {a : Act} {Q : Exit → Act → World → Prop} (hgd : o.guard = none) (d s : Operand) (dT sT : TypeId)
    (ho : o.op = .call { callee := .builtin .copy, args := #[d, s], argTypes := #[dT, sT] }) (elem : TypeId) (hu : P.underlying dT = some (.slice elem)) (hsz : (P.info? elem).map (·.size) = some 2)
    (g off dLen dCap : Nat) (ad : Addr) (sLen sCap : Nat) (hd : a.eval d = .slice (some ⟨g, off, none⟩) dLen dCap) (hs : a.eval s = .slice (some ad) sLen sCap)
    (cur : Array Value) (t : TypeId) (hg : w.heap[g]? = some (.cells cur t (0, 0))) (cs : List Value) (hn : cs.length = Nat.min sLen dLen * 2)
    (hsrc : ∀ j v, cs[j]? = some v → w.cell? (ad.add j) = some v) (hfit : off + cs.length ≤ cur.size) (h1 : ∀ v ∈ cs, v.oneCell' = true)
    (h : wpList P ops Q rest (a.put o.dst (goInt (Nat.min sLen dLen))) (w.setRow g (cur.toList.take off ++ (cs ++ cur.toList.drop (off + cs.length))).toArray)) : wpList P ops Q (o :: rest) a w := by
  refine wpList_plain hgd fun K hK => ?_
  have hrun := run_copy_two P w dT sT o.type elem g off dLen dCap ad sLen sCap cur t cs hu hsz hg hn hsrc hfit h1
  unfold Oper.wp
  simp [execOp, ho, resolve, invoke, builtin, hd, hs, hrun, Result.andThen]
  exact hK _ _ (by simpa using h)

/-- The powers, upwards and downwards. -/
def upW : Nat → Int × Int
  | 0 => (1, 0)
  | k + 1 => (gauge_product.f (upW k).1 (upW k).2 0 1).getD (0, 0)
def downW : Nat → Int × Int
  | 0 => (1, 0)
  | k + 1 => (gauge_product.f (downW k).1 (downW k).2 (-1) 1).getD (0, 0)
theorem upW_step (k : Nat) : gauge_product.f (upW k).1 (upW k).2 0 1 = some ((upW (k + 1)).1, (upW (k + 1)).2) := rfl
theorem downW_step (k : Nat) : gauge_product.f (downW k).1 (downW k).2 (-1) 1 = some ((downW (k + 1)).1, (downW (k + 1)).2) := rfl
def upL (k : Nat) : List (Int × Int) := (List.range k).map upW
def downL (k : Nat) : List (Int × Int) := (List.range k).map downW
theorem upL_succ (k : Nat) : upL (k + 1) = upL k ++ [upW k] := by simp [upL, List.range_succ]
theorem downL_succ (k : Nat) : downL (k + 1) = downL k ++ [downW k] := by simp [downL, List.range_succ]
theorem upL_len (k : Nat) : (upL k).length = k := by simp [upL]
theorem downL_len (k : Nat) : (downL k).length = k := by simp [downL]
theorem upL_at (k i : Nat) (h : i < k) : (upL k).getD i (0, 0) = upW i := by simp [upL, List.getD_eq_getElem?_getD, h]
theorem downL_at (k i : Nat) (h : i < k) : (downL k).getD i (0, 0) = downW i := by simp [downL, List.getD_eq_getElem?_getD, h]

theorem goldLit (w : World) (base : Nat) (a b : Int) (hb : base ≤ w.heap.size) : Kd.R kP 168 (w.alloc (.cells #[.int .i64 a, .int .i64 b] 168)) base (fun _ => True) (.slice (some ⟨w.heap.size, 0, none⟩) 1 1) [(a, b)] :=
  ⟨fun _ _ => trivial, [.int .i64 a, .int .i64 b], World.ownsRow_lit (base := base) w #[.int .i64 a, .int .i64 b] 1 hb (by simp [maxLen]) rfl, (Reps.none _ _).snoc (p := (a, b)) (c := [.int .i64 a, .int .i64 b]) (kP_mkM _ _ _ _) rfl⟩
theorem kP_E : kP.E = [] := rfl
structure GoldV (w : World) (A1 : Option Addr) (c1 n1 : Nat) (A2 : Option Addr) (c2 n2 : Nat) (W : World) : Prop where
  up : Kd.R kP 168 W w.heap.size (fun _ => True) (.slice A1 n1 c1) (upL n1)
  down : Kd.R kP 168 W w.heap.size (fun _ => True) (.slice A2 n2 c2) (downL n2)
  part : ∀ x, (Value.slice A1 n1 c1).ownBlock = some x → (Value.slice A2 n2 c2).ownBlock ≠ some x
  g : Whole W w.heap.size 210 Try.zeroCells210
  bel : Below w.heap.size w W
section
variable {w : World} {A1 : Option Addr} {c1 n1 : Nat} {A2 : Option Addr} {c2 n2 : Nat} {W W' : World} {v1 : Value}
theorem GoldV.below (h : GoldV w A1 c1 n1 A2 c2 n2 W) (hb : Below W.heap.size W W') : GoldV w A1 c1 n1 A2 c2 n2 W' :=
  ⟨Kd.R_below h.up hb, Kd.R_below h.down hb, h.part, h.g.below hb h.g.lt, h.bel.trans (hb.mono h.bel.size)⟩
theorem GoldV.row {v : Value} {xs : List (Int × Int)} (hR : Kd.R kP 168 W w.heap.size (fun _ => True) v xs) (hg : Whole W w.heap.size 210 Try.zeroCells210) : some w.heap.size ≠ v.ownBlock := by
  intro e
  obtain ⟨cs, hc⟩ := Kd.R_typed hR _ e.symm
  rw [show W.heap[_]? = _ from hg] at hc
  cases hc
theorem GoldV.upAppend (h : GoldV w A1 c1 n1 A2 c2 n2 W) (ho : Kd.R kP 168 W' w.heap.size (fun _ => True) v1 (upL n1 ++ [upW n1])) (hb : Below w.heap.size w W') (hg : W.grownBy W' (Value.slice A1 n1 c1).ownBlock) (hat : v1.ownBlock = (Value.slice A1 n1 c1).ownBlock ∨ ∃ b, v1.ownBlock = some b ∧ W.heap.size ≤ b) :
    ∃ A c, v1 = .slice A (n1 + 1) c ∧ GoldV w A c (n1 + 1) A2 c2 n2 W' := by
  rw [← upL_succ] at ho
  obtain ⟨A, c, rfl⟩ := Kd.R_slice ho
  rw [upL_len] at ho hat ⊢
  refine ⟨A, c, rfl, ho, Kd.R_grown2 h.down kP_E hg (fun k e e2 => h.part k e e2.symm), fun x hx hy => ?_, h.g.grown hg (GoldV.row h.up h.g), hb⟩
  rcases hat with e | ⟨b, e, hlt⟩
  · exact h.part x (e ▸ hx) hy
  · rw [e] at hx
    cases hx
    have := Kd.R_lt h.down _ hy
    omega
theorem GoldV.downAppend (h : GoldV w A1 c1 n1 A2 c2 n2 W) (ho : Kd.R kP 168 W' w.heap.size (fun _ => True) v1 (downL n2 ++ [downW n2])) (hb : Below w.heap.size w W') (hg : W.grownBy W' (Value.slice A2 n2 c2).ownBlock) (hat : v1.ownBlock = (Value.slice A2 n2 c2).ownBlock ∨ ∃ b, v1.ownBlock = some b ∧ W.heap.size ≤ b) :
    ∃ A c, v1 = .slice A (n2 + 1) c ∧ GoldV w A1 c1 n1 A c (n2 + 1) W' := by
  rw [← downL_succ] at ho
  obtain ⟨A, c, rfl⟩ := Kd.R_slice ho
  rw [downL_len] at ho hat ⊢
  refine ⟨A, c, rfl, Kd.R_grown2 h.up kP_E hg (fun k e e2 => h.part k e2.symm e), ho, fun x hx hy => ?_, h.g.grown hg (GoldV.row h.down h.g), hb⟩
  rcases hat with e | ⟨b, e, hlt⟩
  · exact h.part x hx (e ▸ hy)
  · rw [e] at hy
    cases hy
    have := Kd.R_lt h.up _ hx
    omega
theorem GoldV.downAt {ad : Addr} (h : GoldV w A1 c1 n1 (some ad) c2 n2 W) (i : Nat) (hi : i < n2) : W.cell? (ad.add (i * 2)) = some (.int .i64 (downW i).1) ∧ W.cell? ⟨(ad.add (i * 2)).block, (ad.add (i * 2)).off + 1, none⟩ = some (.int .i64 (downW i).2) := by
  have hr2 := (Kd.R_reads' h.down).2.2
  rw [downL_len] at hr2
  obtain ⟨ad2, e, q0, q1⟩ := at_P hr2 (i : Int) (by omega) (by omega)
  cases e
  simp only [Int.toNat_natCast] at q0 q1
  rw [downL_at _ _ hi] at q0 q1
  exact ⟨q0, q1⟩
theorem GoldV.inner {ad : Addr} (h : GoldV w (some ad) c1 n1 A2 c2 n2 W) : ∃ us : List Value, us.length = n1 * 2 ∧ (∀ j u, us[j]? = some u → W.cell? (ad.add j) = some u) ∧ (∀ i, i < n1 → us[i * 2]? = some (.int .i64 (upW i).1) ∧ us[i * 2 + 1]? = some (.int .i64 (upW i).2)) ∧ ∀ u ∈ us, u.oneCell' = true := by
  obtain ⟨_, us, ho, hr⟩ := h.up
  have hl : us.length = n1 * 2 := by have := ho.1; rw [upL_len] at this; exact this
  have hat : ∀ i, i < n1 → us[i * 2]? = some (.int .i64 (upW i).1) ∧ us[i * 2 + 1]? = some (.int .i64 (upW i).2) := by
    intro i hi
    have hp : (upL n1)[i]? = some (upW i) := by simp [upL, hi]
    have h2 := kP_open (kP.K_of_M (hr.2 i _ hp))
    have e0 : ((us.drop (i * 2)).take 2)[0]? = us[i * 2]? := by rw [List.getElem?_take_of_lt (by omega), List.getElem?_drop]; rfl
    have e1 : ((us.drop (i * 2)).take 2)[1]? = us[i * 2 + 1]? := by rw [List.getElem?_take_of_lt (by omega), List.getElem?_drop]
    rw [← e0, ← e1, show (us.drop (i * 2)).take 2 = [.int .i64 (upW i).1, .int .i64 (upW i).2] from h2]
    exact ⟨rfl, rfl⟩
  have hcells : ∀ j u, us[j]? = some u → W.cell? (ad.add j) = some u := by
    rcases ho.2 with ⟨e, _⟩ | ⟨g, cap, cur, e, _⟩
    · cases e
    · injection e with e1 e2 e3
      injection e1 with e1
      subst e1
      exact ho.cells rfl
  refine ⟨us, hl, hcells, hat, fun u hu => ?_⟩
  obtain ⟨j, hj, rfl⟩ := List.mem_iff_getElem.1 hu
  have hi : j / 2 < n1 := by omega
  obtain ⟨a, b⟩ := hat (j / 2) hi
  rcases Nat.mod_two_eq_zero_or_one j with h0 | h0
  · rw [show j / 2 * 2 = j by omega, List.getElem?_eq_getElem hj] at a
    rw [Option.some.inj a]; rfl
  · rw [show j / 2 * 2 + 1 = j by omega, List.getElem?_eq_getElem hj] at b
    rw [Option.some.inj b]; rfl
end
/-- The array of powers, as far as it is asked. -/
def GoodC (C : Array Value) : Prop := C.size = 162 ∧ C.all (·.oneCell') = true ∧ ∀ i, i ≤ 40 → C[80 + i * 2]? = some (.int .i64 (upW i).1) ∧ C[80 + i * 2 + 1]? = some (.int .i64 (upW i).2)
theorem zero210 : Try.zeroCells210.size = 162 ∧ Try.zeroCells210.all (·.oneCell') = true := ⟨by kernel_rfl, by kernel_rfl⟩
theorem GoodC.copied (us : List Value) (hl : us.length = 41 * 2) (hat : ∀ i, i < 41 → us[i * 2]? = some (.int .i64 (upW i).1) ∧ us[i * 2 + 1]? = some (.int .i64 (upW i).2)) (h1 : ∀ u ∈ us, u.oneCell' = true) : GoodC (Try.zeroCells210.toList.take 80 ++ (us ++ Try.zeroCells210.toList.drop (80 + us.length))).toArray := by
  obtain ⟨z1, z2⟩ := zero210
  have hz : Try.zeroCells210.toList.length = 162 := by rw [Array.length_toList]; exact z1
  refine ⟨by simp [hl, z1], ?_, fun i hi => ?_⟩
  · rw [Array.all_eq_true_iff_forall_mem] at z2 ⊢
    intro x hx
    simp only [List.mem_toArray, List.mem_append] at hx
    rcases hx with hx | hx | hx
    · exact z2 x (by simpa using List.mem_of_mem_take hx)
    · exact h1 x hx
    · exact z2 x (by simpa using List.mem_of_mem_drop hx)
  · have hlt : (Try.zeroCells210.toList.take 80).length = 80 := by simp [z1]
    obtain ⟨a, b⟩ := hat i (by omega)
    have key : ∀ j, j < us.length → (Try.zeroCells210.toList.take 80 ++ (us ++ Try.zeroCells210.toList.drop (80 + us.length))).toArray[80 + j]? = us[j]? := by
      intro j hj
      rw [List.getElem?_toArray, List.getElem?_append_right (by omega), hlt, Nat.add_sub_cancel_left, List.getElem?_append_left hj]
    exact ⟨(key _ (by omega)).trans a, (key (i * 2 + 1) (by omega)).trans b⟩
theorem GoodC.put {C : Array Value} (h : GoodC C) (k : Nat) (hk : k < 41) : GoodC ((C.setIfInBounds ((40 - k) * 2) (.int .i64 (downW k).1)).setIfInBounds ((40 - k) * 2 + 1) (.int .i64 (downW k).2)) := by
  obtain ⟨h1, h2, h3⟩ := h
  refine ⟨by simp [h1], ?_, fun i hi => ?_⟩
  · rw [Array.all_eq_true_iff_forall_mem] at h2 ⊢
    intro x hx
    rcases Array.mem_or_eq_of_mem_setIfInBounds hx with hx | rfl
    · rcases Array.mem_or_eq_of_mem_setIfInBounds hx with hx | rfl
      · exact h2 x hx
      · rfl
    · rfl
  · obtain ⟨a, b⟩ := h3 i hi
    by_cases hk0 : k = 0
    · subst hk0
      by_cases hi0 : i = 0
      · subst hi0
        have e : downW 0 = upW 0 := rfl
        rw [e]
        simp [Array.getElem?_setIfInBounds, h1]
      · simp only [Array.getElem?_setIfInBounds]
        rw [if_neg (by omega), if_neg (by omega), if_neg (by omega), if_neg (by omega)]
        exact ⟨a, b⟩
    · simp only [Array.getElem?_setIfInBounds]
      rw [if_neg (by omega), if_neg (by omega), if_neg (by omega), if_neg (by omega)]
      exact ⟨a, b⟩

set_option maxRecDepth 100000 in
set_option maxHeartbeats 4000000 in
theorem newPowers_any (w : World) : Calls Try.prog 173 #[] w fun e w' => ∃ cs : Array Value, e = .returned (.agg cs) ∧ cs.size = 162 ∧ cs.all (·.oneCell') = true ∧ (∀ i, i ≤ 40 → cs[80 + i * 2]? = some (.int .i64 (upW i).1) ∧ cs[80 + i * 2 + 1]? = some (.int .i64 (upW i).2)) ∧ Below w.heap.size w w' := by
  have hP := fun k W => gauge_product.calls (upW k).1 (upW k).2 0 1 _ _ W (upW_step k)
  have hD := fun k W => gauge_product.calls (downW k).1 (downW k).2 (-1) 1 _ _ W (downW_step k)
  have HP := Lib.hid hP; have HD := Lib.hid hD
  clear hP hD
  go_enter Try.func173, Try.ntmps173
  go_wp2
  have hV0 : GoldV w (some ⟨w.heap.size + 1, 0, none⟩) 1 1 (some ⟨w.heap.size + 1 + 1, 0, none⟩) 1 1 (((w.alloc (.cells Try.zeroCells210 210)).alloc (.cells #[.int .i64 1, .int .i64 0] 168)).alloc (.cells #[.int .i64 1, .int .i64 0] 168)) := by
    have e1 := goldLit (w.alloc (.cells Try.zeroCells210 210)) w.heap.size 1 0 (by simp)
    have e2 := goldLit ((w.alloc (.cells Try.zeroCells210 210)).alloc (.cells #[.int .i64 1, .int .i64 0] 168)) w.heap.size 1 0 (by simp; omega)
    rw [World.size_alloc] at e1
    rw [World.size_alloc, World.size_alloc] at e2
    refine ⟨Kd.R_alloc e1 _, e2, ?_, ((Whole.new w 210 _).alloc _).alloc _, below_alloc (below_alloc (below_alloc (Below.refl _ _) _) _) _⟩
    intro x hx hy
    simp [Value.ownBlock] at hx hy
    omega
  have HV0 := Lib.hid hV0
  clear hV0
  go_loopw [11, 1, 2] (fun iv v1 v2 wr => ∃ (k : Nat) (A1 : Option Addr) (c1 : Nat) (A2 : Option Addr) (c2 : Nat), k ≤ 40 ∧ iv = .int .i64 k ∧ v1 = .slice A1 (k + 1) c1 ∧ v2 = .slice A2 (k + 1) c2 ∧ Hid (GoldV w A1 c1 (k + 1) A2 c2 (k + 1) wr)) (fun iv _ _ _ => 40 - (intOf iv).toNat)
  case atStart => exact ⟨0, _, _, _, _, by omega, rfl, rfl, rfl, HV0⟩
  case round =>
    obtain ⟨k, A1, c1, A2, c2, hk, rfl, rfl, rfl, HV⟩ := hrel
    by_cases hlt : k < 40
    · have hr1 := (Kd.R_reads' HV.out.up).2.2
      have hr2 := (Kd.R_reads' HV.out.down).2.2
      rw [upL_len] at hr1
      rw [downL_len] at hr2
      obtain ⟨ad1, rfl, p0, p1⟩ := at_P hr1 (k : Int) (by omega) (by omega)
      obtain ⟨ad2, rfl, q0, q1⟩ := at_P hr2 (k : Int) (by omega) (by omega)
      simp only [Int.toNat_natCast] at p0 p1 q0 q1
      rw [upL_at _ _ (by omega)] at p0 p1
      rw [downL_at _ _ (by omega)] at q0 q1
      have HPk := Lib.hid (HP.out k); have HDk := Lib.hid (HD.out k)
      have hltI : (k : Int) < 40 := by omega
      have hkk : (k : Int) < (k : Int) + 1 := by omega
      clear hr1 hr2
      have hr2 := (Kd.R_reads' HV.out.down).2.2
      go_wp2_with (first
        | (go_at_call 184; with_reducible refine (HPk.out _).mono ?_; rintro e w2 ⟨rfl, hb⟩; have HV2 := Lib.hid (HV.out.below hb); clear hb)
        | ((with_reducible refine gate_builtin (b := .append) (xs := #[.tmp 14, .tmp 21]) rfl ?_); at_builtin; refine Kd.R_append kP (w0 := w) w.heap.size rfl (.tmp 14) (.tmp 21) 222 168 (.agg #[.int .i64 0, .int .i64 0]) 16 rfl under222 info168 rfl (by decide) (by omega) (.slice (some ad1) (k + 1) c1) (upL (k + 1)) (upW (k + 1)) [.int .i64 (upW (k + 1)).1, .int .i64 (upW (k + 1)).2] (fun _ => True) (fun _ => False) rfl rfl ?aP (fun _ hk => hk.elim) ?aF ?aO ?aB ?aS ?aL ?_; (case aP => exact kP_mkM _ _ _ _); (case aF => exact fun _ _ => trivial); (case aO => exact HV2.out.up); (case aB => exact HV2.out.bel); (case aS => exact HV2.out.bel.size); (case aL => rw [upL_len]; omega); intro v3 w3 ho hb hg hat; obtain ⟨A3, k3, rfl, hv3⟩ := HV2.out.upAppend ho hb hg hat; have HV3 := Lib.hid hv3; obtain ⟨q2, q3⟩ := hv3.downAt k (by omega); clear ho hb hg hat hv3)
        | (go_at_call 184; with_reducible refine (HDk.out _).mono ?_; rintro e w4 ⟨rfl, hb⟩; have HV4 := Lib.hid (HV3.out.below hb); clear hb)
        | ((with_reducible refine gate_builtin (b := .append) (xs := #[.tmp 23, .tmp 30]) rfl ?_); at_builtin; refine Kd.R_append kP (w0 := w) w.heap.size rfl (.tmp 23) (.tmp 30) 222 168 (.agg #[.int .i64 0, .int .i64 0]) 16 rfl under222 info168 rfl (by decide) (by omega) (.slice (some ad2) (k + 1) c2) (downL (k + 1)) (downW (k + 1)) [.int .i64 (downW (k + 1)).1, .int .i64 (downW (k + 1)).2] (fun _ => True) (fun _ => False) rfl rfl ?aP (fun _ hk => hk.elim) ?aF ?aO ?aB ?aS ?aL ?_; (case aP => exact kP_mkM _ _ _ _); (case aF => exact fun _ _ => trivial); (case aO => exact HV4.out.down); (case aB => exact HV4.out.bel); (case aS => exact HV4.out.bel.size); (case aL => rw [downL_len]; omega); intro v5 w5 ho hb hg hat; obtain ⟨A5, k5, rfl, hv5⟩ := HV4.out.downAppend ho hb hg hat; have HV5 := Lib.hid hv5; clear ho hb hg hat hv5))
      exact ⟨⟨k + 1, A3, k3, A5, k5, by omega, by go_num, rfl, rfl, HV5⟩, by simp [intOf]; omega⟩
    · obtain rfl : k = 40 := by omega
      have hr1 := (Kd.R_reads' HV.out.up).2.2
      rw [upL_len] at hr1
      obtain ⟨ad1, rfl, _, _⟩ := at_P hr1 (0 : Int) (by omega) (by omega)
      obtain ⟨us, hul, huc, hua, hu1⟩ := HV.out.inner
      have HUL := Lib.hid hul; have HUA := Lib.hid hua; have HU1 := Lib.hid hu1
      have hal := fun j u (hj : us[j]? = some u) => (below_alloc (Below.refl wr.heap.size wr) (.cells Try.zeroCells210 210)).cell (p := ad1.add j) (by
        have := huc j u hj
        exact block_lt_of_cell this) |>.trans (huc j u hj)
      have HAL := Lib.hid hal
      have HZ := Lib.hid (Whole.new wr 210 Try.zeroCells210)
      have HG1 := Lib.hid (GoodC.copied us hul hua hu1)
      have HB0 := Lib.hid (below_alloc (Below.refl wr.heap.size wr) (.cells Try.zeroCells210 210))
      clear hr1 huc hal hul hua hu1
      obtain ⟨wr0, hwr⟩ : ∃ X, X = wr := ⟨_, rfl⟩
      subst hwr
      go_wp2_with ((with_reducible refine gate_builtin (b := .copy) (xs := #[.tmp 33, .tmp 34]) rfl ?_); (refine wpList_copy_two rfl (.tmp 33) (.tmp 34) 222 222 rfl 168 under222 (by kernel_rfl) wr0.heap.size 80 41 41 ad1 41 c1 rfl rfl Try.zeroCells210 210 HZ.out us (by rw [HUL.out]; rfl) HAL.out (by rw [HUL.out, zero210.1]; decide) HU1.out ?_); have HC1 := Lib.hid (show Whole ((wr0.alloc (.cells Try.zeroCells210 210)).setRow wr0.heap.size (Try.zeroCells210.toList.take 80 ++ (us ++ Try.zeroCells210.toList.drop (80 + us.length))).toArray) wr0.heap.size 210 _ from setRow_heap _ _ _ _ _ _ HZ.out); have HB1 := Lib.hid (below_setRow HB0.out (Nat.le_refl _) (Try.zeroCells210.toList.take 80 ++ (us ++ Try.zeroCells210.toList.drop (80 + us.length))).toArray))
      generalize (wr0.alloc (Obj.cells Try.zeroCells210 210)).setRow wr0.heap.size (List.take 80 Try.zeroCells210.toList ++ (us ++ List.drop (80 + us.length) Try.zeroCells210.toList)).toArray = W1 at HC1 HB1 ⊢
      generalize (Try.zeroCells210.toList.take 80 ++ (us ++ Try.zeroCells210.toList.drop (80 + us.length))).toArray = C0 at HC1 HG1
      clear HUL HUA HU1 HAL HZ HB0
      go_loopw [38] (fun iv W => ∃ (k : Nat) (C : Array Value), k ≤ 41 ∧ iv = .int .i64 k ∧ Hid (Whole W wr0.heap.size 210 C) ∧ Hid (GoodC C) ∧ Hid (Below wr0.heap.size wr0 W)) (fun iv _ => 41 - (intOf iv).toNat)
      case atStart => exact ⟨0, C0, by omega, rfl, HC1, HG1, HB1⟩
      case round =>
        obtain ⟨k, C, hk, rfl, HC, HG, HB⟩ := hrel
        by_cases hlt : k < 41
        · have hv := HV.out.below HB.out
          have hr2 := (Kd.R_reads' hv.down).2.2
          rw [downL_len] at hr2
          obtain ⟨ad2, rfl, _, _⟩ := at_P hr2 (k : Int) (by omega) (by omega)
          obtain ⟨q0, q1⟩ := hv.downAt k hlt
          have hltI : (k : Int) < 41 := by omega
          have hsz := HG.out.1
          have hk0 : (40 - k) * 2 < C.size := by omega
          have hk1 : (40 - k) * 2 + 1 < C.size := by omega
          have c0 : wr.cell? ⟨wr0.heap.size, (40 - k) * 2, none⟩ = some C[(40 - k) * 2] := by rw [HC.out.cell, Array.getElem?_eq_getElem hk0]
          have c1 : wr.cell? ⟨wr0.heap.size, (40 - k) * 2 + 1, none⟩ = some C[(40 - k) * 2 + 1] := by rw [HC.out.cell, Array.getElem?_eq_getElem hk1]
          have f0 := HC.out.frozen ((40 - k) * 2)
          have f1 := HC.out.frozen ((40 - k) * 2 + 1)
          have hlp := HC.out.lt
          generalize C[(40 - k) * 2] = z0 at c0
          generalize C[(40 - k) * 2 + 1] = z1 at c1
          clear hv hr2 hsz hk0 hk1
          go_wp2
          exact ⟨⟨k + 1, _, by omega, by go_num, Lib.hid (((HC.out.set _ _).set _ _).alloc _), Lib.hid (HG.out.put k hlt), Lib.hid (below_alloc (Below.setAt (Below.setAt HB.out (Nat.le_refl _) _ _) (Nat.le_refl _) _ _) _)⟩, by simp [intOf]; omega⟩
        · obtain rfl : k = 41 := by omega
          have HGW := Lib.hid (HV.out.g.below HB.out HV.out.g.lt)
          have HBW := Lib.hid (HV.out.bel.trans (HB.out.mono HV.out.bel.size))
          have hsz := HG.out.1
          go_wp2_with (first
            | (refine wpList_load_row rfl 210 (.tmp 4) rfl wr0.heap.size rfl 210 C (0, 0) _ HC.out under210 rfl (by rw [info210, HG.out.1]) ?_)
            | (refine wpList_store_row rfl 210 (.tmp 0) (.tmp 48) rfl w.heap.size C rfl rfl 210 _ HGW.out (by rw [info210, HG.out.1]) (by rw [HG.out.1]; exact zero210.1) HG.out.2.1 ?_))
          refine bodyPost_ret (results_cell_row (by rfl) _ _ w.heap.size 210 C (0, 0) _ (by rfl) (setRow_heap _ _ _ _ _ _ HGW.out) under210 rfl (by rw [info210, HG.out.1])) rfl ⟨C, rfl, HG.out.1, HG.out.2.1, HG.out.2.2, below_setRow HBW.out (Nat.le_refl _) _⟩
end Go.Proofs.Ytkefmlhkejoknaa.L
