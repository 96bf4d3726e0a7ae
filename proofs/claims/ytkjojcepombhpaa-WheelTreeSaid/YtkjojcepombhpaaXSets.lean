/- Sets comes to what wheel_Sets.f says. -/
import Derived.Test.YtkjojcepombhpaaXBack
import Derived.Laws.AppendOwnNone
namespace Go.Proofs.Ytkjojcepombhpaa.L
set_option linter.unusedVariables false
set_option linter.unusedSimpArgs false
open Go.RowKit Go.Shelf Go.Proofs.YtkjojcepombhpaaW.PrintWords Go.Proofs.YtkjojcepombhpaaW.PrintLast Go.Proofs.YtkjojcepombhpaaW.PrintMore

/-- The numbers that are sent to one of these. -/
def nextW (m : Int) (t p : List Int) (now : List Int) : List Int := now.flatMap (backW m t p)
/-- Depth by depth; none: too many, or a large one. -/
def setsGo (m : Int) (t p : List Int) : Nat → List Int → List Int → Option (List Int)
  | 0, _, out => some out
  | d + 1, now, out => if 10000 < (nextW m t p now).length ∨ (nextW m t p now).any (fun n => !smallB n) = true then none else setsGo m t p d (nextW m t p now) (out ++ [((nextW m t p now).length : Int)])
def wheel_Sets.f (m : Int) (t p : List Int) (y depth : Int) : Option (List Int × Int) :=
  some (if ruleB m t p && (smallB y && inB depth 0 8) then (match setsGo m t p depth.toNat [y] [1] with | some l => (l, 0) | none => ([], 5)) else ([], 2))

set_option maxHeartbeats 2000000 in
theorem index78_any (A : Option Addr) (c : Nat) (l : List Int) (w : World) (hl : l.length ≤ 100000) (hC : Kd.C (Kd.int .i64) w A l.length l) :
    Calls Try.prog 90 #[.slice A l.length c, .func (.func 78) #[] #[]] w fun e w' => (∃ r : Int, e = .returned (.int .i64 r) ∧ decide (0 ≤ r) = l.any (fun k => !smallB k)) ∧ w = w' := by
  have HC := Lib.hid hC
  clear hC
  go_enter Try.func90, Try.ntmps90
  go_wp2
  go_loopw [8] (fun i wr => ∃ k : Nat, k ≤ l.length ∧ i = .int .i64 k ∧ w = wr ∧ Hid (∀ j, j < k → (!smallB (rd l (j : Int))) = false)) (fun i _ => l.length - (intOf i).toNat)
  case atStart => exact ⟨0, Nat.zero_le _, rfl, rfl, Lib.hid (by omega)⟩
  case round =>
    obtain ⟨k, hk, rfl, rfl, HN⟩ := hrel
    by_cases hlt : k < l.length
    · obtain ⟨ad, rfl, hc0⟩ := Kd.at_int HC.out (k : Int) (by omega) (by omega)
      simp only [Int.toNat_natCast] at hc0
      have hno := HN.out
      have hmore : ∀ b, (!smallB (rd l (k : Int))) = b → b = false → ∀ j, j < k + 1 → (!smallB (rd l (j : Int))) = false := by
        intro b h1 h2 j hj
        by_cases e : j = k
        · subst e; rw [h1, h2]
        · exact hno j (by omega)
      have hend : ∀ b, (!smallB (rd l (k : Int))) = b → b = true → l.any (fun k => !smallB k) = true := fun b h1 h2 => any_at _ l k hlt (by rw [h1, h2])
      have hcall := not_small78 (rd l (k : Int)) w
      generalize (!smallB (rd l (k : Int))) = q at hcall hmore hend
      generalize rd l (k : Int) = x at hc0 hcall
      have HCALL := Lib.hid hcall
      have HMO := Lib.hid (hmore q rfl)
      have HEN := Lib.hid (hend q rfl)
      clear hcall hno hmore hend
      cases q
      · go_wp2_with (go_at_call 78; refine HCALL.out.mono ?_; rintro e w2 ⟨rfl, rfl⟩)
        exact ⟨⟨k + 1, by omega, by go_num, trivial, Lib.hid (HMO.out (by trivial))⟩, by simp [intOf]; omega⟩
      · go_wp2_with (go_at_call 78; refine HCALL.out.mono ?_; rintro e w2 ⟨rfl, rfl⟩)
        exact bodyPost_ret (v := .int .i64 (k : Int)) (by simp [results, Try.results90, go_sem]) rfl ⟨⟨k, rfl, by rw [HEN.out (by trivial)]; simp⟩, rfl⟩
    · obtain rfl : k = l.length := by omega
      have HX := Lib.hid (any_upTo (fun k => !smallB k) l HN.out)
      clear HN
      go_wp2
      exact bodyPost_ret (v := .int .i64 (-1)) (by simp [results, Try.results90, go_sem]) rfl ⟨⟨-1, rfl, by rw [HX.out]; rfl⟩, rfl⟩
theorem large78_any (A : Option Addr) (c : Nat) (l : List Int) (w : World) (hl : l.length ≤ 100000) (hC : Kd.C (Kd.int .i64) w A l.length l) :
    Calls Try.prog 77 #[.slice A l.length c, .func (.func 78) #[] #[]] w fun e w' => e = .returned (.bool (l.any (fun k => !smallB k))) ∧ w = w' := by
  have HI := Lib.hid (index78_any A c l w hl hC)
  clear hC
  generalize l.any (fun k => !smallB k) = q at HI
  go_enter Try.func77, Try.ntmps77
  go_wp2_with (go_at_call 90; refine HI.out.mono ?_; rintro e w2 ⟨⟨r, rfl, hr⟩, rfl⟩)
  go_ret
  exact ⟨by rw [← hr]; rfl, rfl⟩
/-- Two rows that do not share memory. -/
def Sep (v u : Value) : Prop := ∀ k, v.ownBlock = some k → u.ownBlock ≠ some k
theorem Sep.symm {v u : Value} (h : Sep v u) : Sep u v := fun k e e2 => h k e2 e
theorem Sep.none {u : Value} : Sep (.slice none 0 0) u := fun k e => by cases e
/-- A row of the call's own behind a row of its own. -/
theorem appendRow (w : World) {ops : Array Oper} {rest : List Oper} {o : Oper} {a : Act} {Q : Exit → Act → World → Prop}
    (hg : o.guard = none) (s x : Operand) (hop : o.op = Op.call { callee := Callee.builtin Builtin.append, args := #[s, x], argTypes := #[22, 22] })
    (B : Nat) (v : Value) (xs : List Int) (hs : a.eval s = v) (hown : RowIs w B v xs) (B2 : Nat) (xv : Value) (ys : List Int) (hx : a.eval x = xv) (hrow : RowIs w B2 xv ys) (hl : xs.length ≤ 100000) (hl2 : ys.length ≤ 100000) (hB : B ≤ w.heap.size)
    (hK : ∀ v' w', RowIs w' B v' (xs ++ ys) → w.grownBy w' v.ownBlock → (v'.ownBlock = v.ownBlock ∨ v'.ownBlock = some w.heap.size) → wpList Try.prog ops Q rest (a.put o.dst v') w') :
    wpList Try.prog ops Q (o :: rest) a w := by
  obtain ⟨i3, hi3, hz3, hs3, hb3⟩ := info_parts info3
  obtain ⟨A, c, he, hc, hC⟩ := hrow.reads
  obtain ⟨_, ⟨h1, h2⟩ | ⟨g, cap, cur, h1, _⟩⟩ := hrow
  · have hys : ys = [] := List.length_eq_zero_iff.1 h2
    subst hys h1
    refine wpList_append_own_none hg s x 22 hop B 3 i3 1 Try.underlying22 hi3 v xs.length (encs (Value.int .i64) xs) hs hown hx ?_
    exact hK v w (by rw [List.append_nil]; exact hown) (grown_of_below (Below.refl _ _) _) (.inl rfl)
  · rw [h1] at he
    injection he with e1 e2 e3
    subst e1
    refine wpList_append_own_at w hg s x 22 hop B 3 i3 _ 1 8 Try.underlying22 hi3 hz3 hs3 hb3 rfl (by decide) v xs.length (encs (Value.int .i64) xs) hs hown ⟨g, 0, none⟩ ys.length cap (encs (Value.int .i64) ys) (by rw [hx, h1]) (by simp [encs]) ?_ (by intro u hu; simp only [encs, List.mem_map] at hu; obtain ⟨y, _, rfl⟩ := hu; rfl) (by unfold maxLen; omega) (by omega) hB ?_
    · intro j u hu
      simp only [encs, List.getElem?_map, Option.map_eq_some_iff] at hu
      obtain ⟨y, hy, rfl⟩ := hu
      have hj := (List.getElem?_eq_some_iff.1 hy).1
      obtain ⟨ad', had, hx⟩ := Kd.at_int hC (j : Int) (by omega) (by omega)
      cases had
      rw [Int.toNat_natCast] at hx
      rw [hx]
      simp [rd, hy]
    · intro v' w' h1 h2 _ h4
      refine hK v' w' ?_ h2 h4
      unfold RowIs
      rw [List.length_append]
      have e : encs (Value.int .i64) (xs ++ ys) = encs (Value.int .i64) xs ++ encs (Value.int .i64) ys := by simp [encs]
      rw [e]
      exact h1

/-- A new row of one number. -/
theorem RowIs.litA (w : World) (v : Value) (y : Int) (hv : v = .int .i64 y) : RowIs (w.alloc (.cells #[v] 3)) w.heap.size (.slice (some ⟨w.heap.size, 0, none⟩) 1 1) [y] := by
  subst hv
  exact ⟨by simp [encs], .inr ⟨w.heap.size, _, _, rfl, Nat.le_refl _, World.alloc_heap_new w _, Nat.le_refl _, by unfold maxLen; omega, by simp, by simp [encs]⟩⟩

/-- What holds within a round. -/
structure SetV (w : World) (R : Nat) (m : Int) (tv pv v u : Value) (out now : List Int) (W : World) : Prop where
  rule : Whole W R 75 #[.int .i64 m, tv, pv]
  outs : RowIs W (R + 1) v out
  nows : RowIs W (R + 1) u now
  sep : Sep v u
  bel : Below w.heap.size w W
  size : R + 1 ≤ W.heap.size
  base : w.heap.size < R
section
variable {w : World} {R : Nat} {m : Int} {tv pv v u x : Value} {out now xs : List Int} {X Y : World}
theorem SetV.below (h : SetV w R m tv pv v u out now X) (hb : Below X.heap.size X Y) : SetV w R m tv pv v u out now Y :=
  ⟨h.rule.below hb h.rule.lt, h.outs.own (grown_of_below hb none) (fun r e => by cases e), h.nows.own (grown_of_below hb none) (fun r e => by cases e), h.sep, h.bel.trans (hb.mono h.bel.size), Nat.le_trans h.size hb.size, h.base⟩
/-- A third row grows. -/
theorem SetV.other (h : SetV w R m tv pv v u out now X) (hx : RowIs X (R + 1) x xs) (h1 : Sep x v) (h2 : Sep x u) (hg : X.grownBy Y x.ownBlock) : SetV w R m tv pv v u out now Y := by
  have hlow := fun k (e : x.ownBlock = some k) => (hx.block e).1
  have keep : ∀ {z : Value} {zs : List Int}, RowIs X (R + 1) z zs → Sep x z → RowIs Y (R + 1) z zs := by
    intro z zs hz hs
    refine hz.kept hg ?_
    cases e : z.ownBlock with
    | none => exact .inl rfl
    | some q => exact .inr (fun e2 => hs q e2.symm e)
  exact ⟨h.rule.grown hg (fun e => by have := hlow _ e.symm; omega), keep h.outs h1, keep h.nows h2, h.sep, h.bel.grown hg h.bel.size (fun k e => by have := hlow _ e; have := h.base; omega), Nat.le_trans h.size hg.size, h.base⟩
end
theorem Sep.fresh {W : World} {B : Nat} {v u v' : Value} {us : List Int} (h : Sep v u) (hu : RowIs W B u us) (hat : v'.ownBlock = v.ownBlock ∨ v'.ownBlock = some W.heap.size) : Sep v' u := by
  intro k e e2
  rcases hat with h1 | h1
  · exact h k (h1.symm.trans e) e2
  · rw [h1] at e
    cases e
    have := (hu.block e2).2.1
    omega

set_option maxRecDepth 100000 in
set_option maxHeartbeats 8000000 in
theorem sets_ok (m : Int) (A1 : Option Addr) (c1 : Nat) (t : List Int) (A2 : Option Addr) (c2 : Nat) (p : List Int) (y : Int) (K : Nat) (w : World) (h1 : Kd.C (Kd.int .i64) w A1 t.length t) (h2 : Kd.C (Kd.int .i64) w A2 p.length p) (hrb : ruleB m t p = true) (hy : smallB y = true) (hi : inB K 0 8 = true) (res : Option (List Int)) (hres : setsGo m t p K [y] [1] = res) (cd : Int) (hcd : (if res.isSome then 0 else 5) = cd) :
    Calls Try.prog 51 #[.agg #[.int .i64 m, .slice A1 t.length c1, .slice A2 p.length c2], .int .i64 y, .int .i64 K] w fun e w' => ∃ v0_ : Value, e = .returned (.tuple #[v0_, .int .i64 cd]) ∧ Kd.R (Kd.int .i64) 3 w' w.heap.size (fun _ => True) v0_ (res.getD []) ∧ Below w.heap.size w w' := by
  have HCD := Lib.hid hcd
  have hst : K ≤ 8 := by simp [inB] at hi; omega
  have HA := Lib.hid h1
  have HB := Lib.hid h2
  have hRU := ruleB_is hrb
  have htl := hRU.tl
  have hm6 := hRU.m6
  have HRU := Lib.hid hRU
  have HY := Lib.hid hy
  have HRES := Lib.hid hres
  have B0 := below_alloc (Below.refl w.heap.size w) (rbox24 m (.slice A1 t.length c1) (.slice A2 p.length c2))
  have HN := Lib.hid (newRule_any m A1 A2 c1 c2 t p _ (Kd.C_below h1 B0) (Kd.C_below h2 B0))
  rw [hrb] at HN
  clear h1 h2 hrb hRU hres hcd
  go_enter Try.func51, Try.ntmps51
  go_wp2_with (first
    | (go_at_call 58; refine HN.out.mono ?_; rintro e w1 ⟨rfl, hb⟩; have HB1 := Lib.hid (below_then B0 B0.size hb); have hbs := hb.size; simp only [World.size_alloc] at hbs; clear hb)
    | (go_at_call 59; refine (small_any _ _).mono ?_; rintro e w2 ⟨rfl, rfl⟩)
    | (go_at_call 60; refine (within_any _ _ _ _).mono ?_; rintro e w2 ⟨rfl, rfl⟩))
  have g0 := (Whole.new w1 75 #[.int .i64 m, .slice A1 t.length c1, .slice A2 p.length c2])
  have r1 := RowIs.litA (w1.alloc (rbox m (.slice A1 t.length c1) (.slice A2 p.length c2))) (.int .i64 1) 1 rfl
  have r2 := RowIs.litA ((w1.alloc (rbox m (.slice A1 t.length c1) (.slice A2 p.length c2))).alloc (.cells #[.int .i64 1] 3)) (.int .i64 y) y rfl
  simp only [World.size_alloc] at r1 r2
  have hV0 : SetV w w1.heap.size m (.slice A1 t.length c1) (.slice A2 p.length c2) (.slice (some ⟨w1.heap.size + 1, 0, none⟩) 1 1) (.slice (some ⟨w1.heap.size + 1 + 1, 0, none⟩) 1 1) [1] [y] (((w1.alloc (rbox m (.slice A1 t.length c1) (.slice A2 p.length c2))).alloc (.cells #[.int .i64 1] 3)).alloc (.cells #[.int .i64 y] 3)) :=
    ⟨(g0.alloc _).alloc _, (r1.alloc _), r2.mono (by omega), fun k e e2 => by simp [Value.ownBlock] at e e2 <;> omega, below_alloc (below_alloc (below_alloc HB1.out _) _) _, by simp <;> omega, by omega⟩
  have HV0 := Lib.hid hV0
  clear g0 r1 r2 hV0
  go_loopw [10, 11, 36] (fun v u i wr => ∃ (k : Nat) (out now : List Int), k ≤ K ∧ i = .int .i64 k ∧ SetV w w1.heap.size m (.slice A1 t.length c1) (.slice A2 p.length c2) v u out now wr ∧ Hid (setsGo m t p (K - k) now out = res) ∧ Hid (∀ n ∈ now, smallB n = true) ∧ now.length ≤ 10000 ∧ out.length ≤ k + 1) (fun _ _ i _ => K - (intOf i).toNat)
  case atStart => exact ⟨0, [1], [y], Nat.zero_le _, rfl, HV0.out, HRES, Lib.hid (by simpa using HY.out), by simp, by simp⟩
  case round =>
    obtain ⟨k, out, now, hk, rfl, hV, HGO, HSM, hnl, hol⟩ := hrel
    by_cases hlt : k < K
    · obtain ⟨A3, c3, rfl, hc3, hC3⟩ := hV.nows.reads
      have HC3 := Lib.hid hC3
      have HV := Lib.hid hV
      clear hV hC3
      go_wp2
      go_loopw [12, 40] (fun x j wr => ∃ q : Nat, q ≤ now.length ∧ j = .int .i64 q ∧ SetV w w1.heap.size m (.slice A1 t.length c1) (.slice A2 p.length c2) u10 (.slice A3 now.length c3) out now wr ∧ RowIs wr (w1.heap.size + 1) x (nextW m t p (now.take q)) ∧ (nextW m t p (now.take q)).length ≤ 6 * q ∧ Sep x u10 ∧ Sep x (.slice A3 now.length c3)) (fun _ j _ => now.length - (intOf j).toNat)
      case atStart => exact ⟨0, Nat.zero_le _, rfl, HV.out, RowIs.nil _ _, by simp [nextW], Sep.none, Sep.none⟩
      case round =>
        obtain ⟨q, hq, rfl, hV, hX, hxl, hs1, hs2⟩ := hrel
        by_cases hlq : q < now.length
        · obtain ⟨A4, c4, e4, _, hC4⟩ := hV.nows.reads
          injection e4 with e5 e6 e7
          subst e5 e7
          obtain ⟨ad, rfl, k4⟩ := Kd.at_int hC4 (q : Int) (by omega) (by omega)
          simp only [Int.toNat_natCast] at k4
          have hr := hV.rule
          have g0 := hr.cell 0
          have g1 := hr.cell 1
          have g2 := hr.cell 2
          have glt := hr.lt
          simp only [List.getElem?_toArray, List.getElem?_cons_zero, List.getElem?_cons_succ] at g0 g1 g2
          have hnx : nextW m t p (now.take (q + 1)) = nextW m t p (now.take q) ++ backW m t p (rd now (q : Int)) := by
            rw [List.take_succ_eq_append_getElem hlq, nextW, List.flatMap_append, show rd now (q : Int) = now[q] by simp [rd, hlq]]
            simp [nextW]
          have hsm := HSM.out (rd now (q : Int)) (by rw [show rd now (q : Int) = now[q] by simp [rd, hlq]]; exact List.getElem_mem _)
          have hbl := backW_length (m := m) (t := t) (p := p) (rd now (q : Int))
          have HBK := Lib.hid (fun W hA hB => back_any m A1 A2 c1 c2 t p (rd now (q : Int)) W HRU.out hsm hA hB)
          generalize backW m t p (rd now (q : Int)) = row at *
          generalize rd now (q : Int) = n at *
          have HV2 := Lib.hid hV
          have HX := Lib.hid hX
          have HS1 := Lib.hid hs1
          have HS2 := Lib.hid hs2
          have HNX := Lib.hid hnx
          have hwb := hV.bel
          have HWB := Lib.hid hwb
          clear hV hX hs1 hs2 hC4 hr hsm hnx hwb
          go_wp2_with (first
            | (go_at_call 76; refine (HBK.out _ (Kd.C_below HA.out HWB.out) (Kd.C_below HB.out HWB.out)).mono ?_; rintro e w4 ⟨vb, rfl, hrow, hb⟩; have HV4 := Lib.hid (HV2.out.below hb); have HX4 := Lib.hid (HX.out.own (grown_of_below hb none) (fun r e => by cases e)); have HRW := Lib.hid hrow; have hs4 := hb.size; have hv4 := HV2.out.size; clear hb hrow)
            | (at_builtin; refine appendRow _ rfl (.tmp 44) (.tmp 47) rfl (w1.heap.size + 1) _ _ rfl HX4.out _ _ row rfl HRW.out (by omega) (by omega) (by omega) ?_; intro v' w5 hrow hgrow hat; have HV5 := Lib.hid (HV4.out.other HX4.out HS1.out HS2.out hgrow); have HX5 := Lib.hid hrow; have HT1 := Lib.hid (HS1.out.fresh HV4.out.outs hat); have HT2 := Lib.hid (HS2.out.fresh HV4.out.nows hat); clear hrow hgrow hat))
          exact ⟨⟨q + 1, by omega, by go_num, HV5.out, by rw [HNX.out]; exact HX5.out, by rw [HNX.out, List.length_append]; omega, HT1.out, HT2.out⟩, by simp [intOf]; omega⟩
        · obtain rfl : q = now.length := by omega
          rw [List.take_length] at hX hxl
          obtain ⟨A5, c5, rfl, hc5, hC5⟩ := hX.reads
          have HX := Lib.hid hX
          have HV2 := Lib.hid hV
          have HS1 := Lib.hid hs1
          have HS2 := Lib.hid hs2
          have hgo := HGO.out
          rw [show K - k = (K - (k + 1)) + 1 by omega, setsGo] at hgo
          have HLG := Lib.hid (large78_any A5 c5 (nextW m t p now) _ (by omega) hC5)
          generalize hnw : nextW m t p now = nx at *
          clear hV hX hs1 hs2 hC5
          by_cases hbig : 10000 < nx.length
          · rw [if_pos (.inl hbig)] at hgo
            have hb1 : (10000 : Int) < (nx.length : Int) := by omega
            have HG2 := Lib.hid hgo
            clear hgo
            have hbw := HV2.out.bel
            go_wp2
            go_ret2
            have e5 := HCD.out
            rw [← HG2.out] at e5 ⊢
            simp only [Option.isSome_none, Bool.false_eq_true, if_false] at e5
            subst e5
            exact ⟨_, rfl, Kd.R_nil _ _ _ _ _, hbw⟩
          · cases hany : nx.any (fun n => !smallB n)
            · rw [if_neg (by rw [hany]; rintro (h | h); exact hbig h; cases h)] at hgo
              rw [hany] at HLG
              have HG2 := Lib.hid hgo
              have hb1 : ¬ (10000 : Int) < (nx.length : Int) := by omega
              have HSN := Lib.hid (show ∀ n ∈ nx, smallB n = true from by
                intro n hn
                rw [List.any_eq_false] at hany
                have := hany n hn
                simpa using this)
              have hbb := HV2.out.size
              have hbs2 := HV2.out.base
              clear hgo hany
              go_wp2_with (first
                | (go_at_call 77; refine HLG.out.mono ?_; rintro e w5 ⟨rfl, rfl⟩)
                | (at_builtin; refine appendP _ rfl (.tmp 58) (.tmp 61) rfl (w1.heap.size + 1) _ out rfl (HV2.out.outs.alloc _) _ (nx.length : Int) rfl (by simp) (by omega) (by simp; omega) ?_; intro v' w5 hrow hgrow hat; have hlow := fun k e => ((HV2.out.outs.block (k := k) e).1); have HR5 := Lib.hid hrow; have HRU5 := Lib.hid ((HV2.out.rule.alloc (.cells #[.int .i64 (nx.length : Int)] 3)).grown hgrow (fun e => by have := hlow _ e.symm; omega)); have HX5 := Lib.hid ((HX.out.alloc (.cells #[.int .i64 (nx.length : Int)] 3)).kept hgrow (by cases e : (Value.slice A5 nx.length c5).ownBlock with | none => exact .inl rfl | some z => exact .inr (fun e2 => HS1.out z e e2.symm))); have HT5 := Lib.hid ((HS1.out.symm).fresh (HX.out.alloc (.cells #[.int .i64 (nx.length : Int)] 3)) hat); have HB5 := Lib.hid ((below_alloc HV2.out.bel (.cells #[.int .i64 (nx.length : Int)] 3)).grown hgrow (below_alloc HV2.out.bel _).size (fun k e => by have := hlow _ e; omega)); have hs5 := hgrow.size; simp only [World.size_alloc] at hs5; clear hlow hrow hgrow hat))
              exact ⟨⟨k + 1, _, nx, by omega, by go_num, ⟨HRU5.out, HR5.out, HX5.out, HT5.out, HB5.out, by omega, hbs2⟩, HG2, HSN, by omega, by simp; omega⟩, by simp [intOf]; omega⟩
            · rw [if_pos (.inr hany)] at hgo
              rw [hany] at HLG
              have HG2 := Lib.hid hgo
              have hb1 : ¬ (10000 : Int) < (nx.length : Int) := by omega
              have hbw := HV2.out.bel
              clear hgo hany
              go_wp2_with (go_at_call 77; refine HLG.out.mono ?_; rintro e w5 ⟨rfl, rfl⟩)
              go_ret2
              have e5 := HCD.out
              rw [← HG2.out] at e5 ⊢
              simp only [Option.isSome_none, Bool.false_eq_true, if_false] at e5
              subst e5
              exact ⟨_, rfl, Kd.R_nil _ _ _ _ _, hbw⟩
    · obtain rfl : k = K := by omega
      have hgo := HGO.out
      rw [Nat.sub_self, setsGo] at hgo
      have HG2 := Lib.hid hgo
      have HV2 := Lib.hid hV
      clear hgo hV
      go_wp2
      go_ret2
      have e5 := HCD.out
      rw [← HG2.out] at e5 ⊢
      simp only [Option.isSome_some, if_true] at e5
      subst e5
      exact ⟨_, rfl, HV2.out.outs.R (by have := HV2.out.base; omega), HV2.out.bel⟩

set_option maxHeartbeats 2000000 in
theorem sets_bad (m : Int) (A1 : Option Addr) (c1 : Nat) (t : List Int) (A2 : Option Addr) (c2 : Nat) (p : List Int) (y depth : Int) (w : World) (h1 : Kd.C (Kd.int .i64) w A1 t.length t) (h2 : Kd.C (Kd.int .i64) w A2 p.length p) (hb : (ruleB m t p && (smallB y && inB depth 0 8)) = false) :
    Calls Try.prog 51 #[.agg #[.int .i64 m, .slice A1 t.length c1, .slice A2 p.length c2], .int .i64 y, .int .i64 depth] w fun e w' => e = .returned (.tuple #[.slice none 0 0, .int .i64 2]) ∧ Below w.heap.size w w' := by
  have HA := Lib.hid h1
  have HB := Lib.hid h2
  have B0 := below_alloc (Below.refl w.heap.size w) (rbox24 m (.slice A1 t.length c1) (.slice A2 p.length c2))
  have HN := Lib.hid (newRule_any m A1 A2 c1 c2 t p _ (Kd.C_below h1 B0) (Kd.C_below h2 B0))
  clear h1 h2
  cases hq : ruleB m t p
  · rw [hq] at HN
    clear hb hq
    go_enter Try.func51, Try.ntmps51
    go_wp2_with (go_at_call 58; refine HN.out.mono ?_; rintro e w1 ⟨rfl, hb⟩; have HB1 := Lib.hid hb; clear hb)
    go_ret2
    exact ⟨rfl, below_alloc (below_then B0 B0.size HB1.out) _⟩
  · rw [hq] at HN hb
    clear hq
    cases hs : smallB y
    · clear hb
      go_enter Try.func51, Try.ntmps51
      go_wp2_with (first
        | (go_at_call 58; refine HN.out.mono ?_; rintro e w1 ⟨rfl, hb⟩; have HB1 := Lib.hid hb; clear hb)
        | (go_at_call 59; refine (small_any _ _).mono ?_; rintro e w2 ⟨rfl, rfl⟩))
      go_ret2
      exact ⟨rfl, below_alloc (below_then B0 B0.size HB1.out) _⟩
    · have hi : inB depth 0 8 = false := by rw [hs] at hb; simpa using hb
      clear hb
      go_enter Try.func51, Try.ntmps51
      go_wp2_with (first
        | (go_at_call 58; refine HN.out.mono ?_; rintro e w1 ⟨rfl, hb⟩; have HB1 := Lib.hid hb; clear hb)
        | (go_at_call 59; refine (small_any _ _).mono ?_; rintro e w2 ⟨rfl, rfl⟩)
        | (go_at_call 60; refine (within_any _ _ _ _).mono ?_; rintro e w2 ⟨rfl, rfl⟩))
      go_ret2
      exact ⟨rfl, below_alloc (below_then B0 B0.size HB1.out) _⟩

set_option maxHeartbeats 1000000 in
theorem wheel_Sets.calls (m : Int) (A1 : Option Addr) (c1 : Nat) (t : List Int) (A2 : Option Addr) (c2 : Nat) (p : List Int) (y depth : Int) (r1 : List Int) (r2 : Int) (w : World) (h1 : Kd.C (Kd.int .i64) w A1 t.length t) (hc1 : t.length ≤ c1) (h2 : Kd.C (Kd.int .i64) w A2 p.length p) (hc2 : p.length ≤ c2) (h : wheel_Sets.f m t p y depth = some (r1, r2)) :
    Calls Try.prog 51 #[.agg #[.int .i64 m, .slice A1 t.length c1, .slice A2 p.length c2], .int .i64 y, .int .i64 depth] w fun e w' => ∃ v0_ : Value, e = .returned (.tuple #[v0_, .int .i64 r2]) ∧ Kd.R (Kd.int .i64) 3 w' w.heap.size (fun _ => True) v0_ r1 ∧ Below w.heap.size w w' := by
  simp only [wheel_Sets.f, Option.some.injEq] at h
  cases hb : (ruleB m t p && (smallB y && inB depth 0 8))
  · rw [hb] at h
    simp only [Bool.false_eq_true, if_false, Prod.mk.injEq] at h
    obtain ⟨rfl, rfl⟩ := h
    refine (sets_bad m A1 c1 t A2 c2 p y depth w h1 h2 hb).mono ?_
    rintro e w' ⟨rfl, hbel⟩
    exact ⟨_, rfl, Kd.R_nil _ _ _ _ _, hbel⟩
  · rw [hb] at h
    simp only [Bool.and_eq_true] at hb
    obtain ⟨K, rfl⟩ : ∃ K : Nat, depth = (K : Int) := ⟨depth.toNat, by have := hb.2.2; simp [inB] at this; omega⟩
    rw [Int.toNat_natCast] at h
    refine (sets_ok m A1 c1 t A2 c2 p y K w h1 h2 hb.1 hb.2.1 hb.2.2 _ rfl _ rfl).mono ?_
    rintro e w' ⟨v, rfl, hv, hbel⟩
    cases hg : setsGo m t p K [y] [1] with
    | none =>
      rw [hg] at h hv
      simp only [if_true, Prod.mk.injEq] at h
      obtain ⟨rfl, rfl⟩ := h
      exact ⟨_, rfl, hv, hbel⟩
    | some l =>
      rw [hg] at h hv
      simp only [if_true, Prod.mk.injEq] at h
      obtain ⟨rfl, rfl⟩ := h
      exact ⟨_, rfl, hv, hbel⟩
end Go.Proofs.Ytkjojcepombhpaa.L
