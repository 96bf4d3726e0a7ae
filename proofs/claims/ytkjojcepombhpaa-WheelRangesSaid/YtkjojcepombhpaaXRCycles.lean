/- The reference's Cycles (57): the walk; it comes to what Cycles comes to. -/
import Derived.Test.YtkjojcepombhpaaXRows
import Derived.Test.YtkjojcepombhpaaN2
namespace Go.Proofs.Ytkjojcepombhpaa.L
set_option linter.unusedVariables false
set_option linter.unusedSimpArgs false
open Go.RowKit Go.Shelf Go.Proofs.YtkjojcepombhpaaW.PrintWords Go.Proofs.YtkjojcepombhpaaW.PrintLast Go.Proofs.YtkjojcepombhpaaW.PrintMore

/-- Numbers behind a row that is new since w. -/
theorem appendN {w W : World} {ops : Array Oper} {rest : List Oper} {o : Oper} {a : Act} {Q : Exit → Act → World → Prop}
    (hg : o.guard = none) (s x : Operand) (hop : o.op = Op.call { callee := Callee.builtin Builtin.append, args := #[s, x], argTypes := #[22, 22] })
    (v : Value) (xs : List Int) (hs : a.eval s = v) (hown : RowIs W w.heap.size v xs) (hb : Below w.heap.size w W) (ad : Addr) (n c : Nat) (ys : List Int) (hn : ys.length = n) (hx : a.eval x = .slice (some ad) n c) (hc : Kd.C (Kd.int .i64) W (some ad) ys.length ys) (hl : xs.length ≤ 100000) (hl2 : ys.length ≤ 100000)
    (hK : ∀ v' W', RowIs W' w.heap.size v' (xs ++ ys) → Below w.heap.size w W' → wpList Try.prog ops Q rest (a.put o.dst v') W') :
    wpList Try.prog ops Q (o :: rest) a W := by
  subst hn
  exact appendL hg s x hop w.heap.size v xs hs hown ad c ys hx hc hl hl2 hb.size (fun v' W' h1 h2 => hK v' W' h1 (hb.grown h2 hb.size (fun k e => (hown.block e).1)))
theorem appendN0 {w W : World} {ops : Array Oper} {rest : List Oper} {o : Oper} {a : Act} {Q : Exit → Act → World → Prop}
    (hg : o.guard = none) (s x : Operand) (hop : o.op = Op.call { callee := Callee.builtin Builtin.append, args := #[s, x], argTypes := #[22, 22] })
    (v : Value) (xs : List Int) (hs : a.eval s = v) (hown : RowIs W w.heap.size v xs) (hx : a.eval x = .slice none 0 0)
    (hK : wpList Try.prog ops Q rest (a.put o.dst v) W) :
    wpList Try.prog ops Q (o :: rest) a W := by
  obtain ⟨i3, hi3, hz3, hs3, hb3⟩ := info_parts info3
  exact wpList_append_own_none hg s x 22 hop w.heap.size 3 i3 1 Try.underlying22 hi3 v xs.length (encs (Value.int .i64) xs) hs hown hx hK
theorem C_lit1 (W : World) (y : Int) : Kd.C (Kd.int .i64) (W.alloc (.cells #[.int .i64 y] 3)) (some ⟨W.heap.size, 0, none⟩) ([y] : List Int).length [y] := by
  have h : RowIs (W.alloc (.cells #[.int .i64 y] 3)) W.heap.size (.slice (some ⟨W.heap.size, 0, none⟩) 1 1) [y] :=
    ⟨by simp [encs], .inr ⟨W.heap.size, _, _, rfl, Nat.le_refl _, World.alloc_heap_new W _, Nat.le_refl _, by unfold maxLen; omega, by simp, by simp [encs]⟩⟩
  obtain ⟨A, c, e, _, hC⟩ := h.reads
  injection e with e1 _ _
  rw [e1]
  exact hC
def InsQ (w : World) (u : Value) (xs : List Int) (v : Int) (e : Ending) (w' : World) : Prop :=
  ∃ q : Nat, q ≤ xs.length ∧ (∀ x ∈ xs.take q, x < v) ∧ Below w.heap.size w w' ∧ ((v ∈ xs ∧ e = .returned (.tuple #[u, .int .i64 q, .bool false])) ∨ ((∀ h : q < xs.length, v < xs[q]) ∧ ∃ z, e = .returned (.tuple #[z, .int .i64 q, .bool true]) ∧ RowIs w' w.heap.size z (xs.take q ++ [v] ++ xs.drop q)))
set_option maxRecDepth 100000 in
set_option maxHeartbeats 4000000 in
theorem insert_nil (v : Int) (w : World) : Calls Try.prog 70 #[.slice none 0 0, .int .i64 v] w (InsQ w (.slice none 0 0) [] v) := by
  have hr0 := RowIs.nil w w.heap.size
  go_enter Try.func70, Try.ntmps70
  go_wp2
  refine wp_loop_rounds 1 ?_
  rw [rounds_succ]
  go_wp2_with (first
    | (at_builtin; refine appendN0 (w := w) rfl (.tmp 37) (.tmp 40) rfl _ _ rfl hr0 rfl ?_)
    | (at_builtin; refine appendN (w := w) rfl (.tmp 42) (.tmp 44) rfl _ _ rfl (hr0.alloc _) (below_alloc (Below.refl _ _) _) ⟨w.heap.size, 0, none⟩ 1 1 [v] rfl rfl (C_lit1 _ _) (by simp) (by simp) ?_; intro v1 w1 hr1 hb1)
    | (at_builtin; refine appendN0 (w := w) rfl (.tmp 46) (.tmp 49) rfl _ _ rfl hr1 rfl ?_))
  go_ret3
  exact ⟨0, by simp, by simp, hb1, .inr ⟨fun h => by simp at h, _, rfl, by simpa using hr1⟩⟩
set_option maxRecDepth 100000 in
set_option maxHeartbeats 8000000 in
theorem insert_any (B : Nat) (u : Value) (xs : List Int) (v : Int) (w : World) (hu : RowIs w B u xs) (hl : xs.length ≤ 1000) :
    Calls Try.prog 70 #[u, .int .i64 v] w (InsQ w u xs v) := by
  rcases hu.2 with ⟨rfl, h0⟩ | ⟨g, cap, cur, rfl, _⟩
  · have h1 : xs = [] := List.length_eq_zero_iff.1 h0
    subst h1
    exact insert_nil v w
  obtain ⟨A, c, e, hcap, hC⟩ := hu.reads
  injection e with e1 _ e3
  subst e1 e3
  have HC := Lib.hid hC
  have hr0 := RowIs.nil w w.heap.size
  clear hC hu
  go_enter Try.func70, Try.ntmps70
  go_wp2
  go_loopw [7] (fun i wr => ∃ k : Nat, k ≤ xs.length ∧ i = .int .i64 k ∧ w = wr ∧ Hid (∀ x ∈ xs.take k, x < v)) (fun i _ => xs.length - (intOf i).toNat)
  case atStart => exact ⟨0, Nat.zero_le _, rfl, rfl, Lib.hid (by simp)⟩
  case round =>
    obtain ⟨k, hk, rfl, rfl, HN⟩ := hrel
    by_cases hlt : k < xs.length
    · obtain ⟨ad, had, hc0⟩ := Kd.at_int HC.out (k : Int) (by omega) (by omega)
      injection had with had
      subst had
      have hg : rd xs (k : Int) = xs[k] := by simp [rd, hlt]
      simp only [Int.toNat_natCast] at hc0
      rw [hg, show (⟨g, 0, none⟩ : Addr).add k = ⟨g, k, none⟩ by unfold Addr.add; split <;> simp_all] at hc0
      have HG := Lib.hid (show ∀ y, xs[k] = y → y < v → ∀ x ∈ xs.take (k + 1), x < v from by
        intro y e hy x hx
        rw [List.take_succ_eq_append_getElem hlt] at hx
        rcases List.mem_append.1 hx with h | h
        · exact HN.out x h
        · rw [List.mem_singleton.1 h, e]; exact hy)
      have HM := Lib.hid (show ∀ y, xs[k] = y → y ∈ xs from fun y e => by rw [← e]; exact List.getElem_mem _)
      have HV := Lib.hid (show ∀ y, xs[k] = y → v < y → ∀ h : k < xs.length, v < xs[k] from fun y e h _ => by rw [e]; exact h)
      obtain ⟨y, hy⟩ : ∃ y, xs[k] = y := ⟨_, rfl⟩
      rw [hy] at hc0
      have HG := Lib.hid (HG.out y hy)
      have HM := Lib.hid (HM.out y hy)
      have HV := Lib.hid (HV.out y hy)
      clear hg hy
      by_cases h1 : y < v
      · go_wp2
        exact ⟨⟨k + 1, by omega, by go_num, trivial, Lib.hid (HG.out h1)⟩, by simp [intOf]; omega⟩
      · by_cases h2 : y = v
        · subst h2
          go_wp2
          go_ret3
          exact ⟨k, by omega, HN.out, Below.refl _ _, .inl ⟨HM.out, rfl⟩⟩
        · have hdr := Kd.C_drop (c := cap) HC.out (m := k) (by omega) hcap
          have htk := Kd.C_take HC.out (m := k) (by omega)
          rw [if_neg (by omega)] at hdr
          have hk1 : k * (Kd.int .i64).sz = k := Nat.mul_one k
          simp only [Option.map_some, hk1, add_plain] at hdr
          have HD := Lib.hid hdr
          have HT := Lib.hid htk
          have hdl : (xs.drop k).length = xs.length - k := List.length_drop
          have htl : (xs.take k).length = k := by rw [List.length_take]; omega
          have HV := Lib.hid (HV.out (by omega))
          clear hdr htk hk1
          have b2 : (k : Int) ≤ (xs.length : Int) := by omega
          have b3 : (k : Int) ≤ (cap : Int) := by omega
          have b4 : ¬ cap = k := by omega
          have b5 : ¬ v = y := fun e => h2 e.symm
          go_wp2_with (first
            | (at_builtin; refine appendN (w := w) rfl (.tmp 37) (.tmp 40) rfl _ _ rfl hr0 (Below.refl _ _) ⟨g, 0, none⟩ k cap (xs.take k) htl rfl HT.out (by simp) (by simp <;> omega) ?_; intro v1 w1 hr1 hb1)
            | (at_builtin; refine appendN (w := w) rfl (.tmp 42) (.tmp 44) rfl _ _ rfl (hr1.alloc _) (below_alloc hb1 _) ⟨w1.heap.size, 0, none⟩ 1 1 [v] rfl rfl (C_lit1 _ _) (by simp <;> omega) (by simp) ?_; intro v2 w2 hr2 hb2)
            | (at_builtin; refine appendN (w := w) rfl (.tmp 46) (.tmp 49) rfl _ _ rfl hr2 hb2 ⟨g, k, none⟩ (xs.length - k) (cap - k) (xs.drop k) hdl rfl (Kd.C_below HD.out hb2) (by simp <;> omega) (by simp <;> omega) ?_; intro v3 w3 hr3 hb3))
          go_ret3
          exact ⟨k, by omega, HN.out, hb3, .inr ⟨HV.out, _, rfl, hr3⟩⟩
    · obtain rfl : k = xs.length := by omega
      have hdr := Kd.C_drop (c := cap) HC.out (m := xs.length) (by omega) hcap
      have htk := Kd.C_take HC.out (m := xs.length) (by omega)
      have hk1 : xs.length * (Kd.int .i64).sz = xs.length := Nat.mul_one _
      have HT := Lib.hid htk
      have hdl : (xs.drop xs.length).length = 0 := by simp
      have htl : (xs.take xs.length).length = xs.length := by rw [List.length_take]; omega
      have b3 : (xs.length : Int) ≤ (cap : Int) := by omega
      by_cases hcp : cap = xs.length
      · subst hcp
        rw [if_pos rfl] at hdr
        have HD := Lib.hid hdr
        clear hdr htk hk1
        go_wp2_with (first
          | (at_builtin; refine appendN (w := w) rfl (.tmp 37) (.tmp 40) rfl _ _ rfl hr0 (Below.refl _ _) ⟨g, 0, none⟩ xs.length xs.length (xs.take xs.length) htl rfl HT.out (by simp) (by simp <;> omega) ?_; intro v1 w1 hr1 hb1)
          | (at_builtin; refine appendN (w := w) rfl (.tmp 42) (.tmp 44) rfl _ _ rfl (hr1.alloc _) (below_alloc hb1 _) ⟨w1.heap.size, 0, none⟩ 1 1 [v] rfl rfl (C_lit1 _ _) (by simp <;> omega) (by simp) ?_; intro v2 w2 hr2 hb2)
          | (at_builtin; refine appendN (w := w) rfl (.tmp 46) (.tmp 49) rfl _ _ rfl hr2 hb2 ⟨g, 0, none⟩ 0 0 (xs.drop xs.length) hdl rfl (Kd.C_below HD.out hb2) (by simp <;> omega) (by simp <;> omega) ?_; intro v3 w3 hr3 hb3))
        go_ret3
        exact ⟨xs.length, by omega, HN.out, hb3, .inr ⟨fun h => by omega, _, rfl, hr3⟩⟩
      · rw [if_neg hcp] at hdr
        simp only [Option.map_some, hk1, add_plain] at hdr
        have HD := Lib.hid hdr
        clear hdr htk hk1
        go_wp2_with (first
          | (at_builtin; refine appendN (w := w) rfl (.tmp 37) (.tmp 40) rfl _ _ rfl hr0 (Below.refl _ _) ⟨g, 0, none⟩ xs.length cap (xs.take xs.length) htl rfl HT.out (by simp) (by simp <;> omega) ?_; intro v1 w1 hr1 hb1)
          | (at_builtin; refine appendN (w := w) rfl (.tmp 42) (.tmp 44) rfl _ _ rfl (hr1.alloc _) (below_alloc hb1 _) ⟨w1.heap.size, 0, none⟩ 1 1 [v] rfl rfl (C_lit1 _ _) (by simp <;> omega) (by simp) ?_; intro v2 w2 hr2 hb2)
          | (at_builtin; refine appendN (w := w) rfl (.tmp 46) (.tmp 49) rfl _ _ rfl hr2 hb2 ⟨g, xs.length, none⟩ 0 (cap - xs.length) (xs.drop xs.length) hdl rfl (Kd.C_below HD.out hb2) (by simp <;> omega) (by simp <;> omega) ?_; intro v3 w3 hr3 hb3))
        go_ret3
        exact ⟨xs.length, by omega, HN.out, hb3, .inr ⟨fun h => by omega, _, rfl, hr3⟩⟩

/-- A row put where its first number goes. -/
theorem rows_put {L out : List (List Int)} {c : List Int} {q : Nat} (hL : L = sortRows out) (hn : (out.map hd).Nodup) (h1 : ∀ x ∈ (L.map hd).take q, x < hd c) (h2 : ∀ h : q < (L.map hd).length, hd c < (L.map hd)[q]) : hd c ∉ out.map hd ∧ L.take q ++ [c] ++ L.drop q = sortRows (out ++ [c]) := by
  have hs := sortRows_sorted out hn
  have hp := sortRows_perm out
  rw [← hL] at hs hp
  have ha : ∀ x ∈ L.take q, hd x < hd c := fun x hx => h1 _ (by rw [← List.map_take]; exact List.mem_map_of_mem hx)
  have hb : ∀ x ∈ L.drop q, hd c < hd x := by
    intro x hx
    have hq : q < L.length := by
      rcases Nat.lt_or_ge q L.length with h | h
      · exact h
      · rw [List.drop_eq_nil_of_le h] at hx; cases hx
    have h3 := h2 (by rw [List.length_map]; exact hq)
    rw [List.getElem_map] at h3
    have hs2 := hs.sublist (List.drop_sublist q L)
    rw [List.drop_eq_getElem_cons hq] at hx hs2
    rcases List.mem_cons.1 hx with h | h
    · rw [h]; exact h3
    · have := (List.pairwise_cons.1 hs2).1 x h
      omega
  have hno : ∀ x ∈ L, hd x ≠ hd c := by
    intro x hx
    rw [← List.take_append_drop q L] at hx
    rcases List.mem_append.1 hx with h | h
    · have := ha x h; omega
    · have := hb x h; omega
  refine ⟨fun h => ?_, ?_⟩
  · obtain ⟨x, hx, e⟩ := List.mem_map.1 h
    exact hno x (hp.mem_iff.2 hx) e
  · symm
    refine sortRows_of ?_ ?_
    · refine List.Perm.trans ?_ ((hp.append_right [c]))
      conv => rhs; rw [← List.take_append_drop q L]
      rw [List.append_assoc, List.append_assoc]
      exact List.Perm.append_left _ List.perm_append_comm
    · rw [List.pairwise_append, List.pairwise_append]
      refine ⟨⟨hs.sublist (List.take_sublist q L), by simp, fun a h3 b h4 => ?_⟩, hs.sublist (List.drop_sublist q L), fun a h3 b h4 => ?_⟩
      · rw [List.mem_singleton.1 h4]; exact ha a h3
      · have := hb b h4
        rcases List.mem_append.1 h3 with h | h
        · have := ha a h; omega
        · rw [List.mem_singleton.1 h]; exact this

def remouldref06_Cycles.f (m : Int) (t p : List Int) (lo hi steps : Int) : Option (List (List Int)) :=
  if (ruleB m t p && (smallB lo && (smallB hi && (inB (wrap64 (hi - lo)) 0 500 && inB steps 0 500)))) = true then some (cyclesW m t p lo hi steps) else none

theorem insert_in (B : Nat) (u : Value) (xs : List Int) (v : Int) (w : World) (hu : RowIs w B u xs) (hl : xs.length ≤ 1000) (hs : xs.Pairwise (· < ·)) (hv : v ∈ xs) :
    Calls Try.prog 70 #[u, .int .i64 v] w fun e w' => ∃ q : Nat, e = .returned (.tuple #[u, .int .i64 q, .bool false]) ∧ Below w.heap.size w w' := by
  refine (insert_any B u xs v w hu hl).mono ?_
  rintro e w' ⟨q, hq, h1, hb, ⟨_, rfl⟩ | ⟨h2, _⟩⟩
  · exact ⟨q, rfl, hb⟩
  · exfalso
    rw [← List.take_append_drop q xs] at hv
    rcases List.mem_append.1 hv with h | h
    · have := h1 v h; omega
    · have hlt : q < xs.length := by
        rcases Nat.lt_or_ge q xs.length with h3 | h3
        · exact h3
        · rw [List.drop_eq_nil_of_le h3] at h; cases h
      have h4 := h2 hlt
      have hs2 := hs.sublist (List.drop_sublist q xs)
      rw [List.drop_eq_getElem_cons hlt] at h hs2
      rcases List.mem_cons.1 h with h5 | h5
      · omega
      · have := (List.pairwise_cons.1 hs2).1 v h5
        omega
theorem insert_out (B : Nat) (u : Value) (xs : List Int) (v : Int) (w : World) (hu : RowIs w B u xs) (hl : xs.length ≤ 1000) (hv : v ∉ xs) :
    Calls Try.prog 70 #[u, .int .i64 v] w fun e w' => ∃ (q : Nat) (z : Value), e = .returned (.tuple #[z, .int .i64 q, .bool true]) ∧ q ≤ xs.length ∧ (∀ x ∈ xs.take q, x < v) ∧ (∀ h : q < xs.length, v < xs[q]) ∧ RowIs w' w.heap.size z (xs.take q ++ [v] ++ xs.drop q) ∧ Below w.heap.size w w' := by
  refine (insert_any B u xs v w hu hl).mono ?_
  rintro e w' ⟨q, hq, h1, hb, ⟨h2, _⟩ | ⟨h2, z, rfl, hz⟩⟩
  · exact absurd h2 hv
  · exact ⟨q, z, rfl, hq, h1, h2, hz, hb⟩

theorem place_of : ∀ (xs : List Int) (v : Int), v ∉ xs → ∃ q : Nat, q ≤ xs.length ∧ (∀ x ∈ xs.take q, x < v) ∧ (∀ h : q < xs.length, v < xs[q])
  | [], v, _ => ⟨0, by simp, by simp, fun h => by simp at h⟩
  | a :: xs, v, hv => by
    rw [List.mem_cons, not_or] at hv
    by_cases h : a < v
    · obtain ⟨q, h1, h2, h3⟩ := place_of xs v hv.2
      refine ⟨q + 1, by simpa using h1, ?_, fun h4 => ?_⟩
      · intro x hx
        rw [List.take_succ_cons] at hx
        rcases List.mem_cons.1 hx with e | e
        · rw [e]; exact h
        · exact h2 x e
      · exact h3 (by simpa using h4)
    · exact ⟨0, by simp, by simp, fun h4 => by show v < a; omega⟩
/-- The place being known. -/
theorem insert_place (B : Nat) (u : Value) (xs : List Int) (v : Int) (w : World) (hu : RowIs w B u xs) (hl : xs.length ≤ 1000) (hv : v ∉ xs) (q : Nat) (h1 : q ≤ xs.length) (h2 : ∀ x ∈ xs.take q, x < v) (h3 : ∀ h : q < xs.length, v < xs[q]) :
    Calls Try.prog 70 #[u, .int .i64 v] w fun e w' => ∃ z : Value, e = .returned (.tuple #[z, .int .i64 q, .bool true]) ∧ RowIs w' w.heap.size z (xs.take q ++ [v] ++ xs.drop q) ∧ Below w.heap.size w w' := by
  refine (insert_out B u xs v w hu hl hv).mono ?_
  rintro e w' ⟨q', z, rfl, g1, g2, g3, hz, hb⟩
  have hq : q' = q := by
    rcases Nat.lt_trichotomy q' q with h | h | h
    · have h5 := g3 (by omega)
      have h6 := h2 (xs[q']'(by omega)) (List.mem_take_iff_getElem.2 ⟨q', by omega, rfl⟩)
      omega
    · exact h
    · have h5 := h3 (by omega)
      have h6 := g2 (xs[q]'(by omega)) (List.mem_take_iff_getElem.2 ⟨q, by omega, rfl⟩)
      omega
  subst hq
  exact ⟨z, rfl, hz, hb⟩

/-- Rows behind rows in a block that is new since w. -/
theorem appendX {w W : World} {ops : Array Oper} {rest : List Oper} {o : Oper} {a : Act} {Q : Exit → Act → World → Prop}
    (hg : o.guard = none) (s x : Operand) (hop : o.op = Op.call { callee := Callee.builtin Builtin.append, args := #[s, x], argTypes := #[66, 66] })
    (B : Nat) (v : Value) (ps : List (Value × List Int)) (hs : a.eval s = v) (hown : RowsIs W B v ps) (hnew : ∀ k, v.ownBlock = some k → w.heap.size ≤ k) (hb : Below w.heap.size w W) (ad : Addr) (qs : List (Value × List Int)) (n c : Nat) (hn : qs.length = n) (hx : a.eval x = .slice (some ad) n c)
    (hc : ∀ j u, (qs.map Prod.fst)[j]? = some u → W.cell? (ad.add j) = some u) (hq : ∀ q ∈ qs, RowIs W B q.1 q.2) (hsep : (ps ++ qs).Pairwise fun a b => Parted a.1 b.1) (hl : ps.length + n ≤ 100000) (hB : B ≤ w.heap.size)
    (hK : ∀ v' W', RowsIs W' B v' (ps ++ qs) → (∀ k, v'.ownBlock = some k → w.heap.size ≤ k) → Below w.heap.size w W' → wpList Try.prog ops Q rest (a.put o.dst v') W') :
    wpList Try.prog ops Q (o :: rest) a W := by
  refine appendRs W hg s x hop B v ps hs hown ad qs n c hn hx hc hq hsep hl (Nat.le_trans hB hb.size) ?_
  intro v' W' h1 h2 h3
  refine hK v' W' h1 (fun k e => ?_) (hb.grown h2 hb.size hnew)
  rcases h3 with h3 | h3
  · exact hnew k (h3 ▸ e)
  · rw [h3] at e
    injection e with e
    have := hb.size
    omega
theorem rows_take {W : World} {g : Nat} {ps : List (Value × List Int)} (hc : ∀ j u, (ps.map Prod.fst)[j]? = some u → W.cell? ((⟨g, 0, none⟩ : Addr).add j) = some u) (q : Nat) : ∀ j u, ((ps.take q).map Prod.fst)[j]? = some u → W.cell? ((⟨g, 0, none⟩ : Addr).add j) = some u := by
  intro j u h
  refine hc j u ?_
  rw [List.map_take, List.getElem?_take] at h
  split at h
  · exact h
  · cases h
theorem rows_drop {W : World} {g : Nat} {ps : List (Value × List Int)} (hc : ∀ j u, (ps.map Prod.fst)[j]? = some u → W.cell? ((⟨g, 0, none⟩ : Addr).add j) = some u) (q : Nat) : ∀ j u, ((ps.drop q).map Prod.fst)[j]? = some u → W.cell? ((⟨g, q, none⟩ : Addr).add j) = some u := by
  intro j u h
  rw [List.map_drop, List.getElem?_drop] at h
  have := hc (q + j) u h
  rw [add_at, Nat.zero_add] at this
  rw [add_at]
  exact this
theorem rows_none {W : World} (ad : Addr) {ps : List (Value × List Int)} (h : ps = []) : ∀ j u, (ps.map Prod.fst)[j]? = some u → W.cell? (ad.add j) = some u := by
  subst h
  intro j u h
  simp at h
theorem part_mid {ps : List (Value × List Int)} {c : Value × List Int} (h : ps.Pairwise fun a b => Parted a.1 b.1) (hc : ∀ q ∈ ps, Parted q.1 c.1) (q : Nat) : (ps.take q ++ [c]).Pairwise (fun a b => Parted a.1 b.1) ∧ (ps.take q ++ [c] ++ ps.drop q).Pairwise (fun a b => Parted a.1 b.1) := by
  have h1 : (ps.take q ++ [c]).Pairwise (fun a b => Parted a.1 b.1) := List.pairwise_append.2 ⟨h.sublist (List.take_sublist q ps), by simp, fun a ha b hb => by
    rw [List.mem_singleton.1 hb]
    exact hc a (List.mem_of_mem_take ha)⟩
  refine ⟨h1, List.pairwise_append.2 ⟨h1, h.sublist (List.drop_sublist q ps), fun a ha b hb => ?_⟩⟩
  rcases List.mem_append.1 ha with h2 | h2
  · rw [← List.take_append_drop q ps] at h
    exact (List.pairwise_append.1 h).2.2 a h2 b hb
  · rw [List.mem_singleton.1 h2]
    exact (hc b (List.mem_of_mem_drop hb)).symm

/-- What holds within a round. -/
structure RcV (w : World) (R : Nat) (m : Int) (tv pv fv ov : Value) (ps : List (Value × List Int)) (W : World) : Prop where
  rule : Whole W R 24 #[.int .i64 m, tv, pv]
  first : RowIs W w.heap.size fv ((ps.map Prod.snd).map hd)
  rows : RowsIs W w.heap.size ov ps
  bel : Below w.heap.size w W
theorem RcV.below {w : World} {R : Nat} {m : Int} {tv pv fv ov : Value} {ps : List (Value × List Int)} {X Y : World} (h : RcV w R m tv pv fv ov ps X) (hb : Below X.heap.size X Y) : RcV w R m tv pv fv ov ps Y :=
  ⟨h.rule.below hb h.rule.lt, h.first.below hb, h.rows.below hb, h.bel.trans (hb.mono h.bel.size)⟩
/-- A row more. -/
theorem RcV.more {w : World} {R : Nat} {m : Int} {tv pv fv ov z v : Value} {ps : List (Value × List Int)} {c : Value × List Int} {W4 X Y : World} {q : Nat} (h : RcV w R m tv pv fv ov ps X) (hb : Below X.heap.size X Y) (hz : RowIs X W4.heap.size z (((ps.map Prod.snd).map hd).take q ++ [hd c.2] ++ ((ps.map Prod.snd).map hd).drop q)) (h4 : w.heap.size ≤ W4.heap.size) (hr : RowsIs Y w.heap.size v (ps.take q ++ [c] ++ ps.drop q)) : RcV w R m tv pv z v (ps.take q ++ [c] ++ ps.drop q) Y := by
  refine ⟨h.rule.below hb h.rule.lt, ?_, hr, h.bel.trans (hb.mono h.bel.size)⟩
  have e : ((ps.take q ++ [c] ++ ps.drop q).map Prod.snd).map hd = ((ps.map Prod.snd).map hd).take q ++ [hd c.2] ++ ((ps.map Prod.snd).map hd).drop q := by simp [List.map_take, List.map_drop]
  rw [e]
  exact (hz.mono h4).below hb

set_option maxRecDepth 100000 in
set_option maxHeartbeats 16000000 in
theorem remouldref06_Cycles.calls (m : Int) (A1 : Option Addr) (c1 : Nat) (t : List Int) (A2 : Option Addr) (c2 : Nat) (p : List Int) (lo hi steps : Int) (r1 : List (List Int)) (w : World) (h1 : Kd.C (Kd.int .i64) w A1 t.length t) (hc1 : t.length ≤ c1) (h2 : Kd.C (Kd.int .i64) w A2 p.length p) (hc2 : p.length ≤ c2) (h : remouldref06_Cycles.f m t p lo hi steps = some r1) :
    Calls Try.prog 57 #[.agg #[.int .i64 m, .slice A1 t.length c1, .slice A2 p.length c2], .int .i64 lo, .int .i64 hi, .int .i64 steps] w fun e w' => ∃ v0_ : Value, e = .returned v0_ ∧ Kd.S (Kd.slice 3 (Kd.int .i64)) 22 w' w.heap.size (fun _ => True) v0_ r1 ∧ Below w.heap.size w w' := by
  unfold remouldref06_Cycles.f at h
  cases hg : (ruleB m t p && (smallB lo && (smallB hi && (inB (wrap64 (hi - lo)) 0 500 && inB steps 0 500))))
  · rw [hg] at h; cases h
  rw [if_pos hg] at h
  injection h with h
  subst h
  simp only [Bool.and_eq_true] at hg
  obtain ⟨hrb, hlo, hhi, hwd, hst⟩ := hg
  have HA := Lib.hid h1
  have HB := Lib.hid h2
  have hRU := ruleB_is hrb
  have HRU := Lib.hid hRU
  have hss : 0 ≤ steps ∧ steps ≤ 500 := by simpa [inB] using hst
  have hl1 := (small_iff lo).1 hlo
  have hh1 := (small_iff hi).1 hhi
  have hwr : wrap64 (hi - lo) = hi - lo := wrap64_id _ (by omega) (by omega)
  have hwd2 : 0 ≤ hi - lo ∧ hi - lo ≤ 500 := by rw [hwr] at hwd; simpa [inB] using hwd
  obtain ⟨K, hK⟩ : ∃ K : Nat, (K : Int) = hi - lo + 1 := ⟨(hi - lo + 1).toNat, by omega⟩
  have hK2 : (hi - lo + 1).toNat = K := by omega
  unfold cyclesW
  rw [hK2]
  clear h1 h2 hrb hRU hlo hhi hwd hst hwr hK2
  go_enter Try.func57, Try.ntmps57
  go_wp2
  have g0 := (Whole.new w 24 #[.int .i64 m, .slice A1 t.length c1, .slice A2 p.length c2])
  have HV0 := Lib.hid (show RcV (w.alloc (rbox24 m (.slice A1 t.length c1) (.slice A2 p.length c2))) w.heap.size m (.slice A1 t.length c1) (.slice A2 p.length c2) (.slice none 0 0) (.slice none 0 0) [] (w.alloc (rbox24 m (.slice A1 t.length c1) (.slice A2 p.length c2))) from ⟨g0, RowIs.nil _ _, RowsIs.nil _ _, Below.refl _ _⟩)
  clear g0
  have B0 := Lib.hid (below_alloc (Below.refl w.heap.size w) (rbox24 m (.slice A1 t.length c1) (.slice A2 p.length c2)))
  have hs0 : w.heap.size ≤ (w.alloc (rbox24 m (.slice A1 t.length c1) (.slice A2 p.length c2))).heap.size := B0.out.size
  obtain ⟨w0, hw0⟩ : ∃ w0, w.alloc (rbox24 m (.slice A1 t.length c1) (.slice A2 p.length c2)) = w0 := ⟨_, rfl⟩
  rw [hw0] at HV0 B0 hs0
  change Code.wp _ _ _ _ (w.alloc (rbox24 m (.slice A1 t.length c1) (.slice A2 p.length c2)))
  rw [hw0]
  clear hw0
  go_loopw [9, 10, 11] (fun fv ov i wr => ∃ (k : Nat) (ps : List (Value × List Int)), k ≤ K ∧ i = .int .i64 (lo + (k : Int)) ∧ RcV w0 w.heap.size m (.slice A1 t.length c1) (.slice A2 p.length c2) fv ov ps wr ∧ Hid (ps.map Prod.snd = sortRows (cycRows m t p steps lo k))) (fun _ _ i _ => (hi + 1 - intOf i).toNat)
  case atStart => exact ⟨0, [], Nat.zero_le _, by simp, HV0.out, Lib.hid (by simp [cycRows, sortRows])⟩
  case round =>
    obtain ⟨k, ps, hk, rfl, hV, HPS⟩ := hrel
    by_cases hlt : k < K
    · have hr := hV.rule
      have g0 := hr.cell 0
      have g1 := hr.cell 1
      have g2 := hr.cell 2
      have glt := hr.lt
      simp only [List.getElem?_toArray, List.getElem?_cons_zero, List.getElem?_cons_succ] at g0 g1 g2
      have hnl : lo + (k : Int) ≤ hi := by omega
      have hsm : smallB (lo + (k : Int)) = true := (small_iff _).2 (by omega)
      have hcs : cycRows m t p steps lo (k + 1) = cycStep m t p steps (cycRows m t p steps lo k) (lo + (k : Int)) := rfl
      have hnd := cycRows_nodup (m := m) (t := t) (p := p) steps lo k
      have hpl : ps.length ≤ K := by
        have := cycRows_length (m := m) (t := t) (p := p) steps lo k
        have h2 := (sortRows_perm (cycRows m t p steps lo k)).length_eq
        rw [← HPS.out, List.length_map] at h2
        omega
      obtain ⟨kc, hkc⟩ := (Cycle_f HRU.out (lo + (k : Int)) steps hsm hss).get
      have hrow := cycleW_row (m := m) (t := t) (p := p) (x := lo + (k : Int)) (steps := steps)
      rw [cycStep] at hcs
      generalize cycleW m t p (lo + (k : Int)) steps = res at hkc hrow hcs
      obtain ⟨row, at', e⟩ := res
      have HCY := Lib.hid (fun W hA hB => remouldref06_Cycle.calls kc m A1 c1 t A2 c2 p (lo + (k : Int)) steps row at' e W hA hc1 hB hc2 hkc)
      have HCS := Lib.hid hcs
      have HV := Lib.hid hV
      have HND := Lib.hid hnd
      have HWB := Lib.hid (below_then B0.out hs0 hV.bel)
      have hmem : ∀ x : Int, x ∈ (ps.map Prod.snd).map hd ↔ x ∈ (cycRows m t p steps lo k).map hd := fun x => by
        rw [HPS.out]
        exact ((sortRows_perm _).map hd).mem_iff
      have hws := hV.bel.size
      clear hcs hV hr hkc hsm hnd
      by_cases he : e = 0
      · subst he
        obtain ⟨hr1, hr2, hr3⟩ := hrow rfl
        have hr1 : 0 < row.length := hr1
        have hr2 : (row.length : Int) ≤ steps := hr2
        have hne : row ≠ [] := by intro e; subst e; simp at hr1
        have hl0 : (0 : Int) < (row.length : Int) := by omega
        clear hr3 hrow
        by_cases hc : hd row ∈ (cycRows m t p steps lo k).map hd
        · have hst2 : cycRows m t p steps lo (k + 1) = cycRows m t p steps lo k := by
            rw [HCS.out, if_neg (fun h => h.2 hc)]
          have HS2 := Lib.hid hst2
          have HC := Lib.hid ((hmem _).2 hc)
          have HSRT := Lib.hid (show ((ps.map Prod.snd).map hd).Pairwise (· < ·) from by
            rw [HPS.out, List.pairwise_map]
            exact sortRows_sorted _ HND.out)
          clear hst2 hc hmem
          go_wp2_with (first
            | (go_at_call 33; refine (HCY.out _ (Kd.C_below HA.out HWB.out) (Kd.C_below HB.out HWB.out)).mono ?_; rintro e w4 ⟨vb, rfl, hrow0, hb⟩; have hrow : RowIs w4 wr.heap.size vb row := Kd.own_of_R hrow0; have HR4 := Lib.hid hrow; have HV4 := Lib.hid (HV.out.below hb); have HPT := Lib.hid (parted_new HV.out.rows hrow); obtain ⟨g, cap, rfl, hcell⟩ := hrow.head hne; clear hb hrow hrow0)
            | (go_at_call 70; refine (insert_in _ _ _ _ _ HV4.out.first (by simp; omega) HSRT.out HC.out).mono ?_; rintro e w5 ⟨q, rfl, hb⟩; have HV5 := Lib.hid (HV4.out.below hb); clear hb))
          exact ⟨⟨k + 1, ps, by omega, by go_num, HV5.out, Lib.hid (by rw [HS2.out]; exact HPS.out)⟩, by simp [intOf]; omega⟩
        · have HS2 := Lib.hid (show cycRows m t p steps lo (k + 1) = cycRows m t p steps lo k ++ [row] by
            rw [HCS.out, if_pos ⟨rfl, hc⟩])
          have HC := Lib.hid (fun h => hc ((hmem _).1 h))
          clear hc hmem
          have HFIN := Lib.hid (show ∀ q : Nat, q ≤ ((ps.map Prod.snd).map hd).length → (∀ x ∈ ((ps.map Prod.snd).map hd).take q, x < hd row) → (∀ h : q < ((ps.map Prod.snd).map hd).length, hd row < ((ps.map Prod.snd).map hd)[q]) → ∀ v, (ps.take q ++ [(v, row)] ++ ps.drop q).map Prod.snd = sortRows (cycRows m t p steps lo (k + 1)) from fun q h1 h2 h3 v => by
            rw [HS2.out, ← (rows_put HPS.out HND.out h2 h3).2]
            simp [List.map_take, List.map_drop])
          obtain ⟨q, hq0, hq1, hq2⟩ := place_of _ _ HC.out
          have HQ1 := Lib.hid hq1
          have HQ2 := Lib.hid hq2
          clear hq1 hq2
          have hq3 : q ≤ ps.length := by simpa using hq0
          rcases HV.out.rows.1.2 with ⟨hov, hps0⟩ | ⟨g1, cap1, cur, hov, hb1, hcur, hcap, _⟩
          · subst hov
            have hp0 : ps = [] := List.length_eq_zero_iff.1 hps0
            have hq4 : q = 0 := by omega
            subst hq4
            clear hps0 hq3
            go_wp2_with (first
              | (go_at_call 33; refine (HCY.out _ (Kd.C_below HA.out HWB.out) (Kd.C_below HB.out HWB.out)).mono ?_; rintro e w4 ⟨vb, rfl, hrow0, hb⟩; have hrow : RowIs w4 wr.heap.size vb row := Kd.own_of_R hrow0; have HR4 := Lib.hid hrow; have HV4 := Lib.hid (HV.out.below hb); have HPT := Lib.hid (parted_new HV.out.rows hrow); obtain ⟨g, cap, rfl, hcell⟩ := hrow.head hne; clear hb hrow hrow0)
              | (go_at_call 70; refine (insert_place _ _ _ _ _ HV4.out.first (by simp <;> omega) HC.out 0 hq0 HQ1.out HQ2.out).mono ?_; rintro e w5 ⟨z, rfl, hz, hb⟩; have HV5 := Lib.hid (HV4.out.below hb); have HZ := Lib.hid hz; have HR5 := Lib.hid (HR4.out.below hb); have hs4 := HV4.out.bel.size; have hs5 := HV5.out.bel.size; clear hb hz)
              | (at_builtin; refine appendRs0 _ rfl (.tmp 47) (.tmp 50) rfl w0.heap.size _ _ rfl (RowsIs.nil w5 w0.heap.size) rfl ?_)
              | (at_builtin; refine appendX (w := w5) rfl (.tmp 52) (.tmp 54) rfl w0.heap.size _ _ rfl (RowsIs.nil _ _) (fun k e => by cases e) (below_alloc (Below.refl _ _) _) ⟨w5.heap.size, 0, none⟩ [(.slice (some ⟨g, 0, none⟩) row.length cap, row)] 1 1 rfl rfl (cell_one_new _ _ _) (by intro q' hq'; rw [List.mem_singleton.1 hq']; exact (HR5.out.alloc _).mono hws) (by simp) (by simp <;> omega) hs5 ?_; intro v7 w7 hr7 hn7 hb7)
              | (at_builtin; refine appendRs0 _ rfl (.tmp 56) (.tmp 59) rfl w0.heap.size _ _ rfl hr7 rfl ?_; have hr8 : RowsIs w7 w0.heap.size v7 (ps.take 0 ++ [(Value.slice (some ⟨g, 0, none⟩) row.length cap, row)] ++ ps.drop 0) := (by rw [hp0]; simpa using hr7); have hb8 := hb7))
            exact ⟨⟨k + 1, ps.take 0 ++ [(Value.slice (some ⟨g, 0, none⟩) row.length cap, row)] ++ ps.drop 0, by omega, by go_num, HV5.out.more hb8 HZ.out hs4 hr8, Lib.hid (HFIN.out 0 hq0 HQ1.out HQ2.out _)⟩, by simp [intOf]; omega⟩
          · subst hov
            have b2 : (q : Int) ≤ (ps.length : Int) := by omega
            have b3 : (q : Int) ≤ (cap1 : Int) := by omega
            by_cases hcq : cap1 = q
            · obtain rfl : q = ps.length := by omega
              subst hcq
              go_wp2_with (first
                | (go_at_call 33; refine (HCY.out _ (Kd.C_below HA.out HWB.out) (Kd.C_below HB.out HWB.out)).mono ?_; rintro e w4 ⟨vb, rfl, hrow0, hb⟩; have hrow : RowIs w4 wr.heap.size vb row := Kd.own_of_R hrow0; have HR4 := Lib.hid hrow; have HV4 := Lib.hid (HV.out.below hb); have HPT := Lib.hid (parted_new HV.out.rows hrow); obtain ⟨g, cap, rfl, hcell⟩ := hrow.head hne; clear hb hrow hrow0)
                | (go_at_call 70; refine (insert_place _ _ _ _ _ HV4.out.first (by simp <;> omega) HC.out ps.length hq0 HQ1.out HQ2.out).mono ?_; rintro e w5 ⟨z, rfl, hz, hb⟩; have HV5 := Lib.hid (HV4.out.below hb); have HZ := Lib.hid hz; have HR5 := Lib.hid (HR4.out.below hb); have hs4 := HV4.out.bel.size; have hs5 := HV5.out.bel.size; clear hb hz)
                | (at_builtin; refine appendX (w := w5) rfl (.tmp 47) (.tmp 50) rfl w0.heap.size _ _ rfl (RowsIs.nil _ _) (fun k e => by cases e) (Below.refl _ _) ⟨g1, 0, none⟩ (ps.take ps.length) ps.length ps.length (by simp <;> omega) rfl (rows_take (HV5.out.rows.1.cells rfl) ps.length) (fun a ha => HV5.out.rows.2.1 a (List.mem_of_mem_take ha)) (HV5.out.rows.2.2.sublist (List.take_sublist ps.length ps)) (by simp <;> omega) hs5 ?_; intro v6 w6 hr6 hn6 hb6)
                | (at_builtin; refine appendX (w := w5) rfl (.tmp 52) (.tmp 54) rfl w0.heap.size _ _ rfl (hr6.alloc _) hn6 (below_alloc hb6 _) ⟨w6.heap.size, 0, none⟩ [(.slice (some ⟨g, 0, none⟩) row.length cap, row)] 1 1 rfl rfl (cell_one_new _ _ _) (by intro q' hq'; rw [List.mem_singleton.1 hq']; exact ((HR5.out.below hb6).alloc _).mono hws) (part_mid HV5.out.rows.2.2 HPT.out ps.length).1 (by simp <;> omega) hs5 ?_; intro v7 w7 hr7 hn7 hb7)
                | (at_builtin; refine appendX (w := w5) rfl (.tmp 56) (.tmp 59) rfl w0.heap.size _ _ rfl hr7 hn7 hb7 ⟨g1, 0, none⟩ (ps.drop ps.length) 0 0 (by simp <;> omega) rfl (rows_none _ (by simp)) (fun a ha => (HV5.out.rows.2.1 a (List.mem_of_mem_drop ha)).below hb7) (part_mid HV5.out.rows.2.2 HPT.out ps.length).2 (by simp <;> omega) hs5 ?_; intro v8 w8 hr8 hn8 hb8))
              exact ⟨⟨k + 1, ps.take ps.length ++ [(Value.slice (some ⟨g, 0, none⟩) row.length cap, row)] ++ ps.drop ps.length, by omega, by go_num, HV5.out.more hb8 HZ.out hs4 hr8, Lib.hid (HFIN.out ps.length hq0 HQ1.out HQ2.out _)⟩, by simp [intOf]; omega⟩
            · skip
              go_wp2_with (first
                | (go_at_call 33; refine (HCY.out _ (Kd.C_below HA.out HWB.out) (Kd.C_below HB.out HWB.out)).mono ?_; rintro e w4 ⟨vb, rfl, hrow0, hb⟩; have hrow : RowIs w4 wr.heap.size vb row := Kd.own_of_R hrow0; have HR4 := Lib.hid hrow; have HV4 := Lib.hid (HV.out.below hb); have HPT := Lib.hid (parted_new HV.out.rows hrow); obtain ⟨g, cap, rfl, hcell⟩ := hrow.head hne; clear hb hrow hrow0)
                | (go_at_call 70; refine (insert_place _ _ _ _ _ HV4.out.first (by simp <;> omega) HC.out q hq0 HQ1.out HQ2.out).mono ?_; rintro e w5 ⟨z, rfl, hz, hb⟩; have HV5 := Lib.hid (HV4.out.below hb); have HZ := Lib.hid hz; have HR5 := Lib.hid (HR4.out.below hb); have hs4 := HV4.out.bel.size; have hs5 := HV5.out.bel.size; clear hb hz)
                | (at_builtin; refine appendX (w := w5) rfl (.tmp 47) (.tmp 50) rfl w0.heap.size _ _ rfl (RowsIs.nil _ _) (fun k e => by cases e) (Below.refl _ _) ⟨g1, 0, none⟩ (ps.take q) q cap1 (by simp <;> omega) rfl (rows_take (HV5.out.rows.1.cells rfl) q) (fun a ha => HV5.out.rows.2.1 a (List.mem_of_mem_take ha)) (HV5.out.rows.2.2.sublist (List.take_sublist q ps)) (by simp <;> omega) hs5 ?_; intro v6 w6 hr6 hn6 hb6)
                | (at_builtin; refine appendX (w := w5) rfl (.tmp 52) (.tmp 54) rfl w0.heap.size _ _ rfl (hr6.alloc _) hn6 (below_alloc hb6 _) ⟨w6.heap.size, 0, none⟩ [(.slice (some ⟨g, 0, none⟩) row.length cap, row)] 1 1 rfl rfl (cell_one_new _ _ _) (by intro q' hq'; rw [List.mem_singleton.1 hq']; exact ((HR5.out.below hb6).alloc _).mono hws) (part_mid HV5.out.rows.2.2 HPT.out q).1 (by simp <;> omega) hs5 ?_; intro v7 w7 hr7 hn7 hb7)
                | (at_builtin; refine appendX (w := w5) rfl (.tmp 56) (.tmp 59) rfl w0.heap.size _ _ rfl hr7 hn7 hb7 ⟨g1, q, none⟩ (ps.drop q) (ps.length - q) (cap1 - q) (by simp <;> omega) rfl (rows_drop (fun j u h => pw_cell_below hb7 (HV5.out.rows.1.cells rfl j u h)) q) (fun a ha => (HV5.out.rows.2.1 a (List.mem_of_mem_drop ha)).below hb7) (part_mid HV5.out.rows.2.2 HPT.out q).2 (by simp <;> omega) hs5 ?_; intro v8 w8 hr8 hn8 hb8))
              exact ⟨⟨k + 1, ps.take q ++ [(Value.slice (some ⟨g, 0, none⟩) row.length cap, row)] ++ ps.drop q, by omega, by go_num, HV5.out.more hb8 HZ.out hs4 hr8, Lib.hid (HFIN.out q hq0 HQ1.out HQ2.out _)⟩, by simp [intOf]; omega⟩
      · have hst2 : cycRows m t p steps lo (k + 1) = cycRows m t p steps lo k := by
          rw [HCS.out, if_neg (fun h => he h.1)]
        have HS2 := Lib.hid hst2
        clear hst2 hrow
        go_wp2_with (go_at_call 33; refine (HCY.out _ (Kd.C_below HA.out HWB.out) (Kd.C_below HB.out HWB.out)).mono ?_; rintro e w4 ⟨vb, rfl, hrow0, hb⟩; have hrow : RowIs w4 wr.heap.size vb row := Kd.own_of_R hrow0; have HV4 := Lib.hid (HV.out.below hb); clear hb hrow hrow0)
        exact ⟨⟨k + 1, ps, by omega, by go_num, HV4.out, Lib.hid (by rw [HS2.out]; exact HPS.out)⟩, by simp [intOf]; omega⟩
    · obtain rfl : k = K := by omega
      have hnl : ¬ lo + (k : Int) ≤ hi := by omega
      have HV := Lib.hid hV
      clear hV
      go_wp2
      go_ret
      refine ⟨_, rfl, ?_, below_then B0.out hs0 HV.out.bel⟩
      rw [← HPS.out]
      exact HV.out.rows.S hs0
end Go.Proofs.Ytkjojcepombhpaa.L
