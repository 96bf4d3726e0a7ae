/- The ends of a cycle's edges; a list that is written as an odd cycle: the walks of ends and (graph).isCycle. -/
import Derived.Test.YtkefmlhkejoknabXOdd
namespace Go.Proofs.Ytkefmlhkejoknab.L
set_option linter.unusedVariables false
set_option linter.unusedSimpArgs false
open Go.RowKit Go.Shelf Go.Proofs.YtkefmlhkejoknabW.PrintWords Go.Proofs.YtkefmlhkejoknabW.PrintLast Go.Proofs.YtkefmlhkejoknabW.PrintMore
attribute [local go_sem] max2_int min2_int max_two min_two

/-- The kind of a pair. -/
def kP : Kd (Int × Int) := Kd.pair (Kd.int .i64) (Kd.int .i64)
theorem kP_mkM (w : World) (base : Nat) (ok : Nat → Prop) (p : Int × Int) : kP.M w base ok p [.int .i64 p.1, .int .i64 p.2] := ⟨[.int .i64 p.1], [.int .i64 p.2], rfl, rfl, rfl⟩
theorem kP_open {w : World} {p : Int × Int} {cs : List Value} (h : kP.K w p cs) : cs = [.int .i64 p.1, .int .i64 p.2] := by
  obtain ⟨a, b, rfl, h1, h2⟩ := h
  rw [show a = _ from h1, show b = _ from h2]; rfl
theorem info68 : (Try.prog.info? 68).map (fun i => (i.zero, i.size, i.bytes)) = some (some (.agg #[.int .i64 0, .int .i64 0]), 2, 16) := by kernel_rfl
theorem under64 : Try.prog.underlying 64 = some (.slice 68) := by kernel_rfl
/-- The end of the i-th edge. -/
def endAtP (c : List Int) (i : Nat) : Int × Int :=
  let v := c.getD i 0; let w := c.getD ((i + 1) % c.length) 0; (if v ≤ w then v else w, if v ≤ w then w else v)
theorem endsB_map (c : List Int) : endsB c = (List.range c.length).map (endAtP c) := rfl
theorem endsB_len (c : List Int) : (endsB c).length = c.length := by simp [endsB_map]
theorem endsB_take (c : List Int) (k : Nat) (hk : k < c.length) : (endsB c).take (k + 1) = (endsB c).take k ++ [endAtP c k] := by
  rw [List.take_succ_eq_append_getElem (by rw [endsB_len]; exact hk)]
  simp [endsB_map]

set_option maxHeartbeats 4000000 in
set_option maxRecDepth 100000 in
theorem ends_any (ad : Addr) (c0 : Nat) (c : List Int) (w : World) (h0 : 0 < c.length) (hl : c.length ≤ 1000) (hC : Kd.C (Kd.int .i64) w (some ad) c.length c) :
    Calls Try.prog 30 #[.slice (some ad) c.length c0] w fun e w' => ∃ v_ : Value, e = .returned v_ ∧ Kd.R kP 68 w' w.heap.size (fun _ => True) v_ (endsB c) ∧ Below w.heap.size w w' := by
  have HC := Lib.hid hC
  clear hC
  go_enter Try.func30, Try.ntmps30
  go_wp2
  go_loopw [3, 9] (fun ov iv wr => ∃ (k : Nat), k ≤ c.length ∧ iv = .int .i64 k ∧ Kd.R kP 68 wr w.heap.size (fun _ => True) ov ((endsB c).take k) ∧ Below w.heap.size w wr) (fun _ iv _ => c.length - (intOf iv).toNat)
  case atStart => exact ⟨0, Nat.zero_le _, rfl, Kd.R_nil _ _ _ _ _, Below.refl _ _⟩
  case round =>
    obtain ⟨k, hk, rfl, hO, hB⟩ := hrel
    by_cases hlt : k < c.length
    · obtain ⟨ad', had, hxk⟩ := Kd.at_int (Kd.C_below HC.out hB) (k : Int) (by omega) (by omega)
      cases had
      have hjl : (k + 1) % c.length < c.length := Nat.mod_lt _ (by omega)
      have hrem : Int.tmod ((k : Int) + 1) (c.length : Int) = (((k + 1) % c.length : Nat) : Int) := by rw [Int.tmod_eq_emod_of_nonneg (by omega)]; rfl
      obtain ⟨ad', had, hxj⟩ := Kd.at_int (Kd.C_below HC.out hB) (((k + 1) % c.length : Nat) : Int) (by omega) (by omega)
      cases had
      simp only [Int.toNat_natCast] at hxk hxj
      have hen : endAtP c k = (if rd c (k : Int) ≤ rd c (((k + 1) % c.length : Nat) : Int) then rd c (k : Int) else rd c (((k + 1) % c.length : Nat) : Int), if rd c (k : Int) ≤ rd c (((k + 1) % c.length : Nat) : Int) then rd c (((k + 1) % c.length : Nat) : Int) else rd c (k : Int)) := by
        have rdg : ∀ i : Nat, rd c (i : Int) = c.getD i 0 := fun i => by simp [rd]
        rw [rdg, rdg]; rfl
      generalize (k + 1) % c.length = j at hjl hrem hxj hen
      generalize rd c (k : Int) = xk at hxk hen
      generalize rd c (j : Int) = xj at hxj hen
      obtain ⟨Ao, co, rfl⟩ := Kd.R_slice hO
      have hlo : ((endsB c).take k).length = k := by rw [List.length_take, endsB_len]; omega
      rw [hlo] at hO ⊢
      have HO := Lib.hid hO
      have HB := Lib.hid hB
      have HT := Lib.hid (endsB_take c k hlt)
      have HE := Lib.hid hen
      clear hO hB hen
      have bj : (j : Int) < c.length := by omega
      have bz : ((c.length : Int) == 0) = false := by rw [beq_eq_false_iff_ne]; omega
      have bz2 : ¬ c = [] := by intro e; rw [e] at h0; simp at h0
      by_cases hle : xk ≤ xj
      · by_cases heq : xk = xj
        · subst heq
          have l1 : ¬ xk < xk := by omega
          go_wp2_with ((with_reducible refine gate_builtin (b := .append) (xs := #[.tmp 22, .tmp 30]) rfl ?_); at_builtin; refine Kd.R_append kP (w0 := w) w.heap.size rfl (.tmp 22) (.tmp 30) 64 68 (.agg #[.int .i64 0, .int .i64 0]) 16 rfl under64 info68 rfl (by decide) (by omega) (.slice Ao k co) ((endsB c).take k) (xk, xk) [.int .i64 xk, .int .i64 xk] (fun _ => True) (fun _ => False) rfl rfl ?aP (fun _ hk => hk.elim) ?aF ?aO ?aB ?aS ?aL ?_; (case aP => exact kP_mkM _ _ _ _); (case aF => exact fun _ _ => trivial); (case aO => exact HO.out); (case aB => exact HB.out); (case aS => exact HB.out.size); (case aL => rw [hlo]; omega); intro v1 w8 ho hb hg hat; have HO8 := Lib.hid ho; have HB8 := Lib.hid hb; clear ho hb hg hat)
          exact ⟨⟨k + 1, by omega, by go_num, by rw [HT.out, HE.out]; simpa using HO8.out, HB8.out⟩, by simp [intOf]; omega⟩
        · have l1 : ¬ xj < xk := by omega
          have l2 : xk < xj := by omega
          go_wp2_with ((with_reducible refine gate_builtin (b := .append) (xs := #[.tmp 22, .tmp 30]) rfl ?_); at_builtin; refine Kd.R_append kP (w0 := w) w.heap.size rfl (.tmp 22) (.tmp 30) 64 68 (.agg #[.int .i64 0, .int .i64 0]) 16 rfl under64 info68 rfl (by decide) (by omega) (.slice Ao k co) ((endsB c).take k) (xk, xj) [.int .i64 xk, .int .i64 xj] (fun _ => True) (fun _ => False) rfl rfl ?aP (fun _ hk => hk.elim) ?aF ?aO ?aB ?aS ?aL ?_; (case aP => exact kP_mkM _ _ _ _); (case aF => exact fun _ _ => trivial); (case aO => exact HO.out); (case aB => exact HB.out); (case aS => exact HB.out.size); (case aL => rw [hlo]; omega); intro v1 w8 ho hb hg hat; have HO8 := Lib.hid ho; have HB8 := Lib.hid hb; clear ho hb hg hat)
          exact ⟨⟨k + 1, by omega, by go_num, by rw [HT.out, HE.out, if_pos (by omega), if_pos (by omega)]; exact HO8.out, HB8.out⟩, by simp [intOf]; omega⟩
      · have l1 : xj < xk := by omega
        have l2 : ¬ xk < xj := by omega
        go_wp2_with ((with_reducible refine gate_builtin (b := .append) (xs := #[.tmp 22, .tmp 30]) rfl ?_); at_builtin; refine Kd.R_append kP (w0 := w) w.heap.size rfl (.tmp 22) (.tmp 30) 64 68 (.agg #[.int .i64 0, .int .i64 0]) 16 rfl under64 info68 rfl (by decide) (by omega) (.slice Ao k co) ((endsB c).take k) (xj, xk) [.int .i64 xj, .int .i64 xk] (fun _ => True) (fun _ => False) rfl rfl ?aP (fun _ hk => hk.elim) ?aF ?aO ?aB ?aS ?aL ?_; (case aP => exact kP_mkM _ _ _ _); (case aF => exact fun _ _ => trivial); (case aO => exact HO.out); (case aB => exact HB.out); (case aS => exact HB.out.size); (case aL => rw [hlo]; omega); intro v1 w8 ho hb hg hat; have HO8 := Lib.hid ho; have HB8 := Lib.hid hb; clear ho hb hg hat)
        exact ⟨⟨k + 1, by omega, by go_num, by rw [HT.out, HE.out, if_neg (by omega), if_neg (by omega)]; exact HO8.out, HB8.out⟩, by simp [intOf]; omega⟩
    · obtain rfl : k = c.length := by omega
      rw [List.take_of_length_le (by rw [endsB_len]; exact Nat.le_refl _)] at hO
      go_wp2
      go_ret
      exact ⟨_, rfl, hO, hB⟩

/-- Two vertices of a pair are not joined: the question of isCycle. -/
def notJ (l : List S46) (p : Int × Int) : Bool := !joinedB l p.1 p.2
set_option maxHeartbeats 1000000 in
theorem notJ_any (n : Int) (A : Option Addr) (c len m : Nat) (l : List S46) (gB : Nat) (p : Int × Int) (w : World) (hG : Whole w gB 52 #[.int .i64 n, .slice A len c, .map (some m)]) (hM : MapIs w m l) :
    Calls Try.prog 68 #[.agg #[.int .i64 p.1, .int .i64 p.2], .pointer (some ⟨gB, 0, none⟩)] w fun e w' => e = .returned (.bool (notJ l p)) ∧ Below w.heap.size w w' := by
  obtain ⟨xa, xb⟩ := p
  have g0 := hG.cell 0
  have g1 := hG.cell 1
  have g2 := hG.cell 2
  simp only [List.getElem?_toArray, List.getElem?_cons_zero, List.getElem?_cons_succ] at g0 g1 g2
  have hlt := hG.lt
  have HM := Lib.hid (hM.alloc (.cells #[.int .i64 xa, .int .i64 xb] 68))
  clear hG hM
  go_enter Try.func68, Try.ntmps68
  go_wp2_with (go_at_call 56; refine (joined_any n _ m l xa xb _ rfl HM.out).mono ?_; rintro e w' ⟨rfl, rfl⟩)
  go_ret
  exact ⟨rfl, below_alloc (below_alloc (Below.refl _ _) _) _⟩
theorem at_P {w : World} {A : Option Addr} {n : Nat} {xs : List (Int × Int)} (h : Kd.C kP w A n xs) (i : Int) (h0 : 0 ≤ i) (h1 : i < n) : ∃ ad, A = some ad ∧ w.cell? (ad.add (i.toNat * 2)) = some (.int .i64 (xs.getD i.toNat (0, 0)).1) ∧ w.cell? ⟨(ad.add (i.toNat * 2)).block, (ad.add (i.toNat * 2)).off + 1, none⟩ = some (.int .i64 (xs.getD i.toNat (0, 0)).2) := by
  obtain ⟨ad, c, e, _, hK, hc0⟩ := Kd.C_get h (0, 0) i h0 h1
  have hc : ∀ j u, c[j]? = some u → w.cell? (ad.add (i.toNat * 2 + j)) = some u := hc0
  obtain rfl := kP_open hK
  exact ⟨ad, e, hc 0 _ rfl, by rw [← add_field _ _ 1 (by omega)]; exact hc 1 _ rfl⟩
theorem any_upTo (q : Int × Int → Bool) (ps : List (Int × Int)) (h : ∀ i, i < ps.length → q (ps.getD i (0, 0)) = false) : ps.any q = false := by
  rw [Bool.eq_false_iff]
  intro hh
  rw [List.any_eq_true] at hh
  obtain ⟨x, hx, hp⟩ := hh
  obtain ⟨i, hi, rfl⟩ := List.getElem_of_mem hx
  have := h i hi
  rw [List.getD_eq_getElem?_getD, List.getElem?_eq_getElem hi] at this
  rw [show q ps[i] = false from this] at hp; cases hp
theorem any_at (q : Int × Int → Bool) (ps : List (Int × Int)) (i : Nat) (hi : i < ps.length) (h : q (ps.getD i (0, 0)) = true) : ps.any q = true := by
  rw [List.any_eq_true]
  refine ⟨ps[i], List.getElem_mem hi, ?_⟩
  rw [List.getD_eq_getElem?_getD, List.getElem?_eq_getElem hi] at h
  exact h
set_option maxHeartbeats 2000000 in
theorem indexP_any (n : Int) (A : Option Addr) (c len m : Nat) (l : List S46) (gB : Nat) (A2 : Option Addr) (c2 : Nat) (ps : List (Int × Int)) (w : World) (hl : ps.length ≤ 1000) (hC : Kd.C kP w A2 ps.length ps) (hG : Whole w gB 52 #[.int .i64 n, .slice A len c, .map (some m)]) (hM : MapIs w m l) :
    Calls Try.prog 61 #[.slice A2 ps.length c2, .func (.func 68) #[] #[.pointer (some ⟨gB, 0, none⟩)]] w fun e w' => (∃ r : Int, e = .returned (.int .i64 r) ∧ decide (0 ≤ r) = ps.any (notJ l)) ∧ Below w.heap.size w w' := by
  have HC := Lib.hid hC
  have HG := Lib.hid hG
  have HM := Lib.hid hM
  clear hC hG hM
  go_enter Try.func61, Try.ntmps61
  go_wp2
  go_loopw [8] (fun i wr => ∃ k : Nat, k ≤ ps.length ∧ i = .int .i64 k ∧ Below w.heap.size w wr ∧ Hid (∀ j, j < k → notJ l (ps.getD j (0, 0)) = false)) (fun i _ => ps.length - (intOf i).toNat)
  case atStart => exact ⟨0, Nat.zero_le _, rfl, Below.refl _ _, Lib.hid (by omega)⟩
  case round =>
    obtain ⟨k, hk, rfl, hB, HN⟩ := hrel
    by_cases hlt : k < ps.length
    · obtain ⟨ad, rfl, hc0, hc1⟩ := at_P (Kd.C_below HC.out hB) (k : Int) (by omega) (by omega)
      simp only [Int.toNat_natCast] at hc0 hc1
      have hcall := fun W (hW : Below w.heap.size w W) => notJ_any n A c len m l gB (ps.getD k (0, 0)) W (HG.out.below hW HG.out.lt) (HM.out.below hW HM.out.lt)
      have hno := HN.out
      have hmore : ∀ b, notJ l (ps.getD k (0, 0)) = b → b = false → ∀ j, j < k + 1 → notJ l (ps.getD j (0, 0)) = false := by
        intro b h1 h2 j hj
        by_cases e : j = k
        · subst e; rw [h1, h2]
        · exact hno j (by omega)
      have hend : ∀ b, notJ l (ps.getD k (0, 0)) = b → b = true → ps.any (notJ l) = true := fun b h1 h2 => any_at _ ps k hlt (by rw [h1, h2])
      generalize hq : notJ l (ps.getD k (0, 0)) = q at hcall hmore hend
      generalize ps.getD k (0, 0) = x at hc0 hc1 hcall hq hmore hend
      have HCALL := Lib.hid hcall
      have HMO := Lib.hid (hmore q rfl)
      have HEN := Lib.hid (hend q rfl)
      have HB := Lib.hid hB
      obtain ⟨xa, xb⟩ := x
      dsimp only at hc0 hc1
      clear hcall hq hno hmore hend hB
      cases q
      · go_wp2_with (go_at_call 68; refine (HCALL.out _ HB.out).mono ?_; rintro e w2 ⟨rfl, hb⟩; have HB2 := Lib.hid hb; clear hb)
        exact ⟨⟨k + 1, by omega, by go_num, below_then HB.out HB.out.size HB2.out, Lib.hid (HMO.out (by trivial))⟩, by simp [intOf]; omega⟩
      · go_wp2_with (go_at_call 68; refine (HCALL.out _ HB.out).mono ?_; rintro e w2 ⟨rfl, hb⟩; have HB2 := Lib.hid hb; clear hb)
        exact bodyPost_ret (v := .int .i64 (k : Int)) (by simp [results, Try.results61, go_sem]) rfl ⟨⟨k, rfl, by rw [HEN.out (by trivial)]; simp⟩, below_then HB.out HB.out.size HB2.out⟩
    · obtain rfl : k = ps.length := by omega
      have HX := Lib.hid (any_upTo (notJ l) ps HN.out)
      go_wp2
      exact bodyPost_ret (v := .int .i64 (-1)) (by simp [results, Try.results61, go_sem]) rfl ⟨⟨-1, rfl, by rw [HX.out]; rfl⟩, hB⟩
set_option maxHeartbeats 1000000 in
theorem containsP_any (n : Int) (A : Option Addr) (c len m : Nat) (l : List S46) (gB : Nat) (A2 : Option Addr) (c2 : Nat) (ps : List (Int × Int)) (w : World) (hl : ps.length ≤ 1000) (hC : Kd.C kP w A2 ps.length ps) (hG : Whole w gB 52 #[.int .i64 n, .slice A len c, .map (some m)]) (hM : MapIs w m l) :
    Calls Try.prog 31 #[.slice A2 ps.length c2, .func (.func 68) #[] #[.pointer (some ⟨gB, 0, none⟩)]] w fun e w' => e = .returned (.bool (ps.any (notJ l))) ∧ Below w.heap.size w w' := by
  have HI := Lib.hid (indexP_any n A c len m l gB A2 c2 ps w hl hC hG hM)
  clear hC hG hM
  generalize ps.any (notJ l) = q at HI
  go_enter Try.func31, Try.ntmps31
  go_wp2_with (go_at_call 61; refine HI.out.mono ?_; rintro e w2 ⟨⟨r, rfl, hr⟩, hb⟩; have HB := Lib.hid hb; clear hb)
  go_ret
  exact ⟨by rw [← hr]; rfl, HB.out⟩

/-- The questions of isCycle. -/
def cycHead (c : List Int) : Bool := decide (3 ≤ c.length) && decide (c.length % 2 = 1) && decide (c.getD 1 0 ≤ c.getLastD 0)
def cycAt (n : Int) (c : List Int) (i : Nat) : Bool := decide (0 ≤ c.getD i 0) && decide (c.getD i 0 ≤ n - 1) && !(decide (0 < i) && decide (c.getD i 0 ≤ c.getD 0 0)) && !(c.take i).contains (c.getD i 0)
theorem isCycle_parts (n : Int) (l : List S46) (c : List Int) : isCycleB n l c = (cycHead c && (List.range c.length).all (cycAt n c) && (endsB c).all fun p => hasEdge l p.1 p.2) := rfl
theorem ends_all (l : List S46) (c : List Int) : ((endsB c).all fun p => hasEdge l p.1 p.2) = !(endsB c).any (notJ l) := by
  rw [List.not_any_eq_all_not]
  apply Bool.eq_iff_iff.2
  rw [List.all_eq_true, List.all_eq_true]
  have key : ∀ p ∈ endsB c, (!notJ l p) = hasEdge l p.1 p.2 := by
    intro p hp
    rw [endsB_map, List.mem_map] at hp
    obtain ⟨i, _, rfl⟩ := hp
    have hle : (endAtP c i).1 ≤ (endAtP c i).2 := by
      unfold endAtP
      by_cases h : c.getD i 0 ≤ c.getD ((i + 1) % c.length) 0
      · simp only [if_pos h]; exact h
      · simp only [if_neg h]; omega
    unfold notJ joinedB
    rw [Bool.not_not, if_pos hle, if_pos hle]
  constructor
  · intro h p hp; rw [key p hp]; exact h p hp
  · intro h p hp; rw [← key p hp]; exact h p hp
attribute [local irreducible] wpQuiet
set_option maxHeartbeats 8000000 in
set_option maxRecDepth 100000 in
theorem isCycle_any (n : Int) (A : Option Addr) (len cc m : Nat) (l : List S46) (A1 : Option Addr) (c0 : Nat) (c : List Int) (w : World) (hn : n ≤ 12) (h0 : 1 ≤ n) (hl : c.length ≤ 100) (hcc : c.length ≤ c0) (hC : Kd.C (Kd.int .i64) w A1 c.length c) (hM : MapIs w m l) :
    Calls Try.prog 39 #[gv n (.slice A len cc) m, .slice A1 c.length c0] w fun e w' => e = .returned (.bool (isCycleB n l c)) ∧ Below w.heap.size w w' := by
  have HC := Lib.hid hC
  have HM := Lib.hid hM
  clear hC hM
  by_cases q0 : c.length < 3
  · have HR := Lib.hid (show isCycleB n l c = false from by rw [isCycle_parts, cycHead, decide_eq_false (by omega)]; rfl)
    have d0 : decide ((c.length : Int) < 3) = true := by simp; omega
    go_enter Try.func39, Try.ntmps39
    go_wp2
    go_quiet (fail)
    go_wp2
    go_ret
    exact ⟨by rw [HR.out]; rfl, pw_below_drewN (below_alloc (Below.refl _ _) _) _⟩
  · have d0 : decide ((c.length : Int) < 3) = false := by simp; omega
    obtain ⟨ad, rfl, hx1⟩ := Kd.at_int HC.out ((1 : Nat) : Int) (by omega) (by omega)
    obtain ⟨ad', had, hxl⟩ := Kd.at_int HC.out ((c.length - 1 : Nat) : Int) (by omega) (by omega)
    cases had
    simp only [Int.toNat_natCast] at hx1 hxl
    replace hx1 : w.cell? { block := ad.block, off := ad.off + 1 } = some (.int .i64 (rd c ((1 : Nat) : Int))) := hx1
    have b1 : (1 : Int) < (c.length : Int) := by omega
    have b0 : (0 : Int) < (c.length : Int) := by omega
    have b2 : IntKind.i64.wrap ((c.length : Int) - 1) = ((c.length - 1 : Nat) : Int) := by rw [IntKind.wrap_i64]; omega
    have b3 : ((c.length - 1 : Nat) : Int) < c.length := by omega
    have hhead : cycHead c = (decide (3 ≤ c.length) && decide (c.length % 2 = 1) && decide (rd c ((1 : Nat) : Int) ≤ rd c ((c.length - 1 : Nat) : Int))) := by
      have e1 : rd c ((1 : Nat) : Int) = c.getD 1 0 := by simp [rd]
      have e2 : rd c ((c.length - 1 : Nat) : Int) = c.getLastD 0 := by
        rw [List.getLastD_eq_getLast?, List.getLast?_eq_getElem?]; simp [rd, List.getD_eq_getElem?_getD]
      rw [e1, e2]; rfl
    generalize hy1 : rd c ((1 : Nat) : Int) = y1 at hx1 hhead
    generalize hyl : rd c ((c.length - 1 : Nat) : Int) = yl at hxl hhead
    generalize c.length - 1 = L at b2 b3 hxl hyl
    have e2 : Int.tmod (c.length : Int) 2 = ((c.length % 2 : Nat) : Int) := by rw [Int.tmod_eq_emod_of_nonneg (by omega)]; rfl
    have hltA : ad.block < w.heap.size := Kd.C_lt HC.out (by omega) (by decide)
    have haddb : ∀ i, (ad.add i).block < w.heap.size := fun i => by unfold Addr.add; split <;> exact hltA
    have hltL := haddb L
    by_cases q1 : c.length % 2 = 0
    · have HR := Lib.hid (show isCycleB n l c = false from by rw [isCycle_parts, hhead, decide_eq_false (show ¬ c.length % 2 = 1 by omega), Bool.and_false]; rfl)
      have d1 : (Int.tmod (c.length : Int) 2 == 0) = true := by rw [beq_iff_eq, e2]; omega
      clear e2 q1 hy1 hyl hhead
      go_enter Try.func39, Try.ntmps39
      go_wp2
      go_quiet (fail)
      go_wp2
      go_ret
      exact ⟨by rw [HR.out]; rfl, pw_below_drewN (below_alloc (Below.refl _ _) _) _⟩
    · have d1 : (Int.tmod (c.length : Int) 2 == 0) = false := by rw [beq_eq_false_iff_ne, e2]; omega
      by_cases q2 : yl < y1
      · have HR := Lib.hid (show isCycleB n l c = false from by rw [isCycle_parts, hhead, decide_eq_false (show ¬ y1 ≤ yl by omega), Bool.and_false]; rfl)
        have d2 : decide (yl < y1) = true := by simpa using q2
        clear e2 q1 hy1 hyl q2 hhead
        go_enter Try.func39, Try.ntmps39
        go_wp2
        go_quiet (fail)
        go_wp2
        go_ret
        exact ⟨by rw [HR.out]; rfl, pw_below_drewN (below_alloc (Below.refl _ _) _) _⟩
      · have HH := Lib.hid (show cycHead c = true from by rw [hhead, decide_eq_true (show 3 ≤ c.length by omega), decide_eq_true (show c.length % 2 = 1 by omega), decide_eq_true (show y1 ≤ yl by omega)]; rfl)
        have d2 : decide (yl < y1) = false := by simpa using q2
        clear e2 q1 hy1 hyl q2 hhead
        go_enter Try.func39, Try.ntmps39
        go_wp2
        go_quiet (fail)
        go_wp2
        have hB0 : Below w.heap.size w ((w.alloc (Obj.cells #[.int .i64 n, .slice A len cc, .map (some m)] 52)).drewN nq) := pw_below_drewN (below_alloc (Below.refl _ _) _) _
        have hG0 : Whole ((w.alloc (Obj.cells #[.int .i64 n, .slice A len cc, .map (some m)] 52)).drewN nq) w.heap.size 52 #[.int .i64 n, .slice A len cc, .map (some m)] := Whole.new w 52 _
        obtain ⟨ad', had, hx0⟩ := Kd.at_int HC.out ((0 : Nat) : Int) (by omega) (by omega)
        cases had
        simp only [Int.toNat_natCast] at hx0
        have hx00 : ∀ W, Below w.heap.size w W → W.cell? ad = some (.int .i64 (rd c ((0 : Nat) : Int))) := fun W hW => (hW.cell (p := ad) hltA).trans hx0
        have h00 : rd c ((0 : Nat) : Int) = c.getD 0 0 := by simp [rd]
        rw [h00] at hx00
        have HX0 := Lib.hid hx00
        clear hx0 hx00 h00 hx1 hxl b1 b2 b3 d0 d1 d2
        generalize (w.alloc (Obj.cells #[.int .i64 n, .slice A len cc, .map (some m)] 52)).drewN nq = W0 at hB0 hG0 ⊢
        go_loopw [30] (fun iv wr => ∃ (k : Nat), k ≤ c.length ∧ iv = .int .i64 k ∧ Below w.heap.size w wr ∧ Whole wr w.heap.size 52 #[.int .i64 n, .slice A len cc, .map (some m)] ∧ Hid (∀ j, j < k → cycAt n c j = true)) (fun iv _ => c.length - (intOf iv).toNat)
        case atStart => exact ⟨0, Nat.zero_le _, rfl, hB0, hG0, Lib.hid (fun j hj => by omega)⟩
        case round =>
          obtain ⟨k, hk, rfl, hB, hG, HQ⟩ := hrel
          by_cases hlt : k < c.length
          · obtain ⟨ad', had, hxk⟩ := Kd.at_int (Kd.C_below HC.out hB) (k : Int) (by omega) (by omega)
            cases had
            have hx0 := HX0.out _ hB
            simp only [Int.toNat_natCast] at hxk
            have hcy : cycAt n c k = (inB (rd c (k : Int)) 0 (n - 1) && !(decide (0 < k) && decide (rd c (k : Int) ≤ c.getD 0 0)) && !(c.take k).contains (rd c (k : Int))) := by
              have e : rd c (k : Int) = c.getD k 0 := by simp [rd]
              rw [e]; rfl
            have hno : cycAt n c k = false → isCycleB n l c = false := fun h => by
              rw [isCycle_parts, HH.out]
              have : (List.range c.length).all (cycAt n c) = false := by
                rw [Bool.eq_false_iff]
                intro hh
                rw [List.all_eq_true] at hh
                rw [hh k (by simpa using hlt)] at h; cases h
              rw [this]; rfl
            have hcon := fun W (hW : Below w.heap.size w W) => by
              have h := containsI_any (some ad) c0 (c.take k) (rd c (k : Int)) W (by simp; omega) (Kd.C_take (Kd.C_below HC.out hW) (by omega))
              rw [show (c.take k).length = k by simp; omega] at h
              exact h
            generalize rd c (k : Int) = xk at hxk hcy hcon
            generalize c.getD 0 0 = x0 at hx0 hcy
            generalize (c.take k).contains xk = ct at hcon hcy
            have HCON := Lib.hid hcon
            have HCY := Lib.hid hcy
            have HNO := Lib.hid hno
            have HB := Lib.hid hB
            have HG := Lib.hid hG
            have g0 := hG.cell 0
            simp only [List.getElem?_toArray, List.getElem?_cons_zero] at g0
            have hltw := hG.lt
            have hkc : (k : Int) ≤ c0 := by omega
            have hkc' : k ≤ c0 := by omega
            clear hcon hcy hno hB hG
            cases hin : inB xk 0 (n - 1)
            · have HR := Lib.hid (HNO.out (by rw [HCY.out, hin]; rfl))
              have HIN := Lib.hid hin
              clear hin
              go_wp2_with (first
                | (go_at_call 53; refine (within_any xk 0 (n - 1) _).mono ?_; rintro e w' ⟨rfl, rfl⟩; have hin := HIN.out))
              go_ret
              exact ⟨by rw [HR.out]; rfl, HB.out⟩
            · have HIN := Lib.hid hin
              clear hin
              by_cases q3 : 0 < k ∧ xk ≤ x0
              · have HR := Lib.hid (HNO.out (by rw [HCY.out, decide_eq_true q3.1, decide_eq_true q3.2, Bool.and_self, Bool.not_true, Bool.and_false]; rfl))
                obtain ⟨q4, q5⟩ := q3
                have f5 : decide (xk ≤ x0) = true := decide_eq_true q5
                go_wp2_with (first
                  | (go_at_call 53; refine (within_any xk 0 (n - 1) _).mono ?_; rintro e w' ⟨rfl, rfl⟩; have hin := HIN.out))
                go_ret
                exact ⟨by rw [HR.out]; rfl, HB.out⟩
              · have hq : (¬ 0 < k ∧ decide (0 < k) = false) ∨ (0 < k ∧ decide (0 < k) = true ∧ decide (xk ≤ x0) = false) := by
                  by_cases z : 0 < k
                  · exact .inr ⟨z, decide_eq_true z, by simpa using fun h => q3 ⟨z, h⟩⟩
                  · exact .inl ⟨z, decide_eq_false z⟩
                have hmid : (decide (0 < k) && decide (xk ≤ x0)) = false := by
                  rw [Bool.eq_false_iff]; intro h; simp only [Bool.and_eq_true, decide_eq_true_eq] at h; exact q3 h
                have HMID := Lib.hid hmid
                clear q3 hmid
                cases ct
                · have HQ2 := Lib.hid (show ∀ j, j < k + 1 → cycAt n c j = true from fun j hj => by
                    by_cases e : j = k
                    · subst e; rw [HCY.out, HIN.out, HMID.out]; rfl
                    · exact HQ.out j (by omega))
                  rcases hq with ⟨f1, f1'⟩ | ⟨f1, f1', f2⟩
                  all_goals
                    go_wp2_with (first
                      | (go_at_call 53; refine (within_any xk 0 (n - 1) _).mono ?_; rintro e w' ⟨rfl, rfl⟩; have hin := HIN.out)
                      | (go_at_call 57; refine (HCON.out _ HB.out).mono ?_; rintro e w' ⟨rfl, rfl⟩))
                    exact ⟨⟨k + 1, by omega, by go_num, HB.out, HG.out, HQ2⟩, by simp [intOf]; omega⟩
                · have HR := Lib.hid (HNO.out (by rw [HCY.out, Bool.not_true, Bool.and_false]))
                  rcases hq with ⟨f1, f1'⟩ | ⟨f1, f1', f2⟩
                  all_goals
                    go_wp2_with (first
                      | (go_at_call 53; refine (within_any xk 0 (n - 1) _).mono ?_; rintro e w' ⟨rfl, rfl⟩; have hin := HIN.out)
                      | (go_at_call 57; refine (HCON.out _ HB.out).mono ?_; rintro e w' ⟨rfl, rfl⟩))
                    go_ret
                    exact ⟨by rw [HR.out]; rfl, HB.out⟩
          · obtain rfl : k = c.length := by omega
            have HR := Lib.hid (show isCycleB n l c = !(endsB c).any (notJ l) from by
              rw [isCycle_parts, HH.out, ends_all]
              have : (List.range c.length).all (cycAt n c) = true := by
                rw [List.all_eq_true]; intro i hi; exact HQ.out i (by simpa using hi)
              rw [this]; rfl)
            have HB := Lib.hid hB
            have HG := Lib.hid hG
            clear hB hG
            go_wp2_with (first
              | (go_at_call 30; refine (ends_any ad c0 c _ (by omega) (by omega) (Kd.C_below HC.out HB.out)).mono ?_; rintro e w2 ⟨v_, rfl, hR, hb⟩; obtain ⟨A3, c3, hv3⟩ := Kd.R_slice hR; subst hv3; have HR3 := Lib.hid hR; have HB3 := Lib.hid hb; clear hR hb)
              | (go_at_call 31; refine (containsP_any n A cc len m l w.heap.size A3 c3 (endsB c) _ (by rw [endsB_len]; omega) (Kd.R_reads' HR3.out).2.2 (HG.out.below HB3.out HG.out.lt) (HM.out.below (below_then HB.out HB.out.size HB3.out) HM.out.lt)).mono ?_; rintro e w4 ⟨rfl, hb⟩; have HB4 := Lib.hid hb; clear hb))
            go_ret
            have q1 := below_then HB.out HB.out.size HB3.out
            exact ⟨by rw [HR.out]; rfl, below_then q1 q1.size HB4.out⟩

end Go.Proofs.Ytkefmlhkejoknab.L
