/- stud.Turn of an order, by the symmetry 2 (the rows in reverse order). -/
import Derived.Test.YtkefmlhkejoknaaXOdd
import Derived.Test.YtkefmlhkejoknaaL36
import Derived.Test.YtkefmlhkejoknaaL38
namespace Go.Proofs.Ytkefmlhkejoknaa.L
set_option linter.unusedVariables false
set_option linter.unusedSimpArgs false
open Go.RowKit Go.Shelf Go.Proofs.YtkefmlhkejoknaaW.PrintWords Go.Proofs.YtkefmlhkejoknaaW.PrintLast Go.Proofs.YtkefmlhkejoknaaW.PrintMore

/-- Numbers that are an order of at most 16. -/
def orderB (l : List Int) : Bool := decide (0 < l.length) && decide (l.length ≤ 16) && (List.range l.length).all fun i => decide (0 ≤ rd l (i : Int)) && decide (rd l (i : Int) ≤ (l.length : Int) - 1) && !(l.take i).contains (rd l (i : Int))
theorem orderB_at {l : List Int} (h : orderB l = true) : 0 < l.length ∧ l.length ≤ 16 ∧ ∀ i, i < l.length → 0 ≤ rd l (i : Int) ∧ rd l (i : Int) ≤ (l.length : Int) - 1 ∧ (l.take i).contains (rd l (i : Int)) = false := by
  unfold orderB at h
  rw [Bool.and_eq_true, Bool.and_eq_true, decide_eq_true_eq, decide_eq_true_eq, List.all_eq_true] at h
  refine ⟨h.1.1, h.1.2, fun i hi => ?_⟩
  have := h.2 i (by simpa using hi)
  rw [Bool.and_eq_true, Bool.and_eq_true, decide_eq_true_eq, decide_eq_true_eq, Bool.not_eq_true'] at this
  exact ⟨this.1.1, this.1.2, this.2⟩
theorem within82_any (a b c : Int) (w : World) (h : b ≤ a ∧ a ≤ c) : Calls Try.prog 82 #[.int .i64 a, .int .i64 b, .int .i64 c] w fun e w' => e = .returned (.bool true) ∧ Drawn0 w w' :=
  stud_within.calls a b c true w (by unfold stud_within.f; rw [if_pos h.1, decide_eq_true h.2])

set_option maxHeartbeats 1000000 in
theorem isOrder_any (A : Option Addr) (c : Nat) (l : List Int) (w : World) (hc : l.length ≤ c) (hC : Kd.C (Kd.int .i64) w A l.length l) (hO : orderB l = true) :
    Calls Try.prog 81 #[.slice A l.length c] w fun e w' => e = .returned (.bool true) ∧ Below w.heap.size w w' := by
  obtain ⟨h0, h16, hat⟩ := orderB_at hO
  have HC := Lib.hid hC
  have HAT := Lib.hid hat
  clear hC hO hat
  go_enter Try.func81, Try.ntmps81
  go_wp2
  go_loopw [7] (fun i wr => ∃ k : Nat, k ≤ l.length ∧ i = .int .i64 k ∧ Below w.heap.size w wr) (fun i _ => l.length - (intOf i).toNat)
  case atStart => exact ⟨0, Nat.zero_le _, rfl, Below.refl _ _⟩
  case round =>
    obtain ⟨k, hk, rfl, hB⟩ := hrel
    have HB := Lib.hid hB
    have HCW := Lib.hid (Kd.C_below HC.out hB)
    clear hB
    by_cases hlt : k < l.length
    · obtain ⟨ad, rfl, hc0⟩ := Kd.at_int HCW.out (k : Int) (by omega) (by omega)
      simp only [Int.toNat_natCast] at hc0
      obtain ⟨a1, a2, a3⟩ := HAT.out k hlt
      have HTK := Lib.hid (Kd.C_take HCW.out (show k ≤ l.length by omega))
      have hkl : (l.take k).length = k := by simp; omega
      have HL := Lib.hid hkl
      have hcon := Lib.hid a3
      clear a3 hkl
      generalize rd l (k : Int) = x at hc0 a1 a2 hcon
      have hltI : (k : Int) < l.length := by omega
      have hkc : k ≤ c := by omega
      have h17 : ¬ (16 : Int) < l.length := by omega
      go_wp2_with (first
        | (go_at_call 82; refine (within82_any _ _ _ _ (by omega)).mono ?_; rintro e w2 ⟨rfl, hd⟩; have HB2 := Lib.hid (HB.out.trans (hd.below.mono HB.out.size)); have HT2 := Lib.hid (Kd.C_below HTK.out hd.below); clear hd)
        | (go_at_call 109; have hct := containsI_any (some ad) c (l.take k) x w2 (by rw [HL.out]; omega) HT2.out; rw [HL.out, hcon.out] at hct; refine hct.mono ?_; rintro e w3 ⟨rfl, rfl⟩))
      exact ⟨⟨k + 1, by omega, by go_num, HB2.out⟩, by simp [intOf]; omega⟩
    · obtain rfl : k = l.length := by omega
      have h0I : (0 : Int) < l.length := by omega
      go_wp2
      exact bodyPost_ret (v := .bool true) (by simp [results, Try.results81, go_sem]) rfl ⟨by simp [h0I], HB.out⟩

/-- The rows in reverse order. -/
def mirL (l : List Int) : List Int := l.map fun r => (l.length : Int) - 1 - r
theorem mir_l0 (l : List Int) (hO : orderB l = true) : ∀ d i : Nat, i + d = l.length → stud_order_mirrored.l0 (d + 1) l ((l.take i).map fun r => (l.length : Int) - 1 - r) l (l.length : Int) (i : Int) = some (mirL l) := by
  obtain ⟨h0, h16, hat⟩ := orderB_at hO
  intro d
  induction d with
  | zero =>
    intro i hi
    obtain rfl : i = l.length := by omega
    rw [stud_order_mirrored.l0, if_neg (by omega), List.take_length]
    rfl
  | succ d ih =>
    intro i hi
    have hlt : i < l.length := by omega
    obtain ⟨a1, a2, _⟩ := hat i hlt
    have e1 : rd l (i : Int) = l[i] := by simp [rd, hlt]
    have w1 : wrap64 ((l.length : Int) - 1) = (l.length : Int) - 1 := by unfold wrap64; omega
    have w2 : wrap64 ((l.length : Int) - 1 - rd l (i : Int)) = (l.length : Int) - 1 - rd l (i : Int) := by unfold wrap64; omega
    have w3 : wrap64 ((i : Int) + 1) = ((i + 1 : Nat) : Int) := by unfold wrap64; omega
    have ih' := ih (i + 1) (by omega)
    rw [List.take_succ_eq_append_getElem hlt, List.map_append] at ih'
    rw [stud_order_mirrored.l0, if_pos (by omega), if_pos (by omega), if_pos (by omega), if_pos (by simp; omega), w1, w2, w3, e1]
    exact ih'
theorem mir_f (l : List Int) (hO : orderB l = true) : stud_order_mirrored.f (l.length + 1) l = some (mirL l) := mir_l0 l hO l.length 0 (by omega)

set_option maxHeartbeats 2000000 in
theorem turned_any (A : Option Addr) (c : Nat) (l : List Int) (w : World) (hc : l.length ≤ c) (hC : Kd.C (Kd.int .i64) w A l.length l) (hO : orderB l = true) :
    Calls Try.prog 84 #[.slice A l.length c, .int .i64 2] w fun e w' => ∃ v, e = .returned v ∧ Kd.R (Kd.int .i64) 3 w' w.heap.size (fun _ => True) v (mirL l) ∧ Below w.heap.size w w' := by
  have HC := Lib.hid hC
  have HM := Lib.hid (fun W hA => stud_order_mirrored.calls (l.length + 1) A c l (mirL l) W hA hc (mir_f l hO))
  clear hC
  go_enter Try.func84, Try.ntmps84
  go_wp2
  refine wp_loop_rounds 4 ?_
  rw [rounds_succ]
  go_wp2
  rw [rounds_succ]
  go_wp2_with (go_at_call 111; refine (HM.out _ (Kd.C_alloc HC.out _)).mono ?_; rintro e w2 ⟨v2, rfl, hR, hb⟩; have HR := Lib.hid hR; have HB := Lib.hid hb; have T2 := ((Whole.new w 121 #[.func (.func 110) #[] #[], .func (.func 111) #[] #[], .func (.func 112) #[] #[]]).below hb (by simp)).cell 2; simp only [List.getElem?_toArray, List.getElem?_cons_zero, List.getElem?_cons_succ] at T2; clear hR hb)
  rw [rounds_succ]
  go_wp2
  rw [rounds_succ]
  go_wp2
  go_ret
  exact ⟨_, rfl, Kd.R_of_own (own_weaken (Kd.own_of_R HR.out) (by simp)) (fun _ _ => trivial), below_then (below_alloc (Below.refl _ _) _) (by simp) HB.out⟩
theorem own_empty120 {w : World} (base : Nat) (hb : base ≤ w.heap.size) : Kd.R (Kd.int .i64) 3 (w.alloc (.cells #[] 3)) base (fun _ => True) (.slice (some ⟨w.heap.size, 0, none⟩) 0 0) [] :=
  ⟨fun _ _ => trivial, [], World.ownsRow_lit (base := base) w #[] 0 hb (by simp [maxLen]) rfl, Reps.none _ _⟩
set_option maxHeartbeats 1000000 in
set_option maxRecDepth 100000 in
theorem clone83_any (ad : Addr) (c n : Nat) (xs : List Int) (w : World) (hl : xs.length ≤ 1000) (hn : xs.length = n) (hC : Kd.C (Kd.int .i64) w (some ad) n xs) :
    Calls Try.prog 83 #[.slice (some ad) n c] w fun e w' => ∃ v, e = .returned v ∧ Kd.R (Kd.int .i64) 3 w' w.heap.size (fun _ => True) v xs ∧ Below w.heap.size w w' := by
  subst hn
  have HC := Lib.hid hC
  clear hC
  have hq : ∀ W, (Sem.run Try.prog (binOp BinOp.eql 120 (Value.slice (some ad) xs.length c) (Value.slice none 0 0)) W) = .ok (.bool false) W := fun W => by kernel_rfl
  go_enter Try.func83, Try.ntmps83
  go_wp2_with ((with_reducible refine gate_builtin (b := .append) (xs := #[.tmp 5, .tmp 6]) rfl ?_); at_builtin; refine Kd.R_append_rows (Kd.int .i64) (w0 := w) w.heap.size rfl (.tmp 5) (.tmp 6) 120 3 (.int .i64 0) 8 rfl Try.underlying120 info3 rfl (by decide) (by omega) (.slice (some ⟨w.heap.size, 0, none⟩) 0 0) ([] : List Int) xs _ _ _ (fun _ => True) (fun _ => False) rfl rfl ?aO ?aR (fun _ _ h => h) (fun _ h => h.elim) ?aF ?aB ?aS ?aL ?_; (case aR => exact Kd.C_alloc HC.out _); (case aB => exact below_alloc (Below.refl _ _) _); (case aF => exact (fun _ _ => trivial)); (case aO => exact own_empty120 _ (Nat.le_refl _)); (case aS => exact below_size (below_alloc (Below.refl _ _) _)); (case aL => simp only [List.length_nil]; omega); intro v106 w7 ho hb hg hat; have HO := Lib.hid ho; have HB := Lib.hid hb; clear ho hb hg hat)
  go_ret
  exact ⟨_, rfl, by have := HO.out; rwa [List.nil_append] at this, HB.out⟩


def stud_Turn.f (l : List Int) (s : Int) : Option (List Int × Int) := if orderB l && decide (s = 2) then some (mirL l, 0) else none
theorem mirL_len (l : List Int) : (mirL l).length = l.length := by simp [mirL]
set_option maxRecDepth 100000 in
set_option maxHeartbeats 1000000 in
theorem stud_Turn.calls (A1 : Option Addr) (c1 : Nat) (l1 : List Int) (a2 : Int) (r1 : List Int) (r2 : Int) (w : World) (hr1 : Kd.C (Kd.int .i64) w A1 l1.length l1) (hc1 : l1.length ≤ c1) (h : stud_Turn.f l1 a2 = some (r1, r2)) :
    Calls Try.prog 50 #[.slice A1 l1.length c1, .int .i64 a2] w fun e w' => ∃ v0_ : Value, e = .returned (.tuple #[v0_, .int .i64 r2]) ∧ Kd.R (Kd.int .i64) 3 w' w.heap.size (fun _ => True) v0_ r1 ∧ Below w.heap.size w w' := by
  unfold stud_Turn.f at h
  cases hO : orderB l1 && decide (a2 = 2)
  · rw [hO] at h; cases h
  · rw [hO] at h
    simp only [if_true, Option.some.injEq, Prod.mk.injEq] at h
    obtain ⟨rfl, rfl⟩ := h
    rw [Bool.and_eq_true, decide_eq_true_eq] at hO
    obtain ⟨hO, rfl⟩ := hO
    have HO := Lib.hid hO
    have HC := Lib.hid hr1
    have HML := Lib.hid (mirL_len l1)
    have hpos := (orderB_at hO).1
    have h16 := (orderB_at hO).2.1
    clear hO hr1
    go_enter Try.func50, Try.ntmps50
    go_wp2_with (first
      | (go_at_call 81; refine (isOrder_any A1 c1 l1 _ hc1 HC.out HO.out).mono ?_; rintro e w1 ⟨rfl, hb⟩; have HB1 := Lib.hid hb; clear hb)
      | (go_at_call 82; refine (within82_any _ _ _ _ (by omega)).mono ?_; rintro e w2 ⟨rfl, hd⟩; have HB2 := Lib.hid (HB1.out.trans (hd.below.mono HB1.out.size)); clear hd)
      | (go_at_call 84; refine (turned_any A1 c1 l1 _ hc1 (Kd.C_below HC.out HB2.out) HO.out).mono ?_; rintro e w3 ⟨v3, rfl, hR, hb⟩; obtain ⟨A3, c3, rfl, hc3, hC3⟩ := Kd.R_reads hR; obtain ⟨ad3, rfl, _⟩ := Kd.at_int hC3 (0 : Int) (by omega) (by rw [HML.out]; omega); have HC3 := Lib.hid hC3; have HB3 := Lib.hid (HB2.out.trans (hb.mono HB2.out.size)); clear hR hb hC3)
      | (go_at_call 83; refine (clone83_any ad3 c3 _ (mirL l1) _ (by rw [HML.out]; omega) rfl HC3.out).mono ?_; rintro e w4 ⟨v4, rfl, hR, hb⟩; have HR4 := Lib.hid hR; have HB4 := Lib.hid (HB3.out.trans (hb.mono HB3.out.size)); have hs3 := HB3.out.size; clear hR hb))
    go_ret2
    exact ⟨_, rfl, Kd.R_of_own (own_weaken (Kd.own_of_R HR4.out) hs3) (fun _ _ => trivial), HB4.out⟩
end Go.Proofs.Ytkefmlhkejoknaa.L
