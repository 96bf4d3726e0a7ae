/- Gains comes to what belt_Gains.f says; slices.Clone of a list of numbers. -/
import Derived.Test.YtkefmlhkejoknabXClimb
namespace Go.Proofs.Ytkefmlhkejoknab.L
set_option linter.unusedVariables false
set_option linter.unusedSimpArgs false
open Go.RowKit Go.Shelf Go.Proofs.YtkefmlhkejoknabW.PrintWords Go.Proofs.YtkefmlhkejoknabW.PrintLast

theorem own_empty {w : World} (base : Nat) (hb : base ≤ w.heap.size) : Kd.R (Kd.int .i64) 3 (w.alloc (.cells #[] 3)) base (fun _ => True) (.slice (some ⟨w.heap.size, 0, none⟩) 0 0) [] :=
  ⟨fun _ _ => trivial, [], World.ownsRow_lit (base := base) w #[] 0 hb (by simp [maxLen]) rfl, Reps.none _ _⟩
set_option maxHeartbeats 1000000 in
set_option maxRecDepth 100000 in
theorem cloneI_any (ad : Addr) (c n : Nat) (xs : List Int) (w : World) (hl : xs.length ≤ 1000) (hn : xs.length = n) (hC : Kd.C (Kd.int .i64) w (some ad) n xs) :
    Calls Try.prog 44 #[.slice (some ad) n c] w fun e w' => ∃ v, e = .returned v ∧ Kd.R (Kd.int .i64) 3 w' w.heap.size (fun _ => True) v xs ∧ Below w.heap.size w w' := by
  subst hn
  have HC := Lib.hid hC
  clear hC
  have hq : ∀ W, (Sem.run Try.prog (binOp BinOp.eql 33 (Value.slice (some ad) xs.length c) (Value.slice none 0 0)) W) = .ok (.bool false) W := fun W => by kernel_rfl
  go_enter Try.func44, Try.ntmps44
  go_wp2_with ((with_reducible refine gate_builtin (b := .append) (xs := #[.tmp 5, .tmp 6]) rfl ?_); at_builtin; refine Kd.R_append_rows (Kd.int .i64) (w0 := w) w.heap.size rfl (.tmp 5) (.tmp 6) 33 3 (.int .i64 0) 8 rfl Try.underlying33 info3 rfl (by decide) (by omega) (.slice (some ⟨w.heap.size, 0, none⟩) 0 0) ([] : List Int) xs _ _ _ (fun _ => True) (fun _ => False) rfl rfl ?aO ?aR (fun _ _ h => h) (fun _ h => h.elim) ?aF ?aB ?aS ?aL ?_; (case aR => exact Kd.C_alloc HC.out _); (case aB => exact below_alloc (Below.refl _ _) _); (case aF => exact (fun _ _ => trivial)); (case aO => exact own_empty _ (Nat.le_refl _)); (case aS => exact below_size (below_alloc (Below.refl _ _) _)); (case aL => simp only [List.length_nil]; omega); intro v106 w7 ho hb hg hat; have HO := Lib.hid ho; have HB := Lib.hid hb; clear ho hb hg hat)
  go_ret
  exact ⟨_, rfl, by have := HO.out; rwa [List.nil_append] at this, HB.out⟩

theorem gains_reads {N s : Nat} {l : List S46} {xs : List Int} {cs : Array Value} {w : World} (hlen : xs.length = N) (hN : N ≤ 12) (h : gainsB N s l = xs) (hc : ∀ i, i < 12 → cs[i]? = some (.int .i64 (gainB N s i l))) :
    Kd.C (Kd.int .i64) (w.alloc (.cells cs 89)) (some ⟨w.heap.size, 0, none⟩) N xs := by
  refine Kd.C_of_reads (d := (0 : Int)) (h1 := fun _ => rfl) ⟨hlen, by omega, fun _ => ⟨_, rfl, fun j hj => ?_⟩⟩
  have ha : (⟨w.heap.size, 0, none⟩ : Addr).add j = ⟨w.heap.size, j, none⟩ := by unfold Addr.add; split <;> simp_all
  rw [ha, (Whole.new w 89 cs).cell j, hc j (by omega), ← h]
  congr 2
  simp [gainsB, hj]

set_option maxHeartbeats 2000000 in
theorem belt_Gains.calls (a0 : Int) (A1 : Option Addr) (c1 : Nat) (l1 : List S46) (a2 : ByteArray) (r1 : List Int) (r2 : Int) (w : World) (hr1 : Kd.C k46 w A1 l1.length l1) (hc1 : l1.length ≤ c1) (h : belt_Gains.f a0 l1 a2 = some (r1, r2)) :
    Calls Try.prog 16 #[.int .i64 a0, .slice A1 l1.length c1, .string a2] w fun e w' => ∃ v0_ : Value, e = .returned (.tuple #[v0_, .int .i64 r2]) ∧ Kd.R (Kd.int .i64) 3 w' w.heap.size (fun _ => True) v0_ r1 ∧ Below w.heap.size w w' := by
  have HC := Lib.hid hr1
  rw [belt_Gains.f] at h
  by_cases ha2 : a2.size ≤ 140737488351232
  case neg => rw [if_neg ha2] at h; cases h
  rw [if_pos ha2] at h
  have HF := Lib.hid h
  clear hr1 h
  cases hok : graphOk a0 l1 && sideOk a0 a2
  · have HG := Lib.hid hok
    clear hok
    go_enter Try.func16, Try.ntmps16
    go_wp2_with (go_at_call 41; refine (both_any a0 A1 c1 l1 a2 _ HC.out ha2).mono ?_; rintro e w1 ⟨x, rfl, hx, hb⟩; have hg := HG.out; have HB := Lib.hid hb; clear hx hb)
    go_ret2
    have e1 := HF.out
    rw [HG.out] at e1
    simp only [Bool.false_eq_true, if_false, Option.some.injEq, Prod.mk.injEq] at e1
    obtain ⟨rfl, rfl⟩ := e1
    exact ⟨_, rfl, Kd.R_nil _ _ _ _ _, below_alloc HB.out _⟩
  · have HG := Lib.hid hok
    simp only [Bool.and_eq_true] at hok
    obtain ⟨hg, hsd⟩ := hok
    obtain ⟨h0, hn⟩ := graphOk_n hg
    have hl := graphOk_len hg
    have Hg := Lib.hid hg
    have Hs := Lib.hid hsd
    have e1 := HF.out
    rw [HG.out] at e1
    simp only [if_true, Option.some.injEq, Prod.mk.injEq] at e1
    obtain ⟨E1, E2⟩ := e1
    have hs4 := numB_lt a0 a2 a2.size hn h0
    generalize hxx : numB a0 a2 a2.size = xx at E1 hs4
    have HXX := Lib.hid hxx
    have H1 := Lib.hid E1
    subst E2
    clear hg hsd E1 hxx
    obtain ⟨N, rfl⟩ := Int.eq_ofNat_of_zero_le (show 0 ≤ a0 by omega)
    have hlen : r1.length = N := by rw [← H1.out]; simp [gainsB]
    go_enter Try.func16, Try.ntmps16
    go_wp2_with (first
      | (go_at_call 41; refine (both_any N A1 c1 l1 a2 _ HC.out ha2).mono ?_; rintro e w1 ⟨x, rfl, hx, hb⟩; have hg := HG.out; have hxe := (hx Hg.out Hs.out).1.trans HXX.out; subst hxe; have HB := Lib.hid hb; clear hx hb)
      | (go_at_call 43; refine (gains_post N A1 c1 _ l1 x _ Hg.out hs4 (Kd.C_alloc (Kd.C_below HC.out HB.out) _)).mono ?_; rintro e w2 ⟨x0, x1, x2, x3, x4, x5, x6, x7, x8, x9, x10, x11, rfl, HI, hb⟩; have hb2 := hb.size; have HB2 := Lib.hid hb; clear hb)
      | (go_at_call 44; refine (cloneI_any ⟨w2.heap.size, 0, none⟩ 12 N r1 _ (by omega) hlen ?_).mono ?_; exact gains_reads hlen (by omega) H1.out HI.out; rintro e w3 ⟨v, rfl, hR, hb⟩; have HR := Lib.hid hR; have HB3 := Lib.hid hb; clear hR hb))
    go_ret2
    have q1 := below_alloc HB.out (gbox N (.slice A1 l1.length c1) (w.heap.size + 1 + 1))
    have q2 := below_then q1 q1.size HB2.out
    have q3 := below_alloc q2 (Obj.cells #[Value.int IntKind.i64 x0, Value.int IntKind.i64 x1, Value.int IntKind.i64 x2, Value.int IntKind.i64 x3, Value.int IntKind.i64 x4, Value.int IntKind.i64 x5, Value.int IntKind.i64 x6, Value.int IntKind.i64 x7, Value.int IntKind.i64 x8, Value.int IntKind.i64 x9, Value.int IntKind.i64 x10, Value.int IntKind.i64 x11] 89)
    exact ⟨_, rfl, Kd.R_lower HR.out q3.size, below_then q3 q3.size HB3.out⟩

end Go.Proofs.Ytkefmlhkejoknab.L
