/- Balanced comes to what belt_Balanced.f says; bits.OnesCount of a side. -/
import Derived.Test.YtkefmlhkejoknaaXBest
namespace Go.Proofs.Ytkefmlhkejoknaa.L
set_option linter.unusedVariables false
set_option linter.unusedSimpArgs false
open Go.RowKit Go.Shelf Go.Proofs.YtkefmlhkejoknaaW.PrintWords Go.Proofs.YtkefmlhkejoknaaW.PrintLast

/-- The steps of OnesCount64. -/
def pc1 (x : Int) : Int := IntKind.u64.wrap (bits .and .u64 (x / 2) 6148914691236517205 + bits .and .u64 x 6148914691236517205)
def pc2 (x : Int) : Int := IntKind.u64.wrap (bits .and .u64 (x / 4) 3689348814741910323 + bits .and .u64 x 3689348814741910323)
def pc3 (x : Int) : Int := bits .and .u64 (IntKind.u64.wrap (x / 16 + x)) 1085102592571150095
def pc4 (x : Int) : Int := IntKind.u64.wrap (x + x / 256)
def pc5 (x : Int) : Int := IntKind.u64.wrap (x + x / 65536)
def pc6 (x : Int) : Int := IntKind.u64.wrap (x + x / 4294967296)
def pc7 (x : Int) : Int := bits .and .i64 (wrap64 x) 127
theorem pc_all (s : Nat) (hs : s < 4096) : pc7 (pc6 (pc5 (pc4 (pc3 (pc2 (pc1 (s : Int))))))) = (onesB s : Int) := by
  have h : ((List.range 4096).all fun s => pc7 (pc6 (pc5 (pc4 (pc3 (pc2 (pc1 (s : Int))))))) == (onesB s : Int)) = true := by kernel_rfl
  rw [List.all_eq_true] at h
  exact eq_of_beq (h s (by simpa using hs))
set_option maxHeartbeats 1000000 in
theorem ones64_any (s : Nat) (w : World) (hs : s < 4096) : Calls Try.prog 119 #[.int .u64 (s : Int)] w fun e w' => e = .returned (.int .i64 (onesB s : Int)) ∧ w' = w := by
  have HP := Lib.hid (pc_all s hs)
  go_enter Try.func119, Try.ntmps119
  go_wp2
  go_ret
  refine ⟨?_, rfl⟩
  simp
  exact HP.out
attribute [local irreducible] wpQuiet
set_option maxHeartbeats 1000000 in
theorem ones_any (s : Nat) (w : World) (hs : s < 4096) : Calls Try.prog 91 #[.int .u64 (s : Int)] w fun e w' => e = .returned (.int .i64 (onesB s : Int)) ∧ w' = w := by
  have HP := Lib.hid (ones64_any s w hs)
  generalize (onesB s : Int) = z at HP
  go_enter Try.func91, Try.ntmps91
  go_wp2_with (go_at_call 119; refine HP.out.mono ?_; rintro e w' ⟨rfl, rfl⟩)
  go_ret
  exact ⟨rfl, rfl⟩
set_option maxHeartbeats 1000000 in
theorem ones_want (k : Int) (kb : Nat) (w : World) (B : Nat) (hk : w.cell? ⟨kb, 0, none⟩ = some (.int .i64 k)) (hB : kb < B) : WantAt 90 #[] #[.pointer (some ⟨kb, 0, none⟩)] B (fun s => (onesB s : Int) == k) w := by
  refine ⟨enters_of Try.func90 (by kernel_rfl) rfl, fun W hW s hs => ?_⟩
  have hc : W.cell? ⟨kb, 0, none⟩ = some (.int .i64 k) := (hW.cell (p := ⟨kb, 0, none⟩) hB).trans hk
  have HP := Lib.hid (fun W => ones_any s W hs)
  dsimp only
  generalize (onesB s : Int) = z at HP
  simp only [List.push_toArray, List.cons_append, List.nil_append, Array.append_empty, List.append_toArray]
  go_enter Try.func90, Try.ntmps90
  go_wp2
  go_quiet ((refine (HP.out _).mono ?_; rintro e w2 ⟨he, rfl⟩; exact ⟨he, _, rfl⟩))
  go_wp2
  go_ret
  exact ⟨rfl, pw_below_drewN (Below.refl _ _) _⟩
theorem box_kept {w w1 : World} {v : Value} (hb : Below (w.alloc (.cells #[v] 3)).heap.size (w.alloc (.cells #[v] 3)) w1) : w1.cell? ⟨w.heap.size, 0, none⟩ = some v ∧ w.heap.size < w1.heap.size := by
  refine ⟨(hb.cell (p := ⟨w.heap.size, 0, none⟩) (by simp)).trans ((Whole.new w 3 #[v]).cell 0), ?_⟩
  have := hb.size
  simp at this
  omega
set_option maxHeartbeats 2000000 in
theorem belt_Balanced.calls (a0 : Int) (A1 : Option Addr) (c1 : Nat) (l1 : List S49) (a2 : Int) (r1 : ByteArray) (r2 r3 : Int) (w : World) (hr1 : Kd.C k49 w A1 l1.length l1) (hc1 : l1.length ≤ c1) (h : belt_Balanced.f a0 l1 a2 = some (r1, r2, r3)) :
    Calls Try.prog 58 #[.int .i64 a0, .slice A1 l1.length c1, .int .i64 a2] w fun e w' => e = .returned (.tuple #[.string r1, .int .i64 r2, .int .i64 r3]) ∧ Below w.heap.size w w' := by
  have HC := Lib.hid hr1
  have HF := Lib.hid h
  clear hr1 h
  cases hg : graphOk a0 l1
  · have HG := Lib.hid hg
    clear hg
    go_enter Try.func58, Try.ntmps58
    go_wp2_with (go_at_call 64; refine (newGraph_any a0 A1 c1 l1 _ (Kd.C_alloc HC.out _)).mono ?_; rintro e w1 ⟨rfl, hb, _⟩; have hg := HG.out; have HB := Lib.hid hb; clear hb)
    go_ret3
    have e1 := HF.out
    rw [belt_Balanced.f, HG.out] at e1
    simp only [Bool.false_and, Bool.false_eq_true, if_false, Option.some.injEq, Prod.mk.injEq] at e1
    obtain ⟨rfl, rfl, rfl⟩ := e1
    have q1 := below_then (below_alloc (Below.refl w.heap.size w) (.cells #[.int .i64 a2] 3)) (by simp) HB.out
    exact ⟨rfl, below_alloc q1 _⟩
  · obtain ⟨h0, hn⟩ := graphOk_n hg
    have hl := graphOk_len hg
    have HE := Lib.hid (graphOk_edges hg)
    have HG := Lib.hid hg
    clear hg
    have e1 := HF.out
    rw [belt_Balanced.f, HG.out] at e1
    cases hin : inB a2 0 a0
    · have hin2 : (decide (0 ≤ a2) && decide (a2 ≤ a0)) = false := hin
      rw [Bool.true_and, hin2] at e1
      simp only [Bool.false_eq_true, if_false, Option.some.injEq, Prod.mk.injEq] at e1
      obtain ⟨rfl, rfl, rfl⟩ := e1
      have HIN := Lib.hid hin
      clear hin hin2
      go_enter Try.func58, Try.ntmps58
      go_wp2_with (first
        | (go_at_call 64; refine (newGraph_any a0 A1 c1 l1 _ (Kd.C_alloc HC.out _)).mono ?_; rintro e w1 ⟨rfl, hb, hm⟩; have hg := HG.out; obtain ⟨hkc, hks⟩ := box_kept hb; have HB1 := Lib.hid hb; clear hm hb)
        | (go_at_call 89; refine (within_any a2 0 a0 _).mono ?_; rintro e w' ⟨rfl, rfl⟩; have hin := HIN.out))
      go_ret3
      have q1 := below_then (below_alloc (Below.refl w.heap.size w) (.cells #[.int .i64 a2] 3)) (by simp) HB1.out
      exact ⟨rfl, below_alloc q1 _⟩
    · have hin2 : (decide (0 ≤ a2) && decide (a2 ≤ a0)) = true := hin
      rw [Bool.true_and, hin2] at e1
      simp only [if_true, Option.some.injEq, Prod.mk.injEq] at e1
      have HP := Lib.hid (pow12 a0 h0 hn l1 (fun s => (onesB s : Int) == a2))
      obtain ⟨E1, E2, E3⟩ := e1
      generalize hbb : bestB a0 l1 (fun s => (onesB s : Int) == a2) (2 ^ a0.toNat) = bb at E1 E2 E3 HP
      have HBB := Lib.hid hbb
      clear hbb
      subst E1 E2 E3
      have hp4 := HP.out
      have HIN := Lib.hid hin
      clear hin hin2
      go_enter Try.func58, Try.ntmps58
      go_wp2_with (first
        | (go_at_call 64; refine (newGraph_any a0 A1 c1 l1 _ (Kd.C_alloc HC.out _)).mono ?_; rintro e w1 ⟨rfl, hb, hm⟩; have hg := HG.out; obtain ⟨hkc, hks⟩ := box_kept hb; have HB1 := Lib.hid hb; have HKC := Lib.hid hkc; clear hm hb)
        | (go_at_call 89; refine (within_any a2 0 a0 _).mono ?_; rintro e w' ⟨rfl, rfl⟩; have hin := HIN.out)
        | (go_at_call 65; refine (best_any a0 A1 c1 _ l1 90 #[] #[.pointer (some ⟨w.heap.size, 0, none⟩)] (fun s => (onesB s : Int) == a2) _ hn h0 hl HE.out (Kd.C_alloc (Kd.C_below (Kd.C_alloc HC.out _) HB1.out) _) (ones_want a2 w.heap.size _ _ (((below_alloc (Below.refl w1.heap.size w1) _).cell (p := ⟨w.heap.size, 0, none⟩) hks).trans HKC.out) (by simp; omega))).mono ?_; rintro e w2 ⟨rfl, hb⟩; have h2 := HBB.out; have HB2 := Lib.hid (below_cells hb); have HB3 := Lib.hid hb; clear hb; obtain ⟨hb4, _⟩ := HB2.out; have hb5 := HB3.out.size; simp only [World.size_alloc] at hb5)
        | (go_at_call 67; refine (text_any a0 _ _ _ _ rfl hn h0 hp4).mono ?_; rintro e w3 ⟨rfl, hb⟩; have HB4 := Lib.hid hb; clear hb))
      go_ret3
      refine ⟨rfl, ?_⟩
      have q0 := below_then (below_alloc (Below.refl w.heap.size w) (.cells #[.int .i64 a2] 3)) (by simp) HB1.out
      have q1 := below_alloc q0 (gbox a0 (.slice A1 l1.length c1) (w.heap.size + 1 + 1))
      have q2 := below_then q1 q1.size HB3.out
      exact below_then q2 q2.size HB4.out

end Go.Proofs.Ytkefmlhkejoknaa.L
