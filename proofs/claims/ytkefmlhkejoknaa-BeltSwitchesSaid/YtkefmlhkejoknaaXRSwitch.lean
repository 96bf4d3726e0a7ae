/- The reference's Switch, by hand: the edges after switching by a side. -/
import Derived.Test.YtkefmlhkejoknaaXBest
namespace Go.Proofs.Ytkefmlhkejoknaa.L
set_option linter.unusedVariables false
set_option linter.unusedSimpArgs false
open Go.RowKit Go.Shelf Go.Proofs.YtkefmlhkejoknaaW.PrintWords Go.Proofs.YtkefmlhkejoknaaW.PrintLast

/-- An edge after switching. -/
def swE (t : ByteArray) (e : S49) : S49 := if bt t e.f0 = bt t e.f1 then e else ⟨e.f0, e.f1, - e.f2⟩
def swIn (t : ByteArray) (e : S49) : Bool := decide (0 ≤ e.f0) && (decide (e.f0 < t.size) && (decide (0 ≤ e.f1) && (decide (e.f1 < t.size) && (decide (-1000 ≤ e.f2) && decide (e.f2 ≤ 1000)))))
def remouldref05_Switch.f (l : List S49) (t : ByteArray) : Option (List S49) :=
  if l.length ≤ 1000 ∧ t.size ≤ 140737488351232 ∧ (l.all (swIn t)) = true then some (l.map (swE t)) else none
theorem sw_R {wr : World} {base nd : Nat} {v : Value} {out : List S49} (hO : Kd.R k49 49 wr base (fun _ => True) v out) (o : Obj) (i : Nat) (u : Value) : Kd.R k49 49 (((wr.alloc o).drewN nd).setCell ⟨wr.heap.size, i, none⟩ u) base (fun _ => True) v out :=
  Kd.R_mono (Kd.R_far (Kd.R_drewN (Kd.R_alloc (Kd.R_elderB hO wr.heap.size (Nat.le_refl _)) o) nd) (p := ⟨wr.heap.size, i, none⟩) (fun k hk => hk.2) u) (fun _ _ => trivial)
theorem sw_B {w wr : World} {nd : Nat} (hB : Below w.heap.size w wr) (o : Obj) (i : Nat) (u : Value) : Below w.heap.size w (((wr.alloc o).drewN nd).setCell ⟨wr.heap.size, i, none⟩ u) := Below.setAt (pw_below_drewN (below_alloc hB o) nd) hB.size i u
theorem sw_X {wr : World} {nd : Nat} (o : Obj) (i : Nat) (u : Value) : (((wr.alloc o).drewN nd).setCell ⟨wr.heap.size, i, none⟩ u).heap.size = wr.heap.size + 1 := by simp
theorem sw_X2 {wr : World} {nd : Nat} (o : Obj) : ((wr.alloc o).drewN nd).heap.size = wr.heap.size + 1 := by simp
attribute [local irreducible] wpQuiet

set_option maxHeartbeats 4000000 in
set_option maxRecDepth 100000 in
theorem remouldref05_Switch.calls (A0 : Option Addr) (c0 : Nat) (l0 : List S49) (a1 : ByteArray) (r : List S49) (w : World) (hr0 : Kd.C k49 w A0 l0.length l0) (hc0 : l0.length ≤ c0) (h : remouldref05_Switch.f l0 a1 = some r) :
    Calls Try.prog 44 #[.slice A0 l0.length c0, .string a1] w fun e w' => ∃ v0_ : Value, e = .returned v0_ ∧ Kd.R k49 49 w' w.heap.size (fun _ => True) v0_ r ∧ Below w.heap.size w w' := by
  have HC := Lib.hid hr0
  rw [remouldref05_Switch.f] at h
  by_cases hl : l0.length ≤ 1000 ∧ a1.size ≤ 140737488351232 ∧ (l0.all (swIn a1)) = true
  case neg => rw [if_neg hl] at h; cases h
  rw [if_pos hl] at h
  simp only [Option.some.injEq] at h
  obtain ⟨hl0, hsz, hall⟩ := hl
  have HA := Lib.hid hall
  have HF := Lib.hid h
  clear hr0 h hall
  go_enter Try.func44, Try.ntmps44
  go_wp2
  go_loopw [5, 6] (fun ov iv wr => ∃ (k : Nat), k ≤ l0.length ∧ iv = .int .i64 k ∧ Kd.R k49 49 wr w.heap.size (fun _ => True) ov ((l0.map (swE a1)).take k) ∧ Below w.heap.size w wr) (fun _ iv _ => l0.length - (intOf iv).toNat)
  case atStart => exact ⟨0, Nat.zero_le _, rfl, Kd.R_nil _ _ _ _ _, Below.refl _ _⟩
  case round =>
    obtain ⟨k, hk, rfl, hO, hB⟩ := hrel
    by_cases hlt : k < l0.length
    · obtain ⟨ad, rfl, hc0, hc1, hc2⟩ := at_T49 (Kd.C_below HC.out hB) (k : Int) (by omega) (by omega)
      simp only [Int.toNat_natCast] at hc0 hc1 hc2
      have hin : swIn a1 (rd_T49 l0 (k : Int)) = true := by
        have e : rd_T49 l0 (k : Int) = l0[k] := by simp [rd_T49, List.getElem?_eq_getElem hlt]
        rw [e]; exact (List.all_eq_true.1 HA.out) _ (List.getElem_mem hlt)
      have htk : (l0.map (swE a1)).take (k + 1) = (l0.map (swE a1)).take k ++ [swE a1 (rd_T49 l0 (k : Int))] := by
        rw [List.take_succ_eq_append_getElem (by simpa using hlt)]
        simp [rd_T49, List.getElem?_eq_getElem hlt]
      generalize rd_T49 l0 (k : Int) = e at hc0 hc1 hc2 hin htk
      obtain ⟨f0, f1, f2⟩ := e
      simp only [swIn, Bool.and_eq_true, decide_eq_true_eq] at hin
      obtain ⟨i0, i1, i2, i3, i4, i5⟩ := hin
      obtain ⟨a, rfl⟩ := Int.eq_ofNat_of_zero_le i0
      obtain ⟨b, rfl⟩ := Int.eq_ofNat_of_zero_le i2
      have ha : a < a1.size := by omega
      have hb : b < a1.size := by omega
      have hba := bt_at a1 (a : Int) (by simpa using ha)
      have hbb := bt_at a1 (b : Int) (by simpa using hb)
      simp only [Int.toNat_natCast] at hba hbb hc0 hc1 hc2
      obtain ⟨Ao, co, rfl⟩ := Kd.R_slice hO
      have hlo : ((l0.map (swE a1)).take k).length = k := by simp; omega
      rw [hlo] at hO ⊢
      have HO := Lib.hid hO
      have HB := Lib.hid hB
      have HT := Lib.hid htk
      clear hO hB htk
      cases hq : ((a1[a].toNat : Int) != (a1[b].toNat : Int))
      · have HE := Lib.hid (show swE a1 ⟨(a : Int), (b : Int), f2⟩ = ⟨(a : Int), (b : Int), f2⟩ from by
          have : bt a1 (a : Int) = bt a1 (b : Int) := by rw [← hba, ← hbb]; simpa using hq
          unfold swE; rw [if_pos this])
        clear hba hbb
        go_wp2
        go_quiet (fail)
        go_wp2_with ((with_reducible refine gate_builtin (b := .append) (xs := #[.tmp 31, .tmp 33]) rfl ?_); at_builtin; refine Kd.R_append k49 (w0 := w) w.heap.size rfl (.tmp 31) (.tmp 33) 22 49 (.agg #[.int .i64 0, .int .i64 0, .int .i64 0]) 24 rfl Try.underlying22 info49 rfl (by decide) (by omega) (.slice Ao k co) ((l0.map (swE a1)).take k) ⟨(a : Int), (b : Int), f2⟩ [.int .i64 (a : Int), .int .i64 (b : Int), .int .i64 f2] (fun _ => True) (fun _ => False) rfl ?aX ?aP (fun _ hk => hk.elim) ?aF ?aO ?aB ?aS ?aL ?_; (case aX => rw [sw_X2]; rfl); (case aP => exact k49_mkM _ _ _ _); (case aF => exact fun _ _ => trivial); (case aO => exact Kd.R_drewN (Kd.R_alloc HO.out _) _); (case aB => exact pw_below_drewN (below_alloc HB.out _) _); (case aS => rw [sw_X2]; exact Nat.le_succ_of_le HB.out.size); (case aL => rw [hlo]; omega); intro v1 w8 ho hb hg hat; have HO8 := Lib.hid ho; have HB8 := Lib.hid hb; clear ho hb hg hat)
        exact ⟨⟨k + 1, by omega, by go_num, by rw [HT.out, HE.out]; exact HO8.out, HB8.out⟩, by simp [intOf]; omega⟩
      · have HE := Lib.hid (show swE a1 ⟨(a : Int), (b : Int), f2⟩ = ⟨(a : Int), (b : Int), - f2⟩ from by
          have : ¬ bt a1 (a : Int) = bt a1 (b : Int) := by rw [← hba, ← hbb]; simpa using hq
          unfold swE; rw [if_neg this])
        clear hba hbb
        go_wp2
        go_quiet (fail)
        go_wp2_with ((with_reducible refine gate_builtin (b := .append) (xs := #[.tmp 31, .tmp 33]) rfl ?_); at_builtin; refine Kd.R_append k49 (w0 := w) w.heap.size rfl (.tmp 31) (.tmp 33) 22 49 (.agg #[.int .i64 0, .int .i64 0, .int .i64 0]) 24 rfl Try.underlying22 info49 rfl (by decide) (by omega) (.slice Ao k co) ((l0.map (swE a1)).take k) ⟨(a : Int), (b : Int), - f2⟩ [.int .i64 (a : Int), .int .i64 (b : Int), .int .i64 (- f2)] (fun _ => True) (fun _ => False) rfl ?aX ?aP (fun _ hk => hk.elim) ?aF ?aO ?aB ?aS ?aL ?_; (case aX => rw [sw_X]; rfl); (case aP => exact k49_mkM _ _ _ _); (case aF => exact fun _ _ => trivial); (case aO => exact sw_R HO.out _ _ _); (case aB => exact sw_B HB.out _ _ _); (case aS => rw [sw_X]; exact Nat.le_succ_of_le HB.out.size); (case aL => rw [hlo]; omega); intro v1 w8 ho hb hg hat; have HO8 := Lib.hid ho; have HB8 := Lib.hid hb; clear ho hb hg hat)
        exact ⟨⟨k + 1, by omega, by go_num, by rw [HT.out, HE.out]; exact HO8.out, HB8.out⟩, by simp [intOf]; omega⟩
    · obtain rfl : k = l0.length := by omega
      rw [List.take_of_length_le (by simp)] at hO
      go_wp2
      go_ret
      exact ⟨_, rfl, by rw [← HF.out]; exact hO, hB⟩

end Go.Proofs.Ytkefmlhkejoknaa.L
