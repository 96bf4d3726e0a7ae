/- The law's tame, by hand: a graph made from any int and list. -/
import Derived.Test.YtkefmlhkejoknabXBest
import Derived.Test.YtkefmlhkejoknabL8
import Derived.Deep.WholeRow
namespace Go.Proofs.Ytkefmlhkejoknab.L
set_option linter.unusedVariables false
set_option linter.unusedSimpArgs false
open Go.RowKit Go.Shelf Go.Proofs.YtkefmlhkejoknabW.PrintWords Go.Proofs.YtkefmlhkejoknabW.PrintLast Go.Proofs.YtkefmlhkejoknabW.PrintMore
attribute [local go_sem] max2_int min2_int max_two min_two

/-- Any int in the range from 0 to n - 1. -/
def modU (x n : Int) : Int := (x % 18446744073709551616) % n
theorem mod_f (x n : Int) (h0 : 0 < n) (h1 : n ≤ 1099511627776) : remouldlaw05_mod.f x n = some (modU x n) := by
  unfold remouldlaw05_mod.f modU
  have e1 : IntKind.u64.wrap n = n := by rw [IntKind.wrap_u64]; omega
  have e2 : IntKind.u64.wrap x = x % 18446744073709551616 := by rw [IntKind.wrap_u64]
  rw [e1, e2, if_neg (by omega), Int.tmod_eq_emod_of_nonneg (by omega)]
  have a := Int.emod_nonneg (x % 18446744073709551616) (show n ≠ 0 by omega)
  have b := Int.emod_lt_of_pos (x % 18446744073709551616) h0
  unfold wrap64
  congr 1
  omega
theorem modU_in (x n : Int) (h0 : 0 < n) : 0 ≤ modU x n ∧ modU x n < n := ⟨Int.emod_nonneg _ (by omega), Int.emod_lt_of_pos _ h0⟩
/-- The two ends that a number stands for. -/
def endA (n x : Int) : Int := if x % n ≤ (x % n + 1 + x / n % (n - 1)) % n then x % n else (x % n + 1 + x / n % (n - 1)) % n
def endB (n x : Int) : Int := if x % n ≤ (x % n + 1 + x / n % (n - 1)) % n then (x % n + 1 + x / n % (n - 1)) % n else x % n
def tameGo (n most low : Int) : List Int → (Nat → Bool) → List S46 → List S46
  | [], _, out => out
  | v :: l, used, out => if (out.length : Int) < most then
      (if used ((endA n (modU v 1099511627776)).toNat * 12 + (endB n (modU v 1099511627776)).toNat) then tameGo n most low l used out
       else tameGo n most low l (fun j => used j || j == (endA n (modU v 1099511627776)).toNat * 12 + (endB n (modU v 1099511627776)).toNat)
         (out ++ [⟨endA n (modU v 1099511627776), endB n (modU v 1099511627776), low + modU v 1099511627776 / n / n % (50 - low + 1)⟩]))
    else out
def remouldlaw05_tame.f (n : Int) (l : List Int) (most low : Int) : Option (Int × List S46) :=
  if l.length * 8 ≤ 140737488351232 ∧ most ≤ 1000 ∧ -50 ≤ low ∧ low ≤ 50 then some (1 + modU n 12, if 1 + modU n 12 > 1 then tameGo (1 + modU n 12) most low l (fun _ => false) [] else []) else none

def usedCells (f : Nat → Bool) : Array Value := ((List.range 144).map fun i => Value.bool (f i)).toArray

theorem usedCells_at (f : Nat → Bool) (i : Nat) (h : i < 144) : (usedCells f)[i]? = some (.bool (f i)) := by
  simp [usedCells, h]
theorem usedCells_set (f : Nat → Bool) (i : Nat) (h : i < 144) : (usedCells f).setIfInBounds i (.bool true) = usedCells (fun j => f j || j == i) := by
  apply Array.ext_getElem?
  intro j
  rw [Array.getElem?_setIfInBounds]
  by_cases hj : j < 144
  · rw [usedCells_at f j hj, usedCells_at (fun j => f j || j == i) j hj]
    by_cases e : i = j
    · subst e; simp [usedCells, h]
    · rw [if_neg e]
      have : (j == i) = false := by rw [beq_eq_false_iff_ne]; omega
      rw [this, Bool.or_false]
  · have h1 : ∀ g : Nat → Bool, (usedCells g)[j]? = none := fun g => by simp [usedCells]; omega
    rw [h1, h1, if_neg (by omega)]

theorem e49_ne (q : Nat) (h : q ∈ 46 :: k46.E) : q ≠ 81 := by
  have : k46.E = [] := by rfl
  rw [this] at h
  simp at h
  omega
theorem tame_R {wr : World} {base g nd : Nat} {v : Value} {out : List S46} {cs : Array Value} (hO : Kd.R k46 46 wr base (fun _ => True) v out) (hU : Whole wr g 81 cs) (i : Nat) (u : Value) : Kd.R k46 46 ((wr.drewN nd).setCell ⟨g, i, none⟩ u) base (fun _ => True) v out :=
  Kd.R_set (Kd.R_drewN hO nd) (show (wr.drewN nd).heap[g]? = some (.cells cs 81 (0, 0)) from hU) e49_ne i u
theorem tame_B {w wr : World} {g nd : Nat} (hB : Below w.heap.size w wr) (i : Nat) (u : Value) (hg : w.heap.size ≤ g) : Below w.heap.size w ((wr.drewN nd).setCell ⟨g, i, none⟩ u) := Below.setAt (pw_below_drewN hB nd) hg i u
theorem tame_W {wr w8 : World} {g nd i : Nat} {f : Nat → Bool} {row : Option Nat} (hU : Whole wr g 81 (usedCells f)) (hg : ((wr.drewN nd).setCell ⟨g, i, none⟩ (.bool true)).grownBy w8 row) (hne : some g ≠ row) (hi : i < 144) : Whole w8 g 81 (usedCells fun j => f j || j == i) := by
  have h1 : Whole (wr.drewN nd) g 81 (usedCells f) := hU
  have h2 := h1.set i (.bool true)
  rw [usedCells_set f i hi] at h2
  exact h2.grown hg hne
theorem tame_X {wr : World} {g nd : Nat} (i : Nat) (u : Value) : ((wr.drewN nd).setCell ⟨g, i, none⟩ u).heap.size = wr.heap.size := by simp

set_option maxHeartbeats 8000000 in
set_option maxRecDepth 100000 in
theorem remouldlaw05_tame.calls (a0 : Int) (A1 : Option Addr) (c1 : Nat) (l1 : List Int) (a2 a3 : Int) (r1 : Int) (r2 : List S46) (w : World) (hr1 : Kd.C (Kd.int .i64) w A1 l1.length l1) (hc1 : l1.length ≤ c1) (h : remouldlaw05_tame.f a0 l1 a2 a3 = some (r1, r2)) :
    Calls Try.prog 13 #[.int .i64 a0, .slice A1 l1.length c1, .int .i64 a2, .int .i64 a3] w fun e w' => ∃ v0_ : Value, e = .returned (.tuple #[.int .i64 r1, v0_]) ∧ Kd.R k46 46 w' w.heap.size (fun _ => True) v0_ r2 ∧ Below w.heap.size w w' := by
  have HC := Lib.hid hr1
  rw [remouldlaw05_tame.f] at h
  by_cases hl : l1.length * 8 ≤ 140737488351232 ∧ a2 ≤ 1000 ∧ -50 ≤ a3 ∧ a3 ≤ 50
  case neg => rw [if_neg hl] at h; cases h
  rw [if_pos hl] at h
  simp only [Option.some.injEq, Prod.mk.injEq] at h
  obtain ⟨hln, hl0, hl1, hl2⟩ := hl
  have hmx : l1.length ≤ 17592186043904 := by omega
  clear hln
  obtain ⟨h1, h2⟩ := h
  have hmod := mod_f a0 12 (by omega) (by omega)
  have hin := modU_in a0 12 (by omega)
  generalize modU a0 12 = m at h1 h2 hmod hin
  have HM := Lib.hid hmod
  have H2 := Lib.hid h2
  clear hr1 h2 hmod
  subst h1
  have hst : ∀ nd, Sem.run Try.prog (storeCells { block := w.heap.size + 1, off := 0 } Try.zeroCells81.toList) (((w.drewN nd).alloc (Obj.cells #[] 46)).alloc (Obj.cells Try.zeroCells81 81)) = .ok () (((w.drewN nd).alloc (Obj.cells #[] 46)).alloc (Obj.cells Try.zeroCells81 81)) := fun nd => by
    have := run_storeCells_new (P := Try.prog) ((w.drewN nd).alloc (Obj.cells #[] 46)) 81 Try.zeroCells81 Try.zeroCells81 (by kernel_rfl) rfl (by kernel_rfl)
    simpa using this
  have HZ := Lib.hid (show Try.zeroCells81 = usedCells (fun _ => false) by kernel_rfl)
  generalize hN : 1 + m = N at H2
  have hN1 : 1 ≤ N ∧ N ≤ 12 := by omega
  go_enter Try.func13, Try.ntmps13
  go_wp2_with (go_at_call 40; refine (remouldlaw05_mod.calls a0 12 m _ HM.out).mono ?_; rintro e w' ⟨rfl, ⟨nd, rfl⟩⟩)
  have HU : Whole (((w.drewN nd).alloc (Obj.cells #[] 46)).alloc (Obj.cells Try.zeroCells81 81)) (w.heap.size + 1) 81 (usedCells fun _ => false) := by
    have := Whole.new ((w.drewN nd).alloc (Obj.cells #[] 46)) 81 Try.zeroCells81
    rw [HZ.out] at this ⊢
    simpa using this
  have HB : Below w.heap.size w (((w.drewN nd).alloc (Obj.cells #[] 46)).alloc (Obj.cells Try.zeroCells81 81)) := below_alloc (below_alloc (pw_below_drewN (Below.refl _ _) _) _) _
  have HO : Kd.R k46 46 (((w.drewN nd).alloc (Obj.cells #[] 46)).alloc (Obj.cells Try.zeroCells81 81)) w.heap.size (fun _ => True) (.slice (some ⟨w.heap.size, 0, none⟩) 0 0) [] :=
    Kd.R_alloc (show Kd.R k46 46 ((w.drewN nd).alloc (Obj.cells #[] 46)) w.heap.size (fun _ => True) (.slice (some ⟨w.heap.size, 0, none⟩) 0 0) [] from ⟨fun _ _ => trivial, [], World.ownsRow_lit (base := w.heap.size) (w.drewN nd) #[] 0 (Nat.le_refl _) (by simp [maxLen]) rfl, Reps.none _ _⟩) _
  generalize ((w.drewN nd).alloc (Obj.cells #[] 46)).alloc (Obj.cells Try.zeroCells81 81) = W0 at HU HB HO
  clear hst HZ
  go_loopw [10, 12] (fun ov iv wr => ∃ (k : Nat) (out : List S46) (f : Nat → Bool), k ≤ l1.length ∧ iv = .int .i64 k ∧ Hid ((if N > 1 then tameGo N a2 a3 (l1.drop k) f out else out) = r2) ∧ Kd.R k46 46 wr w.heap.size (fun _ => True) ov out ∧ Whole wr (w.heap.size + 1) 81 (usedCells f) ∧ Below w.heap.size w wr) (fun _ iv _ => l1.length - (intOf iv).toNat)
  case atStart => exact ⟨0, [], _, Nat.zero_le _, rfl, H2, HO, HU, HB⟩
  case round =>
    obtain ⟨k, out, f, hk, rfl, HR, hO, hU, hB⟩ := hrel
    obtain ⟨Ao, co, rfl⟩ := Kd.R_slice hO
    by_cases hstop : (k : Int) < l1.length ∧ N > 1 ∧ (out.length : Int) < a2
    · obtain ⟨s1, s2, s3⟩ := hstop
      have hk2 : k < l1.length := by omega
      have d1 : decide ((k : Int) < l1.length) = true := decide_eq_true s1
      have d2 : decide (1 < N) = true := decide_eq_true s2
      have d3 : decide ((out.length : Int) < a2) = true := decide_eq_true s3
      obtain ⟨ad, rfl, hxk⟩ := Kd.at_int (Kd.C_below HC.out hB) (k : Int) (by omega) (by omega)
      simp only [Int.toNat_natCast] at hxk
      have hgo := HR.out
      rw [if_pos s2, List.drop_eq_getElem_cons hk2, tameGo, if_pos s3] at hgo
      have hv : l1[k] = rd l1 (k : Int) := by simp [rd, List.getElem?_eq_getElem hk2]
      rw [hv] at hgo
      generalize rd l1 (k : Int) = v at hxk hgo
      have hm2 := mod_f v 1099511627776 (by omega) (by omega)
      have hin2 := modU_in v 1099511627776 (by omega)
      generalize modU v 1099511627776 = x at hgo hm2 hin2
      have HM2 := Lib.hid hm2
      have HGO := Lib.hid hgo
      have HO := Lib.hid hO
      have HU := Lib.hid hU
      have HB := Lib.hid hB
      have hlt := hU.lt
      clear hm2 hgo hO hU hB HR hv
      -- the numbers
      have q1 : Int.tmod x N = x % N := Int.tmod_eq_emod_of_nonneg (by omega)
      have q2 : Int.tdiv x N = x / N := Int.tdiv_eq_ediv_of_nonneg (by omega)
      have i1 := Int.emod_nonneg x (show N ≠ 0 by omega)
      have i2 := Int.emod_lt_of_pos x (show 0 < N by omega)
      have i3 : 0 ≤ x / N := Int.ediv_nonneg (by omega) (by omega)
      have i4 : x / N ≤ x := Int.ediv_le_self _ (by omega)
      have q3 : Int.tmod (x / N) (N - 1) = x / N % (N - 1) := Int.tmod_eq_emod_of_nonneg i3
      have i5 := Int.emod_nonneg (x / N) (show N - 1 ≠ 0 by omega)
      have i6 := Int.emod_lt_of_pos (x / N) (show 0 < N - 1 by omega)
      have q4 : Int.tmod (x % N + 1 + x / N % (N - 1)) N = (x % N + 1 + x / N % (N - 1)) % N := Int.tmod_eq_emod_of_nonneg (by omega)
      have i7 := Int.emod_nonneg (x % N + 1 + x / N % (N - 1)) (show N ≠ 0 by omega)
      have i8 := Int.emod_lt_of_pos (x % N + 1 + x / N % (N - 1)) (show 0 < N by omega)
      have nz : (N == 0) = false := by rw [beq_eq_false_iff_ne]; omega
      have nz' : ¬ N = 0 := by omega
      have nz1 : (N - 1 == 0) = false := by rw [beq_eq_false_iff_ne]; omega
      have nz1' : ¬ N - 1 = 0 := by omega
      have hea : endA N x = if x % N ≤ (x % N + 1 + x / N % (N - 1)) % N then x % N else (x % N + 1 + x / N % (N - 1)) % N := rfl
      have heb : endB N x = if x % N ≤ (x % N + 1 + x / N % (N - 1)) % N then (x % N + 1 + x / N % (N - 1)) % N else x % N := rfl
      generalize endA N x = ea at HGO hea
      generalize endB N x = eb at HGO heb
      generalize (x % N + 1 + x / N % (N - 1)) % N = B at q4 i7 i8 hea heb
      have q5 : Int.tdiv (x / N) N = x / N / N := Int.tdiv_eq_ediv_of_nonneg (by omega)
      have i9 : 0 ≤ x / N / N := Int.ediv_nonneg i3 (by omega)
      have q6 : Int.tmod (x / N / N) (50 - a3 + 1) = x / N / N % (50 - a3 + 1) := Int.tmod_eq_emod_of_nonneg i9
      have j1 := Int.emod_nonneg (x / N / N) (show 50 - a3 + 1 ≠ 0 by omega)
      have j2 := Int.emod_lt_of_pos (x / N / N) (show 0 < 50 - a3 + 1 by omega)
      have j3 : x / N / N ≤ x / N := Int.ediv_le_self _ (by omega)
      have nz3 : (50 - a3 + 1 == 0) = false := by rw [beq_eq_false_iff_ne]; omega
      generalize x / N / N % (50 - a3 + 1) = wt at HGO q6 j1 j2
      generalize x / N / N = xnn at q5 q6 i9 j3
      generalize x / N % (N - 1) = rr at q3 q4 i5 i6
      generalize x / N = xn at q2 q3 q5 i3 i4 j3
      generalize x % N = A at q1 q4 i1 i2 hea heb
      obtain ⟨A, rfl⟩ := Int.eq_ofNat_of_zero_le i1
      obtain ⟨B, rfl⟩ := Int.eq_ofNat_of_zero_le i7
      have z1 : (A : Int) < 12 := by omega
      have z2 : (B : Int) < 12 := by omega
      have hAB : A * 12 + B < 144 := by omega
      have hBA : B * 12 + A < 144 := by omega
      have hcell := fun i (h : i < 144) => (HU.out.cell i).trans (usedCells_at f i h)
      have hfz := fun i => HU.out.frozen i
      rcases Nat.lt_trichotomy A B with hab | rfl | hab
      · have c1 : ¬ (B : Int) < (A : Int) := by omega
        have c2 : (A : Int) < (B : Int) := by omega
        rw [if_pos (by omega)] at hea heb
        subst hea heb
        simp only [Int.toNat_natCast] at HGO
        have hi144 : A * 12 + B < 144 := by omega
        have hc := hcell _ hi144
        have hf := hfz (A * 12 + B)
        have HNE := Lib.hid (Kd.R_ne HO.out HU.out (by decide))
        clear hcell hfz
        cases hused : f (A * 12 + B)
        all_goals
          rw [hused] at hc
          have HGO' := HGO.out
          rw [hused] at HGO'
        case true =>
          rw [if_pos rfl] at HGO'
          have HX := Lib.hid HGO'
          clear HGO HGO'
          go_wp2_with (go_at_call 40; refine (remouldlaw05_mod.calls v 1099511627776 x _ HM2.out).mono ?_; rintro e w' ⟨rfl, ⟨nd, rfl⟩⟩)
          exact ⟨⟨k + 1, out, f, by omega, by go_num, Lib.hid (by rw [if_pos s2]; exact HX.out), Kd.R_drewN HO.out _, HU.out, pw_below_drewN HB.out _⟩, by simp [intOf]; omega⟩
        rw [if_neg (by decide)] at HGO'
        have HX := Lib.hid HGO'
        have hlen : out.length ≤ 1000 := by omega
        clear HGO HGO'
        go_wp2_with (first
          | (go_at_call 40; refine (remouldlaw05_mod.calls v 1099511627776 x _ HM2.out).mono ?_; rintro e w' ⟨rfl, ⟨nd, rfl⟩⟩)
          | ((with_reducible refine gate_builtin (b := .append) (xs := #[.tmp 72, .tmp 87]) rfl ?_); at_builtin; refine Kd.R_append k46 (w0 := w) w.heap.size rfl (.tmp 72) (.tmp 87) 22 46 (.agg #[.int .i64 0, .int .i64 0, .int .i64 0]) 24 rfl Try.underlying22 info46 rfl (by decide) (by omega) (.slice Ao out.length co) out ⟨A, B, a3 + wt⟩ [.int .i64 A, .int .i64 B, .int .i64 (a3 + wt)] (fun _ => True) (fun _ => False) rfl ?aX ?aP (fun _ hk => hk.elim) ?aF ?aO ?aB ?aS ?aL ?_; (case aX => rw [tame_X]; rfl); (case aP => exact k46_mkM _ _ _ _); (case aF => exact fun _ _ => trivial); (case aO => exact tame_R HO.out HU.out _ _); (case aB => exact tame_B HB.out _ _ (Nat.le_succ _)); (case aS => rw [tame_X]; exact HB.out.size); (case aL => omega); intro v1 w8 ho hb hg hat; have HO8 := Lib.hid ho; have HB8 := Lib.hid hb; have HG8 := Lib.hid hg; clear ho hb hg hat))
        exact ⟨⟨k + 1, out ++ [⟨A, B, a3 + wt⟩], fun j => f j || j == A * 12 + B, by omega, by go_num, Lib.hid (by rw [if_pos s2]; exact HX.out), HO8.out, tame_W HU.out HG8.out HNE.out hi144, HB8.out⟩, by simp [intOf]; omega⟩
      · have c1 : ¬ (A : Int) < (A : Int) := by omega
        have c2 : (A : Int) = (A : Int) := by omega
        rw [if_pos (by omega)] at hea heb
        subst hea heb
        simp only [Int.toNat_natCast] at HGO
        have hi144 : A * 12 + A < 144 := by omega
        have hc := hcell _ hi144
        have hf := hfz (A * 12 + A)
        have HNE := Lib.hid (Kd.R_ne HO.out HU.out (by decide))
        clear hcell hfz
        cases hused : f (A * 12 + A)
        all_goals
          rw [hused] at hc
          have HGO' := HGO.out
          rw [hused] at HGO'
        case true =>
          rw [if_pos rfl] at HGO'
          have HX := Lib.hid HGO'
          clear HGO HGO'
          go_wp2_with (go_at_call 40; refine (remouldlaw05_mod.calls v 1099511627776 x _ HM2.out).mono ?_; rintro e w' ⟨rfl, ⟨nd, rfl⟩⟩)
          exact ⟨⟨k + 1, out, f, by omega, by go_num, Lib.hid (by rw [if_pos s2]; exact HX.out), Kd.R_drewN HO.out _, HU.out, pw_below_drewN HB.out _⟩, by simp [intOf]; omega⟩
        rw [if_neg (by decide)] at HGO'
        have HX := Lib.hid HGO'
        have hlen : out.length ≤ 1000 := by omega
        clear HGO HGO'
        go_wp2_with (first
          | (go_at_call 40; refine (remouldlaw05_mod.calls v 1099511627776 x _ HM2.out).mono ?_; rintro e w' ⟨rfl, ⟨nd, rfl⟩⟩)
          | ((with_reducible refine gate_builtin (b := .append) (xs := #[.tmp 72, .tmp 87]) rfl ?_); at_builtin; refine Kd.R_append k46 (w0 := w) w.heap.size rfl (.tmp 72) (.tmp 87) 22 46 (.agg #[.int .i64 0, .int .i64 0, .int .i64 0]) 24 rfl Try.underlying22 info46 rfl (by decide) (by omega) (.slice Ao out.length co) out ⟨A, A, a3 + wt⟩ [.int .i64 A, .int .i64 A, .int .i64 (a3 + wt)] (fun _ => True) (fun _ => False) rfl ?aX ?aP (fun _ hk => hk.elim) ?aF ?aO ?aB ?aS ?aL ?_; (case aX => rw [tame_X]; rfl); (case aP => exact k46_mkM _ _ _ _); (case aF => exact fun _ _ => trivial); (case aO => exact tame_R HO.out HU.out _ _); (case aB => exact tame_B HB.out _ _ (Nat.le_succ _)); (case aS => rw [tame_X]; exact HB.out.size); (case aL => omega); intro v1 w8 ho hb hg hat; have HO8 := Lib.hid ho; have HB8 := Lib.hid hb; have HG8 := Lib.hid hg; clear ho hb hg hat))
        exact ⟨⟨k + 1, out ++ [⟨A, A, a3 + wt⟩], fun j => f j || j == A * 12 + A, by omega, by go_num, Lib.hid (by rw [if_pos s2]; exact HX.out), HO8.out, tame_W HU.out HG8.out HNE.out hi144, HB8.out⟩, by simp [intOf]; omega⟩
      · have c1 : (B : Int) < (A : Int) := by omega
        have c2 : ¬ (A : Int) < (B : Int) := by omega
        rw [if_neg (by omega)] at hea heb
        subst hea heb
        simp only [Int.toNat_natCast] at HGO
        have hi144 : B * 12 + A < 144 := by omega
        have hc := hcell _ hi144
        have hf := hfz (B * 12 + A)
        have HNE := Lib.hid (Kd.R_ne HO.out HU.out (by decide))
        clear hcell hfz
        cases hused : f (B * 12 + A)
        all_goals
          rw [hused] at hc
          have HGO' := HGO.out
          rw [hused] at HGO'
        case true =>
          rw [if_pos rfl] at HGO'
          have HX := Lib.hid HGO'
          clear HGO HGO'
          go_wp2_with (go_at_call 40; refine (remouldlaw05_mod.calls v 1099511627776 x _ HM2.out).mono ?_; rintro e w' ⟨rfl, ⟨nd, rfl⟩⟩)
          exact ⟨⟨k + 1, out, f, by omega, by go_num, Lib.hid (by rw [if_pos s2]; exact HX.out), Kd.R_drewN HO.out _, HU.out, pw_below_drewN HB.out _⟩, by simp [intOf]; omega⟩
        rw [if_neg (by decide)] at HGO'
        have HX := Lib.hid HGO'
        have hlen : out.length ≤ 1000 := by omega
        clear HGO HGO'
        go_wp2_with (first
          | (go_at_call 40; refine (remouldlaw05_mod.calls v 1099511627776 x _ HM2.out).mono ?_; rintro e w' ⟨rfl, ⟨nd, rfl⟩⟩)
          | ((with_reducible refine gate_builtin (b := .append) (xs := #[.tmp 72, .tmp 87]) rfl ?_); at_builtin; refine Kd.R_append k46 (w0 := w) w.heap.size rfl (.tmp 72) (.tmp 87) 22 46 (.agg #[.int .i64 0, .int .i64 0, .int .i64 0]) 24 rfl Try.underlying22 info46 rfl (by decide) (by omega) (.slice Ao out.length co) out ⟨B, A, a3 + wt⟩ [.int .i64 B, .int .i64 A, .int .i64 (a3 + wt)] (fun _ => True) (fun _ => False) rfl ?aX ?aP (fun _ hk => hk.elim) ?aF ?aO ?aB ?aS ?aL ?_; (case aX => rw [tame_X]; rfl); (case aP => exact k46_mkM _ _ _ _); (case aF => exact fun _ _ => trivial); (case aO => exact tame_R HO.out HU.out _ _); (case aB => exact tame_B HB.out _ _ (Nat.le_succ _)); (case aS => rw [tame_X]; exact HB.out.size); (case aL => omega); intro v1 w8 ho hb hg hat; have HO8 := Lib.hid ho; have HB8 := Lib.hid hb; have HG8 := Lib.hid hg; clear ho hb hg hat))
        exact ⟨⟨k + 1, out ++ [⟨B, A, a3 + wt⟩], fun j => f j || j == B * 12 + A, by omega, by go_num, Lib.hid (by rw [if_pos s2]; exact HX.out), HO8.out, tame_W HU.out HG8.out HNE.out hi144, HB8.out⟩, by simp [intOf]; omega⟩
    · have hr : out = r2 := by
        rw [← HR.out]
        by_cases n1 : N > 1
        · rw [if_pos n1]
          by_cases hk2 : k < l1.length
          · rw [List.drop_eq_getElem_cons hk2, tameGo, if_neg (fun h => hstop ⟨by omega, n1, h⟩)]
          · rw [List.drop_of_length_le (by omega), tameGo]
        · rw [if_neg n1]
      subst hr
      by_cases s1 : (k : Int) < l1.length
      · have d1 : decide ((k : Int) < l1.length) = true := decide_eq_true s1
        by_cases s2 : 1 < N
        · have d2 : decide (1 < N) = true := decide_eq_true s2
          have d3 : decide ((out.length : Int) < a2) = false := decide_eq_false (fun h => hstop ⟨s1, s2, h⟩)
          go_wp2
          go_ret2
          exact ⟨_, rfl, hO, hB⟩
        · have d2 : decide (1 < N) = false := decide_eq_false s2
          go_wp2
          go_ret2
          exact ⟨_, rfl, hO, hB⟩
      · have d1 : decide ((k : Int) < l1.length) = false := decide_eq_false s1
        go_wp2
        go_ret2
        exact ⟨_, rfl, hO, hB⟩

end Go.Proofs.Ytkefmlhkejoknab.L
