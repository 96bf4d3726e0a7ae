/- The walk of (rule).form. -/
import Derived.Test.YtkjojcepombhpaaXNew
import Derived.Test.YtkjojcepombhpaaM2
namespace Go.Proofs.Ytkjojcepombhpaa.L
set_option linter.unusedVariables false
set_option linter.unusedSimpArgs false
open Go.RowKit Go.Shelf Go.Proofs.YtkjojcepombhpaaW.PrintWords Go.Proofs.YtkjojcepombhpaaW.PrintLast Go.Proofs.YtkjojcepombhpaaW.PrintMore

theorem slice_course (g n : Nat) (W : World) (hn : n ≤ 12) : (Instr.sliceAt 87 (.pointer (some ⟨g, 1, none⟩)) none (some (.int .i64 (n : Int))) none).run Try.prog W = .ok (.slice (some ⟨g, 1, none⟩) n 12) W := by
  have ht : Try.prog.underlying 87 = some (.array (Try.prog.arrayLen 87) (Try.prog.elem 87)) := by kernel_rfl
  have hal : Try.prog.arrayLen 87 = 12 := by kernel_rfl
  have hel : Try.prog.elem 87 = 3 := by kernel_rfl
  have hs : (sizeOf 3).run Try.prog W = .ok 1 W := by kernel_rfl
  rw [run_sliceAt_array_h W 87 _ ht .i64 n (by omega) (by rw [hal]; omega), hal, hel, hs]
  simp [slicedAt, Result.andThen, Addr.add]

section
attribute [local go_sem] max2_int min2_int max_two min_two
set_option maxRecDepth 100000 in
set_option maxHeartbeats 4000000 in
theorem form_any (m : Int) (A1 A2 : Option Addr) (c1 c2 : Nat) (t p : List Int) (n : Nat) (a0 a1 a2 a3 a4 a5 a6 a7 a8 a9 a10 a11 : Int) (w : World) (hR : RuleIs m t p) (hn : n ≤ 12) (hcr : CourseIs m ([a0, a1, a2, a3, a4, a5, a6, a7, a8, a9, a10, a11].take n)) (h1 : Kd.C (Kd.int .i64) w A1 t.length t) (h2 : Kd.C (Kd.int .i64) w A2 p.length p) (ra rb rd' : Int) (hf : formW m t p ([a0, a1, a2, a3, a4, a5, a6, a7, a8, a9, a10, a11].take n) = (ra, rb, rd')) :
    Calls Try.prog 65 #[rv m (.slice A1 t.length c1) (.slice A2 p.length c2), cE n a0 a1 a2 a3 a4 a5 a6 a7 a8 a9 a10 a11] w fun e w' => e = .returned (.tuple #[.int .i64 ra, .int .i64 rb, .int .i64 rd', .bool true]) ∧ Below w.heap.size w w' := by
  obtain ⟨L, hL⟩ : ∃ L : List Int, [a0, a1, a2, a3, a4, a5, a6, a7, a8, a9, a10, a11] = L := ⟨_, rfl⟩
  have hlen : L.length = 12 := by rw [← hL]; rfl
  have hcell : #[.int .i64 (n : Int), .int .i64 a0, .int .i64 a1, .int .i64 a2, .int .i64 a3, .int .i64 a4, .int .i64 a5, .int .i64 a6, .int .i64 a7, .int .i64 a8, .int .i64 a9, .int .i64 a10, .int .i64 a11] = cC n L := by rw [← hL]; rfl
  rw [hL] at hf hcr
  have HA := Lib.hid h1
  have HB := Lib.hid h2
  have HF := Lib.hid hf
  have HR := Lib.hid hR
  have HC := Lib.hid hcr
  have m2 := hR.m2
  have m6 := hR.m6
  have tl := hR.tl
  have pl := hR.pl
  have g1 := (Whole.new w 75 #[.int .i64 m, .slice A1 t.length c1, .slice A2 p.length c2]).alloc (.cells (cC n L) 89)
  have g2 := Whole.new (w.alloc (rbox m (.slice A1 t.length c1) (.slice A2 p.length c2))) 89 (cC n L)
  rw [World.size_alloc] at g2
  have G1 := Lib.hid g1
  have G2 := Lib.hid g2
  have HCE := Lib.hid hcell
  clear h1 h2 hf hR hcr hL g1 g2 hcell
  have hsl := fun W : World => slice_course (w.heap.size + 1) n W hn
  go_enter Try.func65, Try.ntmps65
  go_wp2
  go_loopw [8, 9, 10, 19] (fun a b d i wr => ∃ k : Nat, k ≤ n ∧ i = .int .i64 k ∧ a = .int .i64 (formW m t p (L.take k)).1 ∧ b = .int .i64 (formW m t p (L.take k)).2.1 ∧ d = .int .i64 (formW m t p (L.take k)).2.2 ∧ Below w.heap.size w wr ∧ Whole wr w.heap.size 75 #[.int .i64 m, .slice A1 t.length c1, .slice A2 p.length c2] ∧ Whole wr (w.heap.size + 1) 89 (cC n L)) (fun _ _ _ i _ => n - (intOf i).toNat)
  case atStart =>
    refine ⟨0, Nat.zero_le _, rfl, by simp [formW], by simp [formW], by simp [formW], below_alloc (below_alloc (Below.refl _ _) _) _, ?_, ?_⟩
    · rw [HCE.out]; exact G1.out
    · rw [HCE.out]; exact G2.out
  case round =>
    obtain ⟨k, hk, rfl, rfl, rfl, rfl, hB, hG, hH⟩ := hrel
    have hg0 := hG.cell 0
    have hg1 := hG.cell 1
    have hg2 := hG.cell 2
    simp only [List.getElem?_toArray, List.getElem?_cons_zero, List.getElem?_cons_succ] at hg0 hg1 hg2
    have hlt1 := hG.lt
    have hlt2 := hH.lt
    have HB3 := Lib.hid hB
    have hfin := formIn HR.out (HC.out.take k)
    have hmin : ((L.take n).take k).length = k := by rw [List.length_take, List.length_take, hlen]; omega
    have htk : (L.take n).take k = L.take k := by rw [List.take_take, Nat.min_eq_left hk]
    rw [hmin, htk] at hfin
    by_cases hlt : k < n
    · obtain ⟨r0, r1⟩ := HC.out.at hlt (by omega)
      obtain ⟨t1, t2, _, p1, p2, _⟩ := HR.out.ok _ r0 r1
      have hx := (hH.cell (1 + k)).trans (cC_at n L k (by omega))
      have hst := formW_snoc m t p (L.take k) (rd L (k : Int))
      rw [← take_succ_rd L k (by omega)] at hst
      have hfin2 := formIn_step HR.out hfin ⟨r0, r1⟩
      have hsm := hfin.less (by omega)
      have hsm2 := hfin2.small (by omega)
      obtain ⟨ad1, rfl, k1⟩ := Kd.at_int (Kd.C_below HA.out hB) _ r0 (by omega)
      obtain ⟨ad2, rfl, k2⟩ := Kd.at_int (Kd.C_below HB.out hB) _ r0 (by omega)
      have HGG := Lib.hid hG
      have HHH := Lib.hid hH
      have HST := Lib.hid hst
      have hfa := hfin.a1
      have hfd := hfin.d1
      have hfa2 := hfin2.a1
      have hfd2 := hfin2.d1
      have hb20 := mul_le_20 (x := (formW m t p (L.take k)).2.1) (B := 819200000000000) t1 t2 hsm.2.1 hsm.2.2
      have hd6 : (formW m t p (L.take k)).2.2 ≤ 362797056 := by
        have := hfin.d2
        have := pow6_le (show k ≤ 11 by omega)
        have e : (6 : Int) ^ 11 = 362797056 := by decide
        omega
      have hp50 := mul_le_50 (x := (formW m t p (L.take k)).2.2) (S := 362797056) p1 p2 (by omega) hd6
      clear hG hH hB hfin hfin2 hst
      generalize formW m t p (L.take k) = s at *
      obtain ⟨sa, sb, sd⟩ := s
      simp only [formStep] at hsm2 hfa2 hfd2 HST
      dsimp only at hsm hfa hfd hb20 hd6 hp50
      generalize rd L (k : Int) = r at *
      generalize rd t r = y at *
      generalize rd p r = z at *
      have e1 : wrap64 (sa * y) = sa * y := by unfold wrap64; omega
      have e2 : wrap64 (sb * y) = sb * y := by unfold wrap64; omega
      have e3 : wrap64 (z * sd) = z * sd := by unfold wrap64; omega
      have e4 : wrap64 (sb * y + z * sd) = sb * y + z * sd := by unfold wrap64; omega
      have e5 : wrap64 (sd * m) = sd * m := by unfold wrap64; omega
      have v1 : (57646075230342348 : Int) ≤ 1152921504606846976 / y := Int.le_ediv_of_mul_le (by omega) (by omega)
      have v2 : (57646075230342348 : Int) ≤ 2305843009213693952 / y := Int.le_ediv_of_mul_le (by omega) (by omega)
      have f1 : decide (1152921504606846976 / y < sa) = false := decide_eq_false (by omega)
      have f2 : decide (2305843009213693952 / y < sb) = false := decide_eq_false (by omega)
      have f3 : decide (2305843009213693952 / y < -sb) = false := decide_eq_false (by omega)
      go_wp2
      all_goals go_quiet (fail)
      all_goals generalize sa * y = na at *
      all_goals generalize hnb : sb * y + z * sd = nb at *
      all_goals generalize sd * m = nd at *
      all_goals have g4 : decide (2305843009213693952 < nb) = false := decide_eq_false (by omega)
      all_goals have g5 : decide (2305843009213693952 < -nb) = false := decide_eq_false (by omega)
      all_goals clear hnb hb20 hp50 e1 e2 e3 e4 e5 v1 v2 f1 f2 f3
      all_goals go_wp2
      all_goals exact ⟨⟨k + 1, by omega, by go_num, by rw [HST.out], by rw [HST.out], by rw [HST.out], pw_below_drewN HB3.out _, HGG.out, HHH.out⟩, by simp [intOf]; omega⟩
    · obtain rfl : k = n := by omega
      have hsm := hfin.small hn
      rw [HF.out] at hsm
      clear hfin
      rw [HF.out]
      dsimp only at hsm ⊢
      have g4 : decide (rb ≤ 1152921504606846976) = true := decide_eq_true (by omega)
      have g5 : decide (-rb ≤ 1152921504606846976) = true := decide_eq_true (by omega)
      go_wp2
      all_goals exact bodyPost_ret (v := .tuple #[.int .i64 ra, .int .i64 rb, .int .i64 rd', .bool true]) (by simp [results, Try.results65, go_sem]) rfl ⟨rfl, HB3.out⟩
end
end Go.Proofs.Ytkjojcepombhpaa.L
