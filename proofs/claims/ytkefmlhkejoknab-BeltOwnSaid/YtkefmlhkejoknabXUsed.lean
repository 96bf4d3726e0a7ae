/- slices.ContainsFunc with the question whether a pair is used; slices.Clone of a list of rows. -/
import Derived.Test.YtkefmlhkejoknabXMapK
import Derived.Test.YtkefmlhkejoknabXSeq
namespace Go.Proofs.Ytkefmlhkejoknab.L
set_option linter.unusedVariables false
set_option linter.unusedSimpArgs false
open Go.RowKit Go.Shelf Go.Proofs.YtkefmlhkejoknabW.PrintWords Go.Proofs.YtkefmlhkejoknabW.PrintLast Go.Proofs.YtkefmlhkejoknabW.PrintMore

theorem used_any (uB mU : Nat) (ks : List (Int × Int)) (p : Int × Int) (w : World) (hU : Whole w uB 61 #[.map (some mU)]) (hK : MapK w mU ks) :
    Calls Try.prog 32 #[.agg #[.int .i64 p.1, .int .i64 p.2], .pointer (some ⟨uB, 0, none⟩)] w fun e w' => e = .returned (.bool (ks.contains p)) ∧ Below w.heap.size w w' := by
  obtain ⟨xa, xb⟩ := p
  have g0 := hU.cell 0
  simp only [List.getElem?_toArray, List.getElem?_cons_zero, List.getElem?_cons_succ] at g0
  have hlt := hU.lt
  have hlk := (hK.below ((Below.refl _ w).alloc (Nat.le_refl _) (.cells #[.int .i64 xa, .int .i64 xb] 68))).look xa xb
  clear hU hK
  generalize ks.contains (xa, xb) = q at hlk ⊢
  go_enter Try.func32, Try.ntmps32
  go_wp2
  go_ret
  exact ⟨rfl, below_alloc (Below.refl _ _) _⟩

set_option maxHeartbeats 2000000 in
theorem indexU_any (uB mU : Nat) (ks : List (Int × Int)) (A2 : Option Addr) (c2 : Nat) (ps : List (Int × Int)) (w : World) (hl : ps.length ≤ 1000) (hC : Kd.C kP w A2 ps.length ps) (hU : Whole w uB 61 #[.map (some mU)]) (hK : MapK w mU ks) :
    Calls Try.prog 61 #[.slice A2 ps.length c2, .func (.func 32) #[] #[.pointer (some ⟨uB, 0, none⟩)]] w fun e w' => (∃ r : Int, e = .returned (.int .i64 r) ∧ decide (0 ≤ r) = ps.any ks.contains) ∧ Below w.heap.size w w' := by
  have HC := Lib.hid hC
  have HU := Lib.hid hU
  have HK := Lib.hid hK
  clear hC hU hK
  go_enter Try.func61, Try.ntmps61
  go_wp2
  go_loopw [8] (fun i wr => ∃ k : Nat, k ≤ ps.length ∧ i = .int .i64 k ∧ Below w.heap.size w wr ∧ Hid (∀ j, j < k → ks.contains (ps.getD j (0, 0)) = false)) (fun i _ => ps.length - (intOf i).toNat)
  case atStart => exact ⟨0, Nat.zero_le _, rfl, Below.refl _ _, Lib.hid (by omega)⟩
  case round =>
    obtain ⟨k, hk, rfl, hB, HN⟩ := hrel
    by_cases hlt : k < ps.length
    · obtain ⟨ad, rfl, hc0, hc1⟩ := at_P (Kd.C_below HC.out hB) (k : Int) (by omega) (by omega)
      simp only [Int.toNat_natCast] at hc0 hc1
      have hcall := fun W (hW : Below w.heap.size w W) => used_any uB mU ks (ps.getD k (0, 0)) W (HU.out.below hW HU.out.lt) (HK.out.below hW)
      have hno := HN.out
      have hmore : ∀ b, ks.contains (ps.getD k (0, 0)) = b → b = false → ∀ j, j < k + 1 → ks.contains (ps.getD j (0, 0)) = false := by
        intro b h1 h2 j hj
        by_cases e : j = k
        · subst e; rw [h1, h2]
        · exact hno j (by omega)
      have hend : ∀ b, ks.contains (ps.getD k (0, 0)) = b → b = true → ps.any ks.contains = true := fun b h1 h2 => any_at _ ps k hlt (by rw [h1, h2])
      generalize hq : ks.contains (ps.getD k (0, 0)) = q at hcall hmore hend
      generalize ps.getD k (0, 0) = x at hc0 hc1 hcall hq hmore hend
      have HCALL := Lib.hid hcall
      have HMO := Lib.hid (hmore q rfl)
      have HEN := Lib.hid (hend q rfl)
      have HB := Lib.hid hB
      obtain ⟨xa, xb⟩ := x
      dsimp only at hc0 hc1
      clear hcall hq hno hmore hend hB
      cases q
      · go_wp2_with (go_at_call 32; refine (HCALL.out _ HB.out).mono ?_; rintro e w2 ⟨rfl, hb⟩; have HB2 := Lib.hid hb; clear hb)
        exact ⟨⟨k + 1, by omega, by go_num, below_then HB.out HB.out.size HB2.out, Lib.hid (HMO.out (by trivial))⟩, by simp [intOf]; omega⟩
      · go_wp2_with (go_at_call 32; refine (HCALL.out _ HB.out).mono ?_; rintro e w2 ⟨rfl, hb⟩; have HB2 := Lib.hid hb; clear hb)
        exact bodyPost_ret (v := .int .i64 (k : Int)) (by simp [results, Try.results61, go_sem]) rfl ⟨⟨k, rfl, by rw [HEN.out (by trivial)]; simp⟩, below_then HB.out HB.out.size HB2.out⟩
    · obtain rfl : k = ps.length := by omega
      have HX := Lib.hid (any_upTo ks.contains ps HN.out)
      go_wp2
      exact bodyPost_ret (v := .int .i64 (-1)) (by simp [results, Try.results61, go_sem]) rfl ⟨⟨-1, rfl, by rw [HX.out]; rfl⟩, hB⟩
set_option maxHeartbeats 1000000 in
theorem containsU_any (uB mU : Nat) (ks : List (Int × Int)) (A2 : Option Addr) (c2 : Nat) (ps : List (Int × Int)) (w : World) (hl : ps.length ≤ 1000) (hC : Kd.C kP w A2 ps.length ps) (hU : Whole w uB 61 #[.map (some mU)]) (hK : MapK w mU ks) :
    Calls Try.prog 31 #[.slice A2 ps.length c2, .func (.func 32) #[] #[.pointer (some ⟨uB, 0, none⟩)]] w fun e w' => e = .returned (.bool (ps.any ks.contains)) ∧ Below w.heap.size w w' := by
  have HI := Lib.hid (indexU_any uB mU ks A2 c2 ps w hl hC hU hK)
  clear hC hU hK
  generalize ps.any ks.contains = q at HI
  go_enter Try.func31, Try.ntmps31
  go_wp2_with (go_at_call 61; refine HI.out.mono ?_; rintro e w2 ⟨⟨r, rfl, hr⟩, hb⟩; have HB := Lib.hid hb; clear hb)
  go_ret
  exact ⟨by rw [← hr]; rfl, HB.out⟩

theorem eq_nil (ad : Addr) (k cap : Nat) (w : World) : Sem.run Try.prog (binOp BinOp.eql 24 (Value.slice (some ad) k cap) (Value.slice none 0 0)) w = .ok (.bool false) w := by kernel_rfl
/-- Rows behind a list of rows. -/
theorem appendAll (w : World) {ops : Array Oper} {rest : List Oper} {o : Oper} {a : Act} {Q : Exit → Act → World → Prop}
    (hg : o.guard = none) (s x : Operand) (hop : o.op = Op.call { callee := Callee.builtin Builtin.append, args := #[s, x], argTypes := #[24, 24] })
    (B : Nat) (v : Value) (k : Nat) (us : List Value) (hs : a.eval s = v) (hown : w.ownsRow B 33 1 v k us) (ad : Addr) (n c : Nat) (ys : List Value) (hn : ys.length = n) (hx : a.eval x = .slice (some ad) n c)
    (hc : ∀ j u, ys[j]? = some u → w.cell? (ad.add j) = some u) (hu : ∀ u ∈ ys, u.oneCell' = true) (hl : k + n < 5000000000000) (hB : B ≤ w.heap.size)
    (hK : ∀ v' w', w'.ownsRow B 33 1 v' (k + n) (us ++ ys) → w.grownBy w' v.ownBlock → (v'.ownBlock = v.ownBlock ∨ v'.ownBlock = some w.heap.size) → wpList Try.prog ops Q rest (a.put o.dst v') w') :
    wpList Try.prog ops Q (o :: rest) a w := by
  obtain ⟨i3, hi3, hz3, hs3, hb3⟩ := info_parts info33
  refine wpList_append_own_at w hg s x 24 hop B 33 i3 _ 1 24 Try.underlying24 hi3 hz3 hs3 hb3 rfl (by decide) v k us hs hown ad n c ys hx (by simp [hn]) hc hu (by unfold maxLen; omega) (by omega) hB ?_
  intro v' w' h1 h2 _ h4
  exact hK v' w' h1 h2 h4
set_option maxRecDepth 100000 in
set_option maxHeartbeats 1000000 in
/-- slices.Clone of a list of rows. -/
theorem clone_any (B : Nat) (g k cap : Nat) (us : List Value) (w : World) (hown : w.ownsRow B 33 1 (.slice (some ⟨g, 0, none⟩) k cap) k us) (hk : k < 5000000000000) (hu : ∀ u ∈ us, u.oneCell' = true) :
    Calls Try.prog 29 #[.slice (some ⟨g, 0, none⟩) k cap] w fun e w' => ∃ v', e = .returned v' ∧ w'.ownsRow w.heap.size 33 1 v' k us ∧ Below w.heap.size w w' := by
  have hlen : us.length = k := by have := hown.1; omega
  have hcell := hown.cells rfl
  have hgl := own_lt hown g rfl
  have hb1 : Below w.heap.size w (w.alloc (.cells #[] 33)) := below_alloc (Below.refl _ _) _
  have hown0 : (w.alloc (.cells #[] 33)).ownsRow w.heap.size 33 1 (.slice (some ⟨w.heap.size, 0, none⟩) 0 0) 0 [] :=
    ⟨rfl, .inr ⟨w.heap.size, 0, #[], rfl, Nat.le_refl _, World.alloc_heap_new w _, Nat.le_refl _, by simp [maxLen], rfl, rfl⟩⟩
  have hcell2 : ∀ j u, us[j]? = some u → (w.alloc (.cells #[] 33)).cell? ((⟨g, 0, none⟩ : Addr).add j) = some u := fun j u hj => by
    rw [hb1.cell (p := (⟨g, 0, none⟩ : Addr).add j) (by unfold Addr.add; split <;> exact hgl)]
    exact hcell j u hj
  have HO := Lib.hid hown0
  have HC := Lib.hid hcell2
  have HB := Lib.hid hb1
  clear hown hcell hown0 hcell2 hb1
  have heq := eq_nil ⟨g, 0, none⟩ k cap w
  go_enter Try.func29, Try.ntmps29
  go_wp2_with (at_builtin; refine appendAll _ rfl (.tmp 5) (.tmp 6) rfl w.heap.size _ 0 [] rfl HO.out ⟨g, 0, none⟩ k cap us hlen rfl HC.out hu (by omega) (by simp) ?_; intro v' w' h1 h2 h3; have H1 := Lib.hid h1; have HB2 := Lib.hid (HB.out.grown h2 (by simp) (fun q e => by cases e; exact Nat.le_refl _)); clear h1 h2 h3)
  go_ret
  exact ⟨_, rfl, by have := H1.out; simpa using this, HB2.out⟩
end Go.Proofs.Ytkefmlhkejoknab.L
