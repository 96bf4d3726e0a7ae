/- Apart's closure comes to what layB says. -/
import Derived.Test.YtkefmlhkejoknabXChV
namespace Go.Proofs.Ytkefmlhkejoknab.L
set_option linter.unusedVariables false
set_option linter.unusedSimpArgs false
open Go.RowKit Go.Shelf Go.Proofs.YtkefmlhkejoknabW.PrintWords Go.Proofs.YtkefmlhkejoknabW.PrintLast Go.Proofs.YtkefmlhkejoknabW.PrintMore
attribute [local irreducible] wpQuiet

theorem addr_at (g i : Nat) : (({ block := g, off := 0 } : Addr).add i) = ⟨g, i, none⟩ := by
  by_cases h0 : i = 0
  · subst h0; simp [Addr.add]
  · simp [Addr.add, h0]
theorem parted_cut {A : Option Addr} {k c k' c' : Nat} {u : Value} (h : Parted (.slice A k c) u) : Parted (.slice A k' c') u := by
  cases A with
  | none => intro q e; cases e
  | some a => exact h
theorem keysOf_snoc (l : List ACyc) (q : ACyc) : keysOf (l ++ [q]) = keysOf l ++ endsB q.2 := by simp [keysOf]
theorem keysOf_map (l : List ACyc) : (l.map Prod.snd).flatMap endsB = keysOf l := by simp [keysOf, List.flatMap_map]
theorem getD_at {ps : List (Int × Int)} {j : Nat} (h : j < ps.length) : ps.getD j (0, 0) = ps[j] := by rw [List.getD_eq_getElem?_getD, List.getElem?_eq_getElem h]; rfl
/-- A pair that is not used yet. -/
theorem fresh_at {K ps : List (Int × Int)} {j : Nat} (h : j < ps.length) (hd : ps.Nodup) (hf : ps.any K.contains = false) : (K ++ ps.take j).contains (ps.getD j (0, 0)) = false := by
  rw [getD_at h, Bool.eq_false_iff]
  intro hc
  rw [List.contains_iff_mem, List.mem_append] at hc
  rcases hc with hc | hc
  · have : ps.any K.contains = true := List.any_eq_true.2 ⟨ps[j], List.getElem_mem h, by rw [List.contains_iff_mem]; exact hc⟩
    rw [hf] at this; cases this
  · rw [List.mem_take_iff_getElem] at hc
    obtain ⟨i, hi, e⟩ := hc
    have := (List.getElem_inj hd).1 e
    omega
theorem erase_at {K ps : List (Int × Int)} {j : Nat} (h : j < ps.length) (hf : ps.any K.contains = false) : (K ++ ps.drop j).erase (ps.getD j (0, 0)) = K ++ ps.drop (j + 1) := by
  have hn : ps.getD j (0, 0) ∉ K := by
    rw [getD_at h]
    intro hc
    have : ps.any K.contains = true := List.any_eq_true.2 ⟨ps[j], List.getElem_mem h, by rw [List.contains_iff_mem]; exact hc⟩
    rw [hf] at this; cases this
  rw [List.erase_append_right _ hn, getD_at h, List.drop_eq_getElem_cons h, List.erase_cons_head]

set_option maxRecDepth 100000 in
set_option maxHeartbeats 16000000 in
theorem choose_any (w : World) (base nB bB aB uB cB mU B : Nat) (Aa : Option Addr) (ca : Nat) (ps : List ACyc) (hps : ps.length ≤ 4000000000000) (hrow : ∀ q ∈ ps, 3 ≤ q.2.length ∧ q.2.length ≤ 11 ∧ (endsB q.2).Nodup) :
    ∀ (N : Nat) (d r : List ACyc), ps = d ++ r → r.length < N → ∀ (vn vb : Value) (nows bests : List ACyc) (W : World), ChV w base nB bB aB uB cB mU B (.slice Aa ps.length ca) ps vn vb nows bests (keysOf nows) W → nows.Sublist d → bests.Sublist ps →
      Calls Try.prog 28 #[.int .i64 (d.length : Int), .pointer (some ⟨nB, 0, none⟩), .pointer (some ⟨bB, 0, none⟩), .pointer (some ⟨aB, 0, none⟩), .pointer (some ⟨uB, 0, none⟩), .pointer (some ⟨cB, 0, none⟩)] W fun e W' => e = .returned (.tuple #[]) ∧ ∃ vn' vb' bests', ChV w base nB bB aB uB cB mU B (.slice Aa ps.length ca) ps vn' vb' nows bests' (keysOf nows) W' ∧ bests'.Sublist ps ∧ bests'.map Prod.snd = layB (r.map Prod.snd) (nows.map Prod.snd) (bump (nows.map Prod.snd) (bests.map Prod.snd)) ∧ FrP W W' := by
  intro N
  induction N generalizing Aa with
  | zero => intro d r _ h; omega
  | succ N ih =>
    intro d r hpd hr vn vb nows bests W hV hnd hbp
    have hnl : nows.length ≤ d.length := hnd.length_le
    have hdl : d.length + r.length = ps.length := by rw [hpd, List.length_append]
    have hnl2 : nows.length < 5000000000000 := by omega
    obtain ⟨FIN, hFIN⟩ : ∃ F, layB (r.map Prod.snd) (nows.map Prod.snd) (bump (nows.map Prod.snd) (bests.map Prod.snd)) = F := ⟨_, rfl⟩
    rw [hFIN]
    have hu : ∀ u ∈ nows.map Prod.fst, u.oneCell' = true := by
      intro u hu
      obtain ⟨q, hq, rfl⟩ := List.mem_map.1 hu
      have hq2 : q ∈ ps := by rw [hpd]; exact List.mem_append_left _ (hnd.subset hq)
      obtain ⟨A, c, e, _⟩ := (hV.2.1.2.2.2.1 q hq2).reads
      rw [e]; rfl
    obtain ⟨An, cn, rfl⟩ := own_form hV.2.1.1
    obtain ⟨Ab, cb, rfl⟩ := own_form hV.2.1.2.1
    obtain ⟨⟨f1, f2⟩, ⟨f3, f4⟩, f5, f6, f7, f8, f9, f10, f11, f12⟩ := hV.facts
    have HV := Lib.hid hV
    have HPD := Lib.hid hpd
    have HR := Lib.hid hr
    have HU := Lib.hid hu
    have HIH := Lib.hid ih
    have HROW := Lib.hid hrow
    clear hV hpd hr hu ih hrow
    by_cases hbump : bests.length < nows.length
    · have HF0 := Lib.hid (show layB (r.map Prod.snd) (nows.map Prod.snd) (nows.map Prod.snd) = FIN from by rw [← hFIN]; unfold bump; rw [if_pos (by simpa using hbump)])
      have hpos : 0 < nows.length := by omega
      obtain ⟨gn, rfl⟩ : ∃ gn, An = some ⟨gn, 0, none⟩ := by
        rcases HV.out.2.1.1.2 with h | ⟨g, cap, cur, e, _⟩
        · omega
        · injection e with e1; exact ⟨g, e1⟩
      have d1 : decide ((bests.length : Int) < nows.length) = true := decide_eq_true (by omega)
      have HNP := Lib.hid (show nows.Sublist ps from by rw [HPD.out]; exact hnd.trans (List.sublist_append_left _ _))
      clear hFIN
      go_enter Try.func28, Try.ntmps28
      go_wp2_with (go_at_call 29; refine (clone_any B gn nows.length cn (nows.map Prod.fst) _ HV.out.2.1.1 hnl2 HU.out).mono ?_; rintro e w2 ⟨v2, rfl, hown2, hb2⟩; obtain ⟨A2, c2, rfl⟩ := own_form hown2; obtain ⟨hV2, hF2⟩ := (HV.out.below hb2).setBest (own_weaken hown2 HV.out.2.2.2.2.2.2.2.2.2.1) (fun k e e2 => by have := own_lt HV.out.2.1.1 k e; have := own_base hown2 k e2; omega); have HV2 := Lib.hid hV2; have HF2 := Lib.hid (FrP.trans (FrP.below hb2) hF2); clear f1 f2 f3 f4 f5 f6 f7 f8 f9 f10 f11 f12; obtain ⟨⟨f1, f2⟩, ⟨f3, f4⟩, f5, f6, f7, f8, f9, f10, f11, f12⟩ := (HV.out.below hb2).facts; clear hV2 hF2 hown2 hb2)
      have HVs := HV2; have FRs := HF2; have HFs := HF0; have hbs := HNP.out
      clear HV HV2 HF2 HF0 HNP HU
      clear f1 f2 f3 f4 f5 f6 f7 f8 f9 f10 f11 f12
      go_loopw [7] (fun iv wr => ∃ (d2 r2 bs2 : List ACyc) (vn2 vb2 : Value), ps = d2 ++ r2 ∧ iv = .int .i64 ((d2.length : Nat) : Int) ∧ d.length ≤ d2.length ∧ Hid (ChV w base nB bB aB uB cB mU B (.slice Aa ps.length ca) ps vn2 vb2 nows bs2 (keysOf nows) wr) ∧ nows.Sublist d2 ∧ bs2.Sublist ps ∧ r2.length ≤ r.length ∧ Hid (layB (r2.map Prod.snd) (nows.map Prod.snd) (bs2.map Prod.snd) = FIN) ∧ Hid (FrP W wr)) (fun iv _ => ps.length - (intOf iv).toNat)
      case atStart => exact ⟨d, r, nows, _, _, HPD.out, rfl, Nat.le_refl _, HVs, hnd, hbs, Nat.le_refl _, HFs, FRs⟩
      case round =>
        obtain ⟨d2, r2, bs2, vn2, vb2, hpd2, rfl, hdd, HV3, hnd2, hbs2, hrr, HF3, HFR⟩ := hrel
        obtain ⟨wr0, hwr0⟩ : ∃ X : World, X = wr := ⟨_, rfl⟩
        subst hwr0
        obtain ⟨An2, cn2, rfl⟩ := own_form HV3.out.2.1.1
        obtain ⟨Ab2, cb2, rfl⟩ := own_form HV3.out.2.1.2.1
        obtain ⟨⟨f1, f2⟩, ⟨f3, f4⟩, f5, f6, f7, f8, f9, f10, f11, f12⟩ := HV3.out.facts
        have hl2 : d2.length + r2.length = ps.length := by rw [hpd2, List.length_append]
        cases r2 with
        | nil =>
          have hlt : ¬ d2.length < ps.length := by simp at hl2; omega
          go_wp2
          go_end0
          exact ⟨rfl, _, _, bs2, HV3.out, hbs2, HF3.out, HFR.out⟩
        | cons q r3 =>
          have hlt : d2.length < ps.length := by simp at hl2; omega
          have hltI : (d2.length : Int) < ps.length := by omega
          obtain ⟨gA, cA2, hva, _, hgA, _, hcA⟩ := HV3.out.2.1.2.2.form (by rintro rfl; simp at hlt)
          injection hva with hA1 _ hA3
          subst hA1
          subst hA3
          obtain ⟨qv, ql⟩ := q
          have hq : (qv, ql) ∈ ps := by rw [hpd2]; simp
          obtain ⟨hq3, hq11, hqn⟩ := HROW.out _ hq
          have hrq := HV3.out.2.1.2.2.2.1 _ hq
          dsimp only at hq3 hq11 hqn hrq
          obtain ⟨gq, cq, hqv⟩ := hrq.form (by rintro rfl; simp at hq3)
          subst hqv
          have hcq := hcA d2.length (Value.slice (some ⟨gq, 0, none⟩) ql.length cq) (by rw [hpd2]; simp)
          rw [addr_at] at hcq
          obtain ⟨Aq, cq', hqe, _, hCq⟩ := hrq.reads
          injection hqe with e1 _ e3
          subst e1
          subst e3
          have HLE := Lib.hid (endsB_len ql)
          have hpd3 : ps = (d2 ++ [(Value.slice (some ⟨gq, 0, none⟩) ql.length cq, ql)]) ++ r3 := by rw [hpd2]; simp
          have HCQ := Lib.hid hCq; have HPD3 := Lib.hid hpd3; have HND := Lib.hid hqn
          have hdd3 : d.length ≤ (d2 ++ [(Value.slice (some ⟨gq, 0, none⟩) ql.length cq, ql)]).length := by rw [List.length_append]; exact Nat.le_trans hdd (Nat.le_add_right _ _)
          have hrr3 : r3.length ≤ r.length := by simp at hrr; omega
          clear hCq hpd3 hqn hrq hcA hpd2 hq
          cases hany : (endsB ql).any (keysOf nows).contains
          · have HANY := Lib.hid hany
            have HDIS := Lib.hid (show disjB ql ((nows.map Prod.snd).flatMap endsB) = true from by rw [keysOf_map]; unfold disjB; rw [show (endsB ql).any (fun p => (keysOf nows).contains p) = false from hany]; rfl)
            clear hany
            go_wp2_with (first
              | (go_at_call 30; refine (ends_any ⟨gq, 0, none⟩ cq ql _ (by omega) (by omega) HCQ.out).mono ?_; rintro e w4 ⟨v4, rfl, hR, hb⟩; obtain ⟨A4, c4, hv4⟩ := Kd.R_slice hR; subst hv4; clear f1 f2 f3 f4 f5 f6 f7 f8 f9 f10 f11 f12; obtain ⟨⟨f1, f2⟩, ⟨f3, f4⟩, f5, f6, f7, f8, f9, f10, f11, f12⟩ := (HV3.out.below hb).facts; have HP4 := Lib.hid (show PairsAt w4 (.slice A4 (endsB ql).length c4) (endsB ql) from Kd.R_lower hR (Nat.zero_le _)); have HV4 := Lib.hid (HV3.out.below hb); have HF4 := Lib.hid (FrP.below hb); clear hR hb)
              | (go_at_call 31; refine (containsU_any uB mU (keysOf nows) A4 c4 (endsB ql) _ (by rw [HLE.out]; omega) (Kd.R_reads' HP4.out).2.2 HV4.out.1.2.2.2.1 HV4.out.2.2.1).mono ?_; rintro e w5 ⟨rfl, hb⟩; have hany := HANY.out; clear f1 f2 f3 f4 f5 f6 f7 f8 f9 f10 f11 f12; obtain ⟨⟨f1, f2⟩, ⟨f3, f4⟩, f5, f6, f7, f8, f9, f10, f11, f12⟩ := (HV4.out.below hb).facts; have HP5 := Lib.hid (HP4.out.fr (FrP.below hb)); have HV5 := Lib.hid (HV4.out.below hb); have HF5 := Lib.hid (HF4.out.trans (FrP.below hb)); clear hb))
            clear f1 f2 f3 f4 f5 f6 f7 f8 f9 f10 f11 f12
            go_loopw [37] (fun jv wr2 => ∃ (j : Nat), j ≤ (endsB ql).length ∧ jv = .int .i64 j ∧ Hid (ChV w base nB bB aB uB cB mU B (.slice (some ⟨gA, 0, none⟩) ps.length ca) ps (.slice An2 nows.length cn2) (.slice Ab2 bs2.length cb2) nows bs2 (keysOf nows ++ (endsB ql).take j) wr2) ∧ Hid (PairsAt wr2 (.slice A4 (endsB ql).length c4) (endsB ql)) ∧ Hid (FrP wr0 wr2)) (fun jv _ => (endsB ql).length - (intOf jv).toNat)
            case atStart => exact ⟨0, Nat.zero_le _, rfl, by rw [List.take_zero, List.append_nil]; exact HV5, HP5, HF5⟩
            case round =>
              obtain ⟨j, hj, rfl, HV6, HP6, HF6⟩ := hrel
              obtain ⟨⟨f1, f2⟩, ⟨f3, f4⟩, f5, f6, f7, f8, f9, f10, f11, f12⟩ := HV6.out.facts
              by_cases hjl : j < (endsB ql).length
              · obtain ⟨ad4, rfl, hp0, hp1⟩ := at_P (Kd.R_reads' HP6.out).2.2 (j : Int) (by omega) (by omega)
                simp only [Int.toNat_natCast] at hp0 hp1
                have htk : (endsB ql).take (j + 1) = (endsB ql).take j ++ [(endsB ql).getD j (0, 0)] := by rw [List.take_succ_eq_append_getElem hjl, getD_at hjl]
                have hfr := fresh_at (K := keysOf nows) hjl HND.out HANY.out
                generalize (endsB ql).getD j (0, 0) = p at hp0 hp1 htk hfr
                obtain ⟨xa, xb⟩ := p
                dsimp only at hp0 hp1
                have hVa := HV6.out.below ((Below.refl _ _).alloc (Nat.le_refl _) (.cells #[.int .i64 xa, .int .i64 xb] 68))
                obtain ⟨om, hmu, hmk⟩ := hVa.2.2.1.put xa xb hfr
                have hVm := hVa.mapped om hmk
                rw [List.append_assoc, ← htk] at hVm
                have HV7 := Lib.hid hVm; have HF7 := Lib.hid (HF6.out.trans (FrP.trans (FrP.below ((Below.refl _ _).alloc (Nat.le_refl _) (.cells #[.int .i64 xa, .int .i64 xb] 68))) (FrP.mapped hVa om))); have HP7 := Lib.hid (HP6.out.fr (FrP.trans (FrP.below ((Below.refl _ _).alloc (Nat.le_refl _) (.cells #[.int .i64 xa, .int .i64 xb] 68))) (FrP.mapped hVa om)))
                have hjn : (j : Int) < (endsB ql).length := by omega
                have hjq : j < 11 := by have := HLE.out; omega
                clear hVa hmk hVm htk hfr
                go_wp2
                exact ⟨⟨j + 1, by have := HLE.out; omega, by go_num, HV7, HP7, HF7⟩, by have := HLE.out; simp [intOf]; omega⟩
              · obtain rfl : j = (endsB ql).length := by omega
                have hV5 := HV6.out.below (Below.refl _ _).drew
                rw [List.take_length, show keysOf nows ++ endsB ql = keysOf (nows ++ [(Value.slice (some ⟨gq, 0, none⟩) ql.length cq, ql)]) from (keysOf_snoc nows (Value.slice (some ⟨gq, 0, none⟩) ql.length cq, ql)).symm] at hV5
                have HV5 := Lib.hid hV5
                have HO5 := Lib.hid hV5.2.1.1; have HB5 := Lib.hid hV5.2.2.2.2.2.2.2.2.2.1
                obtain ⟨gA', cA', hva', _, _, _, hcA6⟩ := hV5.2.1.2.2.form (by rintro rfl; simp at hlt)
                cases hva'
                have hcq6 := hcA6 d2.length (Value.slice (some ⟨gq, 0, none⟩) ql.length cq) (by rw [HPD3.out]; simp)
                rw [addr_at] at hcq6
                clear hV5 HV6 hcA6
                have hsub : (nows ++ [(Value.slice (some ⟨gq, 0, none⟩) ql.length cq, ql)]).Sublist (d2 ++ [(Value.slice (some ⟨gq, 0, none⟩) ql.length cq, ql)]) := hnd2.append (List.Sublist.refl _)
                have hcall := fun vn vb W h => HIH.out (some ⟨gA, 0, none⟩) (d2 ++ [(Value.slice (some ⟨gq, 0, none⟩) ql.length cq, ql)]) r3 HPD3.out (by have := HR.out; simp at hrr; omega) vn vb (nows ++ [(Value.slice (some ⟨gq, 0, none⟩) ql.length cq, ql)]) bs2 W h hsub hbs2
                simp only [show ((d2 ++ [(Value.slice (some ⟨gq, 0, none⟩) ql.length cq, ql)]).length : Int) = (d2.length : Int) + 1 from by simp] at hcall
                have HCALL := Lib.hid hcall
                clear hcall
                go_wp2
                refine wp_region_any (by kernel_rfl) ?_
                change wpAny _ _ _ _ _ _ _ (World.drew _)
                refine takeP (i := 2) (v := ?vc1) (a' := ?bc1) rfl (by kernel_rfl) (by kernel_rfl) (by kernel_rfl) (fun _ _ _ h => h) (Or.inl ⟨by rfl, ?hyc1⟩) ?hac1 ?_
                case hyc1 => (intro w; go_simp; try first | with_reducible rfl | omega)
                case hac1 => (go_simp; try with_reducible rfl)
                refine wpAny_ready (rs := [0, 1]) (by kernel_rfl) (by simp) ?_
                refine AllReady.cons rfl (fun K hK => ?_) ?_
                · go_simp
                  refine hK _ _ ?_
                  clear hK K
                  refine wpAny_ready (rs := [1]) (by kernel_rfl) (by simp) ?_
                  refine AllReady.cons rfl (fun K hK => ?_) AllReady.nil
                  go_simp
                  refine hK _ _ ?_
                  clear hK K
                  refine takeP (i := 3) (v := ?vc2) (a' := ?bc2) rfl (by kernel_rfl) (by kernel_rfl) (by kernel_rfl) (fun _ _ _ h => h) (Or.inl ⟨by rfl, ?hyc2⟩) ?hac2 ?_
                  case hyc2 => (intro w; go_simp; try first | with_reducible rfl | omega)
                  case hac2 => (go_simp; try with_reducible rfl)
                  refine wpAny_ready (rs := [4]) (by kernel_rfl) (by simp) ?_
                  refine AllReady.cons rfl (fun K hK => ?_) AllReady.nil
                  go_simp
                  refine hK _ _ ?_
                  clear hK K
                  refine wpAny_ready (rs := [5]) (by kernel_rfl) (by simp) ?_
                  refine AllReady.cons rfl (fun K hK => ?_) AllReady.nil
                  go_simp
                  refine hK _ _ ?_
                  clear hK K
                  refine wpAny_ready (rs := [6]) (by kernel_rfl) (by simp) ?_
                  refine AllReady.cons rfl (fun K hK => ?_) AllReady.nil
                  refine step_append_cells (w0 := _) (W := _) B (by rfl) (.tmp 44) (.tmp 49) 24 33 (.slice none 0 0) 1 24 (by rfl) Try.underlying24 info33 rfl (by decide) (by decide) (.slice An2 nows.length cn2) nows.length (nows.map Prod.fst) [.slice (some ⟨gq, 0, none⟩) ql.length cq] (by rfl) (by rfl) rfl (by simp [Value.oneCell']) HO5.out (Below.refl _ _) HB5.out (by omega) ?_
                  intro v6 w6 ho6 hb6 hg6 hat6
                  obtain ⟨⟨t1, t2⟩, hV6, hF6⟩ := HV5.out.append (.slice (some ⟨gq, 0, none⟩) ql.length cq, ql) ho6 hg6 hat6
                  obtain ⟨A6, c6, rfl⟩ := own_form ho6
                  have HV6 := Lib.hid hV6; have HF12 := Lib.hid (HF6.out.trans (FrP.trans (FrP.below (Below.refl _ _).drew) hF6)); have HFx := Lib.hid hF6
                  have hn6 : nB < w6.heap.size := by have := hV6.1.1.lt; simpa [World.setCell] using this
                  clear ho6 hb6 hg6 hat6 hV6 hF6
                  refine hK _ _ ?_
                  clear hK K
                  refine wpAny_ready (rs := [7]) (by kernel_rfl) (by simp) ?_
                  refine AllReady.cons rfl (fun K hK => ?_) AllReady.nil
                  go_simp
                  refine hK _ _ ?_
                  clear hK K
                  refine wpAny_done (by kernel_rfl) ?_ _
                  clear f1 f2 f3 f4 f5 f6 f7 f8 f9 f10 f11 f12; obtain ⟨⟨f1, f2⟩, ⟨f3, f4⟩, f5, f6, f7, f8, f9, f10, f11, f12⟩ := HV6.out.facts
                  go_wp2_with (go_at_call 28; refine (HCALL.out _ _ _ HV6.out).mono ?_; rintro e w7 ⟨rfl, vn7, vb7, bs7, hV7, hbs7, hb7, hF7⟩; have ho7 : w7.ownsRow B 33 1 vn7 (nows.length + 1) (nows.map Prod.fst ++ [.slice (some ⟨gq, 0, none⟩) ql.length cq]) := (by have := hV7.2.1.1; simpa using this); obtain ⟨An7, cn7, rfl⟩ := own_form ho7; obtain ⟨Ab7, cb7, rfl⟩ := own_form hV7.2.1.2.1; have hc7 := own_le ho7; have hc7' : nows.length ≤ cn7 := (by omega); have hc8 : (nows.length : Int) ≤ cn7 := (by omega); clear f1 f2 f3 f4 f5 f6 f7 f8 f9 f10 f11 f12; obtain ⟨⟨f1, f2⟩, ⟨f3, f4⟩, f5, f6, f7, f8, f9, f10, f11, f12⟩ := hV7.facts; obtain ⟨hV8, hF8⟩ := hV7.setNow (nows' := nows) (own_init ho7 (by simp)) ⟨parted_cut hV7.2.2.2.2.1.1, parted_cut hV7.2.2.2.2.1.2⟩; rw [keysOf_snoc] at hV8; have HV8 := Lib.hid hV8; have HF8 := Lib.hid (HF12.out.trans (hF7.trans hF8)); have HP8 := Lib.hid (HP6.out.fr ((FrP.below (Below.refl _ _).drew).trans (HFx.out.trans (hF7.trans hF8)))); have HBS7 := Lib.hid hbs7; have HB7 := Lib.hid hb7; clear hV7 hV8 hF7 hF8 ho7 hc7 hbs7 hb7)
                  clear f1 f2 f3 f4 f5 f6 f7 f8 f9 f10 f11 f12
                  go_loopw [62] (fun jv wr3 => ∃ (j : Nat), j ≤ (endsB ql).length ∧ jv = .int .i64 j ∧ Hid (ChV w base nB bB aB uB cB mU B (.slice (some ⟨gA, 0, none⟩) ps.length ca) ps (.slice An7 nows.length cn7) (.slice Ab7 bs7.length cb7) nows bs7 (keysOf nows ++ (endsB ql).drop j) wr3) ∧ Hid (PairsAt wr3 (.slice A4 (endsB ql).length c4) (endsB ql)) ∧ Hid (FrP wr0 wr3)) (fun jv _ => (endsB ql).length - (intOf jv).toNat)
                  case atStart => exact ⟨0, Nat.zero_le _, rfl, HV8, HP8, HF8⟩
                  case round =>
                    obtain ⟨j, hj, rfl, HV9, HP9, HF9⟩ := hrel
                    obtain ⟨⟨f1, f2⟩, ⟨f3, f4⟩, f5, f6, f7, f8, f9, f10, f11, f12⟩ := HV9.out.facts
                    by_cases hjl : j < (endsB ql).length
                    · obtain ⟨ad4, rfl, hp0, hp1⟩ := at_P (Kd.R_reads' HP9.out).2.2 (j : Int) (by omega) (by omega)
                      simp only [Int.toNat_natCast] at hp0 hp1
                      have her := erase_at (K := keysOf nows) hjl HANY.out
                      generalize (endsB ql).getD j (0, 0) = p at hp0 hp1 her
                      obtain ⟨xa, xb⟩ := p
                      dsimp only at hp0 hp1
                      have hVa := HV9.out.below ((Below.refl _ _).alloc (Nat.le_refl _) (.cells #[.int .i64 xa, .int .i64 xb] 68))
                      obtain ⟨om, hmu, hmk⟩ := hVa.2.2.1.drop xa xb 0
                      rw [her] at hmk
                      have hVm := hVa.mapped om hmk
                      have HV7 := Lib.hid hVm; have HF7 := Lib.hid (HF9.out.trans (FrP.trans (FrP.below ((Below.refl _ _).alloc (Nat.le_refl _) (.cells #[.int .i64 xa, .int .i64 xb] 68))) (FrP.mapped hVa om))); have HP7 := Lib.hid (HP9.out.fr (FrP.trans (FrP.below ((Below.refl _ _).alloc (Nat.le_refl _) (.cells #[.int .i64 xa, .int .i64 xb] 68))) (FrP.mapped hVa om)))
                      have hjn : (j : Int) < (endsB ql).length := by omega
                      have hjq : j < 11 := by have := HLE.out; omega
                      clear hVa hmk hVm her
                      go_wp2
                      exact ⟨⟨j + 1, by omega, by go_num, HV7, HP7, HF7⟩, by simp [intOf]; omega⟩
                    · obtain rfl : j = (endsB ql).length := by omega
                      have hVz := HV9.out
                      rw [List.drop_of_length_le (Nat.le_refl _), List.append_nil] at hVz
                      have HVZ := Lib.hid hVz
                      clear hVz HV9
                      go_wp2
                      exact ⟨⟨d2 ++ [(Value.slice (some ⟨gq, 0, none⟩) ql.length cq, ql)], r3, bs7, _, _, HPD3.out, by simp, hdd3, HVZ, hnd2.trans (List.sublist_append_left _ _), HBS7.out, hrr3, Lib.hid (by have h1 := HF3.out; rw [List.map_cons, layB, if_pos HDIS.out] at h1; rw [HB7.out, ← h1]; simp), Lib.hid (HFR.out.trans HF9.out)⟩, by simp [intOf]; omega⟩
                refine AllReady.cons rfl (fun K hK => ?_) AllReady.nil
                go_simp
                refine hK _ _ ?_
                clear hK K
                refine takeP (i := 3) (v := ?vc3) (a' := ?bc3) rfl (by kernel_rfl) (by kernel_rfl) (by kernel_rfl) (fun _ _ _ h => h) (Or.inl ⟨by rfl, ?hyc3⟩) ?hac3 ?_
                case hyc3 => (intro w; go_simp; try first | with_reducible rfl | omega)
                case hac3 => (go_simp; try with_reducible rfl)
                refine wpAny_ready (rs := [0, 4]) (by kernel_rfl) (by simp) ?_
                refine AllReady.cons rfl (fun K hK => ?_) ?_
                · go_simp
                  refine hK _ _ ?_
                  clear hK K
                  refine wpAny_ready (rs := [4]) (by kernel_rfl) (by simp) ?_
                  refine AllReady.cons rfl (fun K hK => ?_) AllReady.nil
                  go_simp
                  refine hK _ _ ?_
                  clear hK K
                  refine wpAny_ready (rs := [5]) (by kernel_rfl) (by simp) ?_
                  refine AllReady.cons rfl (fun K hK => ?_) AllReady.nil
                  go_simp
                  refine hK _ _ ?_
                  clear hK K
                  refine wpAny_ready (rs := [6]) (by kernel_rfl) (by simp) ?_
                  refine AllReady.cons rfl (fun K hK => ?_) AllReady.nil
                  refine step_append_cells (w0 := _) (W := _) B (by rfl) (.tmp 44) (.tmp 49) 24 33 (.slice none 0 0) 1 24 (by rfl) Try.underlying24 info33 rfl (by decide) (by decide) (.slice An2 nows.length cn2) nows.length (nows.map Prod.fst) [.slice (some ⟨gq, 0, none⟩) ql.length cq] (by rfl) (by rfl) rfl (by simp [Value.oneCell']) HO5.out (Below.refl _ _) HB5.out (by omega) ?_
                  intro v6 w6 ho6 hb6 hg6 hat6
                  obtain ⟨⟨t1, t2⟩, hV6, hF6⟩ := HV5.out.append (.slice (some ⟨gq, 0, none⟩) ql.length cq, ql) ho6 hg6 hat6
                  obtain ⟨A6, c6, rfl⟩ := own_form ho6
                  have HV6 := Lib.hid hV6; have HF12 := Lib.hid (HF6.out.trans (FrP.trans (FrP.below (Below.refl _ _).drew) hF6)); have HFx := Lib.hid hF6
                  have hn6 : nB < w6.heap.size := by have := hV6.1.1.lt; simpa [World.setCell] using this
                  clear ho6 hb6 hg6 hat6 hV6 hF6
                  refine hK _ _ ?_
                  clear hK K
                  refine wpAny_ready (rs := [7]) (by kernel_rfl) (by simp) ?_
                  refine AllReady.cons rfl (fun K hK => ?_) AllReady.nil
                  go_simp
                  refine hK _ _ ?_
                  clear hK K
                  refine wpAny_done (by kernel_rfl) ?_ _
                  clear f1 f2 f3 f4 f5 f6 f7 f8 f9 f10 f11 f12; obtain ⟨⟨f1, f2⟩, ⟨f3, f4⟩, f5, f6, f7, f8, f9, f10, f11, f12⟩ := HV6.out.facts
                  go_wp2_with (go_at_call 28; refine (HCALL.out _ _ _ HV6.out).mono ?_; rintro e w7 ⟨rfl, vn7, vb7, bs7, hV7, hbs7, hb7, hF7⟩; have ho7 : w7.ownsRow B 33 1 vn7 (nows.length + 1) (nows.map Prod.fst ++ [.slice (some ⟨gq, 0, none⟩) ql.length cq]) := (by have := hV7.2.1.1; simpa using this); obtain ⟨An7, cn7, rfl⟩ := own_form ho7; obtain ⟨Ab7, cb7, rfl⟩ := own_form hV7.2.1.2.1; have hc7 := own_le ho7; have hc7' : nows.length ≤ cn7 := (by omega); have hc8 : (nows.length : Int) ≤ cn7 := (by omega); clear f1 f2 f3 f4 f5 f6 f7 f8 f9 f10 f11 f12; obtain ⟨⟨f1, f2⟩, ⟨f3, f4⟩, f5, f6, f7, f8, f9, f10, f11, f12⟩ := hV7.facts; obtain ⟨hV8, hF8⟩ := hV7.setNow (nows' := nows) (own_init ho7 (by simp)) ⟨parted_cut hV7.2.2.2.2.1.1, parted_cut hV7.2.2.2.2.1.2⟩; rw [keysOf_snoc] at hV8; have HV8 := Lib.hid hV8; have HF8 := Lib.hid (HF12.out.trans (hF7.trans hF8)); have HP8 := Lib.hid (HP6.out.fr ((FrP.below (Below.refl _ _).drew).trans (HFx.out.trans (hF7.trans hF8)))); have HBS7 := Lib.hid hbs7; have HB7 := Lib.hid hb7; clear hV7 hV8 hF7 hF8 ho7 hc7 hbs7 hb7)
                  clear f1 f2 f3 f4 f5 f6 f7 f8 f9 f10 f11 f12
                  go_loopw [62] (fun jv wr3 => ∃ (j : Nat), j ≤ (endsB ql).length ∧ jv = .int .i64 j ∧ Hid (ChV w base nB bB aB uB cB mU B (.slice (some ⟨gA, 0, none⟩) ps.length ca) ps (.slice An7 nows.length cn7) (.slice Ab7 bs7.length cb7) nows bs7 (keysOf nows ++ (endsB ql).drop j) wr3) ∧ Hid (PairsAt wr3 (.slice A4 (endsB ql).length c4) (endsB ql)) ∧ Hid (FrP wr0 wr3)) (fun jv _ => (endsB ql).length - (intOf jv).toNat)
                  case atStart => exact ⟨0, Nat.zero_le _, rfl, HV8, HP8, HF8⟩
                  case round =>
                    obtain ⟨j, hj, rfl, HV9, HP9, HF9⟩ := hrel
                    obtain ⟨⟨f1, f2⟩, ⟨f3, f4⟩, f5, f6, f7, f8, f9, f10, f11, f12⟩ := HV9.out.facts
                    by_cases hjl : j < (endsB ql).length
                    · obtain ⟨ad4, rfl, hp0, hp1⟩ := at_P (Kd.R_reads' HP9.out).2.2 (j : Int) (by omega) (by omega)
                      simp only [Int.toNat_natCast] at hp0 hp1
                      have her := erase_at (K := keysOf nows) hjl HANY.out
                      generalize (endsB ql).getD j (0, 0) = p at hp0 hp1 her
                      obtain ⟨xa, xb⟩ := p
                      dsimp only at hp0 hp1
                      have hVa := HV9.out.below ((Below.refl _ _).alloc (Nat.le_refl _) (.cells #[.int .i64 xa, .int .i64 xb] 68))
                      obtain ⟨om, hmu, hmk⟩ := hVa.2.2.1.drop xa xb 0
                      rw [her] at hmk
                      have hVm := hVa.mapped om hmk
                      have HV7 := Lib.hid hVm; have HF7 := Lib.hid (HF9.out.trans (FrP.trans (FrP.below ((Below.refl _ _).alloc (Nat.le_refl _) (.cells #[.int .i64 xa, .int .i64 xb] 68))) (FrP.mapped hVa om))); have HP7 := Lib.hid (HP9.out.fr (FrP.trans (FrP.below ((Below.refl _ _).alloc (Nat.le_refl _) (.cells #[.int .i64 xa, .int .i64 xb] 68))) (FrP.mapped hVa om)))
                      have hjn : (j : Int) < (endsB ql).length := by omega
                      have hjq : j < 11 := by have := HLE.out; omega
                      clear hVa hmk hVm her
                      go_wp2
                      exact ⟨⟨j + 1, by omega, by go_num, HV7, HP7, HF7⟩, by simp [intOf]; omega⟩
                    · obtain rfl : j = (endsB ql).length := by omega
                      have hVz := HV9.out
                      rw [List.drop_of_length_le (Nat.le_refl _), List.append_nil] at hVz
                      have HVZ := Lib.hid hVz
                      clear hVz HV9
                      go_wp2
                      exact ⟨⟨d2 ++ [(Value.slice (some ⟨gq, 0, none⟩) ql.length cq, ql)], r3, bs7, _, _, HPD3.out, by simp, hdd3, HVZ, hnd2.trans (List.sublist_append_left _ _), HBS7.out, hrr3, Lib.hid (by have h1 := HF3.out; rw [List.map_cons, layB, if_pos HDIS.out] at h1; rw [HB7.out, ← h1]; simp), Lib.hid (HFR.out.trans HF9.out)⟩, by simp [intOf]; omega⟩
                refine AllReady.cons rfl (fun K hK => ?_) AllReady.nil
                go_simp
                refine hK _ _ ?_
                clear hK K
                refine wpAny_ready (rs := [0, 5]) (by kernel_rfl) (by simp) ?_
                refine AllReady.cons rfl (fun K hK => ?_) ?_
                · go_simp
                  refine hK _ _ ?_
                  clear hK K
                  refine wpAny_ready (rs := [5]) (by kernel_rfl) (by simp) ?_
                  refine AllReady.cons rfl (fun K hK => ?_) AllReady.nil
                  go_simp
                  refine hK _ _ ?_
                  clear hK K
                  refine wpAny_ready (rs := [6]) (by kernel_rfl) (by simp) ?_
                  refine AllReady.cons rfl (fun K hK => ?_) AllReady.nil
                  refine step_append_cells (w0 := _) (W := _) B (by rfl) (.tmp 44) (.tmp 49) 24 33 (.slice none 0 0) 1 24 (by rfl) Try.underlying24 info33 rfl (by decide) (by decide) (.slice An2 nows.length cn2) nows.length (nows.map Prod.fst) [.slice (some ⟨gq, 0, none⟩) ql.length cq] (by rfl) (by rfl) rfl (by simp [Value.oneCell']) HO5.out (Below.refl _ _) HB5.out (by omega) ?_
                  intro v6 w6 ho6 hb6 hg6 hat6
                  obtain ⟨⟨t1, t2⟩, hV6, hF6⟩ := HV5.out.append (.slice (some ⟨gq, 0, none⟩) ql.length cq, ql) ho6 hg6 hat6
                  obtain ⟨A6, c6, rfl⟩ := own_form ho6
                  have HV6 := Lib.hid hV6; have HF12 := Lib.hid (HF6.out.trans (FrP.trans (FrP.below (Below.refl _ _).drew) hF6)); have HFx := Lib.hid hF6
                  have hn6 : nB < w6.heap.size := by have := hV6.1.1.lt; simpa [World.setCell] using this
                  clear ho6 hb6 hg6 hat6 hV6 hF6
                  refine hK _ _ ?_
                  clear hK K
                  refine wpAny_ready (rs := [7]) (by kernel_rfl) (by simp) ?_
                  refine AllReady.cons rfl (fun K hK => ?_) AllReady.nil
                  go_simp
                  refine hK _ _ ?_
                  clear hK K
                  refine wpAny_done (by kernel_rfl) ?_ _
                  clear f1 f2 f3 f4 f5 f6 f7 f8 f9 f10 f11 f12; obtain ⟨⟨f1, f2⟩, ⟨f3, f4⟩, f5, f6, f7, f8, f9, f10, f11, f12⟩ := HV6.out.facts
                  go_wp2_with (go_at_call 28; refine (HCALL.out _ _ _ HV6.out).mono ?_; rintro e w7 ⟨rfl, vn7, vb7, bs7, hV7, hbs7, hb7, hF7⟩; have ho7 : w7.ownsRow B 33 1 vn7 (nows.length + 1) (nows.map Prod.fst ++ [.slice (some ⟨gq, 0, none⟩) ql.length cq]) := (by have := hV7.2.1.1; simpa using this); obtain ⟨An7, cn7, rfl⟩ := own_form ho7; obtain ⟨Ab7, cb7, rfl⟩ := own_form hV7.2.1.2.1; have hc7 := own_le ho7; have hc7' : nows.length ≤ cn7 := (by omega); have hc8 : (nows.length : Int) ≤ cn7 := (by omega); clear f1 f2 f3 f4 f5 f6 f7 f8 f9 f10 f11 f12; obtain ⟨⟨f1, f2⟩, ⟨f3, f4⟩, f5, f6, f7, f8, f9, f10, f11, f12⟩ := hV7.facts; obtain ⟨hV8, hF8⟩ := hV7.setNow (nows' := nows) (own_init ho7 (by simp)) ⟨parted_cut hV7.2.2.2.2.1.1, parted_cut hV7.2.2.2.2.1.2⟩; rw [keysOf_snoc] at hV8; have HV8 := Lib.hid hV8; have HF8 := Lib.hid (HF12.out.trans (hF7.trans hF8)); have HP8 := Lib.hid (HP6.out.fr ((FrP.below (Below.refl _ _).drew).trans (HFx.out.trans (hF7.trans hF8)))); have HBS7 := Lib.hid hbs7; have HB7 := Lib.hid hb7; clear hV7 hV8 hF7 hF8 ho7 hc7 hbs7 hb7)
                  clear f1 f2 f3 f4 f5 f6 f7 f8 f9 f10 f11 f12
                  go_loopw [62] (fun jv wr3 => ∃ (j : Nat), j ≤ (endsB ql).length ∧ jv = .int .i64 j ∧ Hid (ChV w base nB bB aB uB cB mU B (.slice (some ⟨gA, 0, none⟩) ps.length ca) ps (.slice An7 nows.length cn7) (.slice Ab7 bs7.length cb7) nows bs7 (keysOf nows ++ (endsB ql).drop j) wr3) ∧ Hid (PairsAt wr3 (.slice A4 (endsB ql).length c4) (endsB ql)) ∧ Hid (FrP wr0 wr3)) (fun jv _ => (endsB ql).length - (intOf jv).toNat)
                  case atStart => exact ⟨0, Nat.zero_le _, rfl, HV8, HP8, HF8⟩
                  case round =>
                    obtain ⟨j, hj, rfl, HV9, HP9, HF9⟩ := hrel
                    obtain ⟨⟨f1, f2⟩, ⟨f3, f4⟩, f5, f6, f7, f8, f9, f10, f11, f12⟩ := HV9.out.facts
                    by_cases hjl : j < (endsB ql).length
                    · obtain ⟨ad4, rfl, hp0, hp1⟩ := at_P (Kd.R_reads' HP9.out).2.2 (j : Int) (by omega) (by omega)
                      simp only [Int.toNat_natCast] at hp0 hp1
                      have her := erase_at (K := keysOf nows) hjl HANY.out
                      generalize (endsB ql).getD j (0, 0) = p at hp0 hp1 her
                      obtain ⟨xa, xb⟩ := p
                      dsimp only at hp0 hp1
                      have hVa := HV9.out.below ((Below.refl _ _).alloc (Nat.le_refl _) (.cells #[.int .i64 xa, .int .i64 xb] 68))
                      obtain ⟨om, hmu, hmk⟩ := hVa.2.2.1.drop xa xb 0
                      rw [her] at hmk
                      have hVm := hVa.mapped om hmk
                      have HV7 := Lib.hid hVm; have HF7 := Lib.hid (HF9.out.trans (FrP.trans (FrP.below ((Below.refl _ _).alloc (Nat.le_refl _) (.cells #[.int .i64 xa, .int .i64 xb] 68))) (FrP.mapped hVa om))); have HP7 := Lib.hid (HP9.out.fr (FrP.trans (FrP.below ((Below.refl _ _).alloc (Nat.le_refl _) (.cells #[.int .i64 xa, .int .i64 xb] 68))) (FrP.mapped hVa om)))
                      have hjn : (j : Int) < (endsB ql).length := by omega
                      have hjq : j < 11 := by have := HLE.out; omega
                      clear hVa hmk hVm her
                      go_wp2
                      exact ⟨⟨j + 1, by omega, by go_num, HV7, HP7, HF7⟩, by simp [intOf]; omega⟩
                    · obtain rfl : j = (endsB ql).length := by omega
                      have hVz := HV9.out
                      rw [List.drop_of_length_le (Nat.le_refl _), List.append_nil] at hVz
                      have HVZ := Lib.hid hVz
                      clear hVz HV9
                      go_wp2
                      exact ⟨⟨d2 ++ [(Value.slice (some ⟨gq, 0, none⟩) ql.length cq, ql)], r3, bs7, _, _, HPD3.out, by simp, hdd3, HVZ, hnd2.trans (List.sublist_append_left _ _), HBS7.out, hrr3, Lib.hid (by have h1 := HF3.out; rw [List.map_cons, layB, if_pos HDIS.out] at h1; rw [HB7.out, ← h1]; simp), Lib.hid (HFR.out.trans HF9.out)⟩, by simp [intOf]; omega⟩
                refine AllReady.cons rfl (fun K hK => ?_) AllReady.nil
                go_simp
                refine hK _ _ ?_
                clear hK K
                refine wpAny_ready (rs := [0]) (by kernel_rfl) (by simp) ?_
                refine AllReady.cons rfl (fun K hK => ?_) AllReady.nil
                go_simp
                refine hK _ _ ?_
                clear hK K
                refine wpAny_ready (rs := [6]) (by kernel_rfl) (by simp) ?_
                refine AllReady.cons rfl (fun K hK => ?_) AllReady.nil
                refine step_append_cells (w0 := _) (W := _) B (by rfl) (.tmp 44) (.tmp 49) 24 33 (.slice none 0 0) 1 24 (by rfl) Try.underlying24 info33 rfl (by decide) (by decide) (.slice An2 nows.length cn2) nows.length (nows.map Prod.fst) [.slice (some ⟨gq, 0, none⟩) ql.length cq] (by rfl) (by rfl) rfl (by simp [Value.oneCell']) HO5.out (Below.refl _ _) HB5.out (by omega) ?_
                intro v6 w6 ho6 hb6 hg6 hat6
                obtain ⟨⟨t1, t2⟩, hV6, hF6⟩ := HV5.out.append (.slice (some ⟨gq, 0, none⟩) ql.length cq, ql) ho6 hg6 hat6
                obtain ⟨A6, c6, rfl⟩ := own_form ho6
                have HV6 := Lib.hid hV6; have HF12 := Lib.hid (HF6.out.trans (FrP.trans (FrP.below (Below.refl _ _).drew) hF6)); have HFx := Lib.hid hF6
                have hn6 : nB < w6.heap.size := by have := hV6.1.1.lt; simpa [World.setCell] using this
                clear ho6 hb6 hg6 hat6 hV6 hF6
                refine hK _ _ ?_
                clear hK K
                refine wpAny_ready (rs := [7]) (by kernel_rfl) (by simp) ?_
                refine AllReady.cons rfl (fun K hK => ?_) AllReady.nil
                go_simp
                refine hK _ _ ?_
                clear hK K
                refine wpAny_done (by kernel_rfl) ?_ _
                clear f1 f2 f3 f4 f5 f6 f7 f8 f9 f10 f11 f12; obtain ⟨⟨f1, f2⟩, ⟨f3, f4⟩, f5, f6, f7, f8, f9, f10, f11, f12⟩ := HV6.out.facts
                go_wp2_with (go_at_call 28; refine (HCALL.out _ _ _ HV6.out).mono ?_; rintro e w7 ⟨rfl, vn7, vb7, bs7, hV7, hbs7, hb7, hF7⟩; have ho7 : w7.ownsRow B 33 1 vn7 (nows.length + 1) (nows.map Prod.fst ++ [.slice (some ⟨gq, 0, none⟩) ql.length cq]) := (by have := hV7.2.1.1; simpa using this); obtain ⟨An7, cn7, rfl⟩ := own_form ho7; obtain ⟨Ab7, cb7, rfl⟩ := own_form hV7.2.1.2.1; have hc7 := own_le ho7; have hc7' : nows.length ≤ cn7 := (by omega); have hc8 : (nows.length : Int) ≤ cn7 := (by omega); clear f1 f2 f3 f4 f5 f6 f7 f8 f9 f10 f11 f12; obtain ⟨⟨f1, f2⟩, ⟨f3, f4⟩, f5, f6, f7, f8, f9, f10, f11, f12⟩ := hV7.facts; obtain ⟨hV8, hF8⟩ := hV7.setNow (nows' := nows) (own_init ho7 (by simp)) ⟨parted_cut hV7.2.2.2.2.1.1, parted_cut hV7.2.2.2.2.1.2⟩; rw [keysOf_snoc] at hV8; have HV8 := Lib.hid hV8; have HF8 := Lib.hid (HF12.out.trans (hF7.trans hF8)); have HP8 := Lib.hid (HP6.out.fr ((FrP.below (Below.refl _ _).drew).trans (HFx.out.trans (hF7.trans hF8)))); have HBS7 := Lib.hid hbs7; have HB7 := Lib.hid hb7; clear hV7 hV8 hF7 hF8 ho7 hc7 hbs7 hb7)
                clear f1 f2 f3 f4 f5 f6 f7 f8 f9 f10 f11 f12
                go_loopw [62] (fun jv wr3 => ∃ (j : Nat), j ≤ (endsB ql).length ∧ jv = .int .i64 j ∧ Hid (ChV w base nB bB aB uB cB mU B (.slice (some ⟨gA, 0, none⟩) ps.length ca) ps (.slice An7 nows.length cn7) (.slice Ab7 bs7.length cb7) nows bs7 (keysOf nows ++ (endsB ql).drop j) wr3) ∧ Hid (PairsAt wr3 (.slice A4 (endsB ql).length c4) (endsB ql)) ∧ Hid (FrP wr0 wr3)) (fun jv _ => (endsB ql).length - (intOf jv).toNat)
                case atStart => exact ⟨0, Nat.zero_le _, rfl, HV8, HP8, HF8⟩
                case round =>
                  obtain ⟨j, hj, rfl, HV9, HP9, HF9⟩ := hrel
                  obtain ⟨⟨f1, f2⟩, ⟨f3, f4⟩, f5, f6, f7, f8, f9, f10, f11, f12⟩ := HV9.out.facts
                  by_cases hjl : j < (endsB ql).length
                  · obtain ⟨ad4, rfl, hp0, hp1⟩ := at_P (Kd.R_reads' HP9.out).2.2 (j : Int) (by omega) (by omega)
                    simp only [Int.toNat_natCast] at hp0 hp1
                    have her := erase_at (K := keysOf nows) hjl HANY.out
                    generalize (endsB ql).getD j (0, 0) = p at hp0 hp1 her
                    obtain ⟨xa, xb⟩ := p
                    dsimp only at hp0 hp1
                    have hVa := HV9.out.below ((Below.refl _ _).alloc (Nat.le_refl _) (.cells #[.int .i64 xa, .int .i64 xb] 68))
                    obtain ⟨om, hmu, hmk⟩ := hVa.2.2.1.drop xa xb 0
                    rw [her] at hmk
                    have hVm := hVa.mapped om hmk
                    have HV7 := Lib.hid hVm; have HF7 := Lib.hid (HF9.out.trans (FrP.trans (FrP.below ((Below.refl _ _).alloc (Nat.le_refl _) (.cells #[.int .i64 xa, .int .i64 xb] 68))) (FrP.mapped hVa om))); have HP7 := Lib.hid (HP9.out.fr (FrP.trans (FrP.below ((Below.refl _ _).alloc (Nat.le_refl _) (.cells #[.int .i64 xa, .int .i64 xb] 68))) (FrP.mapped hVa om)))
                    have hjn : (j : Int) < (endsB ql).length := by omega
                    have hjq : j < 11 := by have := HLE.out; omega
                    clear hVa hmk hVm her
                    go_wp2
                    exact ⟨⟨j + 1, by omega, by go_num, HV7, HP7, HF7⟩, by simp [intOf]; omega⟩
                  · obtain rfl : j = (endsB ql).length := by omega
                    have hVz := HV9.out
                    rw [List.drop_of_length_le (Nat.le_refl _), List.append_nil] at hVz
                    have HVZ := Lib.hid hVz
                    clear hVz HV9
                    go_wp2
                    exact ⟨⟨d2 ++ [(Value.slice (some ⟨gq, 0, none⟩) ql.length cq, ql)], r3, bs7, _, _, HPD3.out, by simp, hdd3, HVZ, hnd2.trans (List.sublist_append_left _ _), HBS7.out, hrr3, Lib.hid (by have h1 := HF3.out; rw [List.map_cons, layB, if_pos HDIS.out] at h1; rw [HB7.out, ← h1]; simp), Lib.hid (HFR.out.trans HF9.out)⟩, by simp [intOf]; omega⟩
          · have HANY := Lib.hid hany
            have HDIS := Lib.hid (show ¬ disjB ql ((nows.map Prod.snd).flatMap endsB) = true from by rw [keysOf_map]; unfold disjB; rw [show (endsB ql).any (fun p => (keysOf nows).contains p) = true from hany]; decide)
            clear hany
            go_wp2_with (first
              | (go_at_call 30; refine (ends_any ⟨gq, 0, none⟩ cq ql _ (by omega) (by omega) HCQ.out).mono ?_; rintro e w4 ⟨v4, rfl, hR, hb⟩; obtain ⟨A4, c4, hv4⟩ := Kd.R_slice hR; subst hv4; clear f1 f2 f3 f4 f5 f6 f7 f8 f9 f10 f11 f12; obtain ⟨⟨f1, f2⟩, ⟨f3, f4⟩, f5, f6, f7, f8, f9, f10, f11, f12⟩ := (HV3.out.below hb).facts; have HP4 := Lib.hid (show PairsAt w4 (.slice A4 (endsB ql).length c4) (endsB ql) from Kd.R_lower hR (Nat.zero_le _)); have HV4 := Lib.hid (HV3.out.below hb); have HF4 := Lib.hid (FrP.below hb); clear hR hb)
              | (go_at_call 31; refine (containsU_any uB mU (keysOf nows) A4 c4 (endsB ql) _ (by rw [HLE.out]; omega) (Kd.R_reads' HP4.out).2.2 HV4.out.1.2.2.2.1 HV4.out.2.2.1).mono ?_; rintro e w5 ⟨rfl, hb⟩; have hany := HANY.out; clear f1 f2 f3 f4 f5 f6 f7 f8 f9 f10 f11 f12; obtain ⟨⟨f1, f2⟩, ⟨f3, f4⟩, f5, f6, f7, f8, f9, f10, f11, f12⟩ := (HV4.out.below hb).facts; have HP5 := Lib.hid (HP4.out.fr (FrP.below hb)); have HV5 := Lib.hid (HV4.out.below hb); have HF5 := Lib.hid (HF4.out.trans (FrP.below hb)); clear hb))
            exact ⟨⟨d2 ++ [(Value.slice (some ⟨gq, 0, none⟩) ql.length cq, ql)], r3, bs2, _, _, HPD3.out, by simp, hdd3, HV5, hnd2.trans (List.sublist_append_left _ _), hbs2, hrr3, Lib.hid (by have h1 := HF3.out; rw [List.map_cons, layB, if_neg HDIS.out] at h1; exact h1), Lib.hid (HFR.out.trans HF5.out)⟩, by simp [intOf]; omega⟩
    · have HVs := HV; have hbs := hbp; have FRs := Lib.hid (FrP.refl W)
      have HFs := Lib.hid (show layB (r.map Prod.snd) (nows.map Prod.snd) (bests.map Prod.snd) = FIN from by rw [← hFIN]; unfold bump; rw [if_neg (by simpa using hbump)])
      clear hFIN HV HU
      go_enter Try.func28, Try.ntmps28
      go_wp2
      clear f1 f2 f3 f4 f5 f6 f7 f8 f9 f10 f11 f12
      go_loopw [7] (fun iv wr => ∃ (d2 r2 bs2 : List ACyc) (vn2 vb2 : Value), ps = d2 ++ r2 ∧ iv = .int .i64 ((d2.length : Nat) : Int) ∧ d.length ≤ d2.length ∧ Hid (ChV w base nB bB aB uB cB mU B (.slice Aa ps.length ca) ps vn2 vb2 nows bs2 (keysOf nows) wr) ∧ nows.Sublist d2 ∧ bs2.Sublist ps ∧ r2.length ≤ r.length ∧ Hid (layB (r2.map Prod.snd) (nows.map Prod.snd) (bs2.map Prod.snd) = FIN) ∧ Hid (FrP W wr)) (fun iv _ => ps.length - (intOf iv).toNat)
      case atStart => exact ⟨d, r, bests, _, _, HPD.out, rfl, Nat.le_refl _, HVs, hnd, hbs, Nat.le_refl _, HFs, FRs⟩
      case round =>
        obtain ⟨d2, r2, bs2, vn2, vb2, hpd2, rfl, hdd, HV3, hnd2, hbs2, hrr, HF3, HFR⟩ := hrel
        obtain ⟨wr0, hwr0⟩ : ∃ X : World, X = wr := ⟨_, rfl⟩
        subst hwr0
        obtain ⟨An2, cn2, rfl⟩ := own_form HV3.out.2.1.1
        obtain ⟨Ab2, cb2, rfl⟩ := own_form HV3.out.2.1.2.1
        obtain ⟨⟨f1, f2⟩, ⟨f3, f4⟩, f5, f6, f7, f8, f9, f10, f11, f12⟩ := HV3.out.facts
        have hl2 : d2.length + r2.length = ps.length := by rw [hpd2, List.length_append]
        cases r2 with
        | nil =>
          have hlt : ¬ d2.length < ps.length := by simp at hl2; omega
          go_wp2
          go_end0
          exact ⟨rfl, _, _, bs2, HV3.out, hbs2, HF3.out, HFR.out⟩
        | cons q r3 =>
          have hlt : d2.length < ps.length := by simp at hl2; omega
          have hltI : (d2.length : Int) < ps.length := by omega
          obtain ⟨gA, cA2, hva, _, hgA, _, hcA⟩ := HV3.out.2.1.2.2.form (by rintro rfl; simp at hlt)
          injection hva with hA1 _ hA3
          subst hA1
          subst hA3
          obtain ⟨qv, ql⟩ := q
          have hq : (qv, ql) ∈ ps := by rw [hpd2]; simp
          obtain ⟨hq3, hq11, hqn⟩ := HROW.out _ hq
          have hrq := HV3.out.2.1.2.2.2.1 _ hq
          dsimp only at hq3 hq11 hqn hrq
          obtain ⟨gq, cq, hqv⟩ := hrq.form (by rintro rfl; simp at hq3)
          subst hqv
          have hcq := hcA d2.length (Value.slice (some ⟨gq, 0, none⟩) ql.length cq) (by rw [hpd2]; simp)
          rw [addr_at] at hcq
          obtain ⟨Aq, cq', hqe, _, hCq⟩ := hrq.reads
          injection hqe with e1 _ e3
          subst e1
          subst e3
          have HLE := Lib.hid (endsB_len ql)
          have hpd3 : ps = (d2 ++ [(Value.slice (some ⟨gq, 0, none⟩) ql.length cq, ql)]) ++ r3 := by rw [hpd2]; simp
          have HCQ := Lib.hid hCq; have HPD3 := Lib.hid hpd3; have HND := Lib.hid hqn
          have hdd3 : d.length ≤ (d2 ++ [(Value.slice (some ⟨gq, 0, none⟩) ql.length cq, ql)]).length := by rw [List.length_append]; exact Nat.le_trans hdd (Nat.le_add_right _ _)
          have hrr3 : r3.length ≤ r.length := by simp at hrr; omega
          clear hCq hpd3 hqn hrq hcA hpd2 hq
          cases hany : (endsB ql).any (keysOf nows).contains
          · have HANY := Lib.hid hany
            have HDIS := Lib.hid (show disjB ql ((nows.map Prod.snd).flatMap endsB) = true from by rw [keysOf_map]; unfold disjB; rw [show (endsB ql).any (fun p => (keysOf nows).contains p) = false from hany]; rfl)
            clear hany
            go_wp2_with (first
              | (go_at_call 30; refine (ends_any ⟨gq, 0, none⟩ cq ql _ (by omega) (by omega) HCQ.out).mono ?_; rintro e w4 ⟨v4, rfl, hR, hb⟩; obtain ⟨A4, c4, hv4⟩ := Kd.R_slice hR; subst hv4; clear f1 f2 f3 f4 f5 f6 f7 f8 f9 f10 f11 f12; obtain ⟨⟨f1, f2⟩, ⟨f3, f4⟩, f5, f6, f7, f8, f9, f10, f11, f12⟩ := (HV3.out.below hb).facts; have HP4 := Lib.hid (show PairsAt w4 (.slice A4 (endsB ql).length c4) (endsB ql) from Kd.R_lower hR (Nat.zero_le _)); have HV4 := Lib.hid (HV3.out.below hb); have HF4 := Lib.hid (FrP.below hb); clear hR hb)
              | (go_at_call 31; refine (containsU_any uB mU (keysOf nows) A4 c4 (endsB ql) _ (by rw [HLE.out]; omega) (Kd.R_reads' HP4.out).2.2 HV4.out.1.2.2.2.1 HV4.out.2.2.1).mono ?_; rintro e w5 ⟨rfl, hb⟩; have hany := HANY.out; clear f1 f2 f3 f4 f5 f6 f7 f8 f9 f10 f11 f12; obtain ⟨⟨f1, f2⟩, ⟨f3, f4⟩, f5, f6, f7, f8, f9, f10, f11, f12⟩ := (HV4.out.below hb).facts; have HP5 := Lib.hid (HP4.out.fr (FrP.below hb)); have HV5 := Lib.hid (HV4.out.below hb); have HF5 := Lib.hid (HF4.out.trans (FrP.below hb)); clear hb))
            clear f1 f2 f3 f4 f5 f6 f7 f8 f9 f10 f11 f12
            go_loopw [37] (fun jv wr2 => ∃ (j : Nat), j ≤ (endsB ql).length ∧ jv = .int .i64 j ∧ Hid (ChV w base nB bB aB uB cB mU B (.slice (some ⟨gA, 0, none⟩) ps.length ca) ps (.slice An2 nows.length cn2) (.slice Ab2 bs2.length cb2) nows bs2 (keysOf nows ++ (endsB ql).take j) wr2) ∧ Hid (PairsAt wr2 (.slice A4 (endsB ql).length c4) (endsB ql)) ∧ Hid (FrP wr0 wr2)) (fun jv _ => (endsB ql).length - (intOf jv).toNat)
            case atStart => exact ⟨0, Nat.zero_le _, rfl, by rw [List.take_zero, List.append_nil]; exact HV5, HP5, HF5⟩
            case round =>
              obtain ⟨j, hj, rfl, HV6, HP6, HF6⟩ := hrel
              obtain ⟨⟨f1, f2⟩, ⟨f3, f4⟩, f5, f6, f7, f8, f9, f10, f11, f12⟩ := HV6.out.facts
              by_cases hjl : j < (endsB ql).length
              · obtain ⟨ad4, rfl, hp0, hp1⟩ := at_P (Kd.R_reads' HP6.out).2.2 (j : Int) (by omega) (by omega)
                simp only [Int.toNat_natCast] at hp0 hp1
                have htk : (endsB ql).take (j + 1) = (endsB ql).take j ++ [(endsB ql).getD j (0, 0)] := by rw [List.take_succ_eq_append_getElem hjl, getD_at hjl]
                have hfr := fresh_at (K := keysOf nows) hjl HND.out HANY.out
                generalize (endsB ql).getD j (0, 0) = p at hp0 hp1 htk hfr
                obtain ⟨xa, xb⟩ := p
                dsimp only at hp0 hp1
                have hVa := HV6.out.below ((Below.refl _ _).alloc (Nat.le_refl _) (.cells #[.int .i64 xa, .int .i64 xb] 68))
                obtain ⟨om, hmu, hmk⟩ := hVa.2.2.1.put xa xb hfr
                have hVm := hVa.mapped om hmk
                rw [List.append_assoc, ← htk] at hVm
                have HV7 := Lib.hid hVm; have HF7 := Lib.hid (HF6.out.trans (FrP.trans (FrP.below ((Below.refl _ _).alloc (Nat.le_refl _) (.cells #[.int .i64 xa, .int .i64 xb] 68))) (FrP.mapped hVa om))); have HP7 := Lib.hid (HP6.out.fr (FrP.trans (FrP.below ((Below.refl _ _).alloc (Nat.le_refl _) (.cells #[.int .i64 xa, .int .i64 xb] 68))) (FrP.mapped hVa om)))
                have hjn : (j : Int) < (endsB ql).length := by omega
                have hjq : j < 11 := by have := HLE.out; omega
                clear hVa hmk hVm htk hfr
                go_wp2
                exact ⟨⟨j + 1, by have := HLE.out; omega, by go_num, HV7, HP7, HF7⟩, by have := HLE.out; simp [intOf]; omega⟩
              · obtain rfl : j = (endsB ql).length := by omega
                have hV5 := HV6.out.below (Below.refl _ _).drew
                rw [List.take_length, show keysOf nows ++ endsB ql = keysOf (nows ++ [(Value.slice (some ⟨gq, 0, none⟩) ql.length cq, ql)]) from (keysOf_snoc nows (Value.slice (some ⟨gq, 0, none⟩) ql.length cq, ql)).symm] at hV5
                have HV5 := Lib.hid hV5
                have HO5 := Lib.hid hV5.2.1.1; have HB5 := Lib.hid hV5.2.2.2.2.2.2.2.2.2.1
                obtain ⟨gA', cA', hva', _, _, _, hcA6⟩ := hV5.2.1.2.2.form (by rintro rfl; simp at hlt)
                cases hva'
                have hcq6 := hcA6 d2.length (Value.slice (some ⟨gq, 0, none⟩) ql.length cq) (by rw [HPD3.out]; simp)
                rw [addr_at] at hcq6
                clear hV5 HV6 hcA6
                have hsub : (nows ++ [(Value.slice (some ⟨gq, 0, none⟩) ql.length cq, ql)]).Sublist (d2 ++ [(Value.slice (some ⟨gq, 0, none⟩) ql.length cq, ql)]) := hnd2.append (List.Sublist.refl _)
                have hcall := fun vn vb W h => HIH.out (some ⟨gA, 0, none⟩) (d2 ++ [(Value.slice (some ⟨gq, 0, none⟩) ql.length cq, ql)]) r3 HPD3.out (by have := HR.out; simp at hrr; omega) vn vb (nows ++ [(Value.slice (some ⟨gq, 0, none⟩) ql.length cq, ql)]) bs2 W h hsub hbs2
                simp only [show ((d2 ++ [(Value.slice (some ⟨gq, 0, none⟩) ql.length cq, ql)]).length : Int) = (d2.length : Int) + 1 from by simp] at hcall
                have HCALL := Lib.hid hcall
                clear hcall
                go_wp2
                refine wp_region_any (by kernel_rfl) ?_
                change wpAny _ _ _ _ _ _ _ (World.drew _)
                refine takeP (i := 2) (v := ?vc4) (a' := ?bc4) rfl (by kernel_rfl) (by kernel_rfl) (by kernel_rfl) (fun _ _ _ h => h) (Or.inl ⟨by rfl, ?hyc4⟩) ?hac4 ?_
                case hyc4 => (intro w; go_simp; try first | with_reducible rfl | omega)
                case hac4 => (go_simp; try with_reducible rfl)
                refine wpAny_ready (rs := [0, 1]) (by kernel_rfl) (by simp) ?_
                refine AllReady.cons rfl (fun K hK => ?_) ?_
                · go_simp
                  refine hK _ _ ?_
                  clear hK K
                  refine wpAny_ready (rs := [1]) (by kernel_rfl) (by simp) ?_
                  refine AllReady.cons rfl (fun K hK => ?_) AllReady.nil
                  go_simp
                  refine hK _ _ ?_
                  clear hK K
                  refine takeP (i := 3) (v := ?vc5) (a' := ?bc5) rfl (by kernel_rfl) (by kernel_rfl) (by kernel_rfl) (fun _ _ _ h => h) (Or.inl ⟨by rfl, ?hyc5⟩) ?hac5 ?_
                  case hyc5 => (intro w; go_simp; try first | with_reducible rfl | omega)
                  case hac5 => (go_simp; try with_reducible rfl)
                  refine wpAny_ready (rs := [4]) (by kernel_rfl) (by simp) ?_
                  refine AllReady.cons rfl (fun K hK => ?_) AllReady.nil
                  go_simp
                  refine hK _ _ ?_
                  clear hK K
                  refine wpAny_ready (rs := [5]) (by kernel_rfl) (by simp) ?_
                  refine AllReady.cons rfl (fun K hK => ?_) AllReady.nil
                  go_simp
                  refine hK _ _ ?_
                  clear hK K
                  refine wpAny_ready (rs := [6]) (by kernel_rfl) (by simp) ?_
                  refine AllReady.cons rfl (fun K hK => ?_) AllReady.nil
                  refine step_append_cells (w0 := _) (W := _) B (by rfl) (.tmp 44) (.tmp 49) 24 33 (.slice none 0 0) 1 24 (by rfl) Try.underlying24 info33 rfl (by decide) (by decide) (.slice An2 nows.length cn2) nows.length (nows.map Prod.fst) [.slice (some ⟨gq, 0, none⟩) ql.length cq] (by rfl) (by rfl) rfl (by simp [Value.oneCell']) HO5.out (Below.refl _ _) HB5.out (by omega) ?_
                  intro v6 w6 ho6 hb6 hg6 hat6
                  obtain ⟨⟨t1, t2⟩, hV6, hF6⟩ := HV5.out.append (.slice (some ⟨gq, 0, none⟩) ql.length cq, ql) ho6 hg6 hat6
                  obtain ⟨A6, c6, rfl⟩ := own_form ho6
                  have HV6 := Lib.hid hV6; have HF12 := Lib.hid (HF6.out.trans (FrP.trans (FrP.below (Below.refl _ _).drew) hF6)); have HFx := Lib.hid hF6
                  have hn6 : nB < w6.heap.size := by have := hV6.1.1.lt; simpa [World.setCell] using this
                  clear ho6 hb6 hg6 hat6 hV6 hF6
                  refine hK _ _ ?_
                  clear hK K
                  refine wpAny_ready (rs := [7]) (by kernel_rfl) (by simp) ?_
                  refine AllReady.cons rfl (fun K hK => ?_) AllReady.nil
                  go_simp
                  refine hK _ _ ?_
                  clear hK K
                  refine wpAny_done (by kernel_rfl) ?_ _
                  clear f1 f2 f3 f4 f5 f6 f7 f8 f9 f10 f11 f12; obtain ⟨⟨f1, f2⟩, ⟨f3, f4⟩, f5, f6, f7, f8, f9, f10, f11, f12⟩ := HV6.out.facts
                  go_wp2_with (go_at_call 28; refine (HCALL.out _ _ _ HV6.out).mono ?_; rintro e w7 ⟨rfl, vn7, vb7, bs7, hV7, hbs7, hb7, hF7⟩; have ho7 : w7.ownsRow B 33 1 vn7 (nows.length + 1) (nows.map Prod.fst ++ [.slice (some ⟨gq, 0, none⟩) ql.length cq]) := (by have := hV7.2.1.1; simpa using this); obtain ⟨An7, cn7, rfl⟩ := own_form ho7; obtain ⟨Ab7, cb7, rfl⟩ := own_form hV7.2.1.2.1; have hc7 := own_le ho7; have hc7' : nows.length ≤ cn7 := (by omega); have hc8 : (nows.length : Int) ≤ cn7 := (by omega); clear f1 f2 f3 f4 f5 f6 f7 f8 f9 f10 f11 f12; obtain ⟨⟨f1, f2⟩, ⟨f3, f4⟩, f5, f6, f7, f8, f9, f10, f11, f12⟩ := hV7.facts; obtain ⟨hV8, hF8⟩ := hV7.setNow (nows' := nows) (own_init ho7 (by simp)) ⟨parted_cut hV7.2.2.2.2.1.1, parted_cut hV7.2.2.2.2.1.2⟩; rw [keysOf_snoc] at hV8; have HV8 := Lib.hid hV8; have HF8 := Lib.hid (HF12.out.trans (hF7.trans hF8)); have HP8 := Lib.hid (HP6.out.fr ((FrP.below (Below.refl _ _).drew).trans (HFx.out.trans (hF7.trans hF8)))); have HBS7 := Lib.hid hbs7; have HB7 := Lib.hid hb7; clear hV7 hV8 hF7 hF8 ho7 hc7 hbs7 hb7)
                  clear f1 f2 f3 f4 f5 f6 f7 f8 f9 f10 f11 f12
                  go_loopw [62] (fun jv wr3 => ∃ (j : Nat), j ≤ (endsB ql).length ∧ jv = .int .i64 j ∧ Hid (ChV w base nB bB aB uB cB mU B (.slice (some ⟨gA, 0, none⟩) ps.length ca) ps (.slice An7 nows.length cn7) (.slice Ab7 bs7.length cb7) nows bs7 (keysOf nows ++ (endsB ql).drop j) wr3) ∧ Hid (PairsAt wr3 (.slice A4 (endsB ql).length c4) (endsB ql)) ∧ Hid (FrP wr0 wr3)) (fun jv _ => (endsB ql).length - (intOf jv).toNat)
                  case atStart => exact ⟨0, Nat.zero_le _, rfl, HV8, HP8, HF8⟩
                  case round =>
                    obtain ⟨j, hj, rfl, HV9, HP9, HF9⟩ := hrel
                    obtain ⟨⟨f1, f2⟩, ⟨f3, f4⟩, f5, f6, f7, f8, f9, f10, f11, f12⟩ := HV9.out.facts
                    by_cases hjl : j < (endsB ql).length
                    · obtain ⟨ad4, rfl, hp0, hp1⟩ := at_P (Kd.R_reads' HP9.out).2.2 (j : Int) (by omega) (by omega)
                      simp only [Int.toNat_natCast] at hp0 hp1
                      have her := erase_at (K := keysOf nows) hjl HANY.out
                      generalize (endsB ql).getD j (0, 0) = p at hp0 hp1 her
                      obtain ⟨xa, xb⟩ := p
                      dsimp only at hp0 hp1
                      have hVa := HV9.out.below ((Below.refl _ _).alloc (Nat.le_refl _) (.cells #[.int .i64 xa, .int .i64 xb] 68))
                      obtain ⟨om, hmu, hmk⟩ := hVa.2.2.1.drop xa xb 0
                      rw [her] at hmk
                      have hVm := hVa.mapped om hmk
                      have HV7 := Lib.hid hVm; have HF7 := Lib.hid (HF9.out.trans (FrP.trans (FrP.below ((Below.refl _ _).alloc (Nat.le_refl _) (.cells #[.int .i64 xa, .int .i64 xb] 68))) (FrP.mapped hVa om))); have HP7 := Lib.hid (HP9.out.fr (FrP.trans (FrP.below ((Below.refl _ _).alloc (Nat.le_refl _) (.cells #[.int .i64 xa, .int .i64 xb] 68))) (FrP.mapped hVa om)))
                      have hjn : (j : Int) < (endsB ql).length := by omega
                      have hjq : j < 11 := by have := HLE.out; omega
                      clear hVa hmk hVm her
                      go_wp2
                      exact ⟨⟨j + 1, by omega, by go_num, HV7, HP7, HF7⟩, by simp [intOf]; omega⟩
                    · obtain rfl : j = (endsB ql).length := by omega
                      have hVz := HV9.out
                      rw [List.drop_of_length_le (Nat.le_refl _), List.append_nil] at hVz
                      have HVZ := Lib.hid hVz
                      clear hVz HV9
                      go_wp2
                      exact ⟨⟨d2 ++ [(Value.slice (some ⟨gq, 0, none⟩) ql.length cq, ql)], r3, bs7, _, _, HPD3.out, by simp, hdd3, HVZ, hnd2.trans (List.sublist_append_left _ _), HBS7.out, hrr3, Lib.hid (by have h1 := HF3.out; rw [List.map_cons, layB, if_pos HDIS.out] at h1; rw [HB7.out, ← h1]; simp), Lib.hid (HFR.out.trans HF9.out)⟩, by simp [intOf]; omega⟩
                refine AllReady.cons rfl (fun K hK => ?_) AllReady.nil
                go_simp
                refine hK _ _ ?_
                clear hK K
                refine takeP (i := 3) (v := ?vc6) (a' := ?bc6) rfl (by kernel_rfl) (by kernel_rfl) (by kernel_rfl) (fun _ _ _ h => h) (Or.inl ⟨by rfl, ?hyc6⟩) ?hac6 ?_
                case hyc6 => (intro w; go_simp; try first | with_reducible rfl | omega)
                case hac6 => (go_simp; try with_reducible rfl)
                refine wpAny_ready (rs := [0, 4]) (by kernel_rfl) (by simp) ?_
                refine AllReady.cons rfl (fun K hK => ?_) ?_
                · go_simp
                  refine hK _ _ ?_
                  clear hK K
                  refine wpAny_ready (rs := [4]) (by kernel_rfl) (by simp) ?_
                  refine AllReady.cons rfl (fun K hK => ?_) AllReady.nil
                  go_simp
                  refine hK _ _ ?_
                  clear hK K
                  refine wpAny_ready (rs := [5]) (by kernel_rfl) (by simp) ?_
                  refine AllReady.cons rfl (fun K hK => ?_) AllReady.nil
                  go_simp
                  refine hK _ _ ?_
                  clear hK K
                  refine wpAny_ready (rs := [6]) (by kernel_rfl) (by simp) ?_
                  refine AllReady.cons rfl (fun K hK => ?_) AllReady.nil
                  refine step_append_cells (w0 := _) (W := _) B (by rfl) (.tmp 44) (.tmp 49) 24 33 (.slice none 0 0) 1 24 (by rfl) Try.underlying24 info33 rfl (by decide) (by decide) (.slice An2 nows.length cn2) nows.length (nows.map Prod.fst) [.slice (some ⟨gq, 0, none⟩) ql.length cq] (by rfl) (by rfl) rfl (by simp [Value.oneCell']) HO5.out (Below.refl _ _) HB5.out (by omega) ?_
                  intro v6 w6 ho6 hb6 hg6 hat6
                  obtain ⟨⟨t1, t2⟩, hV6, hF6⟩ := HV5.out.append (.slice (some ⟨gq, 0, none⟩) ql.length cq, ql) ho6 hg6 hat6
                  obtain ⟨A6, c6, rfl⟩ := own_form ho6
                  have HV6 := Lib.hid hV6; have HF12 := Lib.hid (HF6.out.trans (FrP.trans (FrP.below (Below.refl _ _).drew) hF6)); have HFx := Lib.hid hF6
                  have hn6 : nB < w6.heap.size := by have := hV6.1.1.lt; simpa [World.setCell] using this
                  clear ho6 hb6 hg6 hat6 hV6 hF6
                  refine hK _ _ ?_
                  clear hK K
                  refine wpAny_ready (rs := [7]) (by kernel_rfl) (by simp) ?_
                  refine AllReady.cons rfl (fun K hK => ?_) AllReady.nil
                  go_simp
                  refine hK _ _ ?_
                  clear hK K
                  refine wpAny_done (by kernel_rfl) ?_ _
                  clear f1 f2 f3 f4 f5 f6 f7 f8 f9 f10 f11 f12; obtain ⟨⟨f1, f2⟩, ⟨f3, f4⟩, f5, f6, f7, f8, f9, f10, f11, f12⟩ := HV6.out.facts
                  go_wp2_with (go_at_call 28; refine (HCALL.out _ _ _ HV6.out).mono ?_; rintro e w7 ⟨rfl, vn7, vb7, bs7, hV7, hbs7, hb7, hF7⟩; have ho7 : w7.ownsRow B 33 1 vn7 (nows.length + 1) (nows.map Prod.fst ++ [.slice (some ⟨gq, 0, none⟩) ql.length cq]) := (by have := hV7.2.1.1; simpa using this); obtain ⟨An7, cn7, rfl⟩ := own_form ho7; obtain ⟨Ab7, cb7, rfl⟩ := own_form hV7.2.1.2.1; have hc7 := own_le ho7; have hc7' : nows.length ≤ cn7 := (by omega); have hc8 : (nows.length : Int) ≤ cn7 := (by omega); clear f1 f2 f3 f4 f5 f6 f7 f8 f9 f10 f11 f12; obtain ⟨⟨f1, f2⟩, ⟨f3, f4⟩, f5, f6, f7, f8, f9, f10, f11, f12⟩ := hV7.facts; obtain ⟨hV8, hF8⟩ := hV7.setNow (nows' := nows) (own_init ho7 (by simp)) ⟨parted_cut hV7.2.2.2.2.1.1, parted_cut hV7.2.2.2.2.1.2⟩; rw [keysOf_snoc] at hV8; have HV8 := Lib.hid hV8; have HF8 := Lib.hid (HF12.out.trans (hF7.trans hF8)); have HP8 := Lib.hid (HP6.out.fr ((FrP.below (Below.refl _ _).drew).trans (HFx.out.trans (hF7.trans hF8)))); have HBS7 := Lib.hid hbs7; have HB7 := Lib.hid hb7; clear hV7 hV8 hF7 hF8 ho7 hc7 hbs7 hb7)
                  clear f1 f2 f3 f4 f5 f6 f7 f8 f9 f10 f11 f12
                  go_loopw [62] (fun jv wr3 => ∃ (j : Nat), j ≤ (endsB ql).length ∧ jv = .int .i64 j ∧ Hid (ChV w base nB bB aB uB cB mU B (.slice (some ⟨gA, 0, none⟩) ps.length ca) ps (.slice An7 nows.length cn7) (.slice Ab7 bs7.length cb7) nows bs7 (keysOf nows ++ (endsB ql).drop j) wr3) ∧ Hid (PairsAt wr3 (.slice A4 (endsB ql).length c4) (endsB ql)) ∧ Hid (FrP wr0 wr3)) (fun jv _ => (endsB ql).length - (intOf jv).toNat)
                  case atStart => exact ⟨0, Nat.zero_le _, rfl, HV8, HP8, HF8⟩
                  case round =>
                    obtain ⟨j, hj, rfl, HV9, HP9, HF9⟩ := hrel
                    obtain ⟨⟨f1, f2⟩, ⟨f3, f4⟩, f5, f6, f7, f8, f9, f10, f11, f12⟩ := HV9.out.facts
                    by_cases hjl : j < (endsB ql).length
                    · obtain ⟨ad4, rfl, hp0, hp1⟩ := at_P (Kd.R_reads' HP9.out).2.2 (j : Int) (by omega) (by omega)
                      simp only [Int.toNat_natCast] at hp0 hp1
                      have her := erase_at (K := keysOf nows) hjl HANY.out
                      generalize (endsB ql).getD j (0, 0) = p at hp0 hp1 her
                      obtain ⟨xa, xb⟩ := p
                      dsimp only at hp0 hp1
                      have hVa := HV9.out.below ((Below.refl _ _).alloc (Nat.le_refl _) (.cells #[.int .i64 xa, .int .i64 xb] 68))
                      obtain ⟨om, hmu, hmk⟩ := hVa.2.2.1.drop xa xb 0
                      rw [her] at hmk
                      have hVm := hVa.mapped om hmk
                      have HV7 := Lib.hid hVm; have HF7 := Lib.hid (HF9.out.trans (FrP.trans (FrP.below ((Below.refl _ _).alloc (Nat.le_refl _) (.cells #[.int .i64 xa, .int .i64 xb] 68))) (FrP.mapped hVa om))); have HP7 := Lib.hid (HP9.out.fr (FrP.trans (FrP.below ((Below.refl _ _).alloc (Nat.le_refl _) (.cells #[.int .i64 xa, .int .i64 xb] 68))) (FrP.mapped hVa om)))
                      have hjn : (j : Int) < (endsB ql).length := by omega
                      have hjq : j < 11 := by have := HLE.out; omega
                      clear hVa hmk hVm her
                      go_wp2
                      exact ⟨⟨j + 1, by omega, by go_num, HV7, HP7, HF7⟩, by simp [intOf]; omega⟩
                    · obtain rfl : j = (endsB ql).length := by omega
                      have hVz := HV9.out
                      rw [List.drop_of_length_le (Nat.le_refl _), List.append_nil] at hVz
                      have HVZ := Lib.hid hVz
                      clear hVz HV9
                      go_wp2
                      exact ⟨⟨d2 ++ [(Value.slice (some ⟨gq, 0, none⟩) ql.length cq, ql)], r3, bs7, _, _, HPD3.out, by simp, hdd3, HVZ, hnd2.trans (List.sublist_append_left _ _), HBS7.out, hrr3, Lib.hid (by have h1 := HF3.out; rw [List.map_cons, layB, if_pos HDIS.out] at h1; rw [HB7.out, ← h1]; simp), Lib.hid (HFR.out.trans HF9.out)⟩, by simp [intOf]; omega⟩
                refine AllReady.cons rfl (fun K hK => ?_) AllReady.nil
                go_simp
                refine hK _ _ ?_
                clear hK K
                refine wpAny_ready (rs := [0, 5]) (by kernel_rfl) (by simp) ?_
                refine AllReady.cons rfl (fun K hK => ?_) ?_
                · go_simp
                  refine hK _ _ ?_
                  clear hK K
                  refine wpAny_ready (rs := [5]) (by kernel_rfl) (by simp) ?_
                  refine AllReady.cons rfl (fun K hK => ?_) AllReady.nil
                  go_simp
                  refine hK _ _ ?_
                  clear hK K
                  refine wpAny_ready (rs := [6]) (by kernel_rfl) (by simp) ?_
                  refine AllReady.cons rfl (fun K hK => ?_) AllReady.nil
                  refine step_append_cells (w0 := _) (W := _) B (by rfl) (.tmp 44) (.tmp 49) 24 33 (.slice none 0 0) 1 24 (by rfl) Try.underlying24 info33 rfl (by decide) (by decide) (.slice An2 nows.length cn2) nows.length (nows.map Prod.fst) [.slice (some ⟨gq, 0, none⟩) ql.length cq] (by rfl) (by rfl) rfl (by simp [Value.oneCell']) HO5.out (Below.refl _ _) HB5.out (by omega) ?_
                  intro v6 w6 ho6 hb6 hg6 hat6
                  obtain ⟨⟨t1, t2⟩, hV6, hF6⟩ := HV5.out.append (.slice (some ⟨gq, 0, none⟩) ql.length cq, ql) ho6 hg6 hat6
                  obtain ⟨A6, c6, rfl⟩ := own_form ho6
                  have HV6 := Lib.hid hV6; have HF12 := Lib.hid (HF6.out.trans (FrP.trans (FrP.below (Below.refl _ _).drew) hF6)); have HFx := Lib.hid hF6
                  have hn6 : nB < w6.heap.size := by have := hV6.1.1.lt; simpa [World.setCell] using this
                  clear ho6 hb6 hg6 hat6 hV6 hF6
                  refine hK _ _ ?_
                  clear hK K
                  refine wpAny_ready (rs := [7]) (by kernel_rfl) (by simp) ?_
                  refine AllReady.cons rfl (fun K hK => ?_) AllReady.nil
                  go_simp
                  refine hK _ _ ?_
                  clear hK K
                  refine wpAny_done (by kernel_rfl) ?_ _
                  clear f1 f2 f3 f4 f5 f6 f7 f8 f9 f10 f11 f12; obtain ⟨⟨f1, f2⟩, ⟨f3, f4⟩, f5, f6, f7, f8, f9, f10, f11, f12⟩ := HV6.out.facts
                  go_wp2_with (go_at_call 28; refine (HCALL.out _ _ _ HV6.out).mono ?_; rintro e w7 ⟨rfl, vn7, vb7, bs7, hV7, hbs7, hb7, hF7⟩; have ho7 : w7.ownsRow B 33 1 vn7 (nows.length + 1) (nows.map Prod.fst ++ [.slice (some ⟨gq, 0, none⟩) ql.length cq]) := (by have := hV7.2.1.1; simpa using this); obtain ⟨An7, cn7, rfl⟩ := own_form ho7; obtain ⟨Ab7, cb7, rfl⟩ := own_form hV7.2.1.2.1; have hc7 := own_le ho7; have hc7' : nows.length ≤ cn7 := (by omega); have hc8 : (nows.length : Int) ≤ cn7 := (by omega); clear f1 f2 f3 f4 f5 f6 f7 f8 f9 f10 f11 f12; obtain ⟨⟨f1, f2⟩, ⟨f3, f4⟩, f5, f6, f7, f8, f9, f10, f11, f12⟩ := hV7.facts; obtain ⟨hV8, hF8⟩ := hV7.setNow (nows' := nows) (own_init ho7 (by simp)) ⟨parted_cut hV7.2.2.2.2.1.1, parted_cut hV7.2.2.2.2.1.2⟩; rw [keysOf_snoc] at hV8; have HV8 := Lib.hid hV8; have HF8 := Lib.hid (HF12.out.trans (hF7.trans hF8)); have HP8 := Lib.hid (HP6.out.fr ((FrP.below (Below.refl _ _).drew).trans (HFx.out.trans (hF7.trans hF8)))); have HBS7 := Lib.hid hbs7; have HB7 := Lib.hid hb7; clear hV7 hV8 hF7 hF8 ho7 hc7 hbs7 hb7)
                  clear f1 f2 f3 f4 f5 f6 f7 f8 f9 f10 f11 f12
                  go_loopw [62] (fun jv wr3 => ∃ (j : Nat), j ≤ (endsB ql).length ∧ jv = .int .i64 j ∧ Hid (ChV w base nB bB aB uB cB mU B (.slice (some ⟨gA, 0, none⟩) ps.length ca) ps (.slice An7 nows.length cn7) (.slice Ab7 bs7.length cb7) nows bs7 (keysOf nows ++ (endsB ql).drop j) wr3) ∧ Hid (PairsAt wr3 (.slice A4 (endsB ql).length c4) (endsB ql)) ∧ Hid (FrP wr0 wr3)) (fun jv _ => (endsB ql).length - (intOf jv).toNat)
                  case atStart => exact ⟨0, Nat.zero_le _, rfl, HV8, HP8, HF8⟩
                  case round =>
                    obtain ⟨j, hj, rfl, HV9, HP9, HF9⟩ := hrel
                    obtain ⟨⟨f1, f2⟩, ⟨f3, f4⟩, f5, f6, f7, f8, f9, f10, f11, f12⟩ := HV9.out.facts
                    by_cases hjl : j < (endsB ql).length
                    · obtain ⟨ad4, rfl, hp0, hp1⟩ := at_P (Kd.R_reads' HP9.out).2.2 (j : Int) (by omega) (by omega)
                      simp only [Int.toNat_natCast] at hp0 hp1
                      have her := erase_at (K := keysOf nows) hjl HANY.out
                      generalize (endsB ql).getD j (0, 0) = p at hp0 hp1 her
                      obtain ⟨xa, xb⟩ := p
                      dsimp only at hp0 hp1
                      have hVa := HV9.out.below ((Below.refl _ _).alloc (Nat.le_refl _) (.cells #[.int .i64 xa, .int .i64 xb] 68))
                      obtain ⟨om, hmu, hmk⟩ := hVa.2.2.1.drop xa xb 0
                      rw [her] at hmk
                      have hVm := hVa.mapped om hmk
                      have HV7 := Lib.hid hVm; have HF7 := Lib.hid (HF9.out.trans (FrP.trans (FrP.below ((Below.refl _ _).alloc (Nat.le_refl _) (.cells #[.int .i64 xa, .int .i64 xb] 68))) (FrP.mapped hVa om))); have HP7 := Lib.hid (HP9.out.fr (FrP.trans (FrP.below ((Below.refl _ _).alloc (Nat.le_refl _) (.cells #[.int .i64 xa, .int .i64 xb] 68))) (FrP.mapped hVa om)))
                      have hjn : (j : Int) < (endsB ql).length := by omega
                      have hjq : j < 11 := by have := HLE.out; omega
                      clear hVa hmk hVm her
                      go_wp2
                      exact ⟨⟨j + 1, by omega, by go_num, HV7, HP7, HF7⟩, by simp [intOf]; omega⟩
                    · obtain rfl : j = (endsB ql).length := by omega
                      have hVz := HV9.out
                      rw [List.drop_of_length_le (Nat.le_refl _), List.append_nil] at hVz
                      have HVZ := Lib.hid hVz
                      clear hVz HV9
                      go_wp2
                      exact ⟨⟨d2 ++ [(Value.slice (some ⟨gq, 0, none⟩) ql.length cq, ql)], r3, bs7, _, _, HPD3.out, by simp, hdd3, HVZ, hnd2.trans (List.sublist_append_left _ _), HBS7.out, hrr3, Lib.hid (by have h1 := HF3.out; rw [List.map_cons, layB, if_pos HDIS.out] at h1; rw [HB7.out, ← h1]; simp), Lib.hid (HFR.out.trans HF9.out)⟩, by simp [intOf]; omega⟩
                refine AllReady.cons rfl (fun K hK => ?_) AllReady.nil
                go_simp
                refine hK _ _ ?_
                clear hK K
                refine wpAny_ready (rs := [0]) (by kernel_rfl) (by simp) ?_
                refine AllReady.cons rfl (fun K hK => ?_) AllReady.nil
                go_simp
                refine hK _ _ ?_
                clear hK K
                refine wpAny_ready (rs := [6]) (by kernel_rfl) (by simp) ?_
                refine AllReady.cons rfl (fun K hK => ?_) AllReady.nil
                refine step_append_cells (w0 := _) (W := _) B (by rfl) (.tmp 44) (.tmp 49) 24 33 (.slice none 0 0) 1 24 (by rfl) Try.underlying24 info33 rfl (by decide) (by decide) (.slice An2 nows.length cn2) nows.length (nows.map Prod.fst) [.slice (some ⟨gq, 0, none⟩) ql.length cq] (by rfl) (by rfl) rfl (by simp [Value.oneCell']) HO5.out (Below.refl _ _) HB5.out (by omega) ?_
                intro v6 w6 ho6 hb6 hg6 hat6
                obtain ⟨⟨t1, t2⟩, hV6, hF6⟩ := HV5.out.append (.slice (some ⟨gq, 0, none⟩) ql.length cq, ql) ho6 hg6 hat6
                obtain ⟨A6, c6, rfl⟩ := own_form ho6
                have HV6 := Lib.hid hV6; have HF12 := Lib.hid (HF6.out.trans (FrP.trans (FrP.below (Below.refl _ _).drew) hF6)); have HFx := Lib.hid hF6
                have hn6 : nB < w6.heap.size := by have := hV6.1.1.lt; simpa [World.setCell] using this
                clear ho6 hb6 hg6 hat6 hV6 hF6
                refine hK _ _ ?_
                clear hK K
                refine wpAny_ready (rs := [7]) (by kernel_rfl) (by simp) ?_
                refine AllReady.cons rfl (fun K hK => ?_) AllReady.nil
                go_simp
                refine hK _ _ ?_
                clear hK K
                refine wpAny_done (by kernel_rfl) ?_ _
                clear f1 f2 f3 f4 f5 f6 f7 f8 f9 f10 f11 f12; obtain ⟨⟨f1, f2⟩, ⟨f3, f4⟩, f5, f6, f7, f8, f9, f10, f11, f12⟩ := HV6.out.facts
                go_wp2_with (go_at_call 28; refine (HCALL.out _ _ _ HV6.out).mono ?_; rintro e w7 ⟨rfl, vn7, vb7, bs7, hV7, hbs7, hb7, hF7⟩; have ho7 : w7.ownsRow B 33 1 vn7 (nows.length + 1) (nows.map Prod.fst ++ [.slice (some ⟨gq, 0, none⟩) ql.length cq]) := (by have := hV7.2.1.1; simpa using this); obtain ⟨An7, cn7, rfl⟩ := own_form ho7; obtain ⟨Ab7, cb7, rfl⟩ := own_form hV7.2.1.2.1; have hc7 := own_le ho7; have hc7' : nows.length ≤ cn7 := (by omega); have hc8 : (nows.length : Int) ≤ cn7 := (by omega); clear f1 f2 f3 f4 f5 f6 f7 f8 f9 f10 f11 f12; obtain ⟨⟨f1, f2⟩, ⟨f3, f4⟩, f5, f6, f7, f8, f9, f10, f11, f12⟩ := hV7.facts; obtain ⟨hV8, hF8⟩ := hV7.setNow (nows' := nows) (own_init ho7 (by simp)) ⟨parted_cut hV7.2.2.2.2.1.1, parted_cut hV7.2.2.2.2.1.2⟩; rw [keysOf_snoc] at hV8; have HV8 := Lib.hid hV8; have HF8 := Lib.hid (HF12.out.trans (hF7.trans hF8)); have HP8 := Lib.hid (HP6.out.fr ((FrP.below (Below.refl _ _).drew).trans (HFx.out.trans (hF7.trans hF8)))); have HBS7 := Lib.hid hbs7; have HB7 := Lib.hid hb7; clear hV7 hV8 hF7 hF8 ho7 hc7 hbs7 hb7)
                clear f1 f2 f3 f4 f5 f6 f7 f8 f9 f10 f11 f12
                go_loopw [62] (fun jv wr3 => ∃ (j : Nat), j ≤ (endsB ql).length ∧ jv = .int .i64 j ∧ Hid (ChV w base nB bB aB uB cB mU B (.slice (some ⟨gA, 0, none⟩) ps.length ca) ps (.slice An7 nows.length cn7) (.slice Ab7 bs7.length cb7) nows bs7 (keysOf nows ++ (endsB ql).drop j) wr3) ∧ Hid (PairsAt wr3 (.slice A4 (endsB ql).length c4) (endsB ql)) ∧ Hid (FrP wr0 wr3)) (fun jv _ => (endsB ql).length - (intOf jv).toNat)
                case atStart => exact ⟨0, Nat.zero_le _, rfl, HV8, HP8, HF8⟩
                case round =>
                  obtain ⟨j, hj, rfl, HV9, HP9, HF9⟩ := hrel
                  obtain ⟨⟨f1, f2⟩, ⟨f3, f4⟩, f5, f6, f7, f8, f9, f10, f11, f12⟩ := HV9.out.facts
                  by_cases hjl : j < (endsB ql).length
                  · obtain ⟨ad4, rfl, hp0, hp1⟩ := at_P (Kd.R_reads' HP9.out).2.2 (j : Int) (by omega) (by omega)
                    simp only [Int.toNat_natCast] at hp0 hp1
                    have her := erase_at (K := keysOf nows) hjl HANY.out
                    generalize (endsB ql).getD j (0, 0) = p at hp0 hp1 her
                    obtain ⟨xa, xb⟩ := p
                    dsimp only at hp0 hp1
                    have hVa := HV9.out.below ((Below.refl _ _).alloc (Nat.le_refl _) (.cells #[.int .i64 xa, .int .i64 xb] 68))
                    obtain ⟨om, hmu, hmk⟩ := hVa.2.2.1.drop xa xb 0
                    rw [her] at hmk
                    have hVm := hVa.mapped om hmk
                    have HV7 := Lib.hid hVm; have HF7 := Lib.hid (HF9.out.trans (FrP.trans (FrP.below ((Below.refl _ _).alloc (Nat.le_refl _) (.cells #[.int .i64 xa, .int .i64 xb] 68))) (FrP.mapped hVa om))); have HP7 := Lib.hid (HP9.out.fr (FrP.trans (FrP.below ((Below.refl _ _).alloc (Nat.le_refl _) (.cells #[.int .i64 xa, .int .i64 xb] 68))) (FrP.mapped hVa om)))
                    have hjn : (j : Int) < (endsB ql).length := by omega
                    have hjq : j < 11 := by have := HLE.out; omega
                    clear hVa hmk hVm her
                    go_wp2
                    exact ⟨⟨j + 1, by omega, by go_num, HV7, HP7, HF7⟩, by simp [intOf]; omega⟩
                  · obtain rfl : j = (endsB ql).length := by omega
                    have hVz := HV9.out
                    rw [List.drop_of_length_le (Nat.le_refl _), List.append_nil] at hVz
                    have HVZ := Lib.hid hVz
                    clear hVz HV9
                    go_wp2
                    exact ⟨⟨d2 ++ [(Value.slice (some ⟨gq, 0, none⟩) ql.length cq, ql)], r3, bs7, _, _, HPD3.out, by simp, hdd3, HVZ, hnd2.trans (List.sublist_append_left _ _), HBS7.out, hrr3, Lib.hid (by have h1 := HF3.out; rw [List.map_cons, layB, if_pos HDIS.out] at h1; rw [HB7.out, ← h1]; simp), Lib.hid (HFR.out.trans HF9.out)⟩, by simp [intOf]; omega⟩
          · have HANY := Lib.hid hany
            have HDIS := Lib.hid (show ¬ disjB ql ((nows.map Prod.snd).flatMap endsB) = true from by rw [keysOf_map]; unfold disjB; rw [show (endsB ql).any (fun p => (keysOf nows).contains p) = true from hany]; decide)
            clear hany
            go_wp2_with (first
              | (go_at_call 30; refine (ends_any ⟨gq, 0, none⟩ cq ql _ (by omega) (by omega) HCQ.out).mono ?_; rintro e w4 ⟨v4, rfl, hR, hb⟩; obtain ⟨A4, c4, hv4⟩ := Kd.R_slice hR; subst hv4; clear f1 f2 f3 f4 f5 f6 f7 f8 f9 f10 f11 f12; obtain ⟨⟨f1, f2⟩, ⟨f3, f4⟩, f5, f6, f7, f8, f9, f10, f11, f12⟩ := (HV3.out.below hb).facts; have HP4 := Lib.hid (show PairsAt w4 (.slice A4 (endsB ql).length c4) (endsB ql) from Kd.R_lower hR (Nat.zero_le _)); have HV4 := Lib.hid (HV3.out.below hb); have HF4 := Lib.hid (FrP.below hb); clear hR hb)
              | (go_at_call 31; refine (containsU_any uB mU (keysOf nows) A4 c4 (endsB ql) _ (by rw [HLE.out]; omega) (Kd.R_reads' HP4.out).2.2 HV4.out.1.2.2.2.1 HV4.out.2.2.1).mono ?_; rintro e w5 ⟨rfl, hb⟩; have hany := HANY.out; clear f1 f2 f3 f4 f5 f6 f7 f8 f9 f10 f11 f12; obtain ⟨⟨f1, f2⟩, ⟨f3, f4⟩, f5, f6, f7, f8, f9, f10, f11, f12⟩ := (HV4.out.below hb).facts; have HP5 := Lib.hid (HP4.out.fr (FrP.below hb)); have HV5 := Lib.hid (HV4.out.below hb); have HF5 := Lib.hid (HF4.out.trans (FrP.below hb)); clear hb))
            exact ⟨⟨d2 ++ [(Value.slice (some ⟨gq, 0, none⟩) ql.length cq, ql)], r3, bs2, _, _, HPD3.out, by simp, hdd3, HV5, hnd2.trans (List.sublist_append_left _ _), hbs2, hrr3, Lib.hid (by have h1 := HF3.out; rw [List.map_cons, layB, if_neg HDIS.out] at h1; exact h1), Lib.hid (HFR.out.trans HF5.out)⟩, by simp [intOf]; omega⟩
end Go.Proofs.Ytkefmlhkejoknab.L
