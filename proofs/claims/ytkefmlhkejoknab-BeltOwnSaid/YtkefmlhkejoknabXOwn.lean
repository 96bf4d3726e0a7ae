/- BeltOwn (4): the walk, by hand: for every input the law returns true. -/
import Derived.Test.YtkefmlhkejoknabXOwnA
namespace Go.Proofs.Ytkefmlhkejoknab.L
set_option linter.unusedVariables false
set_option linter.unusedSimpArgs false
open Go.RowKit Go.Shelf Go.Proofs.YtkefmlhkejoknabW.PrintWords Go.Proofs.YtkefmlhkejoknabW.PrintLast Go.Proofs.YtkefmlhkejoknabW.PrintMore

set_option maxRecDepth 100000 in
set_option maxHeartbeats 16000000 in
theorem own_walk (a0 : Int) (A1 : Option Addr) (c1 : Nat) (l1 : List Int) (a2 : Int) (w : World) (h1 : Kd.C (Kd.int .i64) w A1 l1.length l1) (hc1 : l1.length ≤ c1)
    (n : Int) (g : List S46) (hkt : remouldlaw05_tame.f a0 l1 12 (-50) = some (n, g)) (hed : remouldlaw05_edges.f g = some g) (hgl : g.length ≤ 100)
    (ks : Nat) (sx : ByteArray) (hks : remouldlaw05_side.f ks a2 n = some sx) (k0 : Nat) (s0 : ByteArray) (hk0 : remouldlaw05_side.f k0 0 n = some s0)
    (hsw : belt_Switch.f n g s0 = some (g, 0)) (gs : List Int) (hga : belt_Gains.f n g sx = some (gs, 0)) (lg : gs.length ≤ 100000)
    (cs : List (List Int)) (hap : belt_Apart.f n g = some (cs, 0)) (lc : cs.length ≤ 1000) (lcc : ∀ c ∈ cs, c.length ≤ 1000)
    (vals : List Int) (hva : belt_Values.f n g = some (vals, 0)) (lv : vals.length ≤ 100000)
    (e1 e2 : Int) (hck : belt_CheckG.f n g cs = some (e1, e2)) (od : List Int) (oe : Int) (hod : belt_Odd.f n g = some (od, oe))
    (km : Nat) (hsm : remouldlaw05_same.f km g g = some true) (kg : Nat) (hrg : remouldref05_Gains.f kg g sx = some gs) (kv : Nat) (hrv : remouldref05_Values.f kv n g = some vals)
    (k1 k2 ka : Nat) (i1 : remouldlaw05_ints.f k1 gs gs = some true) (i2 : remouldlaw05_ints.f k2 vals vals = some true) (haw : remouldlaw05_awake.f ka = some true) :
    Calls Try.prog 4 #[.int .i64 a0, .slice A1 l1.length c1, .int .i64 a2] w fun e w' => e = .returned (.bool true) ∧ Below w.heap.size w w' := by
  have HT := Lib.hid (remouldlaw05_tame.calls a0 A1 c1 l1 12 (-50) n g w h1 hc1 hkt)
  have HED := Lib.hid (fun W A c hA hcA => remouldlaw05_edges.calls A c g g W hA hcA hed)
  have HSX := Lib.hid (fun W => remouldlaw05_side.calls ks a2 n sx W hks)
  have HS0 := Lib.hid (fun W => remouldlaw05_side.calls k0 0 n s0 W hk0)
  have HSW := Lib.hid (fun W A c hA hcA => belt_Switch.calls n A c g s0 g 0 W hA hcA hsw)
  have HGA := Lib.hid (fun W A c hA hcA => belt_Gains.calls n A c g sx gs 0 W hA hcA hga)
  have HAP := Lib.hid (fun W A c hA hcA => belt_Apart.calls n A c g cs 0 W hA hcA hap)
  have HVA := Lib.hid (fun W A c hA hcA => belt_Values.calls n A c g vals 0 W hA hcA hva)
  have HCK := Lib.hid (fun W A c hA hcA B d hB hdB => belt_CheckG.calls n A c g B d cs e1 e2 W hA hcA hB hdB hck)
  have HOD := Lib.hid (fun W A c hA hcA => belt_Odd.calls n A c g od oe W hA hcA hod)
  have HSM := Lib.hid (fun W A c B d hA hcA hB hcB => remouldlaw05_same.calls km A c g B d g true W hA hcA hB hcB hsm)
  have HRG := Lib.hid (fun W A c hA hcA => remouldref05_Gains.calls kg A c g sx gs W hA hcA hrg)
  have HRV := Lib.hid (fun W A c hA hcA => remouldref05_Values.calls kv n A c g vals W hA hcA hrv)
  have HI1 := Lib.hid (fun W A c B d hA hcA hB hcB => remouldlaw05_ints.calls k1 A c gs B d gs true W hA hcA hB hcB i1)
  have HI2 := Lib.hid (fun W A c B d hA hcA hB hcB => remouldlaw05_ints.calls k2 A c vals B d vals true W hA hcA hB hcB i2)
  have HAW := Lib.hid (fun W => remouldlaw05_awake.calls ka true W haw)
  have HLCC := Lib.hid lcc
  clear h1 hkt hed hks hk0 hsw hga hap hva hck hod hsm hrg hrv i1 i2 haw lcc
  go_enter Try.func4, Try.ntmps4
  go_wp2_with (first
    | (go_at_call 13; refine HT.out.mono ?_; rintro e w1 ⟨v7, rfl, hr, hb⟩; obtain ⟨A7, c7, rfl, hc7, hC7⟩ := Kd.R_reads hr; have HC71 := Lib.hid hC7; have HB1 := Lib.hid hb; clear hb hr hC7)
    | (go_at_call 5; refine (HED.out _ A7 c7 HC71.out hc7).mono ?_; rintro e w2 ⟨v8, rfl, hr, hb⟩; obtain ⟨A8, c8, rfl, hc8, hC8⟩ := Kd.R_reads hr; have HC72 := Lib.hid (Kd.C_below HC71.out hb); have HC82 := Lib.hid hC8; have HB2 := Lib.hid (HB1.out.trans (hb.mono HB1.out.size)); clear hb hr hC8)
    | (go_at_call 14; with_reducible refine (HSX.out _).mono ?_; rintro e w3 ⟨rfl, hb⟩; have HC7 := Lib.hid (Kd.C_below HC72.out hb); have HC8 := Lib.hid (Kd.C_below HC82.out hb); have HBW := Lib.hid (HB2.out.trans (hb.mono HB2.out.size)); have HB3 := Lib.hid (Below.refl w3.heap.size w3); clear hb)
    | (go_at_call 14; with_reducible refine (HS0.out _).mono ?_; rintro e w4 ⟨rfl, hb⟩; have HB4 := Lib.hid (HB3.out.trans (hb.mono HB3.out.size)); clear hb)
    | (go_at_call 15; refine (HSW.out _ A7 c7 (Kd.C_below HC7.out HB4.out) hc7).mono ?_; rintro e w5 ⟨vo, rfl, hr, hb⟩; obtain ⟨Ao, co, rfl, hco, hCo⟩ := Kd.R_reads hr; have HCO5 := Lib.hid hCo; have HRO5 := Lib.hid (show RowB w3.heap.size 46 3 (.slice Ao g.length co) g.length w5 from by obtain ⟨_, inner, ho, _⟩ := hr; exact (RowB.of ho).mono HB4.out.size); have HB5 := Lib.hid (HB4.out.trans (hb.mono HB4.out.size)); clear hb hr hCo)
    | (go_at_call 16; refine (HGA.out _ A7 c7 (Kd.C_below HC7.out HB5.out) hc7).mono ?_; rintro e w6 ⟨vp, rfl, hr, hb⟩; obtain ⟨Ap, cp, rfl, _, _⟩ := Kd.R_reads hr; have HRP6 := Lib.hid (show RowB w3.heap.size 3 1 (.slice Ap gs.length cp) gs.length w6 from (RowB.of (Kd.own_of_R hr)).mono HB5.out.size); have HB6 := Lib.hid (HB5.out.trans (hb.mono HB5.out.size)); have HRO6 := Lib.hid (HRO5.out.below hb); have HCO6 := Lib.hid (Kd.C_below HCO5.out hb); clear hb hr)
    | (go_at_call 6; refine (HAP.out _ A7 c7 (Kd.C_below HC7.out HB6.out) hc7).mono ?_; rintro e w7 ⟨vc, rfl, hr, hb⟩; obtain ⟨Ac, cc, rfl, hcc, hCc⟩ := Kd.R_reads (Kd.S_R hr); obtain ⟨vs, hvl, hrc⟩ := RowsB.of hr HB6.out.size; have HRC7 := Lib.hid hrc; have HCC7 := Lib.hid hCc; have HB7 := Lib.hid (HB6.out.trans (hb.mono HB6.out.size)); have HRO7 := Lib.hid (HRO6.out.below hb); have HCO7 := Lib.hid (Kd.C_below HCO6.out hb); have HRP7 := Lib.hid (HRP6.out.below hb); clear hb hr hrc hCc)
    | (go_at_call 17; refine (HVA.out _ A7 c7 (Kd.C_below HC7.out HB7.out) hc7).mono ?_; rintro e w8 ⟨vv, rfl, hr, hb⟩; obtain ⟨Av, cv, rfl, _, _⟩ := Kd.R_reads hr; have HRV8 := Lib.hid (show RowB w3.heap.size 3 1 (.slice Av vals.length cv) vals.length w8 from (RowB.of (Kd.own_of_R hr)).mono HB7.out.size); have HB8 := Lib.hid (HB7.out.trans (hb.mono HB7.out.size)); have HRO8 := Lib.hid (HRO7.out.below hb); have HCO8 := Lib.hid (Kd.C_below HCO7.out hb); have HRP8 := Lib.hid (HRP7.out.below hb); have HRC8 := Lib.hid (HRC7.out.below hb); have HCC8 := Lib.hid (Kd.C_below HCC7.out hb); clear hb hr)
    | (go_at_call 12; refine (HCK.out _ A7 c7 (Kd.C_below HC7.out HB8.out) hc7 Ac cc HCC8.out hcc).mono ?_; rintro e w9 ⟨rfl, hb⟩; have HB9 := Lib.hid (HB8.out.trans (hb.mono HB8.out.size)); have HRO9 := Lib.hid (HRO8.out.below hb); have HCO9 := Lib.hid (Kd.C_below HCO8.out hb); have HRP9 := Lib.hid (HRP8.out.below hb); have HRC9 := Lib.hid (HRC8.out.below hb); have HRV9 := Lib.hid (HRV8.out.below hb); clear hb)
    | (go_at_call 18; refine (HOD.out _ A7 c7 (Kd.C_below HC7.out HB9.out) hc7).mono ?_; rintro e w10 ⟨vd, rfl, _, hb⟩; have HB10 := Lib.hid (HB9.out.trans (hb.mono HB9.out.size)); have HRO10 := Lib.hid (HRO9.out.below hb); have HCO10 := Lib.hid (Kd.C_below HCO9.out hb); have HRP10 := Lib.hid (HRP9.out.below hb); have HRC10 := Lib.hid (HRC9.out.below hb); have HRV10 := Lib.hid (HRV9.out.below hb); clear hb)
    | (go_at_call 19; with_reducible refine (HSM.out _ A7 c7 A8 c8 (Kd.C_below HC7.out HB10.out) hc7 (Kd.C_below HC8.out HB10.out) hc8).mono ?_; rintro e w11 ⟨rfl, hd⟩; have HB11 := Lib.hid (HB10.out.trans (hd.below.mono HB10.out.size)); have HRO11 := Lib.hid (HRO10.out.below hd.below); have HCO11 := Lib.hid (Kd.C_below HCO10.out hd.below); have HRP11 := Lib.hid (HRP10.out.below hd.below); have HRC11 := Lib.hid (HRC10.out.below hd.below); have HRV11 := Lib.hid (HRV10.out.below hd.below); clear hd)
    | (go_at_call 19; with_reducible refine (HSM.out _ Ao co A8 c8 HCO11.out hco (Kd.C_below HC8.out HB11.out) hc8).mono ?_; rintro e w12 ⟨rfl, hd⟩; have HB12 := Lib.hid (HB11.out.trans (hd.below.mono HB11.out.size)); have HRO12 := Lib.hid (HRO11.out.below hd.below); have HRP12 := Lib.hid (HRP11.out.below hd.below); have HRC12 := Lib.hid (HRC11.out.below hd.below); have HRV12 := Lib.hid (HRV11.out.below hd.below); clear hd))
  have HS12 := Lib.hid (show OwnS w3 (.slice Ao g.length co) g.length (.slice Ac cs.length cc) vs (cs.map List.length) (.slice Ap gs.length cp) gs.length (.slice Av vals.length cv) vals.length w12 from ⟨HB12.out, HRO12.out, HRC12.out, HRP12.out, HRV12.out⟩)
  go_loopw [18] (fun iv wr => ∃ q : Nat, q ≤ g.length ∧ iv = .int .i64 q ∧ OwnS w3 (.slice Ao g.length co) g.length (.slice Ac cs.length cc) vs (cs.map List.length) (.slice Ap gs.length cp) gs.length (.slice Av vals.length cv) vals.length wr) (fun iv _ => g.length - (intOf iv).toNat)
  case atStart => exact ⟨0, Nat.zero_le _, rfl, HS12.out⟩
  case round =>
    obtain ⟨q, hq, rfl, hS⟩ := hrel
    by_cases hlt : q < g.length
    · obtain ⟨b, rfl, ⟨u0, u1, u2, p0, p1, p2⟩, ⟨f0, f1, f2⟩, hS2⟩ := hS.edge hlt (.int .i64 (-7)) (.int .i64 0) (.int .i64 0)
      have HS := Lib.hid hS2
      have hltI : (q : Int) < g.length := by omega
      clear hS hS2
      go_wp2
      exact ⟨⟨q + 1, by omega, by go_num, HS.out⟩, by simp [intOf]; omega⟩
    · obtain rfl : q = g.length := by omega
      have HS := Lib.hid hS
      clear hS
      have HE := Lib.hid (own_zero wr)
      have HEB := Lib.hid (below_alloc (Below.refl wr.heap.size wr) (.cells #[] 33))
      have HX1 := Lib.hid (own_at_below HS.out.c.1 HEB.out)
      have HONE := Lib.hid HS.out.c.one
      have HTWO := Lib.hid (show ∀ u ∈ [Value.slice Ap gs.length cp, Value.slice Av vals.length cv], u.oneCell' = true from by intro u hu; simp at hu; rcases hu with rfl | rfl <;> rfl)
      have hvl2 : vs.length ≤ 1000 := by omega
      go_wp2_with (first
        | (at_builtin; refine appendOwn _ rfl (.tmp 107) (.tmp 108) rfl wr.heap.size _ 0 [] rfl HE.out w3.heap.size _ vs.length vs rfl HX1.out HONE.out (by omega) (by simp) ?_; intro v13 w13 h1 h2 _; have H13 := Lib.hid (show w13.ownsRow wr.heap.size 33 1 v13 vs.length vs from by simpa using h1); have HB13 := Lib.hid (HEB.out.grown h2 (by simp) (fun q e => by cases e; exact Nat.le_refl _)); have hs13 := HB13.out.size; clear h1 h2)
        | (at_builtin; refine appendOwn _ rfl (.tmp 109) (.tmp 112) rfl wr.heap.size v13 vs.length vs rfl (own_at_below H13.out (below_alloc (Below.refl _ _) _)) w13.heap.size _ 2 [Value.slice Ap gs.length cp, Value.slice Av vals.length cv] rfl (own_two _ _ _) HTWO.out (by omega) (by simp; omega) ?_; intro v14 w14 h1 h2 _; have hol := OwnL.of HS.out ((below_alloc HB13.out _).grown h2 (by simp; omega) (fun q e => own_base H13.out q e)) h1; obtain ⟨L, hL⟩ : ∃ L, L = vs.length + 2 := ⟨_, rfl⟩; rw [← hL] at h1; obtain ⟨Al, cl, rfl⟩ := own_form h1; have HL14 := Lib.hid hol; have HLL := Lib.hid hL; clear h1 h2 hol hL))
      have hns : (vs ++ [Value.slice Ap gs.length cp, Value.slice Av vals.length cv]).length = vs.length + 2 := by simp
      obtain ⟨bl, rfl, hz1, hz2⟩ := HL14.out.cell (q := vs.length) (u := Value.slice Ap gs.length cp) (by simp)
      clear hz1 hz2
      have hnl : (cs.map List.length ++ [gs.length, vals.length]).length = vs.length + 2 := by simp [hvl]
      have hnb : ∀ m ∈ cs.map List.length ++ [gs.length, vals.length], m ≤ 100000 := by
        intro m hm
        simp only [List.mem_append, List.mem_map, List.mem_cons, List.not_mem_nil, or_false] at hm
        rcases hm with ⟨c, hc, rfl⟩ | rfl | rfl
        · have := HLCC.out c hc; omega
        · exact lg
        · exact lv
      generalize hgv : vs ++ [Value.slice Ap gs.length cp, Value.slice Av vals.length cv] = VS at HL14 hns
      generalize hgn : cs.map List.length ++ [gs.length, vals.length] = NS at HL14 hnl hnb
      have HNB := Lib.hid hnb
      have hLB : L ≤ 2000 := by have := HLL.out; omega
      have HVL := Lib.hid (show VS.length = L from hns.trans HLL.out.symm)
      have HNL := Lib.hid (show NS.length = L from hnl.trans HLL.out.symm)
      clear hns hnl hnb hgv hgn HE HEB HX1 HONE HTWO HS12
      obtain ⟨wr0, hwr0⟩ : ∃ X, X = wr := ⟨_, rfl⟩
      subst hwr0
      go_loopw [20] (fun iv wx => ∃ q : Nat, q ≤ L ∧ iv = .int .i64 q ∧ OwnL w3 (.slice (some ⟨bl, 0, none⟩) L cl) VS NS wx) (fun iv _ => L - (intOf iv).toNat)
      case atStart => exact ⟨0, Nat.zero_le _, rfl, HL14.out⟩
      case round =>
        obtain ⟨q, hq, rfl, hr⟩ := hrel
        by_cases hlt : q < L
        · obtain ⟨u, hu⟩ : ∃ u, VS[q]? = some u := ⟨_, List.getElem?_eq_getElem (by rw [HVL.out]; exact hlt)⟩
          obtain ⟨m, hm⟩ : ∃ m, NS[q]? = some m := ⟨_, List.getElem?_eq_getElem (by rw [HNL.out]; exact hlt)⟩
          have hmb : m ≤ 100000 := HNB.out m (List.mem_of_getElem? hm)
          obtain ⟨A, c, rfl⟩ := hr.form hu hm
          have HU := Lib.hid hu; have HM := Lib.hid hm; have HR := Lib.hid hr
          have hltI : (q : Int) < L := by omega
          clear hu hm hr
          go_wp2
          go_loopw [21] (fun jv wp => ∃ k : Nat, k ≤ m ∧ jv = .int .i64 k ∧ OwnL w3 (.slice (some ⟨bl, 0, none⟩) L cl) VS NS wp) (fun jv _ => m - (intOf jv).toNat)
          case atStart => exact ⟨0, Nat.zero_le _, rfl, HR.out⟩
          case round =>
            obtain ⟨k, hk, rfl, hr⟩ := hrel
            have k1 := hr.at HU.out
            by_cases hlt2 : k < m
            · obtain ⟨b, rfl, ⟨z, p2⟩, p3, p1⟩ := hr.put HU.out HM.out hlt2 (.int .i64 (-7))
              have HP := Lib.hid p1
              have b2 : (k : Int) < (m : Int) := by omega
              clear hr p1
              go_wp2
              exact ⟨⟨k + 1, by omega, by go_num, HP.out⟩, by simp [intOf]; omega⟩
            · obtain rfl : k = m := by omega
              have HP := Lib.hid hr
              clear hr
              go_wp2
              exact ⟨⟨q + 1, by omega, by go_num, HP.out⟩, by simp [intOf]; omega⟩
        · obtain rfl : q = L := by omega
          have HB14 := Lib.hid hr.bel
          clear hr
          go_wp2_with (first
            | (go_at_call 16; refine (HGA.out _ A7 c7 (Kd.C_below HC7.out HB14.out) hc7).mono ?_; rintro e w15 ⟨vq, rfl, hr, hb⟩; obtain ⟨Aq, cq, rfl, hcq, hCq⟩ := Kd.R_reads hr; have HQ15 := Lib.hid hCq; have HB15 := Lib.hid (HB14.out.trans (hb.mono HB14.out.size)); clear hb hr hCq)
            | (go_at_call 17; refine (HVA.out _ A7 c7 (Kd.C_below HC7.out HB15.out) hc7).mono ?_; rintro e w16 ⟨vw, rfl, hr, hb⟩; obtain ⟨Aw, cw, rfl, hcw, hCw⟩ := Kd.R_reads hr; have HW16 := Lib.hid hCw; have HQ16 := Lib.hid (Kd.C_below HQ15.out hb); have HB16 := Lib.hid (HB15.out.trans (hb.mono HB15.out.size)); clear hb hr hCw)
            | (go_at_call 19; refine (HSM.out _ A7 c7 A8 c8 (Kd.C_below HC7.out HB16.out) hc7 (Kd.C_below HC8.out HB16.out) hc8).mono ?_; rintro e w17 ⟨rfl, hd⟩; have HW17 := Lib.hid (Kd.C_below HW16.out hd.below); have HQ17 := Lib.hid (Kd.C_below HQ16.out hd.below); have HB17 := Lib.hid (HB16.out.trans (hd.below.mono HB16.out.size)); clear hd)
            | (go_at_call 21; refine (HRG.out _ A8 c8 (Kd.C_below HC8.out HB17.out) hc8).mono ?_; rintro e w18 ⟨vr, rfl, hr, hb⟩; obtain ⟨Ar, cr, rfl, hcr, hCr⟩ := Kd.R_reads hr; have HR18 := Lib.hid hCr; have HW18 := Lib.hid (Kd.C_below HW17.out hb); have HQ18 := Lib.hid (Kd.C_below HQ17.out hb); have HB18 := Lib.hid (HB17.out.trans (hb.mono HB17.out.size)); clear hb hr hCr)
            | (go_at_call 20; with_reducible refine (HI1.out _ Aq cq Ar cr HQ18.out hcq HR18.out hcr).mono ?_; rintro e w19 ⟨rfl, hd⟩; have HW19 := Lib.hid (Kd.C_below HW18.out hd.below); have HB19 := Lib.hid (HB18.out.trans (hd.below.mono HB18.out.size)); clear hd)
            | (go_at_call 22; refine (HRV.out _ A8 c8 (Kd.C_below HC8.out HB19.out) hc8).mono ?_; rintro e w20 ⟨vx, rfl, hr, hb⟩; obtain ⟨Ax, cx, rfl, hcx, hCx⟩ := Kd.R_reads hr; have HX20 := Lib.hid hCx; have HW20 := Lib.hid (Kd.C_below HW19.out hb); have HB20 := Lib.hid (HB19.out.trans (hb.mono HB19.out.size)); clear hb hr hCx)
            | (go_at_call 20; with_reducible refine (HI2.out _ Aw cw Ax cx HW20.out hcw HX20.out hcx).mono ?_; rintro e w21 ⟨rfl, hd⟩; have HB21 := Lib.hid (HB20.out.trans (hd.below.mono HB20.out.size)); clear hd)
            | (go_at_call 8; refine (HAW.out _).mono ?_; rintro e w22 ⟨rfl, hb⟩; have HB22 := Lib.hid (HB21.out.trans (hb.mono HB21.out.size)); clear hb))
          refine bodyPost_ret (v := .bool true) (by simp [results, Try.results4, go_sem]) rfl ⟨rfl, HBW.out.trans (HB22.out.mono HBW.out.size)⟩
end Go.Proofs.Ytkefmlhkejoknab.L
