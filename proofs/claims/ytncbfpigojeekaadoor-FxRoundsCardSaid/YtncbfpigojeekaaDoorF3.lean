/- The law FxRounds, the walk. -/
import Derived.Test.YtncbfpigojeekaaDoorF2
namespace Go.Proofs.YtncbfpigojeekaaDoor
open Go.RowKit Go.Lib

theorem cmpI_le {a b : Int} (h : a ≤ b) : ¬ 0 < cmpI a b := by unfold cmpI; split <;> (try split) <;> omega
theorem cmpI_ge {a b : Int} (h : b ≤ a) : ¬ cmpI a b < 0 := by unfold cmpI; split <;> (try split) <;> omega
set_option maxRecDepth 100000 in
set_option maxHeartbeats 8000000 in
theorem law11_FxRounds.calls (a : Ask) (lv : Value) (w : World) (hl : DaysLaid w) (hs : SlR Rate.cells 5 w lv a.rates) (hw : a.wf) :
    Calls Tryd.prog 9 #[a.v lv] w fun e w' => e = .returned (.bool true) ∧ Below w.heap.size w w' := by
  have hlives := fun (W : World) (hB : Below w.heap.size w W) => law11_lives.calls W (hl.below hB)
  have HLI := Lib.hid hlives; clear hlives
  have hls : ∀ W, Below w.heap.size w W → DaysLaid W ∧ SlR Rate.cells 5 W lv a.rates := fun W hB => ⟨hl.below hB, hs.below hB⟩
  obtain ⟨A, cp, rfl, _⟩ := hs.shape
  have HLS := Lib.hid hls; clear hls hl hs
  unfold Ask.v
  have HW := Lib.hid hw; clear hw
  by_cases h1 : 60 < a.rates.length
  · have b1 : decide (60 < a.rates.length) = true := decide_eq_true h1
    go_enter Tryd.func9, Tryd.ntmps9
    go_wp2_with (first
      | (go_at_call 10; refine (law11_large.calls _ _ _ _).mono ?_; rintro e w' ⟨rfl, rfl⟩; rw [b1])
      | (go_at_call 11; refine (HLI.out _ (Bn _ _)).mono ?_; rintro e w1 ⟨rfl, hb1⟩))
    go_ret
    exact ⟨rfl, bc1 _ _ _ hb1⟩
  have b1 : decide (60 < a.rates.length) = false := decide_eq_false h1
  obtain ⟨⟨i, e⟩, hN⟩ : ∃ p, newS a.base a.rates = p := ⟨_, rfl⟩
  have HN := Lib.hid hN; clear hN
  by_cases he : e = 0
  case neg =>
    have hnew := fun (W : World) (hB : Below w.heap.size w W) => fx_New_err HN.out he _ W (HLS.out W hB).1 (HLS.out W hB).2 HW.out.rates HW.out.base HW.out.len
    have HNE := Lib.hid hnew; clear hnew
    have heb : (e == 0) = false := by simp [he]
    go_enter Tryd.func9, Tryd.ntmps9
    go_wp2_with (first
      | (go_at_call 10; refine (law11_large.calls _ _ _ _).mono ?_; rintro e w' ⟨rfl, rfl⟩; rw [b1])
      | (go_at_call 12; refine (HNE.out _ (Bn _ _)).mono ?_; rintro e w1 ⟨rfl, hb1⟩)
      | (go_at_call 11; refine (HLI.out _ (bc1 _ _ _ hb1)).mono ?_; rintro e w8 ⟨rfl, hb8⟩))
    go_ret
    exact ⟨rfl, Bt (bc1 _ _ _ hb1) hb8⟩
  case pos =>
    subst he
    have hnew := fun (W : World) (hB : Below w.heap.size w W) => fx_New_ok HN.out _ W (HLS.out W hB).1 (HLS.out W hB).2 HW.out.rates HW.out.base HW.out.len
    have HNE := Lib.hid hnew; clear hnew
    have hk0 := AskAt.new w a (.slice A a.rates.length cp) 35
    by_cases ha1 : a.amount < 1
    · go_enter Tryd.func9, Tryd.ntmps9
      go_upto_region 4 with (first
        | (go_at_call 10; refine (law11_large.calls _ _ _ _).mono ?_; rintro e w' ⟨rfl, rfl⟩; rw [b1])
        | (go_at_call 12; refine (HNE.out _ (Bn _ _)).mono ?_; rintro e w1 ⟨tb, rfl, hb1, hT1, hO⟩))
      have hk1 := hk0.below hb1
      have c1 := bc1 _ _ _ hb1
      obtain ⟨kz, k0, k1, k2, k3, k4, k5, k6, k7⟩ := id hk1
      go_wp2_with (go_at_call 11; refine (HLI.out _ c1).mono ?_; rintro e w8 ⟨rfl, hb8⟩)
      go_ret
      exact ⟨rfl, Bt c1 hb8⟩
    have hG := fun (W : World) (B tb : Nat) (hB : Below w.heap.size w W) (hT : Tab W B tb a.base a.rates.length a.rates) (hO : Okay a.base a.rates) => fx_Cross.calls a.base a.frm a.too a.kind a.day a.rates B tb a.rates.length W (HLS.out W hB).1 HW.out.frm HW.out.too HW.out.kind hT hO
    have hV := fun (m : Int) (W : World) (B tb : Nat) (hB : Below w.heap.size w W) (hT : Tab W B tb a.base a.rates.length a.rates) (hO : Okay a.base a.rates) => fx_Convert.calls a.base a.frm a.too a.amount a.kind a.day m a.rates B tb a.rates.length W (HLS.out W hB).1 HW.out.frm HW.out.too HW.out.amount HW.out.kind hT hO
    have hU := fun (W : World) (B tb : Nat) (hB : Below w.heap.size w W) (hT : Tab W B tb a.base a.rates.length a.rates) (hO : Okay a.base a.rates) => fx_Convert.calls a.base a.frm a.frm a.amount a.kind a.day a.mode a.rates B tb a.rates.length W (HLS.out W hB).1 HW.out.frm HW.out.frm HW.out.amount HW.out.kind hT hO
    have HG := Lib.hid hG; have HV := Lib.hid hV; have HU := Lib.hid hU
    clear hG hV hU
    have nb1 : decide (a.amount < 1) = false := decide_eq_false ha1
    go_enter Tryd.func9, Tryd.ntmps9
    go_upto_region 4 with (first
      | (go_at_call 10; refine (law11_large.calls _ _ _ _).mono ?_; rintro e w' ⟨rfl, rfl⟩; rw [b1])
      | (go_at_call 12; refine (HNE.out _ (Bn _ _)).mono ?_; rintro e w1 ⟨tb, rfl, hb1, hT1, hO⟩))
    have hk1 := hk0.below hb1
    have c1 := bc1 _ _ _ hb1
    obtain ⟨kz, k0, k1, k2, k3, k4, k5, k6, k7⟩ := id hk1
    go_upto_region 6 with (fail)
    clear kz k0 k1 k2 k3 k4 k5 k6 k7
    have hwy := rounds_ways hO a.frm a.too a.kind a.day a.amount a.mode (by omega)
    have hG := HG.out _ _ _ c1 hT1 hO
    have hP := fun W (hB : Below w1.heap.size w1 W) => HV.out 1 W _ _ (Bt c1 hB) (hT1.mono hB) hO
    have hQ := fun W (hB : Below w1.heap.size w1 W) => HV.out 2 W _ _ (Bt c1 hB) (hT1.mono hB) hO
    have hR := fun W (hB : Below w1.heap.size w1 W) => HU.out W _ _ (Bt c1 hB) (hT1.mono hB) hO
    obtain ⟨⟨g1, g2, g3⟩, hg⟩ : ∃ g, crossS a.base a.rates a.frm a.too a.kind a.day = g := ⟨_, rfl⟩
    obtain ⟨⟨p1, p2⟩, hp⟩ : ∃ g, convS a.base a.rates a.amount a.frm a.too a.kind a.day 1 = g := ⟨_, rfl⟩
    obtain ⟨⟨q1, q2⟩, hq⟩ : ∃ g, convS a.base a.rates a.amount a.frm a.too a.kind a.day 2 = g := ⟨_, rfl⟩
    obtain ⟨⟨r1, r2⟩, hr⟩ : ∃ g, convS a.base a.rates a.amount a.frm a.frm a.kind a.day a.mode = g := ⟨_, rfl⟩
    rw [hg] at hG hwy
    rw [hp] at hP hwy
    rw [hq] at hQ hwy
    rw [hr] at hR hwy
    simp only at hG hP hQ hR hwy
    clear HG HV HU hg hp hq hr
    have HG := Lib.hid hG; have HP := Lib.hid hP; have HQ := Lib.hid hQ; have HR := Lib.hid hR
    clear hG hP hQ hR
    obtain ⟨kz, k0, k1, k2, k3, k4, k5, k6, k7⟩ := id hk1
    rcases hwy with ⟨e1, e2⟩ | ⟨rfl, rfl, rfl, n0, n1, d0, d1, x0, x1, y0, y1, m1, m2, m3, m4, m5, hr⟩
    · by_cases hg3 : g3 = 0
      · subst hg3
        by_cases hp2 : p2 = 0
        · subst hp2
          have hq2 : q2 ≠ 0 := by omega
          have nq : (q2 == 0) = false := by simp [hq2]
          have nq' : (q2 != 0) = true := by simp [hq2]
          clear e1 e2 hq2
          go_upto_region 7 with (go_at_call 17; refine (HG.out).mono ?_; rintro e w2 ⟨rfl, hb2⟩; have hk2 := hk1.below hb2; clear kz k0 k1 k2 k3 k4 k5 k6 k7; obtain ⟨kz, k0, k1, k2, k3, k4, k5, k6, k7⟩ := id hk2)
          go_upto_region 8 with (go_at_call 18; refine (HP.out _ hb2).mono ?_; rintro e w3 ⟨rfl, hb3⟩; have c3 := Bt hb2 hb3; have hk3 := hk2.below hb3; clear kz k0 k1 k2 k3 k4 k5 k6 k7; obtain ⟨kz, k0, k1, k2, k3, k4, k5, k6, k7⟩ := id hk3)
          go_upto_region 9 with (go_at_call 18; refine (HQ.out _ c3).mono ?_; rintro e w4 ⟨rfl, hb4⟩; have c4 := Bt c3 hb4; have hk4 := hk3.below hb4; clear kz k0 k1 k2 k3 k4 k5 k6 k7; obtain ⟨kz, k0, k1, k2, k3, k4, k5, k6, k7⟩ := id hk4)
          go_wp2_with (go_at_call 11; refine (HLI.out _ (Bt c1 c4)).mono ?_; rintro e w8 ⟨rfl, hb8⟩)
          go_ret
          exact ⟨rfl, Bt (Bt c1 c4) hb8⟩
        · have np : (p2 == 0) = false := by simp [hp2]
          have np' : (p2 != 0) = true := by simp [hp2]
          have np0 : ((0 : Int) == p2) = false := by simp; omega
          by_cases hp4 : p2 = 4
          · subst hp4
            clear e1 e2 np np' hp2 np0
            go_upto_region 7 with (go_at_call 17; refine (HG.out).mono ?_; rintro e w2 ⟨rfl, hb2⟩; have hk2 := hk1.below hb2; clear kz k0 k1 k2 k3 k4 k5 k6 k7; obtain ⟨kz, k0, k1, k2, k3, k4, k5, k6, k7⟩ := id hk2)
            go_upto_region 8 with (go_at_call 18; refine (HP.out _ hb2).mono ?_; rintro e w3 ⟨rfl, hb3⟩; have c3 := Bt hb2 hb3; have hk3 := hk2.below hb3; clear kz k0 k1 k2 k3 k4 k5 k6 k7; obtain ⟨kz, k0, k1, k2, k3, k4, k5, k6, k7⟩ := id hk3)
            go_upto_region 9 with (go_at_call 18; refine (HQ.out _ c3).mono ?_; rintro e w4 ⟨rfl, hb4⟩; have c4 := Bt c3 hb4; have hk4 := hk3.below hb4; clear kz k0 k1 k2 k3 k4 k5 k6 k7; obtain ⟨kz, k0, k1, k2, k3, k4, k5, k6, k7⟩ := id hk4)
            go_wp2_with (go_at_call 11; refine (HLI.out _ (Bt c1 c4)).mono ?_; rintro e w8 ⟨rfl, hb8⟩)
            go_ret
            exact ⟨rfl, Bt (Bt c1 c4) hb8⟩
          · have hq4 : q2 = 4 := by omega
            subst hq4
            have np4 : (p2 == 4) = false := by simp [hp4]
            clear e1 e2 hp2 hp4
            go_upto_region 7 with (go_at_call 17; refine (HG.out).mono ?_; rintro e w2 ⟨rfl, hb2⟩; have hk2 := hk1.below hb2; clear kz k0 k1 k2 k3 k4 k5 k6 k7; obtain ⟨kz, k0, k1, k2, k3, k4, k5, k6, k7⟩ := id hk2)
            go_upto_region 8 with (go_at_call 18; refine (HP.out _ hb2).mono ?_; rintro e w3 ⟨rfl, hb3⟩; have c3 := Bt hb2 hb3; have hk3 := hk2.below hb3; clear kz k0 k1 k2 k3 k4 k5 k6 k7; obtain ⟨kz, k0, k1, k2, k3, k4, k5, k6, k7⟩ := id hk3)
            go_upto_region 9 with (go_at_call 18; refine (HQ.out _ c3).mono ?_; rintro e w4 ⟨rfl, hb4⟩; have c4 := Bt c3 hb4; have hk4 := hk3.below hb4; clear kz k0 k1 k2 k3 k4 k5 k6 k7; obtain ⟨kz, k0, k1, k2, k3, k4, k5, k6, k7⟩ := id hk4)
            go_wp2_with (go_at_call 11; refine (HLI.out _ (Bt c1 c4)).mono ?_; rintro e w8 ⟨rfl, hb8⟩)
            go_ret
            exact ⟨rfl, Bt (Bt c1 c4) hb8⟩
      · have hpg : p2 = g3 := by omega
        subst hpg
        have np : (p2 == 0) = false := by simp [hg3]
        have np' : (p2 != 0) = true := by simp [hg3]
        clear e1 e2 hg3
        go_upto_region 7 with (go_at_call 17; refine (HG.out).mono ?_; rintro e w2 ⟨rfl, hb2⟩; have hk2 := hk1.below hb2; clear kz k0 k1 k2 k3 k4 k5 k6 k7; obtain ⟨kz, k0, k1, k2, k3, k4, k5, k6, k7⟩ := id hk2)
        go_upto_region 8 with (go_at_call 18; refine (HP.out _ hb2).mono ?_; rintro e w3 ⟨rfl, hb3⟩; have c3 := Bt hb2 hb3; have hk3 := hk2.below hb3; clear kz k0 k1 k2 k3 k4 k5 k6 k7; obtain ⟨kz, k0, k1, k2, k3, k4, k5, k6, k7⟩ := id hk3)
        go_upto_region 9 with (go_at_call 18; refine (HQ.out _ c3).mono ?_; rintro e w4 ⟨rfl, hb4⟩; have c4 := Bt c3 hb4; have hk4 := hk3.below hb4; clear kz k0 k1 k2 k3 k4 k5 k6 k7; obtain ⟨kz, k0, k1, k2, k3, k4, k5, k6, k7⟩ := id hk4)
        go_wp2_with (go_at_call 11; refine (HLI.out _ (Bt c1 c4)).mono ?_; rintro e w8 ⟨rfl, hb8⟩)
        go_ret
        exact ⟨rfl, Bt (Bt c1 c4) hb8⟩
    · have hc1 := cmpI_le m1
      have hc2 := cmpI_ge m2
      obtain ⟨s1, hs1⟩ : ∃ s, cmpI (p1 * g2) (a.amount * g1) = s := ⟨_, rfl⟩
      obtain ⟨s2, hs2⟩ : ∃ s, cmpI (q1 * g2) (a.amount * g1) = s := ⟨_, rfl⟩
      rw [hs1] at hc1
      rw [hs2] at hc2
      have z1 : decide (0 < s1) = false := decide_eq_false hc1
      have z2 : decide (s2 < 0) = false := decide_eq_false hc2
      have HS1 := Lib.hid hs1; have HS2 := Lib.hid hs2
      clear hs1 hs2 hc1 hc2 m1 m2
      have z3 : decide (1 < q1 - p1) = false := decide_eq_false (by omega)
      have z4 : decide (q1 < p1) = false := decide_eq_false (by omega)
      have hi : inI p1 ∧ inI q1 ∧ inI g1 ∧ inI g2 := by unfold inI; omega
      have HI := Lib.hid hi; clear hi
      go_upto_region 7 with (go_at_call 17; refine (HG.out).mono ?_; rintro e w2 ⟨rfl, hb2⟩; have hk2 := hk1.below hb2; clear kz k0 k1 k2 k3 k4 k5 k6 k7; obtain ⟨kz, k0, k1, k2, k3, k4, k5, k6, k7⟩ := id hk2)
      go_upto_region 8 with (go_at_call 18; refine (HP.out _ hb2).mono ?_; rintro e w3 ⟨rfl, hb3⟩; have c3 := Bt hb2 hb3; have hk3 := hk2.below hb3; clear kz k0 k1 k2 k3 k4 k5 k6 k7; obtain ⟨kz, k0, k1, k2, k3, k4, k5, k6, k7⟩ := id hk3)
      go_upto_region 9 with (go_at_call 18; refine (HQ.out _ c3).mono ?_; rintro e w4 ⟨rfl, hb4⟩; have c4 := Bt c3 hb4; have hk4 := hk3.below hb4; clear kz k0 k1 k2 k3 k4 k5 k6 k7; obtain ⟨kz, k0, k1, k2, k3, k4, k5, k6, k7⟩ := id hk4)
      go_upto_region 13 with (first
        | (go_at_call_of 22 (Value.int IntKind.i64 p1); refine (muldiv_Cmp.calls p1 g2 a.amount g1 _ HI.out.1 HI.out.2.2.2 HW.out.amount HI.out.2.2.1).mono ?_; rintro e w5 ⟨rfl, hb5⟩; rw [HS1.out]; have c5 := Bt c4 hb5; have hk5 := hk4.below hb5; clear kz k0 k1 k2 k3 k4 k5 k6 k7; obtain ⟨kz, k0, k1, k2, k3, k4, k5, k6, k7⟩ := id hk5)
        | (go_at_call_of 22 (Value.int IntKind.i64 q1); refine (muldiv_Cmp.calls q1 g2 a.amount g1 _ HI.out.2.1 HI.out.2.2.2 HW.out.amount HI.out.2.2.1).mono ?_; rintro e w6 ⟨rfl, hb6⟩; rw [HS2.out]; have c6 := Bt c5 hb6; have hk6 := hk5.below hb6; clear kz k0 k1 k2 k3 k4 k5 k6 k7; obtain ⟨kz, k0, k1, k2, k3, k4, k5, k6, k7⟩ := id hk6))
      go_upto_region 14 with (go_at_call 18; refine (HR.out _ c6).mono ?_; rintro e w7 ⟨rfl, hb7⟩; have c7 := Bt c6 hb7; have hk7 := hk6.below hb7; clear kz k0 k1 k2 k3 k4 k5 k6 k7; obtain ⟨kz, k0, k1, k2, k3, k4, k5, k6, k7⟩ := id hk7)
      rcases hr with hr | hr
      all_goals
        injection hr with hr1 hr2
        subst hr1 hr2
        go_wp2_with (go_at_call 11; refine (HLI.out _ (Bt c1 c7)).mono ?_; rintro e w8 ⟨rfl, hb8⟩)
        go_ret
        exact ⟨rfl, Bt (Bt c1 c7) hb8⟩

end Go.Proofs.YtncbfpigojeekaaDoor
