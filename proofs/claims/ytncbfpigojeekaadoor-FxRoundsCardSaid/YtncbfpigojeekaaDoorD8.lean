/- The reference of MulDiv. -/
import Derived.Test.YtncbfpigojeekaaDoorD7
namespace Go.Proofs.YtncbfpigojeekaaDoor
open Go.RowKit Go.Lib

theorem mdS_ref (a b c mode : Int) (N : Bool) (hm : ¬ (mode < 1 ∨ 5 < mode)) (hc : c ≠ 0) (hN : ((decide (a < 0) != decide (b < 0)) != decide (c < 0)) = N) :
    mdS a b c mode = sgnS N (absI a * absI b / absI c + if awayB mode N (decide (absI a * absI b / absI c % 2 = 1)) (absI a * absI b % absI c) (absI c) then 1 else 0) := by
  unfold mdS
  rw [if_neg hm, if_neg hc, hN]
  by_cases hp : absI a * absI b = 0
  · have z : ∀ M o, awayB mode M o 0 (absI c) = false := fun M o => by simp [awayB]
    simp only [hp, Int.zero_ediv, Int.zero_emod, z]
    cases N <;> simp [sgnS]
  · simp [hp]

set_option maxRecDepth 100000 in
set_option maxHeartbeats 8000000 in
theorem ref02_MulDiv.calls (a b c mode : Int) (w : World) (a0 : -9223372036854775808 ≤ a) (a1 : a ≤ 9223372036854775807) (b0 : -9223372036854775808 ≤ b) (b1 : b ≤ 9223372036854775807) (c0 : -9223372036854775808 ≤ c) (c1 : c ≤ 9223372036854775807) :
    Calls Tryd.prog 36 #[.int .i64 a, .int .i64 b, .int .i64 c, .int .i64 mode] w fun e w' => e = .returned (.tuple #[.int .i64 (mdS a b c mode).1, .int .i64 (mdS a b c mode).2]) ∧ Below w.heap.size w w' := by
  by_cases hm : mode < 1 ∨ 5 < mode
  · have HF := Lib.hid (show mdS a b c mode = (0, 10) by simp [mdS, hm])
    rcases hm with hm | hm
    all_goals
      go_enter Tryd.func36, Tryd.ntmps36
      go_wp2
      go_ret2
      exact ⟨by rw [HF.out]; rfl, Below.refl _ _⟩
  · by_cases hc : c = 0
    · have HF := Lib.hid (show mdS a b c mode = (0, 2) by simp [mdS, hm, hc])
      subst hc
      go_enter Tryd.func36, Tryd.ntmps36
      go_wp2
      go_ret2
      exact ⟨by rw [HF.out]; rfl, Below.refl _ _⟩
    · have bc : (c == 0) = false := by simp [hc]
      have m1 : 1 ≤ mode := by omega
      have m2 : mode ≤ 5 := by omega
      have A0 := absI_nn a; have A1 := absI_le a a0 a1
      have B0 := absI_nn b; have B1 := absI_le b b0 b1
      have C1 := absI_le c c0 c1
      have C0 : 1 ≤ absI c := by unfold absI; split <;> omega
      obtain ⟨sa, hsa⟩ : ∃ sa, decide (a < 0) = sa := ⟨_, rfl⟩
      obtain ⟨sb, hsb⟩ : ∃ sb, decide (b < 0) = sb := ⟨_, rfl⟩
      obtain ⟨sc, hsc⟩ : ∃ sc, decide (c < 0) = sc := ⟨_, rfl⟩
      obtain ⟨N, hN⟩ : ∃ N, ((sa != sb) != sc) = N := ⟨_, rfl⟩
      have hmd := mdS_ref a b c mode N hm hc (by rw [hsa, hsb, hsc]; exact hN)
      have hN2 : (!((!(sa == sb)) == sc)) = N := hN
      clear hN
      obtain ⟨p, hp⟩ : ∃ p, absI a * absI b = p := ⟨_, rfl⟩
      obtain ⟨C, hC⟩ : ∃ C, absI c = C := ⟨_, rfl⟩
      rw [hp, hC] at hmd
      have P0 : 0 ≤ p := by rw [← hp]; exact Int.mul_nonneg A0 B0
      have P1 : p < 340282366920938463463374607431768211456 := by
        have := mul_bd (absI a) (absI b) 9223372036854775808 A0 A1 B0 B1
        omega
      rw [hC] at C0 C1
      obtain ⟨ph, hph⟩ : ∃ ph, p / 18446744073709551616 = ph := ⟨_, rfl⟩
      obtain ⟨pl, hpl⟩ : ∃ pl, p % 18446744073709551616 = pl := ⟨_, rfl⟩
      have PH : 0 ≤ ph ∧ ph < 18446744073709551616 := by omega
      have PL : 0 ≤ pl ∧ pl < 18446744073709551616 := by omega
      have hdv := fun W => ref02_divide.calls ph pl C p W PH.1 PH.2 PL.1 PL.2 (by omega) C0 C1
      have hwd := fun W => ref02_wide.calls (absI a) (absI b) W A0 (by omega) B0 (by omega)
      rw [hp, hph, hpl] at hwd
      obtain ⟨Q, hQ⟩ : ∃ Q, p / C = Q := ⟨_, rfl⟩
      obtain ⟨r, hr⟩ : ∃ r, p % C = r := ⟨_, rfl⟩
      have Q0 : 0 ≤ Q := by rw [← hQ]; exact Int.ediv_nonneg P0 (by omega)
      have Q1 : Q < 340282366920938463463374607431768211456 := by rw [← hQ]; have := Int.ediv_le_self C P0; omega
      have r0 : 0 ≤ r := by rw [← hr]; exact Int.emod_nonneg _ (by omega)
      have r1 : r < C := by rw [← hr]; exact Int.emod_lt_of_pos _ (by omega)
      rw [hQ, hr] at hdv hmd
      obtain ⟨qh, hqh⟩ : ∃ qh, Q / 18446744073709551616 = qh := ⟨_, rfl⟩
      obtain ⟨ql, hql⟩ : ∃ ql, Q % 18446744073709551616 = ql := ⟨_, rfl⟩
      rw [hqh, hql] at hdv
      have QH : 0 ≤ qh := by omega
      have QL : 0 ≤ ql ∧ ql < 18446744073709551616 := by omega
      have odd : (ql % 2 == 1) = decide (Q % 2 = 1) := by rw [Bool.beq_eq_decide_eq]; congr 1; simp; omega
      have td : ql.tmod 2 = ql % 2 := Int.tmod_eq_emod_of_nonneg QL.1
      obtain ⟨O, hO⟩ : ∃ O, (ql % 2 == 1) = O := ⟨_, rfl⟩
      rw [← odd, hO] at hmd
      have haw := fun W => ref02_away.calls mode N O r C W r0 r1 C1
      obtain ⟨A, hA⟩ : ∃ A, awayB mode N O r C = A := ⟨_, rfl⟩
      rw [hA] at hmd haw
      have HMD := Lib.hid hmd; have HDV := Lib.hid hdv; have HWD := Lib.hid hwd; have HAW := Lib.hid haw
      have HCC := Lib.hid hC; have HQ4 := Lib.hid (And.intro hqh hql)
      clear hmd hdv hwd haw hC hp hph hpl hQ hr hA odd hm hc PH PL hqh hql
      have key : ∀ v : Int × Int, mdS a b c mode = v → Calls Tryd.prog 36 #[.int .i64 a, .int .i64 b, .int .i64 c, .int .i64 mode] w (fun e w' => e = .returned (.tuple #[.int .i64 v.1, .int .i64 v.2]) ∧ Below w.heap.size w w') → Calls Tryd.prog 36 #[.int .i64 a, .int .i64 b, .int .i64 c, .int .i64 mode] w (fun e w' => e = .returned (.tuple #[.int .i64 (mdS a b c mode).1, .int .i64 (mdS a b c mode).2]) ∧ Below w.heap.size w w') := fun v hv h => by rw [hv]; exact h
      have KEY := Lib.hid key; clear key
      by_cases hq1 : 0 < qh
      · refine KEY.out (0, 4) (by rw [HMD.out]; unfold sgnS; have := HQ4.out.1; cases N <;> cases A <;> simp <;> omega) ?_
        go_enter Tryd.func36, Tryd.ntmps36
        go_wp2_with (first
          | (go_at_call_of 53 (Value.int IntKind.i64 a); refine (ref02_mag.calls a _ a0 a1).mono ?_; rintro e w' ⟨rfl, rfl⟩)
          | (go_at_call_of 53 (Value.int IntKind.i64 b); refine (ref02_mag.calls b _ b0 b1).mono ?_; rintro e w' ⟨rfl, rfl⟩)
          | (go_at_call_of 53 (Value.int IntKind.i64 c); refine (ref02_mag.calls c _ c0 c1).mono ?_; rintro e w' ⟨rfl, rfl⟩; rw [HCC.out])
          | (go_at_call 52; refine (HWD.out _).mono ?_; rintro e w' ⟨rfl, rfl⟩)
          | (go_at_call 54; refine (HDV.out _).mono ?_; rintro e w1 ⟨rfl, hb1⟩)
          | (go_at_call 55; refine (HAW.out _).mono ?_; rintro e w' ⟨rfl, rfl⟩))
        go_ret2
        exact ⟨rfl, hb1⟩
      · have hqz : qh = 0 := by omega
        subst hqz
        have hQl : Q = ql := by have := HQ4.out; omega
        rw [hQl] at HMD
        clear hq1 hQl
        by_cases hq2 : 9223372036854775808 < ql
        · refine KEY.out (0, 4) (by rw [HMD.out]; unfold sgnS; cases N <;> cases A <;> simp <;> omega) ?_
          go_enter Tryd.func36, Tryd.ntmps36
          go_wp2_with (first
            | (go_at_call_of 53 (Value.int IntKind.i64 a); refine (ref02_mag.calls a _ a0 a1).mono ?_; rintro e w' ⟨rfl, rfl⟩)
            | (go_at_call_of 53 (Value.int IntKind.i64 b); refine (ref02_mag.calls b _ b0 b1).mono ?_; rintro e w' ⟨rfl, rfl⟩)
            | (go_at_call_of 53 (Value.int IntKind.i64 c); refine (ref02_mag.calls c _ c0 c1).mono ?_; rintro e w' ⟨rfl, rfl⟩; rw [HCC.out])
            | (go_at_call 52; refine (HWD.out _).mono ?_; rintro e w' ⟨rfl, rfl⟩)
            | (go_at_call 54; refine (HDV.out _).mono ?_; rintro e w1 ⟨rfl, hb1⟩)
            | (go_at_call 55; refine (HAW.out _).mono ?_; rintro e w' ⟨rfl, rfl⟩))
          go_ret2
          exact ⟨rfl, hb1⟩
        · have g1 : ¬ 9223372036854775808 < ql := hq2
          have wq : IntKind.u64.wrap (ql + 1) = ql + 1 := wrap_of _ (by omega) (by omega)
          obtain ⟨s, hs⟩ : ∃ s, ql + (if A = true then 1 else 0) = s := ⟨_, rfl⟩
          rw [hs] at HMD
          cases A with
          | true =>
            simp only [if_true] at hs
            by_cases h1 : 9223372036854775808 < ql + 1
            · refine KEY.out (0, 4) (by rw [HMD.out, ← hs]; unfold sgnS; cases N <;> simp <;> omega) ?_
              go_enter Tryd.func36, Tryd.ntmps36
              go_wp2_with (first
                | (go_at_call_of 53 (Value.int IntKind.i64 a); refine (ref02_mag.calls a _ a0 a1).mono ?_; rintro e w' ⟨rfl, rfl⟩)
                | (go_at_call_of 53 (Value.int IntKind.i64 b); refine (ref02_mag.calls b _ b0 b1).mono ?_; rintro e w' ⟨rfl, rfl⟩)
                | (go_at_call_of 53 (Value.int IntKind.i64 c); refine (ref02_mag.calls c _ c0 c1).mono ?_; rintro e w' ⟨rfl, rfl⟩; rw [HCC.out])
                | (go_at_call 52; refine (HWD.out _).mono ?_; rintro e w' ⟨rfl, rfl⟩)
                | (go_at_call 54; refine (HDV.out _).mono ?_; rintro e w1 ⟨rfl, hb1⟩)
                | (go_at_call 55; refine (HAW.out _).mono ?_; rintro e w' ⟨rfl, rfl⟩))
              go_ret2
              exact ⟨rfl, hb1⟩
            · by_cases h2 : ql + 1 = 9223372036854775808
              · have e2 : (ql + 1 == 9223372036854775808) = true := by simp [h2]
                have H2 := Lib.hid h2; clear h2
                cases N with
                | true =>
                  refine KEY.out (-9223372036854775808, 0) (by rw [HMD.out, ← hs, H2.out]; unfold sgnS; simp) ?_
                  go_enter Tryd.func36, Tryd.ntmps36
                  go_wp2_with (first
                    | (go_at_call_of 53 (Value.int IntKind.i64 a); refine (ref02_mag.calls a _ a0 a1).mono ?_; rintro e w' ⟨rfl, rfl⟩)
                    | (go_at_call_of 53 (Value.int IntKind.i64 b); refine (ref02_mag.calls b _ b0 b1).mono ?_; rintro e w' ⟨rfl, rfl⟩)
                    | (go_at_call_of 53 (Value.int IntKind.i64 c); refine (ref02_mag.calls c _ c0 c1).mono ?_; rintro e w' ⟨rfl, rfl⟩; rw [HCC.out])
                    | (go_at_call 52; refine (HWD.out _).mono ?_; rintro e w' ⟨rfl, rfl⟩)
                    | (go_at_call 54; refine (HDV.out _).mono ?_; rintro e w1 ⟨rfl, hb1⟩)
                    | (go_at_call 55; refine (HAW.out _).mono ?_; rintro e w' ⟨rfl, rfl⟩))
                  go_ret2
                  exact ⟨rfl, hb1⟩
                | false =>
                  refine KEY.out (0, 4) (by rw [HMD.out, ← hs, H2.out]; unfold sgnS; simp) ?_
                  go_enter Tryd.func36, Tryd.ntmps36
                  go_wp2_with (first
                    | (go_at_call_of 53 (Value.int IntKind.i64 a); refine (ref02_mag.calls a _ a0 a1).mono ?_; rintro e w' ⟨rfl, rfl⟩)
                    | (go_at_call_of 53 (Value.int IntKind.i64 b); refine (ref02_mag.calls b _ b0 b1).mono ?_; rintro e w' ⟨rfl, rfl⟩)
                    | (go_at_call_of 53 (Value.int IntKind.i64 c); refine (ref02_mag.calls c _ c0 c1).mono ?_; rintro e w' ⟨rfl, rfl⟩; rw [HCC.out])
                    | (go_at_call 52; refine (HWD.out _).mono ?_; rintro e w' ⟨rfl, rfl⟩)
                    | (go_at_call 54; refine (HDV.out _).mono ?_; rintro e w1 ⟨rfl, hb1⟩)
                    | (go_at_call 55; refine (HAW.out _).mono ?_; rintro e w' ⟨rfl, rfl⟩))
                  go_ret2
                  exact ⟨rfl, hb1⟩
              · have e2 : (ql + 1 == 9223372036854775808) = false := by simp [h2]
                have wi : IntKind.i64.wrap (ql + 1) = ql + 1 := by rw [IntKind.wrap_i64]; omega
                have wj : IntKind.i64.wrap (-(ql + 1)) = -(ql + 1) := by rw [IntKind.wrap_i64]; omega
                cases N with
                | true =>
                  refine KEY.out (-s, 0) (by rw [HMD.out]; unfold sgnS; simp; omega) ?_
                  go_enter Tryd.func36, Tryd.ntmps36
                  go_wp2_with (first
                    | (go_at_call_of 53 (Value.int IntKind.i64 a); refine (ref02_mag.calls a _ a0 a1).mono ?_; rintro e w' ⟨rfl, rfl⟩)
                    | (go_at_call_of 53 (Value.int IntKind.i64 b); refine (ref02_mag.calls b _ b0 b1).mono ?_; rintro e w' ⟨rfl, rfl⟩)
                    | (go_at_call_of 53 (Value.int IntKind.i64 c); refine (ref02_mag.calls c _ c0 c1).mono ?_; rintro e w' ⟨rfl, rfl⟩; rw [HCC.out])
                    | (go_at_call 52; refine (HWD.out _).mono ?_; rintro e w' ⟨rfl, rfl⟩)
                    | (go_at_call 54; refine (HDV.out _).mono ?_; rintro e w1 ⟨rfl, hb1⟩)
                    | (go_at_call 55; refine (HAW.out _).mono ?_; rintro e w' ⟨rfl, rfl⟩))
                  go_ret2
                  exact ⟨rfl, hb1⟩
                | false =>
                  refine KEY.out (s, 0) (by rw [HMD.out]; unfold sgnS; simp; omega) ?_
                  go_enter Tryd.func36, Tryd.ntmps36
                  go_wp2_with (first
                    | (go_at_call_of 53 (Value.int IntKind.i64 a); refine (ref02_mag.calls a _ a0 a1).mono ?_; rintro e w' ⟨rfl, rfl⟩)
                    | (go_at_call_of 53 (Value.int IntKind.i64 b); refine (ref02_mag.calls b _ b0 b1).mono ?_; rintro e w' ⟨rfl, rfl⟩)
                    | (go_at_call_of 53 (Value.int IntKind.i64 c); refine (ref02_mag.calls c _ c0 c1).mono ?_; rintro e w' ⟨rfl, rfl⟩; rw [HCC.out])
                    | (go_at_call 52; refine (HWD.out _).mono ?_; rintro e w' ⟨rfl, rfl⟩)
                    | (go_at_call 54; refine (HDV.out _).mono ?_; rintro e w1 ⟨rfl, hb1⟩)
                    | (go_at_call 55; refine (HAW.out _).mono ?_; rintro e w' ⟨rfl, rfl⟩))
                  go_ret2
                  exact ⟨rfl, hb1⟩
          | false =>
            simp only [Bool.false_eq_true, if_false, Int.add_zero] at hs
            subst hs
            by_cases h2 : ql = 9223372036854775808
            · have e2 : (ql == 9223372036854775808) = true := by simp [h2]
              have H2 := Lib.hid h2; clear h2
              cases N with
              | true =>
                refine KEY.out (-9223372036854775808, 0) (by rw [HMD.out, H2.out]; unfold sgnS; simp) ?_
                go_enter Tryd.func36, Tryd.ntmps36
                go_wp2_with (first
                  | (go_at_call_of 53 (Value.int IntKind.i64 a); refine (ref02_mag.calls a _ a0 a1).mono ?_; rintro e w' ⟨rfl, rfl⟩)
                  | (go_at_call_of 53 (Value.int IntKind.i64 b); refine (ref02_mag.calls b _ b0 b1).mono ?_; rintro e w' ⟨rfl, rfl⟩)
                  | (go_at_call_of 53 (Value.int IntKind.i64 c); refine (ref02_mag.calls c _ c0 c1).mono ?_; rintro e w' ⟨rfl, rfl⟩; rw [HCC.out])
                  | (go_at_call 52; refine (HWD.out _).mono ?_; rintro e w' ⟨rfl, rfl⟩)
                  | (go_at_call 54; refine (HDV.out _).mono ?_; rintro e w1 ⟨rfl, hb1⟩)
                  | (go_at_call 55; refine (HAW.out _).mono ?_; rintro e w' ⟨rfl, rfl⟩))
                go_ret2
                exact ⟨rfl, hb1⟩
              | false =>
                refine KEY.out (0, 4) (by rw [HMD.out, H2.out]; unfold sgnS; simp) ?_
                go_enter Tryd.func36, Tryd.ntmps36
                go_wp2_with (first
                  | (go_at_call_of 53 (Value.int IntKind.i64 a); refine (ref02_mag.calls a _ a0 a1).mono ?_; rintro e w' ⟨rfl, rfl⟩)
                  | (go_at_call_of 53 (Value.int IntKind.i64 b); refine (ref02_mag.calls b _ b0 b1).mono ?_; rintro e w' ⟨rfl, rfl⟩)
                  | (go_at_call_of 53 (Value.int IntKind.i64 c); refine (ref02_mag.calls c _ c0 c1).mono ?_; rintro e w' ⟨rfl, rfl⟩; rw [HCC.out])
                  | (go_at_call 52; refine (HWD.out _).mono ?_; rintro e w' ⟨rfl, rfl⟩)
                  | (go_at_call 54; refine (HDV.out _).mono ?_; rintro e w1 ⟨rfl, hb1⟩)
                  | (go_at_call 55; refine (HAW.out _).mono ?_; rintro e w' ⟨rfl, rfl⟩))
                go_ret2
                exact ⟨rfl, hb1⟩
            · have e2 : (ql == 9223372036854775808) = false := by simp [h2]
              have wi : IntKind.i64.wrap ql = ql := by rw [IntKind.wrap_i64]; omega
              have wj : IntKind.i64.wrap (-ql) = -ql := by rw [IntKind.wrap_i64]; omega
              cases N with
              | true =>
                refine KEY.out (-ql, 0) (by rw [HMD.out]; unfold sgnS; simp; omega) ?_
                go_enter Tryd.func36, Tryd.ntmps36
                go_wp2_with (first
                  | (go_at_call_of 53 (Value.int IntKind.i64 a); refine (ref02_mag.calls a _ a0 a1).mono ?_; rintro e w' ⟨rfl, rfl⟩)
                  | (go_at_call_of 53 (Value.int IntKind.i64 b); refine (ref02_mag.calls b _ b0 b1).mono ?_; rintro e w' ⟨rfl, rfl⟩)
                  | (go_at_call_of 53 (Value.int IntKind.i64 c); refine (ref02_mag.calls c _ c0 c1).mono ?_; rintro e w' ⟨rfl, rfl⟩; rw [HCC.out])
                  | (go_at_call 52; refine (HWD.out _).mono ?_; rintro e w' ⟨rfl, rfl⟩)
                  | (go_at_call 54; refine (HDV.out _).mono ?_; rintro e w1 ⟨rfl, hb1⟩)
                  | (go_at_call 55; refine (HAW.out _).mono ?_; rintro e w' ⟨rfl, rfl⟩))
                go_ret2
                exact ⟨rfl, hb1⟩
              | false =>
                refine KEY.out (ql, 0) (by rw [HMD.out]; unfold sgnS; simp; omega) ?_
                go_enter Tryd.func36, Tryd.ntmps36
                go_wp2_with (first
                  | (go_at_call_of 53 (Value.int IntKind.i64 a); refine (ref02_mag.calls a _ a0 a1).mono ?_; rintro e w' ⟨rfl, rfl⟩)
                  | (go_at_call_of 53 (Value.int IntKind.i64 b); refine (ref02_mag.calls b _ b0 b1).mono ?_; rintro e w' ⟨rfl, rfl⟩)
                  | (go_at_call_of 53 (Value.int IntKind.i64 c); refine (ref02_mag.calls c _ c0 c1).mono ?_; rintro e w' ⟨rfl, rfl⟩; rw [HCC.out])
                  | (go_at_call 52; refine (HWD.out _).mono ?_; rintro e w' ⟨rfl, rfl⟩)
                  | (go_at_call 54; refine (HDV.out _).mono ?_; rintro e w1 ⟨rfl, hb1⟩)
                  | (go_at_call 55; refine (HAW.out _).mono ?_; rintro e w' ⟨rfl, rfl⟩))
                go_ret2
                exact ⟨rfl, hb1⟩

end Go.Proofs.YtncbfpigojeekaaDoor
