/- The reference of MulDiv: the division. -/
import Derived.Test.YtncbfpigojeekaaDoorD6
namespace Go.Proofs.YtncbfpigojeekaaDoor
open Go.RowKit Go.Lib

set_option maxRecDepth 100000 in
set_option maxHeartbeats 4000000 in
theorem ref02_divide.calls (hi lo c P : Int) (w : World) (h0 : 0 ≤ hi) (h1 : hi < 18446744073709551616) (l0 : 0 ≤ lo) (l1 : lo < 18446744073709551616) (hP : P = hi * 18446744073709551616 + lo) (c0 : 1 ≤ c) (c1 : c ≤ 9223372036854775808) :
    Calls Tryd.prog 54 #[.int .u64 hi, .int .u64 lo, .int .u64 c] w fun e w' => e = .returned (.tuple #[.int .u64 (P / c / 18446744073709551616), .int .u64 (P / c % 18446744073709551616), .int .u64 (P % c)]) ∧ Below w.heap.size w w' := by
  have hP0 : 0 ≤ P := by omega
  have hP1 : P < 340282366920938463463374607431768211456 := by omega
  have p0 : pI P 0 = 0 := by unfold pI; exact Int.ediv_eq_zero_of_lt hP0 hP1
  have x0 : xI P 0 = P := by unfold xI; rw [Int.pow_zero, Int.mul_one]; omega
  have pE : pI P 128 = P := by unfold pI; simp
  have HST := Lib.hid (show hi = xI P 0 / 18446744073709551616 ∧ lo = xI P 0 % 18446744073709551616 ∧ 0 = pI P 0 % c ∧ 0 = pI P 0 / c / 18446744073709551616 ∧ 0 = pI P 0 / c % 18446744073709551616 by rw [p0, x0]; refine ⟨by omega, by omega, by simp, by simp, by simp⟩)
  have HPE := Lib.hid pE
  have HST2 := Lib.hid (fun (i : Nat) (hi : i < 128) => @dstep P c hP0 hP1 c0 c1 i hi)
  clear p0 x0 pE hP hP0 hP1
  go_enter Tryd.func54, Tryd.ntmps54
  go_wp2
  go_loopg [0, 1, 9, 10, 11, 12] 128 (fun g s0 s1 s9 s10 s11 s12 wr => ∃ (i : Nat) (h l qh ql r : Int), g = 128 - i ∧ i ≤ 128 ∧ s0 = .int .u64 h ∧ s1 = .int .u64 l ∧ s9 = .int .u64 qh ∧ s10 = .int .u64 ql ∧ s11 = .int .u64 r ∧ s12 = .int .i64 i ∧ Below w.heap.size w wr ∧
    Hid (h = xI P i / 18446744073709551616 ∧ l = xI P i % 18446744073709551616 ∧ r = pI P i % c ∧ qh = pI P i / c / 18446744073709551616 ∧ ql = pI P i / c % 18446744073709551616))
  case atStart => exact ⟨0, hi, lo, 0, 0, 0, rfl, by omega, rfl, rfl, rfl, rfl, rfl, rfl, Below.refl _ _, HST⟩
  case round =>
    obtain ⟨i, h, l, qh, ql, r, rfl, hi8, rfl, rfl, rfl, rfl, rfl, rfl, hbr, HI⟩ := hrel
    by_cases hlt : i < 128
    · obtain ⟨⟨a0, a1, a2, a3, a4, a5, a6, a7, a8, a9⟩, e1, e2, d1, d2⟩ := HST2.out i hlt HI.out.1 HI.out.2.1 HI.out.2.2.1 HI.out.2.2.2.1 HI.out.2.2.2.2
      have HE := Lib.hid (And.intro e1 e2)
      have HD1 := Lib.hid d1; have HD2 := Lib.hid d2
      clear e1 e2 d1 d2
      have tb : decide (9223372036854775808 ≤ r) = false := by simp; omega
      have w1 : IntKind.u64.wrap (2 * r) = 2 * r := wrap_of _ (by omega) (by omega)
      have hb : 0 ≤ h / 9223372036854775808 ∧ h / 9223372036854775808 < 2 := by omega
      have td1 : h.tdiv 9223372036854775808 = h / 9223372036854775808 := Int.tdiv_eq_ediv_of_nonneg a0
      have td2 : l.tdiv 9223372036854775808 = l / 9223372036854775808 := Int.tdiv_eq_ediv_of_nonneg a2
      have td3 : ql.tdiv 9223372036854775808 = ql / 9223372036854775808 := Int.tdiv_eq_ediv_of_nonneg a6
      have tw1 : IntKind.u64.wrap (h / 9223372036854775808) = h / 9223372036854775808 := wrap_of _ (by omega) (by omega)
      have tw2 : IntKind.u64.wrap (l / 9223372036854775808) = l / 9223372036854775808 := wrap_of _ (by omega) (by omega)
      have tw3 : IntKind.u64.wrap (ql / 9223372036854775808) = ql / 9223372036854775808 := wrap_of _ (by omega) (by omega)
      obtain ⟨bt, hbt⟩ : ∃ bt, h / 9223372036854775808 = bt := ⟨_, rfl⟩
      obtain ⟨bl, hbl⟩ : ∃ bl, l / 9223372036854775808 = bl := ⟨_, rfl⟩
      obtain ⟨bq, hbq⟩ : ∃ bq, ql / 9223372036854775808 = bq := ⟨_, rfl⟩
      rw [hbt] at hb HD1 HD2 td1 tw1
      rw [hbl] at HE td2 tw2
      rw [hbq] at HD1 HD2 td3 tw3
      have w2 : IntKind.u64.wrap (2 * r + bt) = 2 * r + bt := wrap_of _ (by omega) (by omega)
      have HB := Lib.hid (And.intro hbt (And.intro hbl hbq))
      clear hbt hbl hbq
      by_cases hc : c ≤ 2 * r + bt
      · have w3 : IntKind.u64.wrap (2 * r + bt - c) = 2 * r + bt - c := wrap_of _ (by omega) (by omega)
        have w4 : IntKind.u64.wrap (IntKind.u64.wrap (2 * ql) + 1) = IntKind.u64.wrap (2 * ql) + 1 := by simp only [IntKind.wrap_u64]; omega
        have HF := Lib.hid (HD1.out hc)
        go_wp2
        go_roundg (128 - (i + 1))
        case measure => omega
        case rel => exact ⟨i + 1, _, _, _, _, _, rfl, by omega, rfl, rfl, rfl, rfl, rfl, by go_num, hbr, Lib.hid ⟨HE.out.1, HE.out.2, HF.out.1, HF.out.2.1, HF.out.2.2⟩⟩
      · have hcb : decide (c ≤ 2 * r + bt) = false := decide_eq_false hc
        have HF := Lib.hid (HD2.out (by omega))
        clear hc
        go_wp2
        go_roundg (128 - (i + 1))
        case measure => omega
        case rel => exact ⟨i + 1, _, _, _, _, _, rfl, by omega, rfl, rfl, rfl, rfl, rfl, by go_num, hbr, Lib.hid ⟨HE.out.1, HE.out.2, HF.out.1, HF.out.2.1, HF.out.2.2⟩⟩
    · have hi128 : i = 128 := by omega
      subst hi128
      obtain ⟨_, _, e3, e4, e5⟩ := HI.out
      rw [HPE.out] at e3 e4 e5
      have HEE := Lib.hid (And.intro e3 (And.intro e4 e5))
      clear e3 e4 e5
      go_wp2
      go_ret3
      exact ⟨by rw [← HEE.out.1, ← HEE.out.2.1, ← HEE.out.2.2]; rfl, hbr⟩

set_option maxHeartbeats 1000000 in
theorem ref02_away.calls (mode : Int) (neg odd : Bool) (r c : Int) (w : World) (h0 : 0 ≤ r) (h1 : r < c) (h2 : c ≤ 9223372036854775808) :
    Calls Tryd.prog 55 #[.int .i64 mode, .bool neg, .bool odd, .int .u64 r, .int .u64 c] w fun e w' => e = .returned (.bool (awayB mode neg odd r c)) ∧ w = w' := by
  have e1 : IntKind.u64.wrap (c - r) = c - r := wrap_of _ (by omega) (by omega)
  by_cases m2 : mode = 2
  · subst m2
    have HS := Lib.hid (show awayB 2 neg odd r c = decide (0 < r) by unfold awayB; by_cases hr : r = 0 <;> simp [hr]; omega)
    go_enter Tryd.func55, Tryd.ntmps55
    go_wp2
    go_ret
    exact ⟨by rw [HS.out]; rfl, rfl⟩
  · have b2 : (mode == 2) = false := by simp [m2]
    by_cases m3 : mode = 3
    · subst m3
      have HS := Lib.hid (show awayB 3 neg odd r c = decide (c - r ≤ r) by unfold awayB; by_cases hr : r = 0 <;> simp [hr]; omega)
      go_enter Tryd.func55, Tryd.ntmps55
      go_wp2
      go_ret
      exact ⟨by rw [HS.out]; rfl, rfl⟩
    · have b3 : (mode == 3) = false := by simp [m3]
      by_cases m4 : mode = 4
      · subst m4
        have HS := Lib.hid (show awayB 4 neg odd r c = (decide (c - r < r) || ((r == c - r) && odd)) by
          unfold awayB
          by_cases hr : r = 0
          · have e2 : (r == c - r) = false := by simp; omega
            have e3 : decide (c - r < r) = false := decide_eq_false (by omega)
            rw [if_pos hr, e2, e3]; rfl
          · simp [hr, Bool.beq_eq_decide_eq])
        by_cases c1 : c - r < r
        · go_enter Tryd.func55, Tryd.ntmps55
          go_wp2
          go_ret
          exact ⟨by rw [HS.out, decide_eq_true c1]; rfl, rfl⟩
        · have c1b : decide (c - r < r) = false := decide_eq_false c1
          obtain ⟨E, hE⟩ : ∃ E, (r == c - r) = E := ⟨_, rfl⟩
          rw [hE, c1b] at HS
          cases E
          all_goals
            go_enter Tryd.func55, Tryd.ntmps55
            go_wp2
            go_ret
            exact ⟨by rw [HS.out]; rfl, rfl⟩
      · have b4 : (mode == 4) = false := by simp [m4]
        by_cases m5 : mode = 5
        · subst m5
          have HS := Lib.hid (show awayB 5 neg odd r c = (neg && decide (0 < r)) by
            unfold awayB
            by_cases hr : r = 0
            · simp [hr]
            · have : 0 < r := by omega
              simp [hr, this])
          cases neg
          all_goals
            go_enter Tryd.func55, Tryd.ntmps55
            go_wp2
            go_ret
            exact ⟨by rw [HS.out]; rfl, rfl⟩
        · have b5 : (mode == 5) = false := by simp [m5]
          have HS := Lib.hid (show awayB mode neg odd r c = false by unfold awayB; simp [m2, m3, m4, m5])
          go_enter Tryd.func55, Tryd.ntmps55
          go_wp2
          go_ret
          exact ⟨by rw [HS.out]; rfl, rfl⟩

end Go.Proofs.YtncbfpigojeekaaDoor
