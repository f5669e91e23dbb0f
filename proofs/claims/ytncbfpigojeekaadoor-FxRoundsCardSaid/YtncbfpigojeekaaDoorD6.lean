/- The reference of MulDiv: its words, its division, its rounding. -/
import Derived.Test.YtncbfpigojeekaaDoorD5
namespace Go.Proofs.YtncbfpigojeekaaDoor
open Go.RowKit Go.Lib

set_option maxHeartbeats 400000 in
theorem ref02_mag.calls (a : Int) (w : World) (h0 : -9223372036854775808 ≤ a) (h1 : a ≤ 9223372036854775807) :
    Calls Tryd.prog 53 #[.int .i64 a] w fun e w' => e = .returned (.int .u64 (absI a)) ∧ w = w' := by
  by_cases h : a < 0
  all_goals
    go_enter Tryd.func53, Tryd.ntmps53
    go_wp2
    go_ret
    refine ⟨?_, rfl⟩
    show Ending.returned (.int .u64 _) = _
    congr 2
    simp only [absI, IntKind.wrap_u64, h, if_true]
    try simp only [if_false]
    omega

set_option maxHeartbeats 1000000 in
theorem ref02_wide.calls (a b : Int) (w : World) (ha0 : 0 ≤ a) (ha : a < 18446744073709551616) (hb0 : 0 ≤ b) (hb : b < 18446744073709551616) :
    Calls Tryd.prog 52 #[.int .u64 a, .int .u64 b] w fun e w' => e = .returned (.tuple #[.int .u64 (a * b / 18446744073709551616), .int .u64 (a * b % 18446744073709551616)]) ∧ w = w' := by
  obtain ⟨q1, q2, q3, q4, q5, q6, q7, q8, q9, q10⟩ := mul_words a b (a / 4294967296) (a % 4294967296) (b / 4294967296) (b % 4294967296) (by omega) (by omega) (by omega) (by omega) (by omega) (by omega) (by omega) (by omega) (by omega) (by omega)
  have HQ := Lib.hid (And.intro q1 (And.intro q2 (And.intro q3 (And.intro q4 (And.intro q5 (And.intro q6 (And.intro q7 (And.intro q8 (And.intro q9 q10)))))))))
  clear q1 q2 q3 q4 q5 q6 q7 q8 q9 q10
  go_enter Tryd.func52, Tryd.ntmps52
  go_wp2
  go_ret2
  refine ⟨?_, rfl⟩
  obtain ⟨q1, q2, q3, q4, q5, q6, q7, q8, q9, q10⟩ := HQ.out
  show Ending.returned (.tuple #[.int .u64 _, .int .u64 _]) = _
  have dv : ∀ x : Int, 0 ≤ x ∧ x < 18446744073709551616 → IntKind.u64.wrap (x.tdiv 4294967296) = x / 4294967296 := fun x h => by
    rw [Int.tdiv_eq_ediv_of_nonneg h.1]; exact wrap_of _ (by omega) (by omega)
  have mv : ∀ x : Int, 0 ≤ x ∧ x < 18446744073709551616 → x.tmod 4294967296 = x % 4294967296 := fun x h => Int.tmod_eq_emod_of_nonneg h.1
  rw [wrap_of _ q1.1 q1.2, wrap_of _ q2.1 q2.2, wrap_of _ q4.1 q4.2, wrap_of _ q6.1 q6.2, dv _ q1, mv _ q1, wrap_of _ q3.1 q3.2, dv _ q3, mv _ q3, wrap_of _ q5.1 q5.2, dv _ q5, mv _ q5, wrap_of _ q7.1 q7.2, q8, wrap_of _ q9.1 q9.2, ← q10]
  rw [wrap_of (_ * 4294967296) (by omega) (by omega), wrap_of _ (by omega) (by omega)]

/-- the first i bits of a number of two words, and what is left of it -/
def pI (P : Int) (i : Nat) : Int := P / 2 ^ (128 - i)
def xI (P : Int) (i : Nat) : Int := P * 2 ^ i % 340282366920938463463374607431768211456
theorem pI_step (P : Int) (i : Nat) (hi : i < 128) : pI P (i + 1) = 2 * pI P i + xI P i / 170141183460469231731687303715884105728 ∧ xI P (i + 1) = 2 * xI P i % 340282366920938463463374607431768211456 := by
  unfold pI xI
  have e1 : P / 2 ^ (128 - i) = P / 2 ^ (128 - (i + 1)) / 2 := by
    rw [show 128 - i = (128 - (i + 1)) + 1 by omega, Int.pow_succ, Int.ediv_ediv_of_nonneg (Int.le_of_lt (Int.pow_pos (by omega)))]
  have e2 : P * 2 ^ i / 170141183460469231731687303715884105728 = P / 2 ^ (128 - (i + 1)) := by
    have hp : (170141183460469231731687303715884105728 : Int) = 2 ^ (128 - (i + 1)) * 2 ^ i := by
      rw [← Int.pow_add, show 128 - (i + 1) + i = 127 by omega]; rfl
    rw [hp, Int.mul_ediv_mul_of_pos_left _ _ (Int.pow_pos (by omega))]
  have e3 : P * 2 ^ (i + 1) = 2 * (P * 2 ^ i) := by rw [Int.pow_succ]; grind
  rw [e1, e3, ← e2]
  generalize P * 2 ^ i = Y
  omega

theorem dstep {P c : Int} (hP0 : 0 ≤ P) (hP : P < 340282366920938463463374607431768211456) (c0 : 1 ≤ c) (c1 : c ≤ 9223372036854775808) (i : Nat) (hi : i < 128) {h l qh ql r : Int}
    (eh : h = xI P i / 18446744073709551616) (el : l = xI P i % 18446744073709551616) (er : r = pI P i % c) (eqh : qh = pI P i / c / 18446744073709551616) (eql : ql = pI P i / c % 18446744073709551616) :
    (0 ≤ h ∧ h < 18446744073709551616 ∧ 0 ≤ l ∧ l < 18446744073709551616 ∧ 0 ≤ qh ∧ qh < 18446744073709551616 ∧ 0 ≤ ql ∧ ql < 18446744073709551616 ∧ 0 ≤ r ∧ r < c) ∧
    IntKind.u64.wrap (IntKind.u64.wrap (2 * h) + l / 9223372036854775808) = xI P (i + 1) / 18446744073709551616 ∧ IntKind.u64.wrap (2 * l) = xI P (i + 1) % 18446744073709551616 ∧
    (c ≤ 2 * r + h / 9223372036854775808 → 2 * r + h / 9223372036854775808 - c = pI P (i + 1) % c ∧ IntKind.u64.wrap (IntKind.u64.wrap (2 * qh) + ql / 9223372036854775808) = pI P (i + 1) / c / 18446744073709551616 ∧ IntKind.u64.wrap (2 * ql) + 1 = pI P (i + 1) / c % 18446744073709551616) ∧
    (2 * r + h / 9223372036854775808 < c → 2 * r + h / 9223372036854775808 = pI P (i + 1) % c ∧ IntKind.u64.wrap (IntKind.u64.wrap (2 * qh) + ql / 9223372036854775808) = pI P (i + 1) / c / 18446744073709551616 ∧ IntKind.u64.wrap (2 * ql) = pI P (i + 1) / c % 18446744073709551616) := by
  have hx0 : 0 ≤ xI P i ∧ xI P i < 340282366920938463463374607431768211456 := by unfold xI; omega
  have pb : ∀ j, 0 ≤ pI P j ∧ pI P j ≤ P := fun j => ⟨Int.ediv_nonneg hP0 (Int.le_of_lt (Int.pow_pos (by omega))), Int.ediv_le_self _ hP0⟩
  have qb : ∀ j, 0 ≤ pI P j / c ∧ pI P j / c < 340282366920938463463374607431768211456 := fun j => ⟨Int.ediv_nonneg (pb j).1 (by omega), by have := Int.ediv_le_self c (pb j).1; have := (pb j).2; omega⟩
  have r0 := Int.emod_nonneg (pI P i) (by omega : c ≠ 0)
  have r1 := Int.emod_lt_of_pos (pI P i) (by omega : 0 < c)
  obtain ⟨s1, s2⟩ := pI_step P i hi
  have hb : h / 9223372036854775808 = xI P i / 170141183460469231731687303715884105728 := by omega
  have b0 : 0 ≤ xI P i / 170141183460469231731687303715884105728 ∧ xI P i / 170141183460469231731687303715884105728 < 2 := by omega
  obtain ⟨d1, d2⟩ := div_next (pI P i) c (xI P i / 170141183460469231731687303715884105728) (pb i).1 (by omega) b0.1 b0.2
  rw [← s1] at d1 d2
  have q0 := qb i
  have q1 := qb (i + 1)
  generalize pI P (i + 1) / c = Q' at *
  generalize pI P (i + 1) % c = R' at *
  generalize pI P i / c = Q at *
  generalize pI P i % c = R at *
  generalize xI P (i + 1) = X' at *
  generalize xI P i = X at *
  clear s1 pb qb
  subst eh el er eqh eql
  simp only [IntKind.wrap_u64]
  refine ⟨⟨by omega, by omega, by omega, by omega, by omega, by omega, by omega, by omega, r0, r1⟩, by omega, by omega, fun hc => ?_, fun hc => ?_⟩
  · obtain ⟨a1, a2⟩ := d1 (by omega)
    refine ⟨by omega, by omega, by omega⟩
  · obtain ⟨a1, a2⟩ := d2 (by omega)
    refine ⟨by omega, by omega, by omega⟩

end Go.Proofs.YtncbfpigojeekaaDoor
