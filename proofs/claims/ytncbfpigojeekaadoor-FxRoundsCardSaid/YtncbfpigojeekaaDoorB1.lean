/- muldiv: the product of two words, and what the two-word number is. -/
import Derived.Test.YtncbfpigojeekaaDoorA1
import Derived.Laws.BitsAllLaws
namespace Go.Proofs.YtncbfpigojeekaaDoor
open Go.RowKit

def absI (a : Int) : Int := if a < 0 then -a else a
theorem absI_nn (a : Int) : 0 ≤ absI a := by unfold absI; split <;> omega
theorem absI_le (a : Int) (h0 : -9223372036854775808 ≤ a) (h1 : a ≤ 9223372036854775807) : absI a ≤ 9223372036854775808 := by unfold absI; split <;> omega

theorem and32 (x : Int) (h0 : 0 ≤ x) (h1 : x < 18446744073709551616) : bits .and .u64 x 4294967295 = x % 4294967296 := by
  rw [u64_and _ _ h0 h1 (by omega) (by omega)]
  have : x.toNat &&& (4294967295 : Int).toNat = x.toNat % 4294967296 := Nat.and_two_pow_sub_one_eq_mod x.toNat 32
  rw [this]; omega
theorem or32 (x y : Int) (h0 : 0 ≤ x) (h1 : x < 18446744073709551616) (hx : x % 4294967296 = 0) (h2 : 0 ≤ y) (h3 : y < 4294967296) : bits .or .u64 x y = x + y := by
  rw [u64_or _ _ h0 h1 h2 (by omega), nat_join 32 _ _ (by omega) (by omega)]; omega
theorem and1 (x : Int) (h0 : 0 ≤ x) (h1 : x < 18446744073709551616) : bits .and .u64 x 1 = x % 2 := by
  rw [u64_and _ _ h0 h1 (by omega) (by omega)]
  have : x.toNat &&& (1 : Int).toNat = x.toNat % 2 := Nat.and_two_pow_sub_one_eq_mod x.toNat 1
  rw [this]; omega
theorem or1 (x y : Int) (h0 : 0 ≤ x) (h1 : x < 18446744073709551616) (hx : x % 2 = 0) (h2 : 0 ≤ y) (h3 : y < 2) : bits .or .u64 x y = x + y := by
  rw [u64_or _ _ h0 h1 h2 (by omega), nat_join 1 _ _ (by omega) (by omega)]; omega

set_option maxHeartbeats 400000 in
theorem muldiv_magnitude.calls (a : Int) (w : World) (h0 : -9223372036854775808 ≤ a) (h1 : a ≤ 9223372036854775807) :
    Calls Tryd.prog 38 #[.int .i64 a] w fun e w' => e = .returned (.int .u64 (absI a)) ∧ w = w' := by
  by_cases h : a < 0
  all_goals
    go_enter Tryd.func38, Tryd.ntmps38
    go_wp2
    go_ret
    refine ⟨?_, rfl⟩
    show Ending.returned (.int .u64 _) = _
    congr 2
    simp only [absI, IntKind.wrap_u64, h, if_true]
    try simp only [if_false]
    omega

theorem mul_bd (x y m : Int) (h0 : 0 ≤ x) (h1 : x ≤ m) (h2 : 0 ≤ y) (h3 : y ≤ m) : 0 ≤ x * y ∧ x * y ≤ m * m :=
  ⟨Int.mul_nonneg h0 h2, Int.mul_le_mul h1 h3 h2 (by omega)⟩
theorem wrap_of (x : Int) (h0 : 0 ≤ x) (h1 : x < 18446744073709551616) : IntKind.u64.wrap x = x := by rw [IntKind.wrap_u64]; omega
/-- the two words of a product, by its four parts -/
theorem mul_words (a b a1 a0 b1 b0 : Int) (ha : a = a1 * 4294967296 + a0) (hb : b = b1 * 4294967296 + b0)
    (h1 : 0 ≤ a1) (h2 : a1 < 4294967296) (h3 : 0 ≤ a0) (h4 : a0 < 4294967296) (h5 : 0 ≤ b1) (h6 : b1 < 4294967296) (h7 : 0 ≤ b0) (h8 : b0 < 4294967296) :
    let bot := a0 * b0
    let mid := a1 * b0 + bot / 4294967296
    let oth := a0 * b1 + mid % 4294967296
    (0 ≤ bot ∧ bot < 18446744073709551616) ∧ (0 ≤ a1 * b0 ∧ a1 * b0 < 18446744073709551616) ∧ (0 ≤ mid ∧ mid < 18446744073709551616) ∧ (0 ≤ a0 * b1 ∧ a0 * b1 < 18446744073709551616) ∧
    (0 ≤ oth ∧ oth < 18446744073709551616) ∧ (0 ≤ a1 * b1 ∧ a1 * b1 < 18446744073709551616) ∧ (0 ≤ a1 * b1 + mid / 4294967296 ∧ a1 * b1 + mid / 4294967296 < 18446744073709551616) ∧
    a1 * b1 + mid / 4294967296 + oth / 4294967296 = a * b / 18446744073709551616 ∧ (0 ≤ a * b / 18446744073709551616 ∧ a * b / 18446744073709551616 < 18446744073709551616) ∧
    oth % 4294967296 * 4294967296 + bot % 4294967296 = a * b % 18446744073709551616 := by
  intro bot mid oth
  have e : a * b = (a1 * b1) * 18446744073709551616 + (a1 * b0 + a0 * b1) * 4294967296 + a0 * b0 := by subst ha hb; grind
  have p1 := mul_bd a0 b0 4294967295 h3 (by omega) h7 (by omega)
  have p2 := mul_bd a1 b0 4294967295 h1 (by omega) h7 (by omega)
  have p3 := mul_bd a0 b1 4294967295 h3 (by omega) h5 (by omega)
  have p4 := mul_bd a1 b1 4294967295 h1 (by omega) h5 (by omega)
  rw [e]
  simp only [oth, mid, bot]
  generalize a0 * b0 = x at *
  generalize a1 * b0 = y at *
  generalize a0 * b1 = z at *
  generalize a1 * b1 = t at *
  refine ⟨by omega, by omega, by omega, by omega, by omega, by omega, by omega, by omega, by omega, by omega⟩

set_option maxHeartbeats 400000 in
theorem muldiv_multiply.calls (a b : Int) (w : World) (ha0 : 0 ≤ a) (ha : a < 18446744073709551616) (hb0 : 0 ≤ b) (hb : b < 18446744073709551616) :
    Calls Tryd.prog 37 #[.int .u64 a, .int .u64 b] w fun e w' => e = .returned (.agg #[.int .u64 (a * b / 18446744073709551616), .int .u64 (a * b % 18446744073709551616)]) ∧ Below w.heap.size w w' := by
  go_enter Tryd.func37, Tryd.ntmps37
  go_wp2
  obtain ⟨q1, q2, q3, q4, q5, q6, q7, q8, q9, q10⟩ := mul_words a b (a / 4294967296) (a % 4294967296) (b / 4294967296) (b % 4294967296) (by omega) (by omega) (by omega) (by omega) (by omega) (by omega) (by omega) (by omega) (by omega) (by omega)
  refine bodyPost_ret (v := .agg #[.int .u64 _, .int .u64 _]) (by simp [results, Tryd.results37, go_sem]; exact ⟨rfl, rfl⟩) rfl ⟨?_, (Below.refl _ _).alloc (Nat.le_refl _) _⟩
  have r1 := and32 a ha0 ha
  have r2 := and32 b hb0 hb
  rw [r1, r2, wrap_of _ q1.1 q1.2, wrap_of _ q2.1 q2.2, wrap_of _ q3.1 q3.2, wrap_of _ q4.1 q4.2, and32 _ q3.1 q3.2, and32 _ q1.1 q1.2, wrap_of _ q5.1 q5.2, wrap_of _ q6.1 q6.2, wrap_of _ q7.1 q7.2, q8, wrap_of _ q9.1 q9.2]
  rw [or32 _ _ (by rw [IntKind.wrap_u64]; omega) (by rw [IntKind.wrap_u64]; omega) (by rw [IntKind.wrap_u64]; omega) (by omega) (by omega), ← q10, IntKind.wrap_u64]
  congr 5
  congr 1
  omega

end Go.Proofs.YtncbfpigojeekaaDoor
