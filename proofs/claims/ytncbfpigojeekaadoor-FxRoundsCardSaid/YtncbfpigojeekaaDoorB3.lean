/- muldiv.MulDiv: exact product and quotient, rounded. -/
import Derived.Test.YtncbfpigojeekaaDoorB2
import Derived.Deep.RegionHeld3
namespace Go.Proofs.YtncbfpigojeekaaDoor
open Go.RowKit

def awayB (mode : Int) (neg odd : Bool) (r c : Int) : Bool :=
  if r = 0 then false else if mode = 2 then true else if mode = 3 then decide (c - r ≤ r) else if mode = 4 then decide (c - r < r) || decide (r = c - r) && odd else if mode = 5 then neg else false
def sgnS (neg : Bool) (s : Int) : Int × Int :=
  if neg then (if 9223372036854775808 < s then (0, 4) else (-s, 0)) else if 9223372036854775808 ≤ s then (0, 4) else (s, 0)
/-- what MulDiv returns -/
def mdS (a b c mode : Int) : Int × Int :=
  if mode < 1 ∨ 5 < mode then (0, 10) else if c = 0 then (0, 2) else
    let p := absI a * absI b
    let neg := decide (p ≠ 0) && (((decide (a < 0)) != (decide (b < 0))) != (decide (c < 0)))
    let q := p / absI c
    sgnS neg (q + if awayB mode neg (decide (q % 2 = 1)) (p % absI c) (absI c) then 1 else 0)

set_option maxHeartbeats 1000000 in
theorem muldiv_away.calls (mode : Int) (neg odd : Bool) (r c : Int) (w : World) (h0 : 0 ≤ r) (h1 : r < c) (h2 : c ≤ 9223372036854775808) :
    Calls Tryd.prog 50 #[.int .i64 mode, .bool neg, .bool odd, .int .u64 r, .int .u64 c] w fun e w' => e = .returned (.bool (awayB mode neg odd r c)) ∧ w = w' := by
  have e1 : IntKind.u64.wrap (c - r) = c - r := wrap_of _ (by omega) (by omega)
  by_cases hr : r = 0
  · subst hr
    go_enter Tryd.func50, Tryd.ntmps50
    go_wp2
    go_ret
    exact ⟨by simp [awayB], rfl⟩
  · have b1 : (r == 0) = false := by simp [hr]
    by_cases m2 : mode = 2
    · subst m2
      go_enter Tryd.func50, Tryd.ntmps50
      go_wp2
      go_ret
      exact ⟨by simp [awayB, hr], rfl⟩
    · have b2 : (mode == 2) = false := by simp [m2]
      by_cases m3 : mode = 3
      · subst m3
        go_enter Tryd.func50, Tryd.ntmps50
        go_wp2
        go_ret
        exact ⟨by simp [awayB, hr], rfl⟩
      · have b3 : (mode == 3) = false := by simp [m3]
        by_cases m4 : mode = 4
        · subst m4
          by_cases c1 : c - r < r
          · go_enter Tryd.func50, Tryd.ntmps50
            go_wp2
            go_ret
            exact ⟨by simp [awayB, hr, c1], rfl⟩
          · by_cases c2 : r = c - r
            · have b5 : (r == c - r) = true := by simpa using c2
              have HC2 := Lib.hid c2; clear c2
              go_enter Tryd.func50, Tryd.ntmps50
              go_wp2
              go_ret
              refine ⟨?_, rfl⟩
              have := HC2.out
              have hlt : decide (c - r < r) = false := by simp; omega
              simp only [awayB, hr, if_false, hlt, Bool.false_or, show (4 : Int) ≠ 2 by omega, show (4 : Int) ≠ 3 by omega, if_true, decide_eq_true this, Bool.true_and]
              rfl
            · have b5 : (r == c - r) = false := by simpa using c2
              go_enter Tryd.func50, Tryd.ntmps50
              go_wp2
              go_ret
              exact ⟨by simp [awayB, hr, c1, c2], rfl⟩
        · have b4 : (mode == 4) = false := by simp [m4]
          by_cases m5 : mode = 5
          · subst m5
            go_enter Tryd.func50, Tryd.ntmps50
            go_wp2
            go_ret
            exact ⟨by simp [awayB, hr], rfl⟩
          · have b5 : (mode == 5) = false := by simp [m5]
            go_enter Tryd.func50, Tryd.ntmps50
            go_wp2
            go_ret
            exact ⟨by simp [awayB, hr, m2, m3, m4, m5], rfl⟩

set_option maxHeartbeats 1000000 in
theorem muldiv_signed.calls (neg : Bool) (s : Int) (w : World) (h0 : 0 ≤ s) (h1 : s < 18446744073709551616) :
    Calls Tryd.prog 51 #[.bool neg, .int .u64 s] w fun e w' => e = .returned (.tuple #[.int .i64 (sgnS neg s).1, .int .i64 (sgnS neg s).2]) ∧ w = w' := by
  cases neg
  · by_cases h : 9223372036854775808 ≤ s
    · have HF := Lib.hid (show sgnS false s = (0, 4) by simp [sgnS, h])
      go_enter Tryd.func51, Tryd.ntmps51
      go_wp2
      go_ret2
      refine ⟨?_, rfl⟩
      rw [HF.out]
      first | rfl | (simp; omega)
    · have HF := Lib.hid (show sgnS false s = (s, 0) by simp [sgnS, h])
      go_enter Tryd.func51, Tryd.ntmps51
      go_wp2
      go_ret2
      refine ⟨?_, rfl⟩
      rw [HF.out]
      first | rfl | (simp; omega)
  · by_cases hs0 : s = 0
    · subst hs0
      have HF := Lib.hid (show sgnS true 0 = (0, 0) by simp [sgnS])
      go_enter Tryd.func51, Tryd.ntmps51
      go_wp2
      go_ret2
      refine ⟨?_, rfl⟩
      rw [HF.out]
      have hw : wrap64 (wrap64 (-wrap64 (IntKind.u64.wrap (-1))) - 1) = 0 := by rw [IntKind.wrap_u64]; unfold wrap64; omega
      simp [hw]
    have hs : 1 ≤ s := by omega
    clear hs0
    by_cases h : 9223372036854775808 < s
    · have HF := Lib.hid (show sgnS true s = (0, 4) by simp [sgnS, h])
      go_enter Tryd.func51, Tryd.ntmps51
      go_wp2
      go_ret2
      refine ⟨?_, rfl⟩
      rw [HF.out]
      first | rfl | (simp; omega)
    · have HF := Lib.hid (show sgnS true s = (-s, 0) by simp [sgnS, h])
      go_enter Tryd.func51, Tryd.ntmps51
      go_wp2
      go_ret2
      refine ⟨?_, rfl⟩
      rw [HF.out]
      first | rfl | (simp; omega)

end Go.Proofs.YtncbfpigojeekaaDoor
