/- Small functions below the tables of rates: fractions, days, kinds, comparisons. -/
import Derived.Test.YtncbfpigojeekaaDoorB4
import Derived.Test.YtncbfpigojeekaaDoorA3
namespace Go.Proofs.YtncbfpigojeekaaDoor
open Go.RowKit

def gcdI (a b : Int) : Int := (Nat.gcd a.toNat b.toNat : Nat)
def rightB (n d : Int) : Bool := decide (1 ≤ d) && decide (d ≤ 1000000) && decide (absI n ≤ 1000000) && decide (gcdI (absI n) d = 1)
def inI (n : Int) : Prop := -9223372036854775808 ≤ n ∧ n ≤ 9223372036854775807

set_option maxHeartbeats 1000000 in
theorem frac_size.calls (a : Int) (w : World) (h : inI a) :
    Calls Tryd.prog 56 #[.int .i64 a] w fun e w' => e = .returned (.int .u64 (absI a)) ∧ w = w' := by
  obtain ⟨h0, h1⟩ := h
  by_cases h : a < 0
  all_goals
    go_enter Tryd.func56, Tryd.ntmps56
    go_wp2
    go_ret
    refine ⟨?_, rfl⟩
    show Ending.returned (.int .u64 _) = _
    congr 2
    simp only [absI, IntKind.wrap_u64, h, if_true]
    try simp only [if_false]
    omega
set_option maxHeartbeats 1000000 in
theorem ref03_size.calls (a : Int) (w : World) (h : inI a) :
    Calls Tryd.prog 61 #[.int .i64 a] w fun e w' => e = .returned (.int .u64 (absI a)) ∧ w = w' := by
  obtain ⟨h0, h1⟩ := h
  by_cases h : a < 0
  all_goals
    go_enter Tryd.func61, Tryd.ntmps61
    go_wp2
    go_ret
    refine ⟨?_, rfl⟩
    show Ending.returned (.int .u64 _) = _
    congr 2
    simp only [absI, IntKind.wrap_u64, h, if_true]
    try simp only [if_false]
    omega

theorem gcd_step (x y : Int) (_hx : 0 ≤ x) (hy : 0 < y) : gcdI y (x % y) = gcdI x y := by
  unfold gcdI
  rw [Int.toNat_emod _hx (by omega), Nat.gcd_comm y.toNat, ← Nat.gcd_rec, Nat.gcd_comm]
theorem gcd_zero (x : Int) (hx : 0 ≤ x) : gcdI x 0 = x := by unfold gcdI; simp; omega

set_option maxHeartbeats 1000000 in
theorem frac_gcd.calls (a b : Int) (w : World) (a0 : 0 ≤ a) (b0 : 0 ≤ b) :
    Calls Tryd.prog 57 #[.int .u64 a, .int .u64 b] w fun e w' => e = .returned (.int .u64 (gcdI a b)) ∧ Below w.heap.size w w' := by
  go_enter Tryd.func57, Tryd.ntmps57
  go_wp2
  go_loopw [0, 1] (fun s t wr => ∃ x y : Int, 0 ≤ x ∧ 0 ≤ y ∧ s = .int .u64 x ∧ t = .int .u64 y ∧ Hid (gcdI x y = gcdI a b) ∧ ∃ n, wr = w.drewN n) (fun _ t _ => (intOf t).toNat)
  case atStart => exact ⟨a, b, a0, b0, rfl, rfl, rfl, 0, rfl⟩
  case round =>
    obtain ⟨x, y, x0, y0, rfl, rfl, hg, n, rfl⟩ := hrel
    by_cases hy : y = 0
    · subst hy
      go_wp2
      go_ret
      exact ⟨by rw [← hg.out, gcd_zero x x0]; rfl, ⟨rfl, rfl, rfl, Nat.le_refl _, fun _ _ => rfl⟩⟩
    · have hb : (y != 0) = true := by simp [hy]
      have hlt := Int.emod_lt_of_pos x (by omega : 0 < y)
      have hge := Int.emod_nonneg x hy
      have HG := Lib.hid (gcd_step x y x0 (by omega))
      go_wp2
      go_quiet (fail)
      go_wp2
      go_roundw
      case rel => exact ⟨y, x % y, y0, hge, rfl, rfl, by show gcdI y (x % y) = _; rw [HG.out, hg.out], n + nq, by rw [World.drewN_drewN]⟩
      case measure => simp [intOf]; omega

theorem below_drewN (w : World) (n : Nat) : Below w.heap.size w (w.drewN n) := ⟨rfl, rfl, rfl, Nat.le_refl _, fun _ _ => rfl⟩

set_option maxHeartbeats 1000000 in
theorem ref03_divisor.calls (a b : Int) (w : World) (a0 : 0 ≤ a) (b0 : 0 ≤ b) :
    Calls Tryd.prog 60 #[.int .u64 a, .int .u64 b] w fun e w' => e = .returned (.int .u64 (gcdI a b)) ∧ Below w.heap.size w w' := by
  go_enter Tryd.func60, Tryd.ntmps60
  go_wp2
  go_loopw [0, 1] (fun s t wr => ∃ x y : Int, 0 ≤ x ∧ 0 ≤ y ∧ s = .int .u64 x ∧ t = .int .u64 y ∧ Hid (gcdI x y = gcdI a b) ∧ ∃ n, wr = w.drewN n) (fun _ t _ => (intOf t).toNat)
  case atStart => exact ⟨a, b, a0, b0, rfl, rfl, rfl, 0, rfl⟩
  case round =>
    obtain ⟨x, y, x0, y0, rfl, rfl, hg, n, rfl⟩ := hrel
    by_cases hy : y = 0
    · subst hy
      go_wp2
      go_ret
      exact ⟨by rw [← hg.out, gcd_zero x x0]; rfl, below_drewN _ _⟩
    · have hb : (y != 0) = true := by simp [hy]
      have hlt := Int.emod_lt_of_pos x (by omega : 0 < y)
      have hge := Int.emod_nonneg x hy
      have HG := Lib.hid (gcd_step x y x0 (by omega))
      go_wp2
      go_quiet (fail)
      go_wp2
      go_roundw
      case rel => exact ⟨y, x % y, y0, hge, rfl, rfl, by show gcdI y (x % y) = _; rw [HG.out, hg.out], n + nq, by rw [World.drewN_drewN]⟩
      case measure => simp [intOf]; omega

theorem gcdI_pos (a b : Int) (hb : 1 ≤ b) : 1 ≤ gcdI a b := by
  unfold gcdI; have : 0 < Nat.gcd a.toNat b.toNat := Nat.gcd_pos_of_pos_right _ (by omega); omega

set_option maxHeartbeats 1000000 in
theorem frac_Right.calls (n d : Int) (w : World) (hn : inI n) (hd : inI d) :
    Calls Tryd.prog 41 #[.agg #[.int .i64 n, .int .i64 d]] w fun e w' => e = .returned (.bool (rightB n d)) ∧ Below w.heap.size w w' := by
  by_cases h1 : d < 1
  · have HF := Lib.hid (show rightB n d = false by simp [rightB]; omega)
    go_enter Tryd.func41, Tryd.ntmps41
    go_wp2
    go_ret
    exact ⟨by rw [HF.out]; rfl, (Below.refl _ _).alloc (Nat.le_refl _) _⟩
  · by_cases h2 : 1000000 < d
    · have HF := Lib.hid (show rightB n d = false by simp [rightB]; omega)
      go_enter Tryd.func41, Tryd.ntmps41
      go_wp2
      go_ret
      exact ⟨by rw [HF.out]; rfl, (Below.refl _ _).alloc (Nat.le_refl _) _⟩
    · by_cases h3 : 1000000 < absI n
      · have HF := Lib.hid (show rightB n d = false by simp [rightB]; omega)
        go_enter Tryd.func41, Tryd.ntmps41
        go_wp2_with (go_at_call 56; refine (frac_size.calls _ _ hn).mono ?_; rintro e w' ⟨rfl, rfl⟩)
        go_ret
        exact ⟨by rw [HF.out]; rfl, (Below.refl _ _).alloc (Nat.le_refl _) _⟩
      · have ed : absI d = d := by unfold absI; rw [if_neg (by omega)]
        have HF := Lib.hid (show rightB n d = (gcdI (absI n) d == 1) by unfold rightB; rw [decide_eq_true (by omega : 1 ≤ d), decide_eq_true (by omega : d ≤ 1000000), decide_eq_true (by omega : absI n ≤ 1000000)]; rfl)
        have nn := absI_nn n
        have HE := Lib.hid ed
        clear ed
        go_enter Tryd.func41, Tryd.ntmps41
        go_upto_region 3 with (go_at_call 56; refine (frac_size.calls _ _ hn).mono ?_; rintro e w' ⟨rfl, rfl⟩)
        go_region_held3 (fun w' => w'.cell? ⟨w.heap.size, 0, none⟩ = some (.int .i64 n) ∧ w'.cell? ⟨w.heap.size, 1, none⟩ = some (.int .i64 d)) (first | go_keep | (refine ⟨?_, ?_⟩ <;> (rw [hcc _ _ (by simp <;> omega)]; simp)))
          (first
            | (go_at_call_of 56 (Value.int IntKind.i64 n); refine (frac_size.calls _ _ hn).mono ?_; rintro e w' ⟨rfl, rfl⟩)
            | (go_at_call_of 56 (Value.int IntKind.i64 d); refine (frac_size.calls _ _ hd).mono ?_; rintro e w' ⟨rfl, rfl⟩)
            | (go_at_call 57; refine (frac_gcd.calls _ _ _ nn (by rw [HE.out]; omega)).mono ?_; rintro e w2 ⟨rfl, hb2⟩; obtain ⟨hcc, hff⟩ := bcell hb2))
        go_wp2
        go_ret
        exact ⟨by rw [HF.out, HE.out]; rfl, (((Below.refl _ _).alloc (Nat.le_refl _) _).drew).trans (hb2.mono (by simp))⟩

set_option maxHeartbeats 1000000 in
theorem fx_known.calls (k : Int) (w : World) :
    Calls Tryd.prog 28 #[.int .i64 k] w fun e w' => e = .returned (.bool (decide (1 ≤ k) && decide (k ≤ 3))) ∧ w = w' := by
  by_cases h : 1 ≤ k
  all_goals
    go_enter Tryd.func28, Tryd.ntmps28
    go_wp2
    go_ret
    exact ⟨by simp [h]; try omega, rfl⟩
set_option maxHeartbeats 1000000 in
theorem fx_large.calls (n : Int) (w : World) :
    Calls Tryd.prog 32 #[.int .i64 n] w fun e w' => e = .returned (.bool (decide (1000000000000000 < n) || decide (n < -1000000000000000))) ∧ w = w' := by
  by_cases h : 1000000000000000 < n
  all_goals
    go_enter Tryd.func32, Tryd.ntmps32
    go_wp2
    go_ret
    exact ⟨by simp [h]; try omega, rfl⟩
set_option maxHeartbeats 1000000 in
theorem ref04_Is.calls (n : Int) (w : World) :
    Calls Tryd.prog 34 #[.int .i64 n] w fun e w' => e = .returned (.bool (isDay n)) ∧ w = w' := by
  by_cases h : 0 ≤ n
  all_goals
    go_enter Tryd.func34, Tryd.ntmps34
    go_wp2
    go_ret
    exact ⟨by simp [isDay, h]; try omega, rfl⟩
set_option maxHeartbeats 1000000 in
theorem fx_day.calls (n : Int) (w : World) (hl : DaysLaid w) :
    Calls Tryd.prog 29 #[.int .i64 n] w fun e w' => e = .returned (.bool (isDay n)) ∧ Below w.heap.size w w' := by
  cases hd : isDay n
  all_goals
    have HD := Lib.hid hd; clear hd
    have HL := Lib.hid hl; clear hl
    go_enter Tryd.func29, Tryd.ntmps29
    go_wp2_with (go_at_call 45; refine (days_Date.calls n _ HL.out).mono ?_; rintro e w1 ⟨⟨y, m, d, rfl⟩, hb1⟩; rw [HD.out])
    go_ret
    exact ⟨rfl, hb1.alloc hb1.size _⟩
set_option maxHeartbeats 1000000 in
theorem fx_divisor.calls (a b : Int) (w : World) (a0 : 0 ≤ a) (b0 : 0 ≤ b) (a1 : a ≤ 9223372036854775807) (b1 : b ≤ 9223372036854775807) :
    Calls Tryd.prog 31 #[.int .i64 a, .int .i64 b] w fun e w' => e = .returned (.int .i64 (gcdI a b)) ∧ Below w.heap.size w w' := by
  go_enter Tryd.func31, Tryd.ntmps31
  go_wp2
  go_loopw [0, 1] (fun s t wr => ∃ x y : Int, 0 ≤ x ∧ x ≤ 9223372036854775807 ∧ 0 ≤ y ∧ y ≤ 9223372036854775807 ∧ s = .int .i64 x ∧ t = .int .i64 y ∧ Hid (gcdI x y = gcdI a b) ∧ ∃ n, wr = w.drewN n) (fun _ t _ => (intOf t).toNat)
  case atStart => exact ⟨a, b, a0, a1, b0, b1, rfl, rfl, rfl, 0, rfl⟩
  case round =>
    obtain ⟨x, y, x0, x1, y0, y1, rfl, rfl, hg, n, rfl⟩ := hrel
    by_cases hy : y = 0
    · subst hy
      go_wp2
      go_ret
      exact ⟨by rw [← hg.out, gcd_zero x x0]; rfl, below_drewN _ _⟩
    · have hb : (y != 0) = true := by simp [hy]
      have hlt := Int.emod_lt_of_pos x (by omega : 0 < y)
      have hge := Int.emod_nonneg x hy
      have HG := Lib.hid (gcd_step x y x0 (by omega))
      go_wp2
      go_quiet (fail)
      go_wp2
      go_roundw
      case rel => exact ⟨y, x % y, y0, y1, hge, by omega, rfl, rfl, by show gcdI y (x % y) = _; rw [HG.out, hg.out], n + nq, by rw [World.drewN_drewN]⟩
      case measure => simp [intOf]; omega
set_option maxHeartbeats 1000000 in
theorem ref11_divisor.calls (a b : Int) (w : World) (a0 : 0 ≤ a) (b0 : 0 ≤ b) (a1 : a ≤ 9223372036854775807) (b1 : b ≤ 9223372036854775807) :
    Calls Tryd.prog 35 #[.int .i64 a, .int .i64 b] w fun e w' => e = .returned (.int .i64 (gcdI a b)) ∧ Below w.heap.size w w' := by
  go_enter Tryd.func35, Tryd.ntmps35
  go_wp2
  go_loopw [0, 1] (fun s t wr => ∃ x y : Int, 0 ≤ x ∧ x ≤ 9223372036854775807 ∧ 0 ≤ y ∧ y ≤ 9223372036854775807 ∧ s = .int .i64 x ∧ t = .int .i64 y ∧ Hid (gcdI x y = gcdI a b) ∧ ∃ n, wr = w.drewN n) (fun _ t _ => (intOf t).toNat)
  case atStart => exact ⟨a, b, a0, a1, b0, b1, rfl, rfl, rfl, 0, rfl⟩
  case round =>
    obtain ⟨x, y, x0, x1, y0, y1, rfl, rfl, hg, n, rfl⟩ := hrel
    by_cases hy : y = 0
    · subst hy
      go_wp2
      go_ret
      exact ⟨by rw [← hg.out, gcd_zero x x0]; rfl, below_drewN _ _⟩
    · have hlt := Int.emod_lt_of_pos x (by omega : 0 < y)
      have hge := Int.emod_nonneg x hy
      have HG := Lib.hid (gcd_step x y x0 (by omega))
      have hy0 : 0 < y := by omega
      clear hy
      go_wp2
      go_quiet (fail)
      go_wp2
      go_roundw
      case rel => exact ⟨y, x % y, y0, y1, hge, by omega, rfl, rfl, by show gcdI y (x % y) = _; rw [HG.out, hg.out], n + nq, by rw [World.drewN_drewN]⟩
      case measure => simp [intOf]; omega

end Go.Proofs.YtncbfpigojeekaaDoor
