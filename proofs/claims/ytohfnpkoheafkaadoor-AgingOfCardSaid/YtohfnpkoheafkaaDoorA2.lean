/- Contracts of the days package: Date accepts exactly the days 0 to 109572. -/
import Derived.Test.YtohfnpkoheafkaaDoorA1
namespace Go.Proofs.YtohfnpkoheafkaaDoor
open Go.RowKit

def lenL : List Int := [31, 28, 31, 30, 31, 30, 31, 31, 30, 31, 30, 31]
def DaysLaid (w : World) : Prop := ∀ i : Nat, i < 12 → w.cell? ⟨0, i, none⟩ = some (.int .i64 (lenL.getD i 0))
theorem DaysLaid.pos {w : World} (h : DaysLaid w) : 0 < w.heap.size := by
  have h0 := h 0 (by omega)
  rcases Nat.lt_or_ge 0 w.heap.size with h1 | h1
  · exact h1
  · simp [World.cell?, Array.getElem?_eq_none h1] at h0
theorem DaysLaid.below {w w' : World} (h : DaysLaid w) (hb : Below w.heap.size w w') : DaysLaid w' :=
  fun i hi => (hb.cell (p := ⟨0, i, none⟩) h.pos).trans (h i hi)

def leapB (y : Int) : Bool := decide (y % 4 = 0) && !decide (y % 100 = 0) || decide (y % 400 = 0)
def bef (y : Int) : Int := 365 * (y - 1900) + ((y - 1) / 4 - (y - 1) / 100 + (y - 1) / 400 - 460)
def lenM (y m : Int) : Int := if m = 2 then (if leapB y then 29 else 28) else lenL.getD (m - 1).toNat 0
def isDay (n : Int) : Bool := decide (0 ≤ n) && decide (n ≤ 109572)

theorem bef_succ (y : Int) (_h : 1900 ≤ y) : bef (y + 1) = bef y + 365 + (if leapB y then 1 else 0) := by
  unfold bef leapB
  by_cases h4 : y % 4 = 0 <;> by_cases h100 : y % 100 = 0 <;> by_cases h400 : y % 400 = 0 <;> simp [h4, h100, h400] <;> omega
theorem bef_mono (a b : Int) (_h0 : 1900 ≤ a) (h : a ≤ b) : bef a ≤ bef b := by unfold bef; omega
theorem bef_guess (n : Int) (h0 : 0 ≤ n) : bef (1900 + n / 366) ≤ n := by unfold bef; omega
theorem bef_bd (y : Int) (h0 : 1900 ≤ y) (h1 : y ≤ 2200) : 0 ≤ bef y ∧ bef y ≤ 109573 := by unfold bef; omega
/-- the days of a year before a month -/
def cumM (y m : Int) : Int := if m ≤ 1 then 0 else if m = 2 then 31 else (if m = 3 then 59 else if m = 4 then 90 else if m = 5 then 120 else if m = 6 then 151 else if m = 7 then 181 else if m = 8 then 212 else if m = 9 then 243 else if m = 10 then 273 else if m = 11 then 304 else if m = 12 then 334 else 365) + (if leapB y then 1 else 0)
theorem cumM_succ (y m : Int) (h1 : 1 ≤ m) (h2 : m ≤ 12) : cumM y (m + 1) = cumM y m + lenM y m := by
  have : m = 1 ∨ m = 2 ∨ m = 3 ∨ m = 4 ∨ m = 5 ∨ m = 6 ∨ m = 7 ∨ m = 8 ∨ m = 9 ∨ m = 10 ∨ m = 11 ∨ m = 12 := by omega
  rcases this with rfl | rfl | rfl | rfl | rfl | rfl | rfl | rfl | rfl | rfl | rfl | rfl <;> cases h : leapB y <;> simp [cumM, lenM, lenL, h]
theorem lenM_bd (y m : Int) (h1 : 1 ≤ m) (h2 : m ≤ 12) : 28 ≤ lenM y m ∧ lenM y m ≤ 31 := by
  have : m = 1 ∨ m = 2 ∨ m = 3 ∨ m = 4 ∨ m = 5 ∨ m = 6 ∨ m = 7 ∨ m = 8 ∨ m = 9 ∨ m = 10 ∨ m = 11 ∨ m = 12 := by omega
  rcases this with rfl | rfl | rfl | rfl | rfl | rfl | rfl | rfl | rfl | rfl | rfl | rfl <;> cases h : leapB y <;> simp [lenM, lenL, h]
theorem cumM_nn (y m : Int) : 0 ≤ cumM y m := by
  unfold cumM
  (repeat' split) <;> omega
theorem cumM_13 (y : Int) : cumM y 13 = 365 + (if leapB y then 1 else 0) := by simp [cumM]

set_option maxHeartbeats 400000 in
theorem days_is.calls (n : Int) (w : World) :
    Calls Tryd.prog 54 #[.int .i64 n] w fun e w' => e = .returned (.bool (isDay n)) ∧ w = w' := by
  by_cases h : 0 ≤ n
  all_goals
    go_enter Tryd.func54, Tryd.ntmps54
    go_wp2
    go_ret
    exact ⟨by simp [isDay, h]; try omega, rfl⟩
set_option maxHeartbeats 400000 in
theorem days_before.calls (y : Int) (w : World) (h0 : 1900 ≤ y) (h1 : y ≤ 2200) :
    Calls Tryd.prog 55 #[.int .i64 y] w fun e w' => e = .returned (.int .i64 (bef y)) ∧ w = w' := by
  go_enter Tryd.func55, Tryd.ntmps55
  go_wp2
  go_ret
  exact ⟨by show Ending.returned (.int .i64 _) = _; congr 2; unfold bef; omega, rfl⟩
set_option maxHeartbeats 400000 in
theorem days_Leap.calls (y : Int) (w : World) (h0 : 0 ≤ y) :
    Calls Tryd.prog 68 #[.int .i64 y] w fun e w' => e = .returned (.bool (leapB y)) ∧ w = w' := by
  by_cases h4 : y % 4 = 0 <;> by_cases h100 : y % 100 = 0
  all_goals
    have a1 : (y % 4 == 0) = decide (y % 4 = 0) := rfl
    have a2 : (y % 100 != 0) = !decide (y % 100 = 0) := rfl
    simp only [h4, h100] at a1 a2
    go_enter Tryd.func68, Tryd.ntmps68
    go_wp2
    go_ret
    refine ⟨?_, rfl⟩
    show Ending.returned (.bool _) = _
    congr 2
    simp [leapB, h4, h100]
    try rfl
set_option maxHeartbeats 400000 in
theorem days_Length.calls (y m : Int) (w : World) (hl : DaysLaid w) (h0 : 0 ≤ y) (h1 : 1 ≤ m) (h2 : m ≤ 12) :
    Calls Tryd.prog 56 #[.int .i64 y, .int .i64 m] w fun e w' => e = .returned (.int .i64 (lenM y m)) ∧ w = w' := by
  have b1 : m - 1 < 12 := by omega
  have b0 : 0 ≤ m - 1 := by omega
  by_cases hm : m = 2
  · subst hm
    have hc : w.cell? ⟨0, 1, none⟩ = some (.int .i64 28) := hl 1 (by omega)
    clear hl
    cases hL : leapB y
    all_goals
      have HL := Lib.hid hL; clear hL
      go_enter Tryd.func56, Tryd.ntmps56
      go_wp2_with (go_at_call 68; refine (days_Leap.calls _ _ (by omega)).mono ?_; rintro e w' ⟨rfl, rfl⟩; rw [HL.out])
      go_ret
      exact ⟨by simp [lenM, HL.out], rfl⟩
  · have hb : (m == 2) = false := by simp [hm]
    have hc : w.cell? ⟨0, m.toNat - 1, none⟩ = some (.int .i64 (lenM y m)) := by
      rw [hl _ (by omega)]
      unfold lenM
      rw [if_neg hm, show (m - 1).toNat = m.toNat - 1 by omega]
    clear hl
    go_enter Tryd.func56, Tryd.ntmps56
    go_wp2
    go_ret
    exact ⟨rfl, rfl⟩

end Go.Proofs.YtohfnpkoheafkaaDoor
