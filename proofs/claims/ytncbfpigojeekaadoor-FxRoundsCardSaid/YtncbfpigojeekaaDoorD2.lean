/- The references' Code and Right. -/
import Derived.Test.YtncbfpigojeekaaDoorD1
namespace Go.Proofs.YtncbfpigojeekaaDoor
open Go.RowKit Go.Lib

set_option maxRecDepth 100000 in
set_option maxHeartbeats 1000000 in
theorem ref07_Code.calls (s : ByteArray) (w : World) :
    Calls Tryd.prog 26 #[.string s] w fun e w' => e = .returned (.bool (codeB s)) ∧ Below w.heap.size w w' := by
  by_cases h3 : s.size = 3
  · have hz : (s.size : Int) = 3 := by omega
    go_enter Tryd.func26, Tryd.ntmps26
    go_wp2
    go_loopg [3] 3 (fun g t wr => ∃ k : Nat, g = 3 - k ∧ k ≤ 3 ∧ t = .int .i64 k ∧ Below w.heap.size w wr ∧ Hid (∀ j (hj : j < s.size), j < k → isUp s[j] = true))
    case atStart => exact ⟨0, rfl, by omega, rfl, Below.refl _ _, Lib.hid fun j _ h => absurd h (Nat.not_lt_zero _)⟩
    case round =>
      obtain ⟨k, rfl, hk, rfl, hB, HA⟩ := hrel
      by_cases hlt : k < 3
      · have hks : k < s.size := by omega
        have hb : (k : Int) < 3 := by omega
        by_cases hu : isUp s[k] = true
        · have hu' : 65 ≤ (s[k]).toNat ∧ (s[k]).toNat ≤ 90 := by simpa [isUp] using hu
          have h1 : decide (((s[k]).toNat : Int) < 65) = false := by simp; omega
          have h2 : decide (90 < ((s[k]).toNat : Int)) = false := by simp; omega
          have HU := Lib.hid hu; clear hu hu'
          go_wp2
          go_roundg (3 - (k + 1))
          case measure => omega
          case rel =>
            refine ⟨k + 1, rfl, by omega, by go_num, hB, Lib.hid fun j hj hlt => ?_⟩
            by_cases e : j = k
            · subst e; exact HU.out
            · exact HA.out j hj (by omega)
        · have hu0 : isUp s[k] = false := by simpa using hu
          have HC := Lib.hid (codeB_bad s k hks hu0)
          have hu' : ¬ (65 ≤ (s[k]).toNat ∧ (s[k]).toNat ≤ 90) := by simpa [isUp] using hu
          clear hu hu0
          by_cases h1 : (s[k]).toNat < 65
          · have h1' : decide (((s[k]).toNat : Int) < 65) = true := by simp; omega
            clear hu'
            go_wp2
            go_ret
            exact ⟨by rw [HC.out]; rfl, hB⟩
          · have h1' : decide (((s[k]).toNat : Int) < 65) = false := by simp; omega
            have h2' : decide (90 < ((s[k]).toNat : Int)) = true := by simp; omega
            clear hu'
            go_wp2
            go_ret
            exact ⟨by rw [HC.out]; rfl, hB⟩
      · have hk3 : k = 3 := by omega
        have HC := Lib.hid (show codeB s = true by rw [codeB_all s (fun j hj => HA.out j hj (by omega)), decide_eq_true h3])
        subst hk3
        go_wp2
        go_ret
        exact ⟨by rw [HC.out]; rfl, hB⟩
  · have hz : ((s.size : Int) == 3) = false := by simp; omega
    have HC := Lib.hid (show codeB s = false by unfold codeB; rw [decide_eq_false h3, Bool.and_false])
    go_enter Tryd.func26, Tryd.ntmps26
    go_wp2
    go_ret
    exact ⟨by rw [HC.out]; rfl, Below.refl _ _⟩

theorem absI_mil (n : Int) : absI n ≤ 1000000 ↔ -1000000 ≤ n ∧ n ≤ 1000000 := by unfold absI; split <;> omega

set_option maxRecDepth 100000 in
set_option maxHeartbeats 4000000 in
theorem ref03_Right.calls (n d : Int) (w : World) (hn : inI n) (hd : inI d) :
    Calls Tryd.prog 44 #[.agg #[.int .i64 n, .int .i64 d]] w fun e w' => e = .returned (.bool (rightB n d)) ∧ Below w.heap.size w w' := by
  by_cases h1 : 1 ≤ d
  · by_cases h2 : d ≤ 1000000
    · by_cases h3 : -1000000 ≤ n
      · by_cases h4 : n ≤ 1000000
        · have ed : absI d = d := by unfold absI; rw [if_neg (by omega)]
          have HF := Lib.hid (show rightB n d = (gcdI (absI n) d == 1) by unfold rightB; rw [decide_eq_true h1, decide_eq_true h2, decide_eq_true ((absI_mil n).2 ⟨h3, h4⟩)]; simp [Bool.beq_eq_decide_eq])
          have nn := absI_nn n
          have HE := Lib.hid ed
          clear ed
          go_enter Tryd.func44, Tryd.ntmps44
          go_wp2
          go_region_held3 (fun w' => w'.cell? ⟨w.heap.size, 0, none⟩ = some (.int .i64 n) ∧ w'.cell? ⟨w.heap.size, 1, none⟩ = some (.int .i64 d)) (first | go_keep | (refine ⟨?_, ?_⟩ <;> (rw [hcc _ _ (by simp <;> omega)]; simp)))
            (first
              | (go_at_call_of 61 (Value.int IntKind.i64 n); refine (ref03_size.calls _ _ hn).mono ?_; rintro e w' ⟨rfl, rfl⟩)
              | (go_at_call_of 61 (Value.int IntKind.i64 d); refine (ref03_size.calls _ _ hd).mono ?_; rintro e w' ⟨rfl, rfl⟩)
              | (go_at_call 60; refine (ref03_divisor.calls _ _ _ nn (by rw [HE.out]; omega)).mono ?_; rintro e w2 ⟨rfl, hb2⟩; obtain ⟨hcc, hff⟩ := bcell hb2))
          go_wp2
          go_ret
          exact ⟨by rw [HF.out, HE.out]; rfl, (((Below.refl _ _).alloc (Nat.le_refl _) _).drew).trans (hb2.mono (by simp))⟩
        · have hd4 : decide (n ≤ 1000000) = false := decide_eq_false h4
          have HF := Lib.hid (show rightB n d = false by unfold rightB; rw [decide_eq_false (fun h => h4 ((absI_mil n).1 h).2)]; simp)
          go_enter Tryd.func44, Tryd.ntmps44
          go_wp2
          go_quiet (fail)
          go_wp2
          go_ret
          exact ⟨by rw [HF.out]; rfl, ((Below.refl _ _).alloc (Nat.le_refl _) _).trans ((below_drewN _ _).mono (by simp))⟩
      · have hd4 : decide (-1000000 ≤ n) = false := decide_eq_false h3
        have HF := Lib.hid (show rightB n d = false by unfold rightB; rw [decide_eq_false (fun h => h3 ((absI_mil n).1 h).1)]; simp)
        go_enter Tryd.func44, Tryd.ntmps44
        go_wp2
        go_quiet (fail)
        go_wp2
        go_ret
        exact ⟨by rw [HF.out]; rfl, ((Below.refl _ _).alloc (Nat.le_refl _) _).trans ((below_drewN _ _).mono (by simp))⟩
    · have hd4 : decide (d ≤ 1000000) = false := decide_eq_false h2
      have HF := Lib.hid (show rightB n d = false by unfold rightB; rw [decide_eq_false h2]; simp)
      go_enter Tryd.func44, Tryd.ntmps44
      go_wp2
      go_quiet (fail)
      go_wp2
      go_ret
      exact ⟨by rw [HF.out]; rfl, ((Below.refl _ _).alloc (Nat.le_refl _) _).trans ((below_drewN _ _).mono (by simp))⟩
  · have hd4 : decide (1 ≤ d) = false := decide_eq_false h1
    have HF := Lib.hid (show rightB n d = false by unfold rightB; rw [decide_eq_false h1]; simp)
    go_enter Tryd.func44, Tryd.ntmps44
    go_wp2
    go_quiet (fail)
    go_wp2
    go_ret
    exact ⟨by rw [HF.out]; rfl, ((Below.refl _ _).alloc (Nat.le_refl _) _).trans ((below_drewN _ _).mono (by simp))⟩

end Go.Proofs.YtncbfpigojeekaaDoor
