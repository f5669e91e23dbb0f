/- days.Date accepts exactly the days 0 to 109572. -/
import Derived.Test.YtohfnpkoheafkaaDoorA2
namespace Go.Proofs.YtohfnpkoheafkaaDoor
open Go.RowKit

def DateOk (n : Int) (e : Ending) : Prop := ∃ y m d : Int, e = .returned (.tuple #[.agg #[.int .i64 y, .int .i64 m, .int .i64 d], .int .i64 (if isDay n then 0 else 11)])

set_option maxRecDepth 100000 in
set_option maxHeartbeats 1000000 in
theorem days_Date.calls (n : Int) (w : World) (hl : DaysLaid w) :
    Calls Tryd.prog 30 #[.int .i64 n] w fun e w' => DateOk n e ∧ Below w.heap.size w w' := by
  by_cases hd : isDay n = true
  · have hn : 0 ≤ n ∧ n ≤ 109572 := by simpa [isDay] using hd
    have HD := Lib.hid hd; clear hd
    obtain ⟨n0, n1⟩ := hn
    have g0 := bef_guess n n0
    have HL := Lib.hid hl; clear hl
    go_enter Tryd.func30, Tryd.ntmps30
    go_wp2_with (go_at_call 54; refine (days_is.calls _ _).mono ?_; rintro e w' ⟨rfl, rfl⟩; rw [HD.out])
    go_loopg [] 400 (fun k wr => ∃ y : Int, 1900 ≤ y ∧ y ≤ 2199 ∧ 2199 - y < (k : Int) ∧ bef y ≤ n ∧ wr = w.alloc (.cells #[.int .i64 y, .int .i64 0, .int .i64 0] 67))
    case atStart => exact ⟨1900 + n / 366, by omega, by omega, by omega, g0, rfl⟩
    case round =>
      obtain ⟨y, hy1, hy2, hk, hy3, rfl⟩ := hrel
      clear g0
      have hle := fun (o : Obj) => (HL.out.below ((Below.refl w.heap.size w).alloc (Nat.le_refl _) o))
      have HLA := Lib.hid hle; clear hle
      by_cases hc : y < 2199 ∧ bef (y + 1) ≤ n
      · obtain ⟨hc, hd⟩ := hc
        go_wp2_with (go_at_call 55; refine (days_before.calls _ _ (by omega) (by omega)).mono ?_; rintro e w' ⟨rfl, rfl⟩)
        go_roundg (gk - 1)
        case rel => exact ⟨y + 1, by omega, by omega, by omega, hd, rfl⟩
        case measure => omega
      · have hz : n < bef (y + 1) := by
          by_cases e : y = 2199
          · have := bef_bd 2200 (by omega) (by omega); subst e; have : bef (2199 + 1) = 109573 := rfl; omega
          · omega
        have hb := bef_bd y hy1 (by omega)
        have hs := bef_succ y hy1
        have h13 := cumM_13 y
        have HS := Lib.hid hs; have H13 := Lib.hid h13
        clear hc hs h13
        by_cases hlt : y < 2199
        all_goals
          go_wp2_with (go_at_call 55; refine (days_before.calls _ _ (by omega) (by omega)).mono ?_; rintro e w' ⟨rfl, rfl⟩)
          go_loopg [0] 12 (fun k t wr => ∃ m : Int, 1 ≤ m ∧ m ≤ 12 ∧ 12 - m < (k : Int) ∧ 0 ≤ n - bef y - cumM y m ∧ t = .int .i64 (n - bef y - cumM y m) ∧ wr = w.alloc (.cells #[.int .i64 y, .int .i64 m, .int .i64 0] 67))
          case atStart => exact ⟨1, by omega, by omega, by omega, by simp [cumM]; omega, by simp [cumM], rfl⟩
          case round =>
            obtain ⟨m, hm1, hm2, hgk, hr, rfl, rfl⟩ := hrel
            have cs := cumM_succ y m hm1 hm2
            have lb := lenM_bd y m hm1 hm2
            have cp := cumM_nn y m
            have HCS := Lib.hid cs; clear cs
            by_cases hge : lenM y m ≤ n - bef y - cumM y m
            · have hm12 : m < 12 := by
                rcases Int.lt_or_le m 12 with h | h
                · exact h
                · exfalso
                  obtain rfl : m = 12 := by omega
                  have := HCS.out; have := HS.out; have h3 := H13.out
                  rw [show (12 : Int) + 1 = 13 from rfl] at *
                  omega
              go_wp2_with (go_at_call 56; refine (days_Length.calls _ _ _ (HLA.out _) (by omega) (by omega) (by omega)).mono ?_; rintro e w' ⟨rfl, rfl⟩)
              go_roundg (gk - 1)
              case rel => exact ⟨m + 1, by omega, by omega, by omega, by rw [HCS.out]; omega, by rw [HCS.out]; go_num, rfl⟩
              case measure => omega
            · go_wp2_with (go_at_call 56; refine (days_Length.calls _ _ _ (HLA.out _) (by omega) (by omega) (by omega)).mono ?_; rintro e w' ⟨rfl, rfl⟩)
              refine bodyPost_ret (v := .tuple #[.agg #[.int .i64 y, .int .i64 m, .int .i64 (n - bef y - cumM y m + 1)], .int .i64 0]) (by simp [results, Tryd.results30, go_sem]) rfl ⟨⟨y, m, _, by rw [HD.out]; rfl⟩, (Below.refl _ _).alloc (Nat.le_refl _) _⟩
  · have hd0 : isDay n = false := by simpa using hd
    have HD := Lib.hid hd0; clear hd hd0 hl
    go_enter Tryd.func30, Tryd.ntmps30
    go_wp2_with (go_at_call 54; refine (days_is.calls _ _).mono ?_; rintro e w' ⟨rfl, rfl⟩; rw [HD.out])
    refine bodyPost_ret (v := .tuple #[.agg #[.int .i64 0, .int .i64 0, .int .i64 0], .int .i64 11]) (by simp [results, Tryd.results30, go_sem]) rfl ⟨⟨0, 0, 0, by rw [HD.out]; rfl⟩, (Below.refl _ _).alloc (Nat.le_refl _) _⟩

end Go.Proofs.YtohfnpkoheafkaaDoor
