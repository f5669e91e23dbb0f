/- Converted amounts: the plain law of rounding down and up. -/
import Derived.Test.YtncbfpigojeekaaDoorF1
namespace Go.Proofs.YtncbfpigojeekaaDoor
open Go.RowKit Go.Lib

theorem mdS_pos {a n d : Int} (ha : 1 ≤ a) (hn : 1 ≤ n) (hd : 1 ≤ d) (mode : Int) (hm : 1 ≤ mode ∧ mode ≤ 5) :
    mdS a n d mode = sgnS false (a * n / d + if awayB mode false (decide (a * n / d % 2 = 1)) (a * n % d) d then 1 else 0) := by
  have h1 : 0 < a * n := Int.mul_pos (by omega) (by omega)
  have e1 : absI a = a := by unfold absI; rw [if_neg (by omega)]
  have e2 : absI n = n := by unfold absI; rw [if_neg (by omega)]
  have e3 : absI d = d := by unfold absI; rw [if_neg (by omega)]
  unfold mdS
  rw [if_neg (by omega), if_neg (by omega)]
  simp only [e1, e2, e3]
  have e4 : (decide (a * n ≠ 0) && ((decide (a < 0) != decide (n < 0)) != decide (d < 0))) = false := by
    rw [decide_eq_false (by omega : ¬ a < 0), decide_eq_false (by omega : ¬ n < 0), decide_eq_false (by omega : ¬ d < 0)]; simp
  rw [e4]
theorem sgnS_pos {s : Int} (h : (sgnS false s).2 = 0) : (sgnS false s).1 = s := by
  unfold sgnS at h ⊢
  rw [if_neg (by simp)] at h ⊢
  split at h
  · exact absurd h (by decide)
  · rename_i h1; rw [if_neg h1]
/-- Rounded down and up, a positive amount encloses the exact one. -/
theorem down_up {a n d x y : Int} (ha : 1 ≤ a) (hn : 1 ≤ n) (hd : 1 ≤ d) (h1 : mdS a n d 1 = (x, 0)) (h2 : mdS a n d 2 = (y, 0)) : x * d ≤ a * n ∧ a * n ≤ y * d ∧ x ≤ y ∧ y - x ≤ 1 ∧ 0 ≤ x := by
  rw [mdS_pos ha hn hd _ (by omega)] at h1 h2
  have x1 := sgnS_pos (s := a * n / d + if awayB 1 false (decide (a * n / d % 2 = 1)) (a * n % d) d then 1 else 0) (by rw [h1])
  have y1 := sgnS_pos (s := a * n / d + if awayB 2 false (decide (a * n / d % 2 = 1)) (a * n % d) d then 1 else 0) (by rw [h2])
  rw [h1] at x1
  rw [h2] at y1
  have a1 : awayB 1 false (decide (a * n / d % 2 = 1)) (a * n % d) d = false := by unfold awayB; split <;> simp
  have h3 : 0 < a * n := Int.mul_pos (by omega) (by omega)
  rw [a1] at x1
  generalize a * n = p at *
  have e := Int.emod_add_mul_ediv p d
  have m0 := Int.emod_nonneg p (by omega : d ≠ 0)
  have m1 := Int.emod_lt_of_pos p (by omega : 0 < d)
  have q0 : 0 ≤ p / d := Int.ediv_nonneg (by omega) (by omega)
  simp only at x1 y1
  have ex : x = p / d := by rw [x1]; simp
  have e5 : p / d * d = d * (p / d) := Int.mul_comm _ _
  by_cases h0 : p % d = 0
  · have a2 : awayB 2 false (decide (p / d % 2 = 1)) (p % d) d = false := by unfold awayB; rw [if_pos h0]
    rw [a2] at y1
    have ey : y = p / d := by rw [y1]; simp
    rw [ex, ey]
    refine ⟨by omega, by omega, by omega, by omega, by omega⟩
  · have a2 : awayB 2 false (decide (p / d % 2 = 1)) (p % d) d = true := by unfold awayB; rw [if_neg h0]; rfl
    rw [a2] at y1
    have ey : y = p / d + 1 := by rw [y1]; simp
    have e6 : (p / d + 1) * d = p / d * d + d := by rw [Int.add_mul, Int.one_mul]
    rw [ex, ey]
    refine ⟨by omega, by omega, by omega, by omega, by omega⟩
theorem mdS_one {a mode : Int} (ha : 1 ≤ a) (h : a ≤ 1000000000000000) (hm : 1 ≤ mode ∧ mode ≤ 5) : mdS a 1 1 mode = (a, 0) := by
  rw [mdS_pos ha (by omega) (by omega) _ hm]
  have e : a * 1 % 1 = 0 := Int.emod_one _
  have e2 : a * 1 / 1 = a := by rw [Int.mul_one, Int.ediv_one]
  rw [e, e2]
  have e3 : awayB mode false (decide (a % 2 = 1)) 0 1 = false := by unfold awayB; simp
  rw [e3]
  unfold sgnS
  rw [if_neg (by simp), if_neg (by simp; omega)]
  simp

/-- What the three conversions of a positive amount come to. -/
theorem rounds_ways {base : ByteArray} {L : List Rate} (hO : Okay base L) (frm too : ByteArray) (kind day amount mode : Int) (ha : 1 ≤ amount) :
    (((crossS base L frm too kind day).2.2 ≠ 0 ∨ (convS base L amount frm too kind day 1).2 ≠ 0 ∨ (convS base L amount frm too kind day 2).2 ≠ 0) ∧
      ((crossS base L frm too kind day).2.2 = (convS base L amount frm too kind day 1).2 ∨ (crossS base L frm too kind day).2.2 = 0 ∧ ((convS base L amount frm too kind day 1).2 = 4 ∨ (convS base L amount frm too kind day 2).2 = 4))) ∨
    ((crossS base L frm too kind day).2.2 = 0 ∧ (convS base L amount frm too kind day 1).2 = 0 ∧ (convS base L amount frm too kind day 2).2 = 0 ∧
      1 ≤ (crossS base L frm too kind day).1 ∧ (crossS base L frm too kind day).1 ≤ 1000000000000 ∧ 1 ≤ (crossS base L frm too kind day).2.1 ∧ (crossS base L frm too kind day).2.1 ≤ 1000000000000 ∧
      0 ≤ (convS base L amount frm too kind day 1).1 ∧ (convS base L amount frm too kind day 1).1 ≤ 1000000000000000 ∧ 0 ≤ (convS base L amount frm too kind day 2).1 ∧ (convS base L amount frm too kind day 2).1 ≤ 1000000000000000 ∧
      (convS base L amount frm too kind day 1).1 * (crossS base L frm too kind day).2.1 ≤ amount * (crossS base L frm too kind day).1 ∧
      amount * (crossS base L frm too kind day).1 ≤ (convS base L amount frm too kind day 2).1 * (crossS base L frm too kind day).2.1 ∧
      (convS base L amount frm too kind day 1).1 ≤ (convS base L amount frm too kind day 2).1 ∧ (convS base L amount frm too kind day 2).1 - (convS base L amount frm too kind day 1).1 ≤ 1 ∧
      amount ≤ 1000000000000000 ∧
      (convS base L amount frm frm kind day mode = (0, 10) ∨ convS base L amount frm frm kind day mode = (amount, 0))) := by
  have cb := cross_bounds hO frm too kind day
  have hci := cross_inverse hO frm too kind day
  have cv : ∀ m : Int, 1 ≤ m → m ≤ 5 → convS base L amount frm too kind day m = convG amount m (crossS base L frm too kind day) := fun m h1 h2 => by unfold convS; rw [if_neg (by omega)]
  rw [cv 1 (by omega) (by omega), cv 2 (by omega) (by omega)]
  have cs : (crossS base L frm too kind day).2.2 = 0 → crossS base L frm frm kind day = (1, 1, 0) ∧ 0 < (crossS base L frm too kind day).1 ∧ 0 < (crossS base L frm too kind day).2.1 := fun h => by
    rcases hci with ⟨_, _, h2, h3, h4, _⟩ | ⟨h2, _⟩
    · exact ⟨h2, h3, h4⟩
    · exact absurd h h2
  clear hci cv
  generalize crossS base L frm too kind day = c at *
  obtain ⟨n, d, e⟩ := c
  simp only at cb cs ⊢
  by_cases he : e = 0
  · subst he
    obtain ⟨_, n1, _, d1⟩ := cb rfl
    obtain ⟨hself, n0, d0⟩ := cs rfl
    clear cs cb
    cases hl : largeB amount with
    | true =>
      left
      have e1 : ∀ m, convG amount m (n, d, 0) = (0, 4) := fun m => by unfold convG; simp [hl]
      rw [e1, e1]
      simp
    | false =>
      have hamt : amount ≤ 1000000000000000 := by
        unfold largeB at hl; simp at hl; omega
      have e1 : ∀ m, convG amount m (n, d, 0) = if (mdS amount n d m).2 ≠ 0 ∨ largeB (mdS amount n d m).1 = true then (0, 4) else ((mdS amount n d m).1, 0) := fun m => by unfold convG; simp [hl]
      rw [e1, e1]
      by_cases g1 : (mdS amount n d 1).2 ≠ 0 ∨ largeB (mdS amount n d 1).1 = true
      · left; rw [if_pos g1]; simp
      · rw [if_neg g1]
        by_cases g2 : (mdS amount n d 2).2 ≠ 0 ∨ largeB (mdS amount n d 2).1 = true
        · left; rw [if_pos g2]; simp
        · rw [if_neg g2]
          right
          obtain ⟨⟨x, x2⟩, hx⟩ : ∃ p, mdS amount n d 1 = p := ⟨_, rfl⟩
          obtain ⟨⟨y, y2⟩, hy⟩ : ∃ p, mdS amount n d 2 = p := ⟨_, rfl⟩
          rw [hx] at g1 ⊢
          rw [hy] at g2 ⊢
          simp only [not_or, Decidable.not_not, Bool.not_eq_true] at g1 g2
          obtain ⟨rfl, lx⟩ := g1
          obtain ⟨rfl, ly⟩ := g2
          obtain ⟨p1, p2, p3, p4, p5⟩ := down_up ha n0 d0 hx hy
          have lx2 : x ≤ 1000000000000000 := by unfold largeB at lx; simp at lx; omega
          have ly2 : y ≤ 1000000000000000 := by unfold largeB at ly; simp at ly; omega
          refine ⟨rfl, rfl, rfl, n0, n1, d0, d1, p5, lx2, by simp only; omega, ly2, p1, p2, p3, p4, hamt, ?_⟩
          unfold convS
          rw [hself]
          by_cases hm : mode < 1 ∨ 5 < mode
          · left; rw [if_pos hm]
          · right
            rw [if_neg hm]
            unfold convG
            simp [hl, mdS_one ha hamt (show 1 ≤ mode ∧ mode ≤ 5 by omega)]
  · left
    have e1 : ∀ m, convG amount m (n, d, e) = (0, e) := fun m => by unfold convG; simp [he]
    rw [e1, e1]
    exact ⟨.inl he, .inl rfl⟩

end Go.Proofs.YtncbfpigojeekaaDoor
