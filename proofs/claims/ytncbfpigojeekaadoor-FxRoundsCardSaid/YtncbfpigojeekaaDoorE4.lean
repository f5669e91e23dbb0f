/- The law FxInverse, the walk. -/
import Derived.Test.YtncbfpigojeekaaDoorE3
namespace Go.Proofs.YtncbfpigojeekaaDoor
open Go.RowKit Go.Lib

theorem gcdI_comm (a b : Int) : gcdI a b = gcdI b a := by unfold gcdI; rw [Nat.gcd_comm]
theorem gcdI_self (a : Int) (h : 0 ≤ a) : gcdI a a = a := by unfold gcdI; rw [Nat.gcd_self]; omega
theorem gcdI_le (a b : Int) (ha : 1 ≤ a) : gcdI a b ≤ a := by
  unfold gcdI
  have := Nat.gcd_le_left b.toNat (by omega : 0 < a.toNat)
  omega
theorem gcdI_dvd_left (a b : Int) (ha : 0 ≤ a) : gcdI a b ∣ a := by
  have h : ((Nat.gcd a.toNat b.toNat : Nat) : Int) ∣ ((a.toNat : Nat) : Int) := Int.natCast_dvd_natCast.2 (Nat.gcd_dvd_left _ _)
  rw [Int.toNat_of_nonneg ha] at h
  exact h
theorem gcdI_dvd_right (a b : Int) (hb : 0 ≤ b) : gcdI a b ∣ b := by rw [gcdI_comm]; exact gcdI_dvd_left b a hb
theorem cross_inverse {base : ByteArray} {L : List Rate} (hO : Okay base L) (frm too : ByteArray) (kind day : Int) :
    (crossS base L frm too kind day).2.2 = 0 ∧ (crossS base L too frm kind day).2.2 = 0 ∧ crossS base L frm frm kind day = (1, 1, 0) ∧ 0 < (crossS base L frm too kind day).1 ∧ 0 < (crossS base L frm too kind day).2.1 ∧
      (crossS base L frm too kind day).1 = (crossS base L too frm kind day).2.1 ∧ (crossS base L frm too kind day).2.1 = (crossS base L too frm kind day).1 ∨
    (crossS base L frm too kind day).2.2 ≠ 0 ∧ (crossS base L too frm kind day).2.2 ≠ 0 := by
  obtain ⟨fb0, _⟩ := findS_bounds hO frm kind day
  obtain ⟨gb0, _⟩ := findS_bounds hO too kind day
  unfold crossS crossG
  generalize findS base L frm kind day = f at *
  generalize findS base L too kind day = g at *
  obtain ⟨f1, f2, f3⟩ := f
  obtain ⟨g1, g2, g3⟩ := g
  simp only at *
  by_cases h1 : f3 = 0
  · by_cases h2 : g3 = 0
    · left
      obtain ⟨a0, a1, a2, a3⟩ := fb0 h1
      obtain ⟨c0, c1, c2, c3⟩ := gb0 h2
      obtain ⟨m0, m1⟩ := mul_small a0 a1 c2 c3
      obtain ⟨k0, k1⟩ := mul_small a2 a3 c0 c1
      obtain ⟨n0, n1⟩ := mul_small a0 a1 a2 a3
      have e1 : g1 * f2 = f2 * g1 := Int.mul_comm _ _
      have e2 : g2 * f1 = f1 * g2 := Int.mul_comm _ _
      have e3 : f2 * f1 = f1 * f2 := Int.mul_comm _ _
      have hg := gcdI_pos (f1 * g2) (f2 * g1) k0
      have hl := gcdI_le (f1 * g2) (f2 * g1) m0
      have hl2 := gcdI_le (f2 * g1) (f1 * g2) k0
      rw [gcdI_comm] at hl2
      simp only [h1, h2, ne_eq, not_true, if_false, e1, e2, e3, gcdI_self (f1 * f2) (by omega), gcdI_comm (f2 * g1) (f1 * g2)]
      refine ⟨trivial, trivial, ?_, ?_, ?_, trivial, trivial⟩
      · rw [Int.ediv_self (by omega)]
      · exact Int.ediv_pos_of_pos_of_dvd (by omega) (by omega) (gcdI_dvd_left _ _ (by omega))
      · exact Int.ediv_pos_of_pos_of_dvd (by omega) (by omega) (gcdI_dvd_right _ _ (by omega))
    · right; simp [h1, h2]
  · right
    by_cases h2 : g3 = 0 <;> simp [h1, h2]

end Go.Proofs.YtncbfpigojeekaaDoor
