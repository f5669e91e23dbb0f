/- muldiv: the division of a two-word number, bit by bit. -/
import Derived.Test.YtncbfpigojeekaaDoorB1
namespace Go.Proofs.YtncbfpigojeekaaDoor
open Go.RowKit

/-- what has been read of a word W behind the remainder R, m bits being still to come -/
def tk (R W : Int) (m : Nat) : Int := R * 2 ^ (64 - m) + W / 2 ^ m
theorem tk_start (R W : Int) (h : W < 18446744073709551616) (h0 : 0 ≤ W) : tk R W 64 = R := by
  unfold tk
  have : W / 2 ^ 64 = 0 := Int.ediv_eq_zero_of_lt h0 (by omega)
  rw [this]; simp
theorem tk_end (R W : Int) : tk R W 0 = R * 18446744073709551616 + W := by
  unfold tk; simp
theorem tk_step (R W : Int) (n : Nat) (h : n < 64) : tk R W n = 2 * tk R W (n + 1) + W / 2 ^ n % 2 := by
  unfold tk
  have e1 : (2 : Int) ^ (64 - n) = 2 * 2 ^ (64 - (n + 1)) := by
    rw [show 64 - n = (64 - (n + 1)) + 1 by omega, Int.pow_succ]; omega
  have e2 : W / 2 ^ (n + 1) = W / 2 ^ n / 2 := by
    rw [Int.pow_succ, Int.ediv_ediv_of_nonneg (Int.le_of_lt (Int.pow_pos (by omega)))]
  rw [e1, e2]
  have e3 := Int.emod_add_mul_ediv (W / 2 ^ n) 2
  generalize W / 2 ^ n = v at *
  generalize (2 : Int) ^ (64 - (n + 1)) = p at *
  have : R * (2 * p) = 2 * (R * p) := by grind
  omega
theorem tk_bound (R W c : Int) (m : Nat) (hm : m ≤ 64) (h0 : 0 ≤ R) (h1 : R < c) (hw0 : 0 ≤ W) (hw : W < 18446744073709551616) : 0 ≤ tk R W m ∧ tk R W m < c * 2 ^ (64 - m) := by
  unfold tk
  have hp : (0 : Int) < 2 ^ m := Int.pow_pos (by omega)
  have hq : (0 : Int) < 2 ^ (64 - m) := Int.pow_pos (by omega)
  have hpq : (2 : Int) ^ (64 - m) * 2 ^ m = 18446744073709551616 := by
    rw [← Int.pow_add, show 64 - m + m = 64 by omega]; rfl
  have a1 : W / 2 ^ m < 2 ^ (64 - m) := by
    apply Int.ediv_lt_of_lt_mul hp; rw [hpq]; exact hw
  have a2 : 0 ≤ W / 2 ^ m := Int.ediv_nonneg hw0 (Int.le_of_lt hp)
  have a3 : R * 2 ^ (64 - m) ≤ (c - 1) * 2 ^ (64 - m) := Int.mul_le_mul_of_nonneg_right (by omega) (Int.le_of_lt hq)
  have a4 : 0 ≤ R * 2 ^ (64 - m) := Int.mul_nonneg h0 (Int.le_of_lt hq)
  have a5 : (c - 1) * 2 ^ (64 - m) = c * 2 ^ (64 - m) - 2 ^ (64 - m) := by grind
  omega
theorem tk_quot (R W c : Int) (m : Nat) (hm : m ≤ 64) (h0 : 0 ≤ R) (h1 : R < c) (hw0 : 0 ≤ W) (hw : W < 18446744073709551616) : 0 ≤ tk R W m / c ∧ tk R W m / c < 2 ^ (64 - m) := by
  obtain ⟨a, b⟩ := tk_bound R W c m hm h0 h1 hw0 hw
  exact ⟨Int.ediv_nonneg a (by omega), Int.ediv_lt_of_lt_mul (by omega) (by rw [Int.mul_comm]; exact b)⟩
theorem div_next (t c b : Int) (_h0 : 0 ≤ t) (hc : 0 < c) (hb0 : 0 ≤ b) (hb : b < 2) :
    (c ≤ 2 * (t % c) + b → (2 * t + b) / c = 2 * (t / c) + 1 ∧ (2 * t + b) % c = 2 * (t % c) + b - c) ∧
    (2 * (t % c) + b < c → (2 * t + b) / c = 2 * (t / c) ∧ (2 * t + b) % c = 2 * (t % c) + b) := by
  have e := Int.emod_add_mul_ediv t c
  have r0 := Int.emod_nonneg t (by omega : c ≠ 0)
  have r1 := Int.emod_lt_of_pos t hc
  generalize t % c = r at *
  generalize t / c = q at *
  constructor
  · intro h
    have e1 : 2 * t + b = (2 * r + b - c) + c * (2 * q + 1) := by subst e; grind
    constructor
    · rw [e1, Int.add_mul_ediv_left _ _ (by omega), Int.ediv_eq_zero_of_lt (by omega) (by omega)]; omega
    · rw [e1, Int.add_mul_emod_self_left, Int.emod_eq_of_lt (by omega) (by omega)]
  · intro h
    have e1 : 2 * t + b = (2 * r + b) + c * (2 * q) := by subst e; grind
    constructor
    · rw [e1, Int.add_mul_ediv_left _ _ (by omega), Int.ediv_eq_zero_of_lt (by omega) (by omega)]; omega
    · rw [e1, Int.add_mul_emod_self_left, Int.emod_eq_of_lt (by omega) (by omega)]
/-- nothing but zeros is to come: the rest at once -/
theorem tk_zeros (R W c : Int) (m : Nat) (hm : m ≤ 64) (hc : 0 < c) (hr : tk R W m % c = 0) (hz : W * 2 ^ (64 - m) % 18446744073709551616 = 0) :
    tk R W 0 / c = tk R W m / c * 2 ^ m ∧ tk R W 0 % c = 0 := by
  have hp : (0 : Int) < 2 ^ m := Int.pow_pos (by omega)
  have hq : (0 : Int) < 2 ^ (64 - m) := Int.pow_pos (by omega)
  have hpq : (2 : Int) ^ m * 2 ^ (64 - m) = 18446744073709551616 := by
    rw [← Int.pow_add, show m + (64 - m) = 64 by omega]; rfl
  have hw : W % 2 ^ m = 0 := by
    rw [← hpq, Int.mul_comm W, Int.mul_comm (2 ^ m), Int.mul_emod_mul_of_pos _ _ hq] at hz
    rcases Int.mul_eq_zero.1 hz with h | h
    · omega
    · exact h
  have hW : W = W / 2 ^ m * 2 ^ m := (Int.ediv_mul_cancel (Int.dvd_of_emod_eq_zero hw)).symm
  have ht : tk R W 0 = tk R W m * 2 ^ m := by
    rw [tk_end, ← hpq]; unfold tk
    generalize W / 2 ^ m = v at *
    generalize (2 : Int) ^ m = p at *
    generalize (2 : Int) ^ (64 - m) = q at *
    subst hW; grind
  obtain ⟨u, hu⟩ := Int.dvd_of_emod_eq_zero hr
  rw [ht, hu]
  constructor
  · rw [Int.mul_assoc, Int.mul_ediv_cancel_left _ (by omega), Int.mul_ediv_cancel_left _ (by omega)]
  · rw [Int.mul_assoc, Int.mul_emod_right]

/-- one bit more: what the walk must know, in its own spelling -/
theorem bit_facts (R W c : Int) (n : Nat) (hn : n + 1 ≤ 64) (h0 : 0 ≤ R) (h1 : R < c) (hc : c ≤ 9223372036854775808) (hw0 : 0 ≤ W) (hw : W < 18446744073709551616) :
    ∃ r q b : Int, tk R W (n + 1) % c = r ∧ tk R W (n + 1) / c = q ∧ bits .and .u64 (W / 2 ^ n) 1 = b ∧ 0 ≤ b ∧ b < 2 ∧ 0 ≤ r ∧ r < c ∧ 0 ≤ q ∧ q < 9223372036854775808 ∧
      r / 9223372036854775808 = 0 ∧ IntKind.u64.wrap (r * 2) = r * 2 ∧ bits .or .u64 (r * 2) b = r * 2 + b ∧ IntKind.u64.wrap (q * 2) = q * 2 ∧ bits .or .u64 (q * 2) 1 = q * 2 + 1 ∧
      (c ≤ r * 2 + b → tk R W n / c = q * 2 + 1 ∧ tk R W n % c = r * 2 + b - c ∧ IntKind.u64.wrap (r * 2 + b - c) = r * 2 + b - c) ∧ (r * 2 + b < c → tk R W n / c = q * 2 ∧ tk R W n % c = r * 2 + b) := by
  have hcp : 0 < c := by omega
  have hb : bits .and .u64 (W / 2 ^ n) 1 = W / 2 ^ n % 2 := by
    have hp : (0 : Int) < 2 ^ n := Int.pow_pos (by omega)
    exact and1 _ (Int.ediv_nonneg hw0 (Int.le_of_lt hp)) (by have := Int.ediv_le_self (2 ^ n) hw0; omega)
  obtain ⟨t0, t1⟩ := tk_bound R W c (n + 1) hn h0 h1 hw0 hw
  obtain ⟨q0, q1⟩ := tk_quot R W c (n + 1) hn h0 h1 hw0 hw
  have r0 := Int.emod_nonneg (tk R W (n + 1)) (by omega : c ≠ 0)
  have r1 := Int.emod_lt_of_pos (tk R W (n + 1)) hcp
  have q2 : tk R W (n + 1) / c < 9223372036854775808 := by
    have e : (2 : Int) ^ (64 - (n + 1)) ≤ 2 ^ 63 := by
      obtain ⟨d, hd⟩ : ∃ d, 63 = (64 - (n + 1)) + d := ⟨n, by omega⟩
      rw [hd, Int.pow_add]
      have p1 : (0 : Int) < 2 ^ (64 - (n + 1)) := Int.pow_pos (by omega)
      have p2 : (0 : Int) < 2 ^ d := Int.pow_pos (by omega)
      have := Int.mul_le_mul_of_nonneg_left (show (1 : Int) ≤ 2 ^ d by omega) (Int.le_of_lt p1)
      omega
    have : (2 : Int) ^ 63 = 9223372036854775808 := rfl
    omega
  have st := tk_step R W n (by omega)
  have b0 : 0 ≤ W / 2 ^ n % 2 := Int.emod_nonneg _ (by omega)
  have b1 : W / 2 ^ n % 2 < 2 := Int.emod_lt_of_pos _ (by omega)
  have dn := div_next (tk R W (n + 1)) c (W / 2 ^ n % 2) t0 hcp b0 b1
  rw [← st] at dn
  refine ⟨_, _, _, rfl, rfl, hb, b0, b1, r0, r1, q0, q2, ?_, ?_, ?_, ?_, ?_, ?_, ?_⟩
  · exact Int.ediv_eq_zero_of_lt r0 (by omega)
  · exact wrap_of _ (by omega) (by omega)
  · exact or1 _ _ (by omega) (by omega) (by omega) b0 b1
  · exact wrap_of _ (by omega) (by omega)
  · exact or1 _ _ (by omega) (by omega) (by omega) (by omega) (by omega)
  · intro h
    obtain ⟨x, y⟩ := dn.1 (by omega)
    exact ⟨by omega, by omega, wrap_of _ (by omega) (by omega)⟩
  · intro h
    obtain ⟨x, y⟩ := dn.2 (by omega)
    exact ⟨by omega, by omega⟩

set_option maxRecDepth 100000 in
set_option maxHeartbeats 4000000 in
theorem muldiv_divide.calls (hi lo c : Int) (w : World) (h0 : 0 ≤ hi) (h1 : hi < 18446744073709551616) (l0 : 0 ≤ lo) (l1 : lo < 18446744073709551616) (c0 : 1 ≤ c) (c1 : c ≤ 9223372036854775808) :
    Calls Tryd.prog 49 #[.agg #[.int .u64 hi, .int .u64 lo], .int .u64 c] w fun e w' => e = .returned (.tuple #[.agg #[.int .u64 (hi / c), .int .u64 (tk (hi % c) lo 0 / c)], .int .u64 (tk (hi % c) lo 0 % c)]) ∧ Below w.heap.size w w' := by
  have i0 : ∀ W, (Instr.index 69 (.agg #[.int .u64 hi, .int .u64 lo]) (.int .i64 0)).run Tryd.prog W = .ok (.int .u64 hi) W := fun _ => by kernel_rfl
  have i1 : ∀ W, (Instr.index 69 (.agg #[.int .u64 hi, .int .u64 lo]) (.int .i64 1)).run Tryd.prog W = .ok (.int .u64 lo) W := fun _ => by kernel_rfl
  go_enter Tryd.func49, Tryd.ntmps49
  go_wp2
  go_step3
  go_wp2
  go_step3
  go_wp2
  go_loopg [5, 11] 3 (fun k r i wr => ∃ (iv : Nat) (R q0 q1 : Int), k = 3 - iv ∧ iv ≤ 2 ∧ i = .int .i64 iv ∧ r = .int .u64 R ∧
    ((iv = 0 ∧ R = 0 ∧ q0 = 0 ∧ q1 = 0) ∨ (iv = 1 ∧ R = hi % c ∧ q0 = hi / c ∧ q1 = 0) ∨ (iv = 2 ∧ R = tk (hi % c) lo 0 % c ∧ q0 = hi / c ∧ q1 = tk (hi % c) lo 0 / c)) ∧
    wr = (w.alloc (.cells #[.int .u64 hi, .int .u64 lo] 69)).alloc (.cells #[.int .u64 q0, .int .u64 q1] 69))
  case atStart => exact ⟨0, 0, 0, 0, rfl, by omega, rfl, rfl, .inl ⟨rfl, rfl, rfl, rfl⟩, rfl⟩
  case round =>
    obtain ⟨iv, R, q0, q1, hk, hi2, rfl, rfl, hst, rfl⟩ := hrel
    have hmb := Int.emod_nonneg hi (by omega : c ≠ 0)
    have hmc := Int.emod_lt_of_pos hi (by omega : 0 < c)
    rcases hst with ⟨rfl, rfl, rfl, rfl⟩ | ⟨rfl, rfl, rfl, rfl⟩ | ⟨rfl, rfl, rfl, rfl⟩
    · have TS1 := Lib.hid (show tk 0 hi 64 % c = 0 by rw [tk_start _ _ h1 h0]; simp)
      have TS2 := Lib.hid (show tk 0 hi 64 / c = 0 by rw [tk_start _ _ h1 h0]; simp)
      have TE1 := Lib.hid (show tk 0 hi 0 % c = hi % c by rw [tk_end]; simp)
      have TE2 := Lib.hid (show tk 0 hi 0 / c = hi / c by rw [tk_end]; simp)
      have RB := Lib.hid (show (0 : Int) ≤ 0 ∧ (0 : Int) < c by omega)
      go_wp2
      go_loopg [5, 8] 65 (fun k r b wr => ∃ m : Nat, k = m + 1 ∧ m ≤ 64 ∧ b = .int .i64 ((m : Int) - 1) ∧ r = .int .u64 (tk 0 hi m % c) ∧
        wr = (w.alloc (.cells #[.int .u64 hi, .int .u64 lo] 69)).alloc (.cells #[.int .u64 (tk 0 hi m / c), .int .u64 0] 69))
      case atStart => exact ⟨64, rfl, by omega, rfl, by rw [TS1.out], by rw [TS2.out]⟩
      case round =>
        obtain ⟨m, hgk, hm, rfl, rfl, rfl⟩ := hrel
        cases m with
        | zero =>
          have em : (((0 : Nat) : Int) - 1) = -1 := rfl
          rw [em]
          clear em
          go_wp2
          go_roundg (3 - 1)
          case measure => omega
          case rel => exact ⟨1, hi % c, hi / c, 0, rfl, by omega, rfl, by rw [TE1.out], .inr (.inl ⟨rfl, rfl, rfl, rfl⟩), by rw [TE2.out]⟩
        | succ n =>
          have em : ((n + 1 : Nat) : Int) - 1 = (n : Int) := by omega
          rw [em]
          clear em
          obtain ⟨r, q, b, e1, e2, e3, b0, b1, r0, r1, q0, q1, e4, e5, e6, e7, e8, dn1, dn2⟩ := bit_facts 0 hi c n hm RB.out.1 RB.out.2 c1 (by omega) (by omega)
          have TZ := Lib.hid (tk_zeros 0 hi c (n + 1) hm (by omega))
          rw [e1, e2] at TZ
          have hgr : ¬ (63 : Int) - n < 0 := by omega
          rw [e1, e2]
          have DN1 := Lib.hid dn1; have DN2 := Lib.hid dn2
          clear e1 e2 dn1 dn2
          by_cases hz : r = 0 ∧ hi * 2 ^ (63 - n) % 18446744073709551616 = 0
          · obtain ⟨hr0, hz⟩ := hz
            have TZ' := Lib.hid (TZ.out hr0 (by rw [show 64 - (n + 1) = 63 - n by omega]; exact hz))
            have hb1 : (r == 0) = true := by simp [hr0]
            have hb2 : (IntKind.u64.wrap (hi * 2 ^ (63 - n)) == 0) = true := by rw [IntKind.wrap_u64, hz]; rfl
            have HR0 := Lib.hid hr0
            clear hr0 hz
            have hqw : 0 ≤ q * 2 ^ (n + 1) ∧ q * 2 ^ (n + 1) < 18446744073709551616 := by
              rw [← TZ'.out.1]
              exact ⟨(tk_quot 0 hi c 0 (by omega) RB.out.1 RB.out.2 (by omega) (by omega)).1, by have := (tk_quot 0 hi c 0 (by omega) RB.out.1 RB.out.2 (by omega) (by omega)).2; simpa using this⟩
            have e9 : IntKind.u64.wrap (q * 2 ^ (n + 1)) = q * 2 ^ (n + 1) := wrap_of _ hqw.1 hqw.2
            clear hqw
            go_wp2
            go_roundg (3 - 1)
            case measure => omega
            case rel => exact ⟨1, hi % c, hi / c, 0, rfl, by omega, rfl, by rw [← TE1.out, TZ'.out.2, HR0.out], .inr (.inl ⟨rfl, rfl, rfl, rfl⟩), by rw [← TE2.out, TZ'.out.1]⟩
          · have hb2 : r = 0 → (IntKind.u64.wrap (hi * 2 ^ (63 - n)) == 0) = false := fun h => by rw [IntKind.wrap_u64, beq_eq_false_iff_ne]; exact fun h2 => hz ⟨h, h2⟩
            clear TZ hz
            rcases Int.lt_or_eq_of_le r0 with hr0 | hr0
            · have hb1 : (r == 0) = false := by simp; omega
              clear hb2
              by_cases hcmp : c ≤ r * 2 + b
              · have D := Lib.hid (DN1.out hcmp)
                clear DN1 DN2
                go_wp2
                go_roundg (n + 1)
                case measure => omega
                case rel => exact ⟨n, rfl, by omega, rfl, by rw [D.out.2.1], by rw [D.out.1]⟩
              · have D := Lib.hid (DN2.out (by omega))
                clear DN1 DN2
                go_wp2
                go_roundg (n + 1)
                case measure => omega
                case rel => exact ⟨n, rfl, by omega, rfl, by rw [D.out.2], by rw [D.out.1]⟩
            · have hb1 : (r == 0) = true := by simp [← hr0]
              have hb2' := hb2 hr0.symm
              clear hb2
              have HR0 := Lib.hid hr0
              clear hr0
              by_cases hcmp : c ≤ r * 2 + b
              · have D := Lib.hid (DN1.out hcmp)
                clear DN1 DN2
                go_wp2
                go_roundg (n + 1)
                case measure => omega
                case rel => exact ⟨n, rfl, by omega, rfl, by rw [D.out.2.1], by rw [D.out.1]⟩
              · have D := Lib.hid (DN2.out (by omega))
                clear DN1 DN2
                go_wp2
                go_roundg (n + 1)
                case measure => omega
                case rel => exact ⟨n, rfl, by omega, rfl, by rw [D.out.2], by rw [D.out.1]⟩
    · have TS1 := Lib.hid (show tk (hi % c) lo 64 % c = hi % c by rw [tk_start _ _ l1 l0]; exact Int.emod_eq_of_lt hmb hmc)
      have TS2 := Lib.hid (show tk (hi % c) lo 64 / c = 0 by rw [tk_start _ _ l1 l0]; exact Int.ediv_eq_zero_of_lt hmb hmc)
      have RB := Lib.hid (show (0 : Int) ≤ hi % c ∧ hi % c < c by omega)
      go_wp2
      go_loopg [5, 8] 65 (fun k r b wr => ∃ m : Nat, k = m + 1 ∧ m ≤ 64 ∧ b = .int .i64 ((m : Int) - 1) ∧ r = .int .u64 (tk (hi % c) lo m % c) ∧
        wr = (w.alloc (.cells #[.int .u64 hi, .int .u64 lo] 69)).alloc (.cells #[.int .u64 (hi / c), .int .u64 (tk (hi % c) lo m / c)] 69))
      case atStart => exact ⟨64, rfl, by omega, rfl, by rw [TS1.out], by rw [TS2.out]⟩
      case round =>
        obtain ⟨m, hgk, hm, rfl, rfl, rfl⟩ := hrel
        cases m with
        | zero =>
          have em : (((0 : Nat) : Int) - 1) = -1 := rfl
          rw [em]
          clear em
          go_wp2
          go_roundg (3 - 2)
          case measure => omega
          case rel => exact ⟨2, tk (hi % c) lo 0 % c, hi / c, tk (hi % c) lo 0 / c, rfl, by omega, rfl, rfl, .inr (.inr ⟨rfl, rfl, rfl, rfl⟩), rfl⟩
        | succ n =>
          have em : ((n + 1 : Nat) : Int) - 1 = (n : Int) := by omega
          rw [em]
          clear em
          obtain ⟨r, q, b, e1, e2, e3, b0, b1, r0, r1, q0, q1, e4, e5, e6, e7, e8, dn1, dn2⟩ := bit_facts (hi % c) lo c n hm RB.out.1 RB.out.2 c1 (by omega) (by omega)
          have TZ := Lib.hid (tk_zeros (hi % c) lo c (n + 1) hm (by omega))
          rw [e1, e2] at TZ
          have hgr : ¬ (63 : Int) - n < 0 := by omega
          rw [e1, e2]
          have DN1 := Lib.hid dn1; have DN2 := Lib.hid dn2
          clear e1 e2 dn1 dn2
          by_cases hz : r = 0 ∧ lo * 2 ^ (63 - n) % 18446744073709551616 = 0
          · obtain ⟨hr0, hz⟩ := hz
            have TZ' := Lib.hid (TZ.out hr0 (by rw [show 64 - (n + 1) = 63 - n by omega]; exact hz))
            have hb1 : (r == 0) = true := by simp [hr0]
            have hb2 : (IntKind.u64.wrap (lo * 2 ^ (63 - n)) == 0) = true := by rw [IntKind.wrap_u64, hz]; rfl
            have HR0 := Lib.hid hr0
            clear hr0 hz
            have hqw : 0 ≤ q * 2 ^ (n + 1) ∧ q * 2 ^ (n + 1) < 18446744073709551616 := by
              rw [← TZ'.out.1]
              exact ⟨(tk_quot (hi % c) lo c 0 (by omega) RB.out.1 RB.out.2 (by omega) (by omega)).1, by have := (tk_quot (hi % c) lo c 0 (by omega) RB.out.1 RB.out.2 (by omega) (by omega)).2; simpa using this⟩
            have e9 : IntKind.u64.wrap (q * 2 ^ (n + 1)) = q * 2 ^ (n + 1) := wrap_of _ hqw.1 hqw.2
            clear hqw
            go_wp2
            go_roundg (3 - 2)
            case measure => omega
            case rel => exact ⟨2, tk (hi % c) lo 0 % c, hi / c, tk (hi % c) lo 0 / c, rfl, by omega, rfl, by rw [TZ'.out.2, HR0.out], .inr (.inr ⟨rfl, rfl, rfl, rfl⟩), by rw [TZ'.out.1]⟩
          · have hb2 : r = 0 → (IntKind.u64.wrap (lo * 2 ^ (63 - n)) == 0) = false := fun h => by rw [IntKind.wrap_u64, beq_eq_false_iff_ne]; exact fun h2 => hz ⟨h, h2⟩
            clear TZ hz
            rcases Int.lt_or_eq_of_le r0 with hr0 | hr0
            · have hb1 : (r == 0) = false := by simp; omega
              clear hb2
              by_cases hcmp : c ≤ r * 2 + b
              · have D := Lib.hid (DN1.out hcmp)
                clear DN1 DN2
                go_wp2
                go_roundg (n + 1)
                case measure => omega
                case rel => exact ⟨n, rfl, by omega, rfl, by rw [D.out.2.1], by rw [D.out.1]⟩
              · have D := Lib.hid (DN2.out (by omega))
                clear DN1 DN2
                go_wp2
                go_roundg (n + 1)
                case measure => omega
                case rel => exact ⟨n, rfl, by omega, rfl, by rw [D.out.2], by rw [D.out.1]⟩
            · have hb1 : (r == 0) = true := by simp [← hr0]
              have hb2' := hb2 hr0.symm
              clear hb2
              have HR0 := Lib.hid hr0
              clear hr0
              by_cases hcmp : c ≤ r * 2 + b
              · have D := Lib.hid (DN1.out hcmp)
                clear DN1 DN2
                go_wp2
                go_roundg (n + 1)
                case measure => omega
                case rel => exact ⟨n, rfl, by omega, rfl, by rw [D.out.2.1], by rw [D.out.1]⟩
              · have D := Lib.hid (DN2.out (by omega))
                clear DN1 DN2
                go_wp2
                go_roundg (n + 1)
                case measure => omega
                case rel => exact ⟨n, rfl, by omega, rfl, by rw [D.out.2], by rw [D.out.1]⟩
    · go_wp2
      rw [Exit.noGoto_ret]
      refine bodyPost_ret (v := .tuple #[.agg #[.int .u64 (hi / c), .int .u64 (tk (hi % c) lo 0 / c)], .int .u64 (tk (hi % c) lo 0 % c)]) (by simp [results, Tryd.results49, go_sem]) rfl ⟨rfl, ((Below.refl _ _).alloc (Nat.le_refl _) _).alloc (by simp) _⟩

end Go.Proofs.YtncbfpigojeekaaDoor
