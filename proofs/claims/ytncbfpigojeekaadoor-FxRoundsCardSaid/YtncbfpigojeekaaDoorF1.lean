/- muldiv.Cmp compares two products. -/
import Derived.Test.YtncbfpigojeekaaDoorE5
namespace Go.Proofs.YtncbfpigojeekaaDoor
open Go.RowKit Go.Lib

def dirI (a b : Int) : Int := if a = 0 ∨ b = 0 then 0 else if (decide (a < 0)) = (decide (b < 0)) then 1 else -1
theorem dir_ways (a b : Int) : (dirI a b = 0 ∧ a * b = 0 ∧ absI a * absI b = 0) ∨ (dirI a b = -1 ∧ a * b < 0 ∧ absI a * absI b = -(a * b)) ∨ (dirI a b = 1 ∧ 0 < a * b ∧ absI a * absI b = a * b) := by
  unfold dirI absI
  by_cases h0 : a = 0 ∨ b = 0
  · left
    rcases h0 with rfl | rfl <;> simp
  · rw [if_neg h0]
    by_cases ha : a < 0 <;> by_cases hb : b < 0
    · right; right
      have := Int.mul_pos_of_neg_of_neg ha hb
      simp [ha, hb, this, Int.neg_mul_neg]
    · right; left
      have := Int.mul_neg_of_neg_of_pos ha (by omega : 0 < b)
      simp [ha, hb, this, Int.neg_mul]
    · right; left
      have := Int.mul_neg_of_pos_of_neg (by omega : 0 < a) hb
      simp [ha, hb, this, Int.mul_neg]
    · right; right
      have := Int.mul_pos (by omega : 0 < a) (by omega : 0 < b)
      simp [ha, hb, this]
theorem cmp_dir (a b c d : Int) :
    (dirI a b < dirI c d → cmpI (a * b) (c * d) = -1) ∧ (dirI c d < dirI a b → cmpI (a * b) (c * d) = 1) ∧
    (dirI a b = dirI c d → dirI a b < 0 → cmpI (absI c * absI d) (absI a * absI b) = cmpI (a * b) (c * d)) ∧
    (dirI a b = dirI c d → ¬ dirI a b < 0 → cmpI (absI a * absI b) (absI c * absI d) = cmpI (a * b) (c * d)) := by
  unfold cmpI
  rcases dir_ways a b with ⟨e1, e2, e3⟩ | ⟨e1, e2, e3⟩ | ⟨e1, e2, e3⟩ <;> rcases dir_ways c d with ⟨f1, f2, f3⟩ | ⟨f1, f2, f3⟩ | ⟨f1, f2, f3⟩ <;>
    (rw [e1, f1, e3, f3]; generalize a * b = P at *; generalize c * d = Q at *; refine ⟨?_, ?_, ?_, ?_⟩ <;> intros <;> (repeat' split) <;> omega)

set_option maxHeartbeats 1000000 in
theorem muldiv_direction.calls (a b : Int) (w : World) :
    Calls Tryd.prog 39 #[.int .i64 a, .int .i64 b] w fun e w' => e = .returned (.int .i64 (dirI a b)) ∧ w = w' := by
  by_cases h1 : a = 0
  · have HF := Lib.hid (show dirI a b = 0 by unfold dirI; rw [if_pos (.inl h1)])
    subst h1
    go_enter Tryd.func39, Tryd.ntmps39
    go_wp2
    go_ret
    exact ⟨by rw [HF.out]; rfl, rfl⟩
  by_cases h2 : b = 0
  · have HF := Lib.hid (show dirI a b = 0 by unfold dirI; rw [if_pos (.inr h2)])
    have n1 : (a == 0) = false := by simp [h1]
    subst h2
    go_enter Tryd.func39, Tryd.ntmps39
    go_wp2
    go_ret
    exact ⟨by rw [HF.out]; rfl, rfl⟩
  have n1 : (a == 0) = false := by simp [h1]
  have n2 : (b == 0) = false := by simp [h2]
  have HF := Lib.hid (show dirI a b = if (decide (a < 0)) = (decide (b < 0)) then 1 else -1 by unfold dirI; rw [if_neg (by simp [h1, h2])])
  clear h1 h2
  obtain ⟨x, hx⟩ : ∃ x, decide (a < 0) = x := ⟨_, rfl⟩
  obtain ⟨y, hy⟩ : ∃ y, decide (b < 0) = y := ⟨_, rfl⟩
  rw [hx, hy] at HF
  cases x <;> cases y
  all_goals
    go_enter Tryd.func39, Tryd.ntmps39
    go_wp2
    go_ret
    exact ⟨by rw [HF.out]; rfl, rfl⟩

theorem cmp_words (a b c d : Int) (h0 : 0 ≤ b) (h1 : b < 18446744073709551616) (h2 : 0 ≤ d) (h3 : d < 18446744073709551616) :
    (a < c → cmpI (a * 18446744073709551616 + b) (c * 18446744073709551616 + d) = -1) ∧ (c < a → cmpI (a * 18446744073709551616 + b) (c * 18446744073709551616 + d) = 1) ∧
    (a = c → b < d → cmpI (a * 18446744073709551616 + b) (c * 18446744073709551616 + d) = -1) ∧ (a = c → d < b → cmpI (a * 18446744073709551616 + b) (c * 18446744073709551616 + d) = 1) ∧
    (a = c → b = d → cmpI (a * 18446744073709551616 + b) (c * 18446744073709551616 + d) = 0) := by
  unfold cmpI
  refine ⟨?_, ?_, ?_, ?_, ?_⟩ <;> intros <;> (repeat' split) <;> omega

set_option maxRecDepth 100000 in
set_option maxHeartbeats 4000000 in
theorem muldiv_compare.calls (a b c d r : Int) (w : World) (h0 : 0 ≤ b) (h1 : b < 18446744073709551616) (h2 : 0 ≤ d) (h3 : d < 18446744073709551616) (hr : cmpI (a * 18446744073709551616 + b) (c * 18446744073709551616 + d) = r) :
    Calls Tryd.prog 40 #[.agg #[.int .u64 a, .int .u64 b], .agg #[.int .u64 c, .int .u64 d]] w fun e w' => e = .returned (.int .i64 r) ∧ Below w.heap.size w w' := by
  have hcw := cmp_words a b c d h0 h1 h2 h3
  rw [hr] at hcw
  have HC := Lib.hid hcw
  clear hcw hr h0 h1 h2 h3
  go_enter Tryd.func40, Tryd.ntmps40
  go_wp2
  go_loopg [6] 2 (fun g s wr => ∃ k : Nat, g = 2 - k ∧ k ≤ 2 ∧ s = .int .i64 k ∧ Below w.heap.size w wr ∧ Two wr w.heap.size (.int .u64 a) (.int .u64 b) ∧ Two wr (w.heap.size + 1) (.int .u64 c) (.int .u64 d) ∧ w.heap.size + 1 < wr.heap.size ∧ Hid ((1 ≤ k → a = c) ∧ (2 ≤ k → b = d)))
  case atStart => exact ⟨0, rfl, by omega, rfl, Ba (Bn _ _) _, (Two.new w _ _ _).below (by simp) (Bn _ _), by have := Two.new (w.alloc (.cells #[.int .u64 a, .int .u64 b] 69)) (.int .u64 c) (.int .u64 d) 69; simpa using this, by simp, Lib.hid ⟨fun h => by omega, fun h => by omega⟩⟩
  case round =>
    obtain ⟨k, rfl, hk, rfl, hbr, t1, t2, hz, HI⟩ := hrel
    obtain ⟨x0, x1, _, _⟩ := id t1
    obtain ⟨y0, y1, _, _⟩ := id t2
    have hz0 : w.heap.size < wr.heap.size := by omega
    match k, hk with
    | 0, _ =>
      have e0 : ((0 : Nat) : Int) = 0 := rfl
      rw [e0]
      clear e0
      by_cases he : a = c
      · have n1 : (a == c) = true := by simp [he]
        have HE := Lib.hid he; clear he
        go_wp2
        go_quiet (fail)
        go_wp2
        go_roundg 1
        case measure => omega
        case rel => exact ⟨1, rfl, by omega, rfl, Bt hbr (below_drewN _ _), t1.below hz0 (below_drewN _ _), t2.below hz (below_drewN _ _), by simpa using hz, Lib.hid ⟨fun _ => HE.out, fun h => by omega⟩⟩
      · have n1 : (a == c) = false := by simp [he]
        by_cases hl : a < c
        · have HF := Lib.hid (HC.out.1 hl)
          go_wp2
          go_quiet (fail)
          go_wp2
          go_quiet (fail)
          go_wp2
          go_ret
          exact ⟨by rw [HF.out]; rfl, Bt hbr (Bt (below_drewN _ _) (below_drewN _ _))⟩
        · have hlb : decide (a < c) = false := decide_eq_false hl
          have HF := Lib.hid (HC.out.2.1 (by omega))
          clear he hl
          go_wp2
          go_quiet (fail)
          go_wp2
          go_quiet (fail)
          go_wp2
          go_ret
          exact ⟨by rw [HF.out]; rfl, Bt hbr (Bt (below_drewN _ _) (below_drewN _ _))⟩
    | 1, _ =>
      have e0 : ((1 : Nat) : Int) = 1 := rfl
      rw [e0]
      clear e0
      have HA := Lib.hid (HI.out.1 (by omega))
      by_cases he : b = d
      · have n1 : (b == d) = true := by simp [he]
        have HE := Lib.hid he; clear he
        go_wp2
        go_quiet (fail)
        go_wp2
        go_roundg 0
        case measure => omega
        case rel => exact ⟨2, rfl, by omega, rfl, Bt hbr (below_drewN _ _), t1.below hz0 (below_drewN _ _), t2.below hz (below_drewN _ _), by simpa using hz, Lib.hid ⟨fun _ => HA.out, fun _ => HE.out⟩⟩
      · have n1 : (b == d) = false := by simp [he]
        by_cases hl : b < d
        · have HF := Lib.hid (HC.out.2.2.1 HA.out hl)
          go_wp2
          go_quiet (fail)
          go_wp2
          go_quiet (fail)
          go_wp2
          go_ret
          exact ⟨by rw [HF.out]; rfl, Bt hbr (Bt (below_drewN _ _) (below_drewN _ _))⟩
        · have hlb : decide (b < d) = false := decide_eq_false hl
          have HF := Lib.hid (HC.out.2.2.2.1 HA.out (by omega))
          clear he hl
          go_wp2
          go_quiet (fail)
          go_wp2
          go_quiet (fail)
          go_wp2
          go_ret
          exact ⟨by rw [HF.out]; rfl, Bt hbr (Bt (below_drewN _ _) (below_drewN _ _))⟩
    | 2, _ =>
      have e0 : ((2 : Nat) : Int) = 2 := rfl
      rw [e0]
      clear e0
      have HF := Lib.hid (HC.out.2.2.2.2 (HI.out.1 (by omega)) (HI.out.2 (by omega)))
      go_wp2
      go_ret
      exact ⟨by rw [HF.out]; rfl, hbr⟩

set_option maxRecDepth 100000 in
set_option maxHeartbeats 4000000 in
theorem muldiv_Cmp.calls (a b c d : Int) (w : World) (ha : inI a) (hb : inI b) (hc : inI c) (hd : inI d) :
    Calls Tryd.prog 22 #[.int .i64 a, .int .i64 b, .int .i64 c, .int .i64 d] w fun e w' => e = .returned (.int .i64 (cmpI (a * b) (c * d))) ∧ Below w.heap.size w w' := by
  have A0 := absI_nn a; have A1 := absI_le a ha.1 ha.2
  have B0 := absI_nn b; have B1 := absI_le b hb.1 hb.2
  have C0 := absI_nn c; have C1 := absI_le c hc.1 hc.2
  have D0 := absI_nn d; have D1 := absI_le d hd.1 hd.2
  obtain ⟨d1, d2, d3, d4⟩ := cmp_dir a b c d
  obtain ⟨r, hr⟩ : ∃ r, cmpI (a * b) (c * d) = r := ⟨_, rfl⟩
  rw [hr] at d1 d2 d3 d4 ⊢
  clear hr
  obtain ⟨p, hp⟩ : ∃ p, absI a * absI b = p := ⟨_, rfl⟩
  obtain ⟨q, hq⟩ : ∃ q, absI c * absI d = q := ⟨_, rfl⟩
  obtain ⟨ph, hph⟩ : ∃ ph, p / 18446744073709551616 = ph := ⟨_, rfl⟩
  obtain ⟨pl, hpl⟩ : ∃ pl, p % 18446744073709551616 = pl := ⟨_, rfl⟩
  obtain ⟨qh, hqh⟩ : ∃ qh, q / 18446744073709551616 = qh := ⟨_, rfl⟩
  obtain ⟨ql, hql⟩ : ∃ ql, q % 18446744073709551616 = ql := ⟨_, rfl⟩
  have ep : ph * 18446744073709551616 + pl = p := by omega
  have eq : qh * 18446744073709551616 + ql = q := by omega
  have PL := Lib.hid (show 0 ≤ pl ∧ pl < 18446744073709551616 by omega)
  have QL := Lib.hid (show 0 ≤ ql ∧ ql < 18446744073709551616 by omega)
  rw [hp, hq, ← ep, ← eq] at d3 d4
  obtain ⟨L, hL⟩ : ∃ L, dirI a b = L := ⟨_, rfl⟩
  obtain ⟨R, hR⟩ : ∃ R, dirI c d = R := ⟨_, rfl⟩
  rw [hL, hR] at d1 d2 d3 d4
  have HD := Lib.hid (And.intro d1 (And.intro d2 (And.intro d3 d4)))
  have HP := Lib.hid hp; have HQ := Lib.hid hq; have HPH := Lib.hid hph; have HPL := Lib.hid hpl; have HQH := Lib.hid hqh; have HQL := Lib.hid hql; have HL := Lib.hid hL; have HR := Lib.hid hR
  clear d1 d2 d3 d4 hp hq hph hpl hqh hql hL hR ep eq
  have HB := Lib.hid (And.intro ha (And.intro hb (And.intro hc hd)))
  clear ha hb hc hd
  go_enter Tryd.func22, Tryd.ntmps22
  go_upto_region 2 with (first
    | (go_at_call_of 38 (Value.int IntKind.i64 a); refine (muldiv_magnitude.calls a _ HB.out.1.1 HB.out.1.2).mono ?_; rintro e w' ⟨rfl, rfl⟩)
    | (go_at_call_of 38 (Value.int IntKind.i64 b); refine (muldiv_magnitude.calls b _ HB.out.2.1.1 HB.out.2.1.2).mono ?_; rintro e w' ⟨rfl, rfl⟩)
    | (go_at_call_of 38 (Value.int IntKind.i64 c); refine (muldiv_magnitude.calls c _ HB.out.2.2.1.1 HB.out.2.2.1.2).mono ?_; rintro e w' ⟨rfl, rfl⟩)
    | (go_at_call_of 38 (Value.int IntKind.i64 d); refine (muldiv_magnitude.calls d _ HB.out.2.2.2.1 HB.out.2.2.2.2).mono ?_; rintro e w' ⟨rfl, rfl⟩)
    | (go_at_call_of 37 (Value.int IntKind.u64 (absI a)); refine (muldiv_multiply.calls _ _ _ A0 (by omega) B0 (by omega)).mono ?_; rintro e w1 ⟨rfl, hb1⟩; rw [HP.out, HPH.out, HPL.out])
    | (go_at_call_of 37 (Value.int IntKind.u64 (absI c)); refine (muldiv_multiply.calls _ _ _ C0 (by omega) D0 (by omega)).mono ?_; rintro e w2 ⟨rfl, hb2⟩; rw [HQ.out, HQH.out, HQL.out]))
  have hB2 := Lib.hid (show Below w.heap.size w ((w2.alloc (.cells #[.int .u64 ph, .int .u64 pl] 69)).alloc (.cells #[.int .u64 qh, .int .u64 ql] 69)) from Ba (Ba (Bt hb1 hb2) _) _)
  by_cases h1 : L < R
  · have HF := Lib.hid (HD.out.1 h1)
    go_wp2_with (first
      | (go_at_call_of 39 (Value.int IntKind.i64 a); refine (muldiv_direction.calls a b _).mono ?_; rintro e w' ⟨rfl, rfl⟩; rw [HL.out])
      | (go_at_call_of 39 (Value.int IntKind.i64 c); refine (muldiv_direction.calls c d _).mono ?_; rintro e w' ⟨rfl, rfl⟩; rw [HR.out]))
    go_ret
    exact ⟨by rw [HF.out]; rfl, hB2.out⟩
  by_cases h2 : R < L
  · have HF := Lib.hid (HD.out.2.1 h2)
    have n1 : decide (L < R) = false := decide_eq_false h1
    clear h1
    go_wp2_with (first
      | (go_at_call_of 39 (Value.int IntKind.i64 a); refine (muldiv_direction.calls a b _).mono ?_; rintro e w' ⟨rfl, rfl⟩; rw [HL.out])
      | (go_at_call_of 39 (Value.int IntKind.i64 c); refine (muldiv_direction.calls c d _).mono ?_; rintro e w' ⟨rfl, rfl⟩; rw [HR.out]))
    go_ret
    exact ⟨by rw [HF.out]; rfl, hB2.out⟩
  have n1 : decide (L < R) = false := decide_eq_false h1
  have n2 : decide (R < L) = false := decide_eq_false h2
  have HE := Lib.hid (show L = R by omega)
  clear h1 h2
  by_cases h3 : L < 0
  · have HF := HD.out.2.2.1 HE.out h3
    go_wp2_with (first
      | (go_at_call_of 39 (Value.int IntKind.i64 a); refine (muldiv_direction.calls a b _).mono ?_; rintro e w' ⟨rfl, rfl⟩; rw [HL.out])
      | (go_at_call_of 39 (Value.int IntKind.i64 c); refine (muldiv_direction.calls c d _).mono ?_; rintro e w' ⟨rfl, rfl⟩; rw [HR.out])
      | (go_at_call 40; refine (muldiv_compare.calls _ _ _ _ r _ QL.out.1 QL.out.2 PL.out.1 PL.out.2 HF).mono ?_; rintro e w3 ⟨rfl, hb3⟩))
    go_ret
    exact ⟨rfl, Bt hB2.out hb3⟩
  · have HF := HD.out.2.2.2 HE.out (by omega)
    have n3 : decide (L < 0) = false := decide_eq_false h3
    clear h3
    go_wp2_with (first
      | (go_at_call_of 39 (Value.int IntKind.i64 a); refine (muldiv_direction.calls a b _).mono ?_; rintro e w' ⟨rfl, rfl⟩; rw [HL.out])
      | (go_at_call_of 39 (Value.int IntKind.i64 c); refine (muldiv_direction.calls c d _).mono ?_; rintro e w' ⟨rfl, rfl⟩; rw [HR.out])
      | (go_at_call 40; refine (muldiv_compare.calls _ _ _ _ r _ PL.out.1 PL.out.2 QL.out.1 QL.out.2 HF).mono ?_; rintro e w3 ⟨rfl, hb3⟩))
    go_ret
    exact ⟨rfl, Bt hB2.out hb3⟩

end Go.Proofs.YtncbfpigojeekaaDoor
