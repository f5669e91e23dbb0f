/- muldiv.MulDiv, the walk. -/
import Derived.Test.YtncbfpigojeekaaDoorB3
import Derived.ChangeKeysEq
import Derived.Deep.DeepCutAuto
namespace Go.Proofs.YtncbfpigojeekaaDoor
open Go.RowKit

theorem info_u64 : (Tryd.prog.info? 67).map (·.size) = some 1 := by kernel_rfl
theorem part_u64 (cs : Array Value) (o : Nat) (v : Value) (w : World) (h1 : cs[o]? = some v) : (part 67 cs o).run Tryd.prog w = .ok v w := by
  simp [part, isAgg, run_underlying Tryd.underlying67, h1]
set_option maxHeartbeats 1000000 in
theorem eq_double (x y x' y' : Int) (w : World) : (Op.equalIn 10000 69 (.agg #[.int .u64 x, .int .u64 y]) (.agg #[.int .u64 x', .int .u64 y'])).run Tryd.prog w = .ok (x == x' && y == y') w := by
  obtain ⟨i, hi, hs⟩ := Option.map_eq_some_iff.1 info_u64
  have hc : Tryd.prog.cellsOf 67 = 1 := by simp [Program.cellsOf, hi, hs]
  rw [show (10000 : Nat) = 9998 + 1 + 1 from rfl, run_equalIn_array (w := w) (9998 + 1) _ _ Tryd.underlying69 hi, hc]
  have p0 : ∀ (a b : Int), (part 67 #[.int .u64 a, .int .u64 b] (0 * 1)).run Tryd.prog w = .ok (.int .u64 a) w := fun a b => part_u64 _ _ _ _ rfl
  have p1 : ∀ (a b : Int), (part 67 #[.int .u64 a, .int .u64 b] (1 * 1)).run Tryd.prog w = .ok (.int .u64 b) w := fun a b => part_u64 _ _ _ _ rfl
  have pe : ∀ (a b : Int), (Op.equalIn (9998 + 1) 67 (.int .u64 a) (.int .u64 b)).run Tryd.prog w = .ok (a == b) w := fun a b => run_equalIn_int w _ _ _ _ _ _ Tryd.underlying67
  have hr : List.range 2 = [0, 1] := rfl
  rw [hr]
  simp only [Op.eqItems, Sem.run_bind, p0, pe, Result.andThen_ok]
  cases h1 : (x == x')
  · simp
  · simp only [Bool.not_true, Bool.false_eq_true, if_false, Sem.run_bind, p1, pe, Result.andThen_ok]
    cases h2 : (y == y') <;> simp

/-- the quotient and the remainder of a two-word number, word by word -/
theorem md_words (p ph pl c : Int) (_h0 : 0 ≤ p) (h1 : p / 18446744073709551616 = ph) (h2 : p % 18446744073709551616 = pl) (hc : 1 ≤ c) :
    p / c = ph / c * 18446744073709551616 + tk (ph % c) pl 0 / c ∧ p % c = tk (ph % c) pl 0 % c ∧ 0 ≤ tk (ph % c) pl 0 / c ∧ tk (ph % c) pl 0 / c < 18446744073709551616 ∧ 0 ≤ tk (ph % c) pl 0 % c ∧ tk (ph % c) pl 0 % c < c ∧ 0 ≤ ph / c := by
  have hp : p = ph * 18446744073709551616 + pl := by omega
  have hm0 := Int.emod_nonneg ph (by omega : c ≠ 0)
  have hm1 := Int.emod_lt_of_pos ph (by omega : 0 < c)
  have e := Int.emod_add_mul_ediv ph c
  obtain ⟨q0, q1⟩ := tk_quot (ph % c) pl c 0 (by omega) hm0 hm1 (by omega) (by omega)
  have ht : p = tk (ph % c) pl 0 + c * (ph / c * 18446744073709551616) := by
    rw [tk_end, hp]; grind
  refine ⟨?_, ?_, q0, by simpa using q1, Int.emod_nonneg _ (by omega), Int.emod_lt_of_pos _ (by omega), Int.ediv_nonneg (by omega) (by omega)⟩
  · conv => lhs; rw [ht]
    rw [Int.add_mul_ediv_left _ _ (by omega)]; omega
  · conv => lhs; rw [ht]
    rw [Int.add_mul_emod_self_left]

set_option maxRecDepth 100000 in
set_option maxHeartbeats 4000000 in
theorem muldiv_MulDiv.calls (a b c mode : Int) (w : World) (a0 : -9223372036854775808 ≤ a) (a1 : a ≤ 9223372036854775807) (b0 : -9223372036854775808 ≤ b) (b1 : b ≤ 9223372036854775807) (c0 : -9223372036854775808 ≤ c) (c1 : c ≤ 9223372036854775807) :
    Calls Tryd.prog 33 #[.int .i64 a, .int .i64 b, .int .i64 c, .int .i64 mode] w fun e w' => e = .returned (.tuple #[.int .i64 (mdS a b c mode).1, .int .i64 (mdS a b c mode).2]) ∧ Below w.heap.size w w' := by
  by_cases hm : mode < 1 ∨ 5 < mode
  · have HF := Lib.hid (show mdS a b c mode = (0, 10) by simp [mdS, hm])
    rcases hm with hm | hm
    all_goals
      go_enter Tryd.func33, Tryd.ntmps33
      go_wp2
      go_ret2
      exact ⟨by rw [HF.out]; rfl, Below.refl _ _⟩
  · by_cases hc : c = 0
    · have HF := Lib.hid (show mdS a b c mode = (0, 2) by simp [mdS, hm, hc])
      subst hc
      go_enter Tryd.func33, Tryd.ntmps33
      go_wp2
      go_ret2
      exact ⟨by rw [HF.out]; rfl, Below.refl _ _⟩
    · have bc : (c == 0) = false := by simp [hc]
      have m1 : 1 ≤ mode := by omega
      have m2 : mode ≤ 5 := by omega
      have A0 := absI_nn a; have A1 := absI_le a a0 a1
      have B0 := absI_nn b; have B1 := absI_le b b0 b1
      have C1 := absI_le c c0 c1
      have C0 : 1 ≤ absI c := by unfold absI; split <;> omega
      have C := muldiv_divide.calls
      obtain ⟨p, hp⟩ : ∃ p, absI a * absI b = p := ⟨_, rfl⟩
      have P0 : 0 ≤ p := by rw [← hp]; exact Int.mul_nonneg A0 B0
      have P1 : p < 340282366920938463463374607431768211456 := by
        have := mul_bd (absI a) (absI b) 9223372036854775808 A0 A1 B0 B1
        omega
      obtain ⟨ph, hph⟩ : ∃ ph, p / 18446744073709551616 = ph := ⟨_, rfl⟩
      obtain ⟨pl, hpl⟩ : ∃ pl, p % 18446744073709551616 = pl := ⟨_, rfl⟩
      have PH : 0 ≤ ph ∧ ph < 18446744073709551616 := by omega
      have PL : 0 ≤ pl ∧ pl < 18446744073709551616 := by omega
      obtain ⟨N, hN⟩ : ∃ N, (decide (p ≠ 0) && ((decide (a < 0) != decide (b < 0)) != decide (c < 0))) = N := ⟨_, rfl⟩
      have hz : (ph == 0 && pl == 0) = !decide (p ≠ 0) := by
        rw [Bool.eq_iff_iff]; simp; omega
      have ne := eq_double ph pl 0 0
      have HP := Lib.hid hp; have HPH := Lib.hid hph; have HPL := Lib.hid hpl; have HC := Lib.hid PH; have HD := Lib.hid PL; have HZ := Lib.hid hz; have HN := Lib.hid hN
      clear hm hc hp hph hpl C PH PL P1 hz hN
      go_enter Tryd.func33, Tryd.ntmps33
      go_upto_region 6 with (first
        | (go_at_call_of 38 (Value.int IntKind.i64 a); refine (muldiv_magnitude.calls a _ a0 a1).mono ?_; rintro e w' ⟨rfl, rfl⟩)
        | (go_at_call_of 38 (Value.int IntKind.i64 b); refine (muldiv_magnitude.calls b _ b0 b1).mono ?_; rintro e w' ⟨rfl, rfl⟩)
        | (go_at_call 37; refine (muldiv_multiply.calls _ _ _ A0 (by omega) B0 (by omega)).mono ?_; rintro e w1 ⟨rfl, hb1⟩; rw [HP.out, HPH.out, HPL.out]))
      go_cut [11] (fun s11 wx => s11 = .bool N ∧ wx = w1.alloc (.cells #[.int .u64 ph, .int .u64 pl] 69))
      case first =>
        by_cases hzz : (ph == 0 && pl == 0) = true
        · rw [hzz] at ne
          have HZZ := Lib.hid hzz; clear hzz
          go_wp2
          go_meet
          refine ⟨?_, rfl⟩
          rw [← HN.out]
          have := HZ.out; rw [HZZ.out] at this
          have e : decide (p ≠ 0) = false := by simpa using this.symm
          rw [e]; rfl
        · rw [Bool.not_eq_true] at hzz
          rw [hzz] at ne
          have HZZ := Lib.hid hzz; clear hzz
          go_wp2
          go_meet
          refine ⟨?_, rfl⟩
          rw [← HN.out]
          have := HZ.out; rw [HZZ.out] at this
          have e : decide (p ≠ 0) = true := by simpa using this.symm
          rw [e]; rfl
      case rest =>
        obtain ⟨rfl, rfl⟩ := hcut
        go_upto_region 7 with fail
        obtain ⟨ql, hql⟩ : ∃ ql, tk (ph % absI c) pl 0 / absI c = ql := ⟨_, rfl⟩
        obtain ⟨qh, hqh⟩ : ∃ qh, ph / absI c = qh := ⟨_, rfl⟩
        obtain ⟨r, hr⟩ : ∃ r, tk (ph % absI c) pl 0 % absI c = r := ⟨_, rfl⟩
        have HQL := Lib.hid hql; have HQH := Lib.hid hqh; have HR := Lib.hid hr
        clear hql hqh hr
        go_cut [12, 13] (fun s12 s13 wx => ∃ tb : Nat, s12 = .pointer (some ⟨tb, 0, none⟩) ∧ s13 = .int .u64 r ∧ wx.cell? ⟨tb, 0, none⟩ = some (.int .u64 qh) ∧ wx.cell? ⟨tb, 1, none⟩ = some (.int .u64 ql) ∧ Below w1.heap.size w1 wx)
        case first =>
          go_region_held3 (fun w' => w'.cell? ⟨w1.heap.size, 0, none⟩ = some (.int .u64 ph) ∧ w'.cell? ⟨w1.heap.size, 1, none⟩ = some (.int .u64 pl)) (first | go_keep | (refine ⟨?_, ?_⟩ <;> (rw [hcc _ _ (by simp <;> omega)]; simp)))
            (first
              | (go_at_call 38; refine (muldiv_magnitude.calls c _ c0 c1).mono ?_; rintro e w' ⟨rfl, rfl⟩)
              | (go_at_call 49; refine (muldiv_divide.calls ph pl _ _ HC.out.1 HC.out.2 HD.out.1 HD.out.2 C0 C1).mono ?_; rintro e w2 ⟨rfl, hb2⟩; rw [HQL.out, HQH.out, HR.out]; obtain ⟨hcc, hff⟩ := bcell hb2; have hz2 := hb2.size; simp only [World.size_drew, World.size_alloc] at hz2))
          all_goals
            go_wp2
            go_meet
            refine ⟨_, rfl, rfl, ?_, ?_, ?_⟩
            · first
                | (simp; done)
                | (rw [World.cell?_setCell_other _ _ _ _ (by simp), World.cell?_setCell_same' _ _ _ (by rw [hcc _ _ (by simp <;> omega)]; simp)])
            · first
                | (simp; done)
                | (rw [World.cell?_setCell_same' _ _ _ (by rw [World.cell?_setCell_other _ _ _ _ (by simp), hcc _ _ (by simp <;> omega)]; simp)])
            · first
                | exact ((((Below.refl _ _).alloc (Nat.le_refl _) _).drew).trans (hb2.mono (by simp <;> omega))).alloc (by omega) _
                | exact ((((((Below.refl _ _).alloc (Nat.le_refl _) _).alloc (by simp <;> omega) _).drew).trans (hb2.mono (by simp <;> omega))).setCell (by simp <;> omega) _).setCell (by simp <;> omega) _
        case rest =>
          obtain ⟨tb, rfl, rfl, hc0, hc1, hb3⟩ := hcut
          have hdq := md_words p ph pl (absI c) (by omega) HPH.out HPL.out C0
          rw [HQH.out, HQL.out, HR.out] at hdq
          obtain ⟨hq, hr, ql0, ql1, r0, r1, qh0⟩ := hdq
          have HB := Lib.hid (show Below w.heap.size w wc from hb1.trans (hb3.mono hb1.size))
          have HM : ∀ x, sgnS N (qh * 18446744073709551616 + ql + if awayB mode N (decide ((qh * 18446744073709551616 + ql) % 2 = 1)) r (absI c) then 1 else 0) = x → mdS a b c mode = x := by
            intro x hx
            unfold mdS
            rw [if_neg (by omega), if_neg (by intro h; subst h; simp at bc)]
            simp only [HP.out, HN.out, hq, hr, hx]
          have HM := Lib.hid HM
          clear hq hr
          by_cases hqz : qh = 0
          · subst hqz
            rw [Int.zero_mul, Int.zero_add] at HM
            obtain ⟨od, hod⟩ : ∃ od, decide (ql % 2 = 1) = od := ⟨_, rfl⟩
            rw [hod] at HM
            have hod' : (ql % 2 == 1) = od := hod
            have hod2 := muldiv_away.calls mode N od r (absI c)
            cases hup : awayB mode N od r (absI c)
            · have HUP := Lib.hid hup; clear hup hod hod2
              rw [HUP.out] at HM
              go_wp2_with (first
                | (go_at_call 38; refine (muldiv_magnitude.calls c _ c0 c1).mono ?_; rintro e w' ⟨rfl, rfl⟩)
                | (go_at_call 50; refine (muldiv_away.calls _ _ _ _ _ _ r0 r1 C1).mono ?_; rintro e w' ⟨rfl, rfl⟩; rw [HUP.out])
                | (go_at_call 51; refine (muldiv_signed.calls _ _ _ ql0 ql1).mono ?_; rintro e w' ⟨rfl, rfl⟩))
              go_ret2
              exact ⟨by rw [HM.out _ rfl]; simp, HB.out⟩
            · have HUP := Lib.hid hup; clear hup hod hod2
              rw [HUP.out] at HM
              by_cases hov : ql = 18446744073709551615
              · have HF := Lib.hid (show sgnS N (ql + if true = true then 1 else 0) = (0, 4) by subst hov; cases N <;> simp [sgnS])
                have e1 : IntKind.u64.wrap (ql + 1) = 0 := by rw [hov, IntKind.wrap_u64]; rfl
                clear hov
                go_wp2_with (first
                  | (go_at_call 38; refine (muldiv_magnitude.calls c _ c0 c1).mono ?_; rintro e w' ⟨rfl, rfl⟩)
                  | (go_at_call 50; refine (muldiv_away.calls _ _ _ _ _ _ r0 r1 C1).mono ?_; rintro e w' ⟨rfl, rfl⟩; rw [HUP.out]))
                go_ret2
                exact ⟨by rw [HM.out _ HF.out]; rfl, HB.out⟩
              · have e1 : IntKind.u64.wrap (ql + 1) = ql + 1 := wrap_of _ (by omega) (by omega)
                have e2 : (ql + 1 == 0) = false := by simp; omega
                go_wp2_with (first
                  | (go_at_call 38; refine (muldiv_magnitude.calls c _ c0 c1).mono ?_; rintro e w' ⟨rfl, rfl⟩)
                  | (go_at_call 50; refine (muldiv_away.calls _ _ _ _ _ _ r0 r1 C1).mono ?_; rintro e w' ⟨rfl, rfl⟩; rw [HUP.out])
                  | (go_at_call 51; refine (muldiv_signed.calls _ (ql + 1) _ (by omega) (by omega)).mono ?_; rintro e w' ⟨rfl, rfl⟩))
                go_ret2
                exact ⟨by rw [HM.out _ rfl]; simp, HB.out⟩
          · have bq : (qh != 0) = true := by simp [hqz]
            have HF : sgnS N (qh * 18446744073709551616 + ql + if awayB mode N (decide ((qh * 18446744073709551616 + ql) % 2 = 1)) r (absI c) then 1 else 0) = (0, 4) := by
              generalize hU : (if awayB mode N (decide ((qh * 18446744073709551616 + ql) % 2 = 1)) r (absI c) = true then (1 : Int) else 0) = u at *
              have hu : 0 ≤ u := by rw [← hU]; split <;> omega
              cases N <;> simp only [sgnS, if_true] <;> first | rw [if_pos (by omega)] | (simp; omega)
            have HF := Lib.hid (HM.out _ HF)
            go_wp2
            go_ret2
            exact ⟨by rw [HF.out]; rfl, HB.out⟩

end Go.Proofs.YtncbfpigojeekaaDoor
