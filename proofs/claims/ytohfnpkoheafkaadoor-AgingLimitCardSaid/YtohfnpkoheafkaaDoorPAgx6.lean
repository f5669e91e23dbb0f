-- Printed by wip/tools/hprint.py of this claim, over the kit's print with functions of its own among them. Lean checks it.
import Derived.Test.YtohfnpkoheafkaaDoorPAgx0
import Derived.Test.YtohfnpkoheafkaaDoorPAgx2
import Derived.Test.YtohfnpkoheafkaaDoorPAgx3
namespace Go.Proofs.YtohfnpkoheafkaaDoor.PAg
open Go.RowKit Go.Proofs.YtohfnpkoheafkaaDoorW.PrintWords Go.Proofs.YtohfnpkoheafkaaDoorW.PrintLast Go.Proofs.YtohfnpkoheafkaaDoorW.PrintMore
attribute [local go_sem] max2_int min2_int max_two min_two max_three min_three max_four min_four   -- for this text's walks alone
set_option linter.unusedVariables false
set_option linter.unusedSimpArgs false

/-! ### accountinglaw27_AgingLimit: function 7 -/
mutual
def accountinglaw27_AgingLimit.j0 : Nat → List (S39) → Int → List Int → Bool → Option (Bool)
  | 0, _, _, _, _ => none
  | k + 1, x0, x1, x2, x29 => if x29 = true then ((accountinglaw27_lives.f k).bind fun t207 => (some t207)) else ((some (([] : List Int) : List Int)).bind fun y208 => (if 0 ≤ (wrap64 ((x2.length : Int) / 2)) then (if (wrap64 ((x2.length : Int) / 2)) ≤ (x2.length : Int) then (if y208.length + (x2.take ((wrap64 ((x2.length : Int) / 2)) : Int).toNat).length < 17592186044416 then ((some (y208 ++ (x2.take ((wrap64 ((x2.length : Int) / 2)) : Int).toNat) : List Int)).bind fun y212 => (if 0 ≤ (wrap64 ((wrap64 ((x2.length : Int) / 2)) + 1)) then (if (wrap64 ((wrap64 ((x2.length : Int) / 2)) + 1)) ≤ (x2.length : Int) then (if y212.length + (x2.drop ((wrap64 ((wrap64 ((x2.length : Int) / 2)) + 1)) : Int).toNat).length < 17592186044416 then ((aging_Of.f k x0 x1 x2).bind fun bt219 => ((aging_Of.f k x0 x1 (y212 ++ (x2.drop ((wrap64 ((wrap64 ((x2.length : Int) / 2)) + 1)) : Int).toNat))).bind fun bt223 => (if bt219.2 = 0 then (accountinglaw27_AgingLimit.j1 k x2 (wrap64 ((x2.length : Int) / 2)) bt219.1 bt219.2 bt223.1 (bt223.2 != 0)) else (accountinglaw27_AgingLimit.j1 k x2 (wrap64 ((x2.length : Int) / 2)) bt219.1 bt219.2 bt223.1 true)))) else (none)) else (none)) else (none))) else (none)) else (none)) else (none)))
def accountinglaw27_AgingLimit.j1 : Nat → List Int → Int → List (S37) → Int → List (S37) → Bool → Option (Bool)
  | 0, _, _, _, _, _, _ => none
  | k + 1, x2, x7, x9, x10, x11, x63 => if x63 = true then (if x10 = 0 then (if (x11.length : Int) = 0 then ((accountinglaw27_lives.f k).bind fun t227 => (some t227)) else (some false)) else ((accountinglaw27_lives.f k).bind fun t228 => (some t228))) else (if (x9.length : Int) = (x11.length : Int) then (accountinglaw27_AgingLimit.l0 k x2 x7 x9 x11 0) else (some false))
def accountinglaw27_AgingLimit.l0 : Nat → List Int → Int → List (S37) → List (S37) → Int → Option (Bool)
  | 0, _, _, _, _, _ => none
  | k + 1, x2, x7, x9, x11, x13 => if x13 < (x9.length : Int) then (if 0 ≤ x13 then (if (((rd_T37 x9 x13).f2).length : Int) = (wrap64 ((x2.length : Int) + 1)) then (if x13 < (x11.length : Int) then (accountinglaw27_AgingLimit.j3 k x2 x7 x9 x11 x13 ((((rd_T37 x11 x13).f2).length : Int) != (x2.length : Int))) else (none)) else (accountinglaw27_AgingLimit.j3 k x2 x7 x9 x11 x13 true)) else (none)) else ((accountinglaw27_lives.f k).bind fun t229 => (some t229))
def accountinglaw27_AgingLimit.j3 : Nat → List Int → Int → List (S37) → List (S37) → Int → Bool → Option (Bool)
  | 0, _, _, _, _, _, _ => none
  | k + 1, x2, x7, x9, x11, x13, x105 => if x105 = true then (some false) else (accountinglaw27_AgingLimit.l1 k x2 x7 x9 x11 x13 0)
def accountinglaw27_AgingLimit.l1 : Nat → List Int → Int → List (S37) → List (S37) → Int → Int → Option (Bool)
  | 0, _, _, _, _, _, _ => none
  | k + 1, x2, x7, x9, x11, x13, x14 => if x14 < (x2.length : Int) then (if 0 ≤ x13 then (if x13 < (x9.length : Int) then (if 0 ≤ x14 then (if x14 < (((rd_T37 x9 x13).f2).length : Int) then (if x14 = x7 then (if 0 ≤ (wrap64 (x7 + 1)) then (if (wrap64 (x7 + 1)) < (((rd_T37 x9 x13).f2).length : Int) then (accountinglaw27_AgingLimit.j5 k x2 x7 x9 x11 x13 x14 (wrap64 ((rd ((rd_T37 x9 x13).f2) x14) + (rd ((rd_T37 x9 x13).f2) (wrap64 (x7 + 1)))))) else (none)) else (none)) else (accountinglaw27_AgingLimit.j5 k x2 x7 x9 x11 x13 x14 (rd ((rd_T37 x9 x13).f2) x14))) else (none)) else (none)) else (none)) else (none)) else (accountinglaw27_AgingLimit.l0 k x2 x7 x9 x11 (wrap64 (x13 + 1)))
def accountinglaw27_AgingLimit.j5 : Nat → List Int → Int → List (S37) → List (S37) → Int → Int → Int → Option (Bool)
  | 0, _, _, _, _, _, _, _ => none
  | k + 1, x2, x7, x9, x11, x13, x14, x15 => if x14 > x7 then (if 0 ≤ x13 then (if x13 < (x9.length : Int) then (if 0 ≤ (wrap64 (x14 + 1)) then (if (wrap64 (x14 + 1)) < (((rd_T37 x9 x13).f2).length : Int) then (if x13 < (x11.length : Int) then (if 0 ≤ x14 then (if x14 < (((rd_T37 x11 x13).f2).length : Int) then (if (rd ((rd_T37 x11 x13).f2) x14) = (rd ((rd_T37 x9 x13).f2) (wrap64 (x14 + 1))) then (accountinglaw27_AgingLimit.l1 k x2 x7 x9 x11 x13 (wrap64 (x14 + 1))) else (some false)) else (none)) else (none)) else (none)) else (none)) else (none)) else (none)) else (none)) else (if 0 ≤ x13 then (if x13 < (x11.length : Int) then (if 0 ≤ x14 then (if x14 < (((rd_T37 x11 x13).f2).length : Int) then (if (rd ((rd_T37 x11 x13).f2) x14) = x15 then (accountinglaw27_AgingLimit.l1 k x2 x7 x9 x11 x13 (wrap64 (x14 + 1))) else (some false)) else (none)) else (none)) else (none)) else (none))
end
def accountinglaw27_AgingLimit.f (k : Nat) (l0 : List (S39)) (a1 : Int) (l2 : List Int) : Option (Bool) := (accountinglaw27_light.f k l0 l2).bind fun t206 => (if t206 = true then (if (l2.length : Int) < 1 then (accountinglaw27_AgingLimit.j0 k l0 a1 l2 true) else (accountinglaw27_AgingLimit.j0 k l0 a1 l2 (decide ((l2.length : Int) > 10)))) else (accountinglaw27_AgingLimit.j0 k l0 a1 l2 true))
theorem accountinglaw27_AgingLimit.mono_l : ∀ k, (∀ y0 y1 y2 y3, LeO (accountinglaw27_AgingLimit.j0 k y0 y1 y2 y3) (accountinglaw27_AgingLimit.j0 (k + 1) y0 y1 y2 y3)) ∧ (∀ y0 y1 y2 y3 y4 y5, LeO (accountinglaw27_AgingLimit.j1 k y0 y1 y2 y3 y4 y5) (accountinglaw27_AgingLimit.j1 (k + 1) y0 y1 y2 y3 y4 y5)) ∧ (∀ y0 y1 y2 y3 y4, LeO (accountinglaw27_AgingLimit.l0 k y0 y1 y2 y3 y4) (accountinglaw27_AgingLimit.l0 (k + 1) y0 y1 y2 y3 y4)) ∧ (∀ y0 y1 y2 y3 y4 y5, LeO (accountinglaw27_AgingLimit.j3 k y0 y1 y2 y3 y4 y5) (accountinglaw27_AgingLimit.j3 (k + 1) y0 y1 y2 y3 y4 y5)) ∧ (∀ y0 y1 y2 y3 y4 y5, LeO (accountinglaw27_AgingLimit.l1 k y0 y1 y2 y3 y4 y5) (accountinglaw27_AgingLimit.l1 (k + 1) y0 y1 y2 y3 y4 y5)) ∧ (∀ y0 y1 y2 y3 y4 y5 y6, LeO (accountinglaw27_AgingLimit.j5 k y0 y1 y2 y3 y4 y5 y6) (accountinglaw27_AgingLimit.j5 (k + 1) y0 y1 y2 y3 y4 y5 y6))
  | 0 => ⟨fun _ _ _ _ r h => by simp [accountinglaw27_AgingLimit.j0] at h, fun _ _ _ _ _ _ r h => by simp [accountinglaw27_AgingLimit.j1] at h, fun _ _ _ _ _ r h => by simp [accountinglaw27_AgingLimit.l0] at h, fun _ _ _ _ _ _ r h => by simp [accountinglaw27_AgingLimit.j3] at h, fun _ _ _ _ _ _ r h => by simp [accountinglaw27_AgingLimit.l1] at h, fun _ _ _ _ _ _ _ r h => by simp [accountinglaw27_AgingLimit.j5] at h⟩
  | k + 1 => by
    obtain ⟨ih0, ih1, ih2, ih3, ih4, ih5⟩ := accountinglaw27_AgingLimit.mono_l k
    refine ⟨?_, ?_, ?_, ?_, ?_, ?_⟩
    · intro y0 y1 y2 y3
      unfold accountinglaw27_AgingLimit.j0
      repeat' first
      | (with_reducible exact ih0 _ _ _ _)
      | (with_reducible exact ih1 _ _ _ _ _ _)
      | (with_reducible exact ih2 _ _ _ _ _)
      | (with_reducible exact ih3 _ _ _ _ _ _)
      | (with_reducible exact ih4 _ _ _ _ _ _)
      | (with_reducible exact ih5 _ _ _ _ _ _ _)
      | (with_reducible exact accountinglaw27_light.mono _ _ _)
      | (with_reducible exact accountinglaw27_lives.mono _)
      | (with_reducible exact aging_Of.mono _ _ _ _)
      | (with_reducible exact LeO.refl _)
      | (with_reducible exact LeO.none _)
      | (with_reducible refine LeO.ite ?_ ?_)
      | (with_reducible refine LeO.bind ?_ (fun _ => ?_))
      | exact ih0 _ _ _ _
      | exact ih1 _ _ _ _ _ _
      | exact ih2 _ _ _ _ _
      | exact ih3 _ _ _ _ _ _
      | exact ih4 _ _ _ _ _ _
      | exact ih5 _ _ _ _ _ _ _
      | exact accountinglaw27_light.mono _ _ _
      | exact accountinglaw27_lives.mono _
      | exact aging_Of.mono _ _ _ _
      | exact LeO.none _
      | refine LeO.ite ?_ ?_
      | refine LeO.bind ?_ (fun _ => ?_)
    · intro y0 y1 y2 y3 y4 y5
      unfold accountinglaw27_AgingLimit.j1
      repeat' first
      | (with_reducible exact ih0 _ _ _ _)
      | (with_reducible exact ih1 _ _ _ _ _ _)
      | (with_reducible exact ih2 _ _ _ _ _)
      | (with_reducible exact ih3 _ _ _ _ _ _)
      | (with_reducible exact ih4 _ _ _ _ _ _)
      | (with_reducible exact ih5 _ _ _ _ _ _ _)
      | (with_reducible exact accountinglaw27_light.mono _ _ _)
      | (with_reducible exact accountinglaw27_lives.mono _)
      | (with_reducible exact aging_Of.mono _ _ _ _)
      | (with_reducible exact LeO.refl _)
      | (with_reducible exact LeO.none _)
      | (with_reducible refine LeO.ite ?_ ?_)
      | (with_reducible refine LeO.bind ?_ (fun _ => ?_))
      | exact ih0 _ _ _ _
      | exact ih1 _ _ _ _ _ _
      | exact ih2 _ _ _ _ _
      | exact ih3 _ _ _ _ _ _
      | exact ih4 _ _ _ _ _ _
      | exact ih5 _ _ _ _ _ _ _
      | exact accountinglaw27_light.mono _ _ _
      | exact accountinglaw27_lives.mono _
      | exact aging_Of.mono _ _ _ _
      | exact LeO.none _
      | refine LeO.ite ?_ ?_
      | refine LeO.bind ?_ (fun _ => ?_)
    · intro y0 y1 y2 y3 y4
      unfold accountinglaw27_AgingLimit.l0
      repeat' first
      | (with_reducible exact ih0 _ _ _ _)
      | (with_reducible exact ih1 _ _ _ _ _ _)
      | (with_reducible exact ih2 _ _ _ _ _)
      | (with_reducible exact ih3 _ _ _ _ _ _)
      | (with_reducible exact ih4 _ _ _ _ _ _)
      | (with_reducible exact ih5 _ _ _ _ _ _ _)
      | (with_reducible exact accountinglaw27_light.mono _ _ _)
      | (with_reducible exact accountinglaw27_lives.mono _)
      | (with_reducible exact aging_Of.mono _ _ _ _)
      | (with_reducible exact LeO.refl _)
      | (with_reducible exact LeO.none _)
      | (with_reducible refine LeO.ite ?_ ?_)
      | (with_reducible refine LeO.bind ?_ (fun _ => ?_))
      | exact ih0 _ _ _ _
      | exact ih1 _ _ _ _ _ _
      | exact ih2 _ _ _ _ _
      | exact ih3 _ _ _ _ _ _
      | exact ih4 _ _ _ _ _ _
      | exact ih5 _ _ _ _ _ _ _
      | exact accountinglaw27_light.mono _ _ _
      | exact accountinglaw27_lives.mono _
      | exact aging_Of.mono _ _ _ _
      | exact LeO.none _
      | refine LeO.ite ?_ ?_
      | refine LeO.bind ?_ (fun _ => ?_)
    · intro y0 y1 y2 y3 y4 y5
      unfold accountinglaw27_AgingLimit.j3
      repeat' first
      | (with_reducible exact ih0 _ _ _ _)
      | (with_reducible exact ih1 _ _ _ _ _ _)
      | (with_reducible exact ih2 _ _ _ _ _)
      | (with_reducible exact ih3 _ _ _ _ _ _)
      | (with_reducible exact ih4 _ _ _ _ _ _)
      | (with_reducible exact ih5 _ _ _ _ _ _ _)
      | (with_reducible exact accountinglaw27_light.mono _ _ _)
      | (with_reducible exact accountinglaw27_lives.mono _)
      | (with_reducible exact aging_Of.mono _ _ _ _)
      | (with_reducible exact LeO.refl _)
      | (with_reducible exact LeO.none _)
      | (with_reducible refine LeO.ite ?_ ?_)
      | (with_reducible refine LeO.bind ?_ (fun _ => ?_))
      | exact ih0 _ _ _ _
      | exact ih1 _ _ _ _ _ _
      | exact ih2 _ _ _ _ _
      | exact ih3 _ _ _ _ _ _
      | exact ih4 _ _ _ _ _ _
      | exact ih5 _ _ _ _ _ _ _
      | exact accountinglaw27_light.mono _ _ _
      | exact accountinglaw27_lives.mono _
      | exact aging_Of.mono _ _ _ _
      | exact LeO.none _
      | refine LeO.ite ?_ ?_
      | refine LeO.bind ?_ (fun _ => ?_)
    · intro y0 y1 y2 y3 y4 y5
      unfold accountinglaw27_AgingLimit.l1
      repeat' first
      | (with_reducible exact ih0 _ _ _ _)
      | (with_reducible exact ih1 _ _ _ _ _ _)
      | (with_reducible exact ih2 _ _ _ _ _)
      | (with_reducible exact ih3 _ _ _ _ _ _)
      | (with_reducible exact ih4 _ _ _ _ _ _)
      | (with_reducible exact ih5 _ _ _ _ _ _ _)
      | (with_reducible exact accountinglaw27_light.mono _ _ _)
      | (with_reducible exact accountinglaw27_lives.mono _)
      | (with_reducible exact aging_Of.mono _ _ _ _)
      | (with_reducible exact LeO.refl _)
      | (with_reducible exact LeO.none _)
      | (with_reducible refine LeO.ite ?_ ?_)
      | (with_reducible refine LeO.bind ?_ (fun _ => ?_))
      | exact ih0 _ _ _ _
      | exact ih1 _ _ _ _ _ _
      | exact ih2 _ _ _ _ _
      | exact ih3 _ _ _ _ _ _
      | exact ih4 _ _ _ _ _ _
      | exact ih5 _ _ _ _ _ _ _
      | exact accountinglaw27_light.mono _ _ _
      | exact accountinglaw27_lives.mono _
      | exact aging_Of.mono _ _ _ _
      | exact LeO.none _
      | refine LeO.ite ?_ ?_
      | refine LeO.bind ?_ (fun _ => ?_)
    · intro y0 y1 y2 y3 y4 y5 y6
      unfold accountinglaw27_AgingLimit.j5
      repeat' first
      | (with_reducible exact ih0 _ _ _ _)
      | (with_reducible exact ih1 _ _ _ _ _ _)
      | (with_reducible exact ih2 _ _ _ _ _)
      | (with_reducible exact ih3 _ _ _ _ _ _)
      | (with_reducible exact ih4 _ _ _ _ _ _)
      | (with_reducible exact ih5 _ _ _ _ _ _ _)
      | (with_reducible exact accountinglaw27_light.mono _ _ _)
      | (with_reducible exact accountinglaw27_lives.mono _)
      | (with_reducible exact aging_Of.mono _ _ _ _)
      | (with_reducible exact LeO.refl _)
      | (with_reducible exact LeO.none _)
      | (with_reducible refine LeO.ite ?_ ?_)
      | (with_reducible refine LeO.bind ?_ (fun _ => ?_))
      | exact ih0 _ _ _ _
      | exact ih1 _ _ _ _ _ _
      | exact ih2 _ _ _ _ _
      | exact ih3 _ _ _ _ _ _
      | exact ih4 _ _ _ _ _ _
      | exact ih5 _ _ _ _ _ _ _
      | exact accountinglaw27_light.mono _ _ _
      | exact accountinglaw27_lives.mono _
      | exact aging_Of.mono _ _ _ _
      | exact LeO.none _
      | refine LeO.ite ?_ ?_
      | refine LeO.bind ?_ (fun _ => ?_)
theorem accountinglaw27_AgingLimit.mono : ∀ a0 a1 a2 k, LeO (accountinglaw27_AgingLimit.f k a0 a1 a2) (accountinglaw27_AgingLimit.f (k + 1) a0 a1 a2) := by
  intro a0 a1 a2 k
  obtain ⟨ih0, ih1, ih2, ih3, ih4, ih5⟩ := accountinglaw27_AgingLimit.mono_l k
  unfold accountinglaw27_AgingLimit.f
  repeat' first
      | (with_reducible exact ih0 _ _ _ _)
      | (with_reducible exact ih1 _ _ _ _ _ _)
      | (with_reducible exact ih2 _ _ _ _ _)
      | (with_reducible exact ih3 _ _ _ _ _ _)
      | (with_reducible exact ih4 _ _ _ _ _ _)
      | (with_reducible exact ih5 _ _ _ _ _ _ _)
      | (with_reducible exact accountinglaw27_light.mono _ _ _)
      | (with_reducible exact accountinglaw27_lives.mono _)
      | (with_reducible exact aging_Of.mono _ _ _ _)
      | (with_reducible exact LeO.refl _)
      | (with_reducible exact LeO.none _)
      | (with_reducible refine LeO.ite ?_ ?_)
      | (with_reducible refine LeO.bind ?_ (fun _ => ?_))
      | exact ih0 _ _ _ _
      | exact ih1 _ _ _ _ _ _
      | exact ih2 _ _ _ _ _
      | exact ih3 _ _ _ _ _ _
      | exact ih4 _ _ _ _ _ _
      | exact ih5 _ _ _ _ _ _ _
      | exact accountinglaw27_light.mono _ _ _
      | exact accountinglaw27_lives.mono _
      | exact aging_Of.mono _ _ _ _
      | exact LeO.none _
      | refine LeO.ite ?_ ?_
      | refine LeO.bind ?_ (fun _ => ?_)
def accountinglaw27_AgingLimit.T4 : Bool × List (List Nat × List Nat) := (true, [([], []), ([], []), ([], []), ([1, 2], [1, 2]), ([0, 3], [0, 3]), ([], []), ([], []), ([6], [6]), ([5, 7], [5, 7]), ([4, 8, 4], [4, 8]), ([9, 9, 0, 1, 2, 3, 4, 5, 6, 7, 8, 9], [9])])
def accountinglaw27_AgingLimit.B4 : List Nat := [0, 0, 0, 6, 15, 0, 0, 64, 224, 511, 1023]
theorem accountinglaw27_AgingLimit.tab4 : rtab .any (opsOf Tryd.f7 4) = accountinglaw27_AgingLimit.T4 := by kernel_rfl
theorem accountinglaw27_AgingLimit.bits4 : waitsOk accountinglaw27_AgingLimit.T4.2 accountinglaw27_AgingLimit.B4 = true := by kernel_rfl
set_option maxHeartbeats 8000000 in
set_option maxRecDepth 100000 in
theorem accountinglaw27_AgingLimit.calls (k : Nat) (A0 : Option Addr) (c0 : Nat) (l0 : List (S39)) (a1 : Int) (A2 : Option Addr) (c2 : Nat) (l2 : List Int) (r : Bool) (w : World) (hr0 : Kd.C k39 w A0 l0.length l0) (hc0 : l0.length ≤ c0) (hr2 : Kd.C (Kd.int .i64) w A2 l2.length l2) (hc2 : l2.length ≤ c2) (h : accountinglaw27_AgingLimit.f k l0 a1 l2 = some r) (hG_ : DaysLaid w := by first | exact hG_ | exact DaysLaid.below hG_ (by repeat (first | (with_reducible first | exact HB.out | apply below_alloc | apply pw_below_drewN | apply below_drew1 | refine below_set ?_ (Aside0.out (by assumption))) | exact HB.out))) :
    Calls Tryd.prog 7 #[.slice A0 l0.length c0, .int .i64 a1, .slice A2 l2.length c2] w fun e w' => e = .returned (.bool r) ∧ Below w.heap.size w w' := by
  have HR0 := Aside0.mk hr0
  have HC0 := Aside0.mk hc0
  clear hr0 hc0
  have HR2 := Aside0.mk hr2
  have HC2 := Aside0.mk hc2
  clear hr2 hc2
  have HB := Aside0.mk (Below.refl w.heap.size w)
  have H : ((accountinglaw27_light.f k l0 l2).bind fun t206 => (if t206 = true then (if (l2.length : Int) < 1 then (accountinglaw27_AgingLimit.j0 k l0 a1 l2 true) else (accountinglaw27_AgingLimit.j0 k l0 a1 l2 (decide ((l2.length : Int) > 10)))) else (accountinglaw27_AgingLimit.j0 k l0 a1 l2 true))) = some r := h
  clear h
  have HC4 := Aside0.mk H
  clear H
  go_enter Tryd.func7, Tryd.ntmps7
  go_upto_region 1 with (fail)
  go_cut [29] (fun v29 wc => ∃ (kq : Nat) (x29_3 : Bool), v29 = .bool x29_3 ∧ Aside0 (accountinglaw27_AgingLimit.j0 kq l0 a1 l2 x29_3 = some r) ∧ Aside0 (kq ≤ k) ∧ Aside0 (Below w.heap.size w wc))
  case first =>
    have H := HC4.out
    clear HC4
    replace H := Option.bind_eq_some_iff.mp H
    obtain ⟨t206, A50, H⟩ := H
    replace H : (if t206 = true then (if (l2.length : Int) < 1 then (accountinglaw27_AgingLimit.j0 k l0 a1 l2 true) else (accountinglaw27_AgingLimit.j0 k l0 a1 l2 (decide ((l2.length : Int) > 10)))) else (accountinglaw27_AgingLimit.j0 k l0 a1 l2 true)) = some r := H
    have A5 := Aside0.mk A50
    clear A50
    by_cases c6 : t206 = true
    · subst c6
      have H1 : (if (l2.length : Int) < 1 then (accountinglaw27_AgingLimit.j0 k l0 a1 l2 true) else (accountinglaw27_AgingLimit.j0 k l0 a1 l2 (decide ((l2.length : Int) > 10)))) = some r := by rw [if_pos rfl] at H; exact H
      clear H
      have H := H1
      clear H1
      by_cases c7 : (l2.length : Int) < 1
      · rw [if_pos c7] at H
        have c7b0 : decide ((l2.length : Int) < 1) = true := decide_eq_true c7
        have c7b1 : decide (l2.length < 1) = true := decide_eq_true (by omega)
        clear c7
        (first | rw [c7b0] | (simp only [i64_w, i32_w]; rw [c7b0]) | skip)
        have H' := Aside0.mk H
        clear H
        go_wp2_with (first | ((with_reducible refine gate_callee (f := 8) rfl ?_); refine goesL_ (some 18) rfl rfl Tryd.func8 (by kernel_rfl) rfl #[.slice A0 l0.length c0, .slice A2 l2.length c2] rfl (by (try simp only [List.map_toArray, List.map_cons, List.map_nil]); first | done | rfl | (simp only [List.length_drop, List.length_take]; rfl)) ?_; (with_reducible refine (accountinglaw27_light.calls k _ _ l0 _ _ l2 true _ ?side1 ?side2 ?side3 ?side4 A5.out).mono ?_); (case side1 => repeat (first | exact (Kd.C_below HR0.out HB.out) | (with_reducible refine Kd.C_alloc ?_ _) | (with_reducible refine Kd.C_drewN ?_ _) | (with_reducible refine Kd.C_drew ?_))); (case side2 => exact HC0.out); (case side3 => repeat (first | exact (Kd.C_below HR2.out HB.out) | (with_reducible refine Kd.C_alloc ?_ _) | (with_reducible refine Kd.C_drewN ?_ _) | (with_reducible refine Kd.C_drew ?_))); (case side4 => exact HC2.out); rintro e w' ⟨rfl, ⟨nd, rfl⟩⟩; refine ⟨_, rfl, ?_⟩))
        go_meet
        case rel => exact ⟨_, (true), (by first | rfl | (simp; done) | (simp [*]; done)), H', ⟨by first | omega | exact Nat.le_refl _⟩, ⟨by repeat (first | (with_reducible first | exact HB.out | apply below_alloc | apply pw_below_drewN | apply below_drew1) | exact HB.out)⟩⟩
      · rw [if_neg c7] at H
        have c7b0 : decide ((l2.length : Int) < 1) = false := decide_eq_false c7
        have c7b1 : decide (l2.length < 1) = false := decide_eq_false (by omega)
        clear c7
        (first | rw [c7b0] | (simp only [i64_w, i32_w]; rw [c7b0]) | skip)
        have H' := Aside0.mk H
        clear H
        go_wp2_with (first | ((with_reducible refine gate_callee (f := 8) rfl ?_); refine goesL_ (some 18) rfl rfl Tryd.func8 (by kernel_rfl) rfl #[.slice A0 l0.length c0, .slice A2 l2.length c2] rfl (by (try simp only [List.map_toArray, List.map_cons, List.map_nil]); first | done | rfl | (simp only [List.length_drop, List.length_take]; rfl)) ?_; (with_reducible refine (accountinglaw27_light.calls k _ _ l0 _ _ l2 true _ ?side1 ?side2 ?side3 ?side4 A5.out).mono ?_); (case side1 => repeat (first | exact (Kd.C_below HR0.out HB.out) | (with_reducible refine Kd.C_alloc ?_ _) | (with_reducible refine Kd.C_drewN ?_ _) | (with_reducible refine Kd.C_drew ?_))); (case side2 => exact HC0.out); (case side3 => repeat (first | exact (Kd.C_below HR2.out HB.out) | (with_reducible refine Kd.C_alloc ?_ _) | (with_reducible refine Kd.C_drewN ?_ _) | (with_reducible refine Kd.C_drew ?_))); (case side4 => exact HC2.out); rintro e w' ⟨rfl, ⟨nd, rfl⟩⟩; refine ⟨_, rfl, ?_⟩))
        go_meet
        case rel => exact ⟨_, (decide ((l2.length : Int) > 10)), (by first | rfl | (simp; done) | (simp [*]; done)), H', ⟨by first | omega | exact Nat.le_refl _⟩, ⟨by repeat (first | (with_reducible first | exact HB.out | apply below_alloc | apply pw_below_drewN | apply below_drew1) | exact HB.out)⟩⟩
    · replace c6 := Bool.eq_false_iff.mpr c6
      subst c6
      have H1 : (accountinglaw27_AgingLimit.j0 k l0 a1 l2 true) = some r := by rw [if_neg (show ¬ (false = true) by decide)] at H; exact H
      clear H
      have H := H1
      clear H1
      have H' := Aside0.mk H
      clear H
      go_wp2_with (first | ((with_reducible refine gate_callee (f := 8) rfl ?_); refine goesL_ (some 18) rfl rfl Tryd.func8 (by kernel_rfl) rfl #[.slice A0 l0.length c0, .slice A2 l2.length c2] rfl (by (try simp only [List.map_toArray, List.map_cons, List.map_nil]); first | done | rfl | (simp only [List.length_drop, List.length_take]; rfl)) ?_; (with_reducible refine (accountinglaw27_light.calls k _ _ l0 _ _ l2 false _ ?side1 ?side2 ?side3 ?side4 A5.out).mono ?_); (case side1 => repeat (first | exact (Kd.C_below HR0.out HB.out) | (with_reducible refine Kd.C_alloc ?_ _) | (with_reducible refine Kd.C_drewN ?_ _) | (with_reducible refine Kd.C_drew ?_))); (case side2 => exact HC0.out); (case side3 => repeat (first | exact (Kd.C_below HR2.out HB.out) | (with_reducible refine Kd.C_alloc ?_ _) | (with_reducible refine Kd.C_drewN ?_ _) | (with_reducible refine Kd.C_drew ?_))); (case side4 => exact HC2.out); rintro e w' ⟨rfl, ⟨nd, rfl⟩⟩; refine ⟨_, rfl, ?_⟩))
      go_meet
      case rel => exact ⟨_, (true), (by first | rfl | (simp; done) | (simp [*]; done)), H', ⟨by first | omega | exact Nat.le_refl _⟩, ⟨by repeat (first | (with_reducible first | exact HB.out | apply below_alloc | apply pw_below_drewN | apply below_drew1) | exact HB.out)⟩⟩
  case rest =>
    clear HC4
    try clear c2
    try clear p2
    try clear c6
    try clear c7
    try clear c7b0
    try clear c7b1
    obtain ⟨kq, x29_3, rfl, HA, HJ3, HB⟩ := hcut
    cases kq with
    | zero => exact absurd HA.out (by simp [accountinglaw27_AgingLimit.j0])
    | succ kj3 =>
      have H := HA.out
      clear HA
      simp only [accountinglaw27_AgingLimit.j0] at H
      by_cases c8 : x29_3 = true
      · subst c8
        have H1 : ((accountinglaw27_lives.f kj3).bind fun t207 => (some t207)) = some r := by rw [if_pos rfl] at H; exact H
        clear H
        have H := H1
        clear H1
        replace H := Option.bind_eq_some_iff.mp H
        obtain ⟨t207, A90, H⟩ := H
        replace H : (some t207) = some r := H
        have A9 := Aside0.mk A90
        clear A90
        obtain rfl := Option.some.inj H
        go_wp2_with (first | ((with_reducible refine gate_callee (f := 9) rfl ?_); refine goesL_ (some 30) rfl rfl Tryd.func9 (by kernel_rfl) rfl #[] rfl (by (try simp only [List.map_toArray, List.map_cons, List.map_nil]); first | done | rfl | (simp only [List.length_drop, List.length_take]; rfl)) ?_; (with_reducible refine (accountinglaw27_lives.calls kj3  t207 _ A9.out).mono ?_); rintro e w10 ⟨rfl, hb⟩; refine ⟨_, rfl, ?_⟩; have n0_ := Aside0.mk (below_step (by repeat (first | (with_reducible first | exact HB.out | apply below_alloc | apply pw_below_drewN | apply below_drew1) | exact HB.out)) hb); clear HB; have HB := n0_; clear n0_; (try clear hb); (try clear hb2); (try clear hk); (try clear hi)))
        go_ret
        exact ⟨by first | rfl | (simp [errW_none, errW_some] <;> rfl) | (simp [*, errW_none, errW_some] <;> rfl), by repeat (first | (with_reducible first | exact HB.out | apply below_alloc | apply pw_below_drewN | apply below_drew1) | exact HB.out)⟩
      · replace c8 := Bool.eq_false_iff.mpr c8
        subst c8
        have H1 : ((some (([] : List Int) : List Int)).bind fun y208 => (if 0 ≤ (wrap64 ((l2.length : Int) / 2)) then (if (wrap64 ((l2.length : Int) / 2)) ≤ (l2.length : Int) then (if y208.length + (l2.take ((wrap64 ((l2.length : Int) / 2)) : Int).toNat).length < 17592186044416 then ((some (y208 ++ (l2.take ((wrap64 ((l2.length : Int) / 2)) : Int).toNat) : List Int)).bind fun y212 => (if 0 ≤ (wrap64 ((wrap64 ((l2.length : Int) / 2)) + 1)) then (if (wrap64 ((wrap64 ((l2.length : Int) / 2)) + 1)) ≤ (l2.length : Int) then (if y212.length + (l2.drop ((wrap64 ((wrap64 ((l2.length : Int) / 2)) + 1)) : Int).toNat).length < 17592186044416 then ((aging_Of.f kj3 l0 a1 l2).bind fun bt219 => ((aging_Of.f kj3 l0 a1 (y212 ++ (l2.drop ((wrap64 ((wrap64 ((l2.length : Int) / 2)) + 1)) : Int).toNat))).bind fun bt223 => (if bt219.2 = 0 then (accountinglaw27_AgingLimit.j1 kj3 l2 (wrap64 ((l2.length : Int) / 2)) bt219.1 bt219.2 bt223.1 (bt223.2 != 0)) else (accountinglaw27_AgingLimit.j1 kj3 l2 (wrap64 ((l2.length : Int) / 2)) bt219.1 bt219.2 bt223.1 true)))) else (none)) else (none)) else (none))) else (none)) else (none)) else (none))) = some r := by rw [if_neg (show ¬ (false = true) by decide)] at H; exact H
        clear H
        have H := H1
        clear H1
        obtain ⟨y208, hy208⟩ : ∃ y_ : List Int, y_ = (([] : List Int)) := ⟨_, rfl⟩
        replace H : (if 0 ≤ (wrap64 ((l2.length : Int) / 2)) then (if (wrap64 ((l2.length : Int) / 2)) ≤ (l2.length : Int) then (if y208.length + (l2.take ((wrap64 ((l2.length : Int) / 2)) : Int).toNat).length < 17592186044416 then ((some (y208 ++ (l2.take ((wrap64 ((l2.length : Int) / 2)) : Int).toNat) : List Int)).bind fun y212 => (if 0 ≤ (wrap64 ((wrap64 ((l2.length : Int) / 2)) + 1)) then (if (wrap64 ((wrap64 ((l2.length : Int) / 2)) + 1)) ≤ (l2.length : Int) then (if y212.length + (l2.drop ((wrap64 ((wrap64 ((l2.length : Int) / 2)) + 1)) : Int).toNat).length < 17592186044416 then ((aging_Of.f kj3 l0 a1 l2).bind fun bt219 => ((aging_Of.f kj3 l0 a1 (y212 ++ (l2.drop ((wrap64 ((wrap64 ((l2.length : Int) / 2)) + 1)) : Int).toNat))).bind fun bt223 => (if bt219.2 = 0 then (accountinglaw27_AgingLimit.j1 kj3 l2 (wrap64 ((l2.length : Int) / 2)) bt219.1 bt219.2 bt223.1 (bt223.2 != 0)) else (accountinglaw27_AgingLimit.j1 kj3 l2 (wrap64 ((l2.length : Int) / 2)) bt219.1 bt219.2 bt223.1 true)))) else (none)) else (none)) else (none))) else (none)) else (none)) else (none)) = some r := by first | (rw [hy208]; with_reducible exact H) | (have H2_ := (Option.bind_some _ _).symm.trans H; rw [hy208]; with_reducible exact H2_) | (have H2_ := (Option.bind_some _ _).symm.trans H; with_reducible exact H2_) | with_reducible exact H | (rw [hy208]; exact H) | exact H
        have Ny208 := Aside0.mk hy208
        clear hy208
        obtain ⟨ji11, hji11⟩ : ∃ j_ : Int, (wrap64 ((l2.length : Int) / 2)) = j_ := ⟨_, rfl⟩
        replace H : (if 0 ≤ (ji11) then (if (ji11) ≤ (l2.length : Int) then (if y208.length + (l2.take ((ji11) : Int).toNat).length < 17592186044416 then ((some (y208 ++ (l2.take ((ji11) : Int).toNat) : List Int)).bind fun y212 => (if 0 ≤ (wrap64 ((ji11) + 1)) then (if (wrap64 ((ji11) + 1)) ≤ (l2.length : Int) then (if y212.length + (l2.drop ((wrap64 ((ji11) + 1)) : Int).toNat).length < 17592186044416 then ((aging_Of.f kj3 l0 a1 l2).bind fun bt219 => ((aging_Of.f kj3 l0 a1 (y212 ++ (l2.drop ((wrap64 ((ji11) + 1)) : Int).toNat))).bind fun bt223 => (if bt219.2 = 0 then (accountinglaw27_AgingLimit.j1 kj3 l2 ji11 bt219.1 bt219.2 bt223.1 (bt223.2 != 0)) else (accountinglaw27_AgingLimit.j1 kj3 l2 ji11 bt219.1 bt219.2 bt223.1 true)))) else (none)) else (none)) else (none))) else (none)) else (none)) else (none)) = some r := by first | (rw [hji11] at H; exact H) | (simp only [hji11] at H ⊢; exact H)
        have hji11w : (IntKind.i64.wrap ((l2.length : Int) / 2)) = ji11 := (i64_w _).trans hji11
        by_cases c12 : 0 ≤ (ji11)
        · rw [if_pos c12] at H
          have c12b0 := eq_true c12
          have c12b1 : decide (0 ≤ (ji11)) = true := decide_eq_true c12
          clear c12
          by_cases c13 : (ji11) ≤ (l2.length : Int)
          · rw [if_pos c13] at H
            have c13b0 := eq_true c13
            have c13b1 : decide ((ji11) ≤ (l2.length : Int)) = true := decide_eq_true c13
            clear c13
            by_cases c14 : y208.length + (l2.take ((ji11) : Int).toNat).length < 17592186044416
            · rw [if_pos c14] at H
              have LMc14 := Aside0.mk c14
              clear c14
              obtain ⟨y212, hy212⟩ : ∃ y_ : List Int, y_ = (y208 ++ (l2.take ((ji11) : Int).toNat)) := ⟨_, rfl⟩
              replace H : (if 0 ≤ (wrap64 ((ji11) + 1)) then (if (wrap64 ((ji11) + 1)) ≤ (l2.length : Int) then (if y212.length + (l2.drop ((wrap64 ((ji11) + 1)) : Int).toNat).length < 17592186044416 then ((aging_Of.f kj3 l0 a1 l2).bind fun bt219 => ((aging_Of.f kj3 l0 a1 (y212 ++ (l2.drop ((wrap64 ((ji11) + 1)) : Int).toNat))).bind fun bt223 => (if bt219.2 = 0 then (accountinglaw27_AgingLimit.j1 kj3 l2 ji11 bt219.1 bt219.2 bt223.1 (bt223.2 != 0)) else (accountinglaw27_AgingLimit.j1 kj3 l2 ji11 bt219.1 bt219.2 bt223.1 true)))) else (none)) else (none)) else (none)) = some r := by first | (rw [hy212]; with_reducible exact H) | (have H2_ := (Option.bind_some _ _).symm.trans H; rw [hy212]; with_reducible exact H2_) | (have H2_ := (Option.bind_some _ _).symm.trans H; with_reducible exact H2_) | with_reducible exact H | (rw [hy212]; exact H) | exact H
              have Ny212 := Aside0.mk hy212
              clear hy212
              obtain ⟨ji15, hji15⟩ : ∃ j_ : Int, (wrap64 ((ji11) + 1)) = j_ := ⟨_, rfl⟩
              replace H : (if 0 ≤ (ji15) then (if (ji15) ≤ (l2.length : Int) then (if y212.length + (l2.drop ((ji15) : Int).toNat).length < 17592186044416 then ((aging_Of.f kj3 l0 a1 l2).bind fun bt219 => ((aging_Of.f kj3 l0 a1 (y212 ++ (l2.drop ((ji15) : Int).toNat))).bind fun bt223 => (if bt219.2 = 0 then (accountinglaw27_AgingLimit.j1 kj3 l2 ji11 bt219.1 bt219.2 bt223.1 (bt223.2 != 0)) else (accountinglaw27_AgingLimit.j1 kj3 l2 ji11 bt219.1 bt219.2 bt223.1 true)))) else (none)) else (none)) else (none)) = some r := by first | (rw [hji15] at H; exact H) | (simp only [hji15] at H ⊢; exact H)
              have hji15w : (IntKind.i64.wrap ((ji11) + 1)) = ji15 := (i64_w _).trans hji15
              by_cases c16 : 0 ≤ (ji15)
              · rw [if_pos c16] at H
                have c16b0 := eq_true c16
                have c16b1 : decide (0 ≤ (ji15)) = true := decide_eq_true c16
                clear c16
                by_cases c17 : (ji15) ≤ (l2.length : Int)
                · rw [if_pos c17] at H
                  have c17b0 := eq_true c17
                  have c17b1 : decide ((ji15) ≤ (l2.length : Int)) = true := decide_eq_true c17
                  clear c17
                  by_cases c18 : y212.length + (l2.drop ((ji15) : Int).toNat).length < 17592186044416
                  · rw [if_pos c18] at H
                    have LMc18 := Aside0.mk c18
                    clear c18
                    obtain ⟨y216, hy216⟩ : ∃ y_ : List Int, y_ = (y212 ++ (l2.drop ((ji15) : Int).toNat)) := ⟨_, rfl⟩
                    replace H : ((aging_Of.f kj3 l0 a1 l2).bind fun bt219 => ((aging_Of.f kj3 l0 a1 y216).bind fun bt223 => (if bt219.2 = 0 then (accountinglaw27_AgingLimit.j1 kj3 l2 ji11 bt219.1 bt219.2 bt223.1 (bt223.2 != 0)) else (accountinglaw27_AgingLimit.j1 kj3 l2 ji11 bt219.1 bt219.2 bt223.1 true)))) = some r := by first | (rw [hy216]; with_reducible exact H) | (have H2_ := (Option.bind_some _ _).symm.trans H; rw [hy216]; with_reducible exact H2_) | (have H2_ := (Option.bind_some _ _).symm.trans H; with_reducible exact H2_) | with_reducible exact H | (rw [hy216]; exact H) | exact H
                    have Ny216 := Aside0.mk hy216
                    clear hy216
                    replace H := Option.bind_eq_some_iff.mp H
                    obtain ⟨⟨t219, t220⟩, A190, H⟩ := H
                    replace H : ((aging_Of.f kj3 l0 a1 y216).bind fun bt223 => (if t220 = 0 then (accountinglaw27_AgingLimit.j1 kj3 l2 ji11 t219 t220 bt223.1 (bt223.2 != 0)) else (accountinglaw27_AgingLimit.j1 kj3 l2 ji11 t219 t220 bt223.1 true))) = some r := H
                    have A19 := Aside0.mk A190
                    clear A190
                    replace H := Option.bind_eq_some_iff.mp H
                    obtain ⟨⟨t223, t224⟩, A200, H⟩ := H
                    replace H : (if t220 = 0 then (accountinglaw27_AgingLimit.j1 kj3 l2 ji11 t219 t220 t223 (t224 != 0)) else (accountinglaw27_AgingLimit.j1 kj3 l2 ji11 t219 t220 t223 true)) = some r := H
                    have A20 := Aside0.mk A200
                    clear A200
                    have HC21 := Aside0.mk H
                    clear H
                    try go_wp2
                    have n0_ := Aside0.mk (below_drew1 HB.out)
                    clear HB
                    have HB := n0_
                    clear n0_
                    obtain ⟨i023, hi023, _, hsz23, _⟩ := info_parts info3
                    obtain ⟨hcut23, hA23, hC23⟩ := print_take_of (P := Tryd.prog) (Value.int .i64) 0 22 3 .i64 Tryd.underlying22 hi023 hsz23 A2 c2 l2 (ji11) (of_decide_eq_true (by first | (with_reducible assumption) | assumption)) (of_decide_eq_true (by first | (with_reducible assumption) | assumption)) HC2.out
                    have HR211 := Aside0.mk (Kd.C_of_reads (h1 := fun _ => rfl) (hA23 _ (Kd.reads_of_C HR2.out)))
                    have HC211 := Aside0.mk hC23
                    clear hA23 hC23 hi023 hsz23
                    obtain ⟨i024, hi024, _, hsz24, _⟩ := info_parts info3
                    obtain ⟨A24, hcut24, hA24, hC24⟩ := print_drop_of (P := Tryd.prog) (Value.int .i64) 0 22 3 .i64 Tryd.underlying22 hi024 hsz24 A2 c2 l2 (ji15) (of_decide_eq_true (by first | (with_reducible assumption) | assumption)) (of_decide_eq_true (by first | (with_reducible assumption) | assumption)) HC2.out
                    have HR215 := Aside0.mk (Kd.C_of_reads (h1 := fun _ => rfl) (hA24 _ (Kd.reads_of_C HR2.out)))
                    have HC215 := Aside0.mk hC24
                    clear hA24 hC24 hi024 hsz24
                    refine start_ (n := 11) (S := fun w' => True) (ds := []) #[false, false, false, false, false, false, false, false, false, false, false] (by kernel_rfl) rfl rfl trivial (fun hHeld => ?_); refine with_tabW accountinglaw27_AgingLimit.tab4 accountinglaw27_AgingLimit.bits4 (fun HT_ HW_ => ?_)
                    generalize wc.drew = w22 at HB HR211 HR215 hHeld ⊢
                    refine pure_ (i := 1) (N := some 35) (v := ?_) (a' := ?_) #[false, true, false, false, false, false, false, false, false, false, false] rfl rfl (any_of HT_.out (by kernel_rfl)) (fun _ _ _ h => h) (Or.inl ⟨by rfl, ?_⟩) ?_ ?_
                    rotate_left
                    · intro w'
                      go_simp
                      with_reducible rfl
                    rotate_left
                    · simp only [Act.put, List.setIfInBounds_toArray, List.set_cons_zero, List.set_cons_succ, i64_w, i32_w]
                      rfl
                    refine pure_ (i := 2) (N := some 36) (v := ?_) (a' := ?_) #[false, true, true, false, false, false, false, false, false, false, false] rfl rfl (any_of HT_.out (by kernel_rfl)) (fun _ _ _ h => h) (Or.inl ⟨by rfl, ?_⟩) ?_ ?_
                    rotate_left
                    · intro w'
                      go_simp
                      with_reducible rfl
                    rotate_left
                    · simp only [Act.put, List.setIfInBounds_toArray, List.set_cons_zero, List.set_cons_succ, i64_w, i32_w]
                      rfl
                    refine pure_ (i := 3) (N := some 37) (v := ?_) (a' := ?_) #[false, true, true, true, false, false, false, false, false, false, false] rfl rfl (any_of HT_.out (by kernel_rfl)) (fun _ _ _ h => h) (Or.inl ⟨by rfl, ?_⟩) ?_ ?_
                    rotate_left
                    · intro w'
                      go_simp
                      with_reducible rfl
                    rotate_left
                    · simp only [Act.put, List.setIfInBounds_toArray, List.set_cons_zero, List.set_cons_succ, i64_w, i32_w]
                      rfl
                    refine pure_ (i := 5) (N := some 39) (v := ?_) (a' := ?_) #[false, true, true, true, false, true, false, false, false, false, false] rfl rfl (any_of HT_.out (by kernel_rfl)) (fun _ _ _ h => h) (Or.inl ⟨by rfl, ?_⟩) ?_ ?_
                    rotate_left
                    · intro w'
                      go_simp
                      with_reducible rfl
                    rotate_left
                    · simp only [Act.put, List.setIfInBounds_toArray, List.set_cons_zero, List.set_cons_succ, i64_w, i32_w]
                      rfl
                    refine pure_ (i := 6) (N := some 40) (v := ?_) (a' := ?_) #[false, true, true, true, false, true, true, false, false, false, false] rfl rfl (any_of HT_.out (by kernel_rfl)) (fun _ _ _ h => h) (Or.inl ⟨by rfl, ?_⟩) ?_ ?_
                    rotate_left
                    · intro w'
                      go_simp
                      with_reducible rfl
                    rotate_left
                    · simp only [Act.put, List.setIfInBounds_toArray, List.set_cons_zero, List.set_cons_succ, i64_w, i32_w]
                      rfl
                    refine pure_ (i := 7) (N := some 41) (v := ?_) (a' := ?_) #[false, true, true, true, false, true, true, true, false, false, false] rfl rfl (any_of HT_.out (by kernel_rfl)) (fun _ _ _ h => h) (Or.inl ⟨by rfl, ?_⟩) ?_ ?_
                    rotate_left
                    · intro w'
                      go_simp
                      with_reducible rfl
                    rotate_left
                    · simp only [Act.put, List.setIfInBounds_toArray, List.set_cons_zero, List.set_cons_succ, i64_w, i32_w]
                      rfl
                    refine pure_ (i := 8) (N := some 42) (v := ?_) (a' := ?_) #[false, true, true, true, false, true, true, true, true, false, false] rfl rfl (any_of HT_.out (by kernel_rfl)) (fun _ _ _ h => h) (Or.inl ⟨by rfl, ?_⟩) ?_ ?_
                    rotate_left
                    · intro w'
                      go_simp
                      with_reducible rfl
                    rotate_left
                    · simp only [Act.put, List.setIfInBounds_toArray, List.set_cons_zero, List.set_cons_succ, i64_w, i32_w]
                      rfl
                    refine one_ (i := 0) (N := some 34) #[true, true, true, true, false, true, true, true, true, false, false] rfl rfl (one_of HT_.out (by kernel_rfl)) (by decide) (fun K hK => ?_)
                    refine Kd.R_lit_step (Kd.int .i64) _ 3 ?hg (N := 34) ?hd (xs := ([] : List Int)) (inner := []) (ok := fun _ => True) (okp := fun _ => True) ?hr ?hp (fun _ hk => hk) trivial (Below.refl _ _) (Nat.le_refl _) (by simp) ?_; (case hd => rfl); (case hg => rfl); (case hr => first | (go_simp; done) | (go_simp; rfl)); (case hp => exact (Reps.none _ _))
                    intro v209 w25 ho26 hb hg_ hnew_
                    clear hg_ hnew_
                    (first | rw [← Ny208.out] at ho26 | (simp only [Int.reduceToNat] at ho26; rw [← Ny208.out] at ho26))
                    have n0_ := Aside0.mk (Kd.R_lower ho26 (below_size (by repeat (first | (with_reducible first | exact HB.out | apply below_alloc | apply pw_below_drewN | apply below_drew1) | exact HB.out))))
                    have n1_ := Aside0.mk (below_step (by repeat (first | (with_reducible first | exact HB.out | apply below_alloc | apply pw_below_drewN | apply below_drew1) | exact HB.out)) hb)
                    clear HB
                    have HO210 := n0_
                    have HB := n1_
                    clear n0_ n1_
                    clear hb ho26
                    refine hK.out _ _ trivial (fun hHeld => ?_)
                    clear hK K
                    refine norm_ (a' := ?_) ?_ ?_
                    rotate_left
                    · show Act.put _ (some 34) _ = _
                      simp only [Act.put, List.setIfInBounds_toArray, List.set_cons_zero, List.set_cons_succ, i64_w, i32_w]
                      rfl
                    refine one_ (i := 4) (N := some 38) #[true, true, true, true, true, true, true, true, true, false, false] rfl rfl (one_of HT_.out (by kernel_rfl)) (by decide) (fun K hK => ?_)
                    refine Kd.R_append_rows_step (Kd.int .i64) (w0 := w) w.heap.size (by rfl) (.tmp 34) (.tmp 37) 22 3 (.int .i64 0) 8 rfl Tryd.underlying22 info3 rfl (by decide) (by omega) v209 y208 (l2.take ((ji11) : Int).toNat) _ _ _ (fun _ => True) (fun _ => False) rfl rfl ?aO ?aR (fun _ _ h => h) (fun _ h => h.elim) ?aF ?aB ?aS ?aL ?_
                    (case aR => have hn_ : (l2.take ((ji11) : Int).toNat).length = (ji11).toNat := (by rw [List.length_take]; have h_ : ((ji11) : Int) ≤ (l2.length : Int) := of_decide_eq_true (by first | (with_reducible assumption) | assumption); omega); have hC_ := Kd.C_below HR211.out HB.out; rw [hn_] at hC_; first | exact hC_ | (repeat (first | exact hC_ | (with_reducible refine Kd.C_alloc ?_ _) | (with_reducible refine Kd.C_drewN ?_ _) | (with_reducible refine Kd.C_drew ?_))))
                    (case aB => exact (by repeat (first | (with_reducible first | exact HB.out | apply below_alloc | apply pw_below_drewN | apply below_drew1) | exact HB.out)))
                    (case aF => exact (fun _ _ => trivial))
                    (case aO => exact (by (with_reducible repeat (first | apply Kd.R_alloc | apply Kd.R_drewN | apply Kd.R_drew)); exact HO210.out))
                    (case aS => exact (below_size (by repeat (first | (with_reducible first | exact HB.out | apply below_alloc | apply pw_below_drewN | apply below_drew1) | exact HB.out))))
                    (case aL => have := LMc14.out; have hlx_ := (show (l2.take ((ji11) : Int).toNat).length = (ji11).toNat from (by rw [List.length_take]; have h_ : ((ji11) : Int) ≤ (l2.length : Int) := of_decide_eq_true (by first | (with_reducible assumption) | assumption); omega)); omega)
                    intro v213 w27 ho hb hg hat
                    rw [← Ny212.out] at ho
                    have n0_ := Aside0.mk (hb)
                    have n1_ := Aside0.mk (ho)
                    clear HB
                    clear HO210
                    have HB := n0_
                    have HO214 := n1_
                    clear n0_ n1_
                    clear ho hb hg hat
                    refine hK.out _ _ trivial (fun hHeld => ?_)
                    clear hK K
                    refine norm_ (a' := ?_) ?_ ?_
                    rotate_left
                    · show Act.put _ (some 38) _ = _
                      simp only [Act.put, List.setIfInBounds_toArray, List.set_cons_zero, List.set_cons_succ, i64_w, i32_w]
                      rfl
                    refine one_ (i := 9) (N := some 43) #[true, true, true, true, true, true, true, true, true, true, false] rfl rfl (one_of HT_.out (by kernel_rfl)) (by decide) (fun K hK => ?_)
                    refine Kd.R_append_rows_step (Kd.int .i64) (w0 := w) w.heap.size (by rfl) (.tmp 38) (.tmp 42) 22 3 (.int .i64 0) 8 rfl Tryd.underlying22 info3 rfl (by decide) (by omega) v213 y212 (l2.drop ((ji15) : Int).toNat) _ _ _ (fun _ => True) (fun _ => False) rfl rfl ?aO ?aR (fun _ _ h => h) (fun _ h => h.elim) ?aF ?aB ?aS ?aL ?_
                    (case aR => first | (rw [← show (l2.drop ((ji15) : Int).toNat).length = (l2.length - (ji15).toNat) from List.length_drop]; repeat (first | exact (Kd.C_below HR215.out HB.out) | (with_reducible refine Kd.C_alloc ?_ _) | (with_reducible refine Kd.C_drewN ?_ _) | (with_reducible refine Kd.C_drew ?_))) | (repeat (first | exact (Kd.C_below HR215.out HB.out) | (with_reducible refine Kd.C_alloc ?_ _) | (with_reducible refine Kd.C_drewN ?_ _) | (with_reducible refine Kd.C_drew ?_))))
                    (case aB => exact (by repeat (first | (with_reducible first | exact HB.out | apply below_alloc | apply pw_below_drewN | apply below_drew1) | exact HB.out)))
                    (case aF => exact (fun _ _ => trivial))
                    (case aO => exact (by (with_reducible repeat (first | apply Kd.R_alloc | apply Kd.R_drewN | apply Kd.R_drew)); exact HO214.out))
                    (case aS => exact (below_size (by repeat (first | (with_reducible first | exact HB.out | apply below_alloc | apply pw_below_drewN | apply below_drew1) | exact HB.out))))
                    (case aL => have := LMc18.out; have hlx_ := (show (l2.drop ((ji15) : Int).toNat).length = (l2.length - (ji15).toNat) from List.length_drop); omega)
                    intro v217 w28 ho hb hg hat
                    rw [← Ny216.out] at ho
                    have n0_ := Aside0.mk (hb)
                    have n1_ := Aside0.mk (ho)
                    clear HB
                    clear HO214
                    have HB := n0_
                    have HO218 := n1_
                    clear n0_ n1_
                    clear ho hb hg hat
                    refine hK.out _ _ trivial (fun hHeld => ?_)
                    clear hK K
                    refine norm_ (a' := ?_) ?_ ?_
                    rotate_left
                    · show Act.put _ (some 43) _ = _
                      simp only [Act.put, List.setIfInBounds_toArray, List.set_cons_zero, List.set_cons_succ, i64_w, i32_w]
                      rfl
                    refine pure_ (i := 10) (N := some 8) (v := ?_) (a' := ?_) #[true, true, true, true, true, true, true, true, true, true, true] rfl rfl (any_of HT_.out (by kernel_rfl)) (fun _ _ _ h => h) (Or.inl ⟨by rfl, ?_⟩) ?_ ?_
                    rotate_left
                    · intro w'
                      go_simp
                      with_reducible rfl
                    rotate_left
                    · simp only [Act.put, List.setIfInBounds_toArray, List.set_cons_zero, List.set_cons_succ, i64_w, i32_w]
                      rfl
                    refine done_ (done_of HT_.out (by kernel_rfl)) ?_
                    go_upto_region 7 with (first | ((with_reducible refine gate_callee (f := 12) rfl ?_); refine goesL_ (some 48) rfl rfl Tryd.func12 (by kernel_rfl) rfl #[.slice A0 l0.length c0, .int .i64 a1, .slice A2 l2.length c2] rfl (by (try simp only [List.map_toArray, List.map_cons, List.map_nil]); first | done | rfl | (simp only [List.length_drop, List.length_take]; rfl)) ?_; (with_reducible refine (aging_Of.calls kj3 _ _ l0 a1 _ _ l2 t219 t220 _ ?side1 ?side2 ?side3 ?side4 A19.out).mono ?_); (case side1 => repeat (first | exact (Kd.C_below HR0.out HB.out) | (with_reducible refine Kd.C_alloc ?_ _) | (with_reducible refine Kd.C_drewN ?_ _) | (with_reducible refine Kd.C_drew ?_))); (case side2 => exact HC0.out); (case side3 => repeat (first | exact (Kd.C_below HR2.out HB.out) | (with_reducible refine Kd.C_alloc ?_ _) | (with_reducible refine Kd.C_drewN ?_ _) | (with_reducible refine Kd.C_drew ?_))); (case side4 => exact HC2.out); rintro e w29 ⟨v221, rfl, ho0, hb⟩; refine ⟨_, rfl, ?_⟩; have n0_ := Aside0.mk (Kd.R_below (by (with_reducible repeat (first | apply Kd.R_alloc | apply Kd.R_drewN | apply Kd.R_drew)); exact HO218.out) hb); have n1_ := Aside0.mk (Kd.S_lower (Kd.S_new' ho0 (Kd.R_lt (by (with_reducible repeat (first | apply Kd.R_alloc | apply Kd.R_drewN | apply Kd.R_drew)); exact HO218.out))) (below_size (by repeat (first | (with_reducible first | exact HB.out | apply below_alloc | apply pw_below_drewN | apply below_drew1) | exact HB.out)))); have n2_ := Aside0.mk (below_step (by repeat (first | (with_reducible first | exact HB.out | apply below_alloc | apply pw_below_drewN | apply below_drew1) | exact HB.out)) hb); clear HO218; clear HB; have HO218 := n0_; have HO222 := n1_; have HB := n2_; clear n0_ n1_ n2_; (try clear hb); (try clear hb2); (try clear hk); (try clear hi); (try clear ho0); obtain ⟨Ao30, co30, eo30⟩ := Kd.R_slice HO218.out; subst eo30) | ((with_reducible refine gate_callee (f := 12) rfl ?_); refine goesL_ (some 55) rfl rfl Tryd.func12 (by kernel_rfl) rfl #[.slice A0 l0.length c0, .int .i64 a1, .slice Ao30 y216.length co30] rfl (by (try simp only [List.map_toArray, List.map_cons, List.map_nil]); first | done | rfl | (simp only [List.length_drop, List.length_take]; rfl)) ?_; (with_reducible refine (aging_Of.calls kj3 _ _ l0 a1 _ _ y216 t223 t224 _ ?side1 ?side2 ?side3 ?side4 A20.out).mono ?_); (case side1 => repeat (first | exact (Kd.C_below HR0.out HB.out) | (with_reducible refine Kd.C_alloc ?_ _) | (with_reducible refine Kd.C_drewN ?_ _) | (with_reducible refine Kd.C_drew ?_))); (case side2 => exact HC0.out); (case side3 => repeat (first | exact (Kd.R_reads' HO218.out).2.2 | (with_reducible refine Kd.C_alloc ?_ _) | (with_reducible refine Kd.C_drewN ?_ _) | (with_reducible refine Kd.C_drew ?_))); (case side4 => exact (Kd.R_reads' HO218.out).2.1); rintro e w31 ⟨v225, rfl, ho0, hb⟩; refine ⟨_, rfl, ?_⟩; have n0_ := Aside0.mk (Kd.R_below (by (with_reducible repeat (first | apply Kd.R_alloc | apply Kd.R_drewN | apply Kd.R_drew)); exact HO218.out) hb); have n1_ := Aside0.mk (Kd.S_elder' (by (with_reducible repeat (first | apply Kd.S_alloc | apply Kd.S_drewN | apply Kd.S_drew)); exact HO222.out) (by first | exact Kd.S_base ho0 | exact Kd.R_base ho0 | exact Kd.S_base ho0 | exact Kd.N_base ho0) hb); have n2_ := Aside0.mk (Kd.S_lower (Kd.S_new' (Kd.S_new' ho0 (Kd.R_lt (by (with_reducible repeat (first | apply Kd.R_alloc | apply Kd.R_drewN | apply Kd.R_drew)); exact HO218.out))) (Kd.S_lt (by (with_reducible repeat (first | apply Kd.S_alloc | apply Kd.S_drewN | apply Kd.S_drew)); exact HO222.out))) (below_size (by repeat (first | (with_reducible first | exact HB.out | apply below_alloc | apply pw_below_drewN | apply below_drew1) | exact HB.out)))); have n3_ := Aside0.mk (below_step (by repeat (first | (with_reducible first | exact HB.out | apply below_alloc | apply pw_below_drewN | apply below_drew1) | exact HB.out)) hb); clear HO218; clear HO222; clear HB; have HO218 := n0_; have HO222 := n1_; have HO226 := n2_; have HB := n3_; clear n0_ n1_ n2_ n3_; (try clear hb); (try clear hb2); (try clear hk); (try clear hi); (try clear ho0)))
                    (try simp only [Act.put, List.setIfInBounds_toArray, List.set_cons_zero, List.set_cons_succ])
                    go_cut [63] (fun v63 wc => ∃ (kq : Nat) (x63_20 : Bool), v63 = .bool x63_20 ∧ Aside0 (accountinglaw27_AgingLimit.j1 kq l2 ji11 t219 t220 t223 x63_20 = some r) ∧ Aside0 (kq ≤ kj3) ∧ Aside0 (Kd.S k37 37 wc w.heap.size (fun k_ => some k_ ≠ (v225 : Value).ownBlock) v221 t219) ∧ Aside0 (Kd.S k37 37 wc w.heap.size (fun k_ => some k_ ≠ (v221 : Value).ownBlock) v225 t223) ∧ Aside0 (Below w.heap.size w wc))
                    case first =>
                      have H := HC21.out
                      clear HC21
                      by_cases c32 : t220 = 0
                      · rw [if_pos c32] at H
                        have c32b0 : (t220 == 0) = true := beq_iff_eq.mpr c32
                        have c32b1 : (t220 != 0) = false := bne_eq_false_iff_eq.mpr c32
                        clear c32
                        (first | rw [c32b0] | (simp only [i64_w, i32_w]; rw [c32b0]) | skip)
                        have H' := Aside0.mk H
                        clear H
                        go_wp2
                        go_meet
                        case rel => exact ⟨_, ((t224 != 0)), (by first | rfl | (simp; done) | (simp [*]; done)), H', ⟨by have := HJ3.out; first | omega | exact Nat.le_refl _⟩, ⟨by (with_reducible repeat (first | apply Kd.S_alloc | apply Kd.S_drewN | apply Kd.S_drew)); exact Kd.S_mono HO222.out (fun _ hk => hk.2)⟩, ⟨by (with_reducible repeat (first | apply Kd.S_alloc | apply Kd.S_drewN | apply Kd.S_drew)); exact Kd.S_mono HO226.out (fun _ hk => hk.2)⟩, ⟨by repeat (first | (with_reducible first | exact HB.out | apply below_alloc | apply pw_below_drewN | apply below_drew1) | exact HB.out)⟩⟩
                      · rw [if_neg c32] at H
                        have c32b0 : (t220 == 0) = false := beq_eq_false_iff_ne.mpr c32
                        have c32b1 : (t220 != 0) = true := bne_iff_ne.mpr c32
                        (first | rw [c32b0] | (simp only [i64_w, i32_w]; rw [c32b0]) | skip)
                        have H' := Aside0.mk H
                        clear H
                        go_wp2
                        go_meet
                        case rel => exact ⟨_, (true), (by first | rfl | (simp; done) | (simp [*]; done)), H', ⟨by have := HJ3.out; first | omega | exact Nat.le_refl _⟩, ⟨by (with_reducible repeat (first | apply Kd.S_alloc | apply Kd.S_drewN | apply Kd.S_drew)); exact Kd.S_mono HO222.out (fun _ hk => hk.2)⟩, ⟨by (with_reducible repeat (first | apply Kd.S_alloc | apply Kd.S_drewN | apply Kd.S_drew)); exact Kd.S_mono HO226.out (fun _ hk => hk.2)⟩, ⟨by repeat (first | (with_reducible first | exact HB.out | apply below_alloc | apply pw_below_drewN | apply below_drew1) | exact HB.out)⟩⟩
                    case rest =>
                      clear HC21
                      try clear c1
                      try clear c2
                      try clear p2
                      try clear c3
                      try clear c6
                      try clear p6
                      try clear c7
                      try clear c7b0
                      try clear c7b1
                      try clear c8
                      try clear c9
                      try clear c12
                      try clear c12b0
                      try clear c12b1
                      try clear c13
                      try clear c13b0
                      try clear c13b1
                      try clear c14
                      try clear c16
                      try clear c16b0
                      try clear c16b1
                      try clear c17
                      try clear c17b0
                      try clear c17b1
                      try clear c18
                      try clear c32
                      try clear c32b0
                      try clear c32b1
                      try clear p2
                      obtain ⟨kq, x63_20, rfl, HA, HJ20, HO_9, HO_11, HB⟩ := hcut
                      cases kq with
                      | zero => exact absurd HA.out (by simp [accountinglaw27_AgingLimit.j1])
                      | succ kj20 =>
                        have H := HA.out
                        clear HA
                        simp only [accountinglaw27_AgingLimit.j1] at H
                        by_cases c33 : x63_20 = true
                        · subst c33
                          have H1 : (if t220 = 0 then (if (t223.length : Int) = 0 then ((accountinglaw27_lives.f kj20).bind fun t227 => (some t227)) else (some false)) else ((accountinglaw27_lives.f kj20).bind fun t228 => (some t228))) = some r := by rw [if_pos rfl] at H; exact H
                          clear H
                          have H := H1
                          clear H1
                          by_cases c34 : t220 = 0
                          · rw [if_pos c34] at H
                            have c34b0 : (t220 == 0) = true := beq_iff_eq.mpr c34
                            have c34b1 : (t220 != 0) = false := bne_eq_false_iff_eq.mpr c34
                            clear c34
                            by_cases c35 : (t223.length : Int) = 0
                            · rw [if_pos c35] at H
                              have c35b0 : ((t223.length : Int) == 0) = true := beq_iff_eq.mpr c35
                              have c35b1 : ((t223.length : Int) != 0) = false := bne_eq_false_iff_eq.mpr c35
                              clear c35
                              replace H := Option.bind_eq_some_iff.mp H
                              obtain ⟨t227, A360, H⟩ := H
                              replace H : (some t227) = some r := H
                              have A36 := Aside0.mk A360
                              clear A360
                              obtain rfl := Option.some.inj H
                              obtain ⟨Ao37, co37, eo37⟩ := Kd.S_slice HO_11.out
                              subst eo37
                              go_wp2_with (first | (go_at_call 9; (with_reducible refine (accountinglaw27_lives.calls kj20  t227 _ A36.out).mono ?_); rintro e w38 ⟨rfl, hb⟩; have n0_ := Aside0.mk (Kd.S_below (by (with_reducible repeat (first | apply Kd.S_alloc | apply Kd.S_drewN | apply Kd.S_drew)); exact HO_9.out) hb); have n1_ := Aside0.mk (Kd.S_below (by (with_reducible repeat (first | apply Kd.S_alloc | apply Kd.S_drewN | apply Kd.S_drew)); exact HO_11.out) hb); have n2_ := Aside0.mk (below_step (by repeat (first | (with_reducible first | exact HB.out | apply below_alloc | apply pw_below_drewN | apply below_drew1) | exact HB.out)) hb); clear HO_9; clear HO_11; clear HB; have HO_9 := n0_; have HO_11 := n1_; have HB := n2_; clear n0_ n1_ n2_; (try clear hb); (try clear hb2); (try clear hk); (try clear hi)))
                              go_ret
                              exact ⟨by first | rfl | (simp [errW_none, errW_some] <;> rfl) | (simp only [← hji11, ← hji15]; first | rfl | (simp [errW_none, errW_some] <;> rfl)) | (simp [*, errW_none, errW_some] <;> rfl), by repeat (first | (with_reducible first | exact HB.out | apply below_alloc | apply pw_below_drewN | apply below_drew1) | exact HB.out)⟩
                            · rw [if_neg c35] at H
                              have c35b0 : ((t223.length : Int) == 0) = false := beq_eq_false_iff_ne.mpr c35
                              have c35b1 : ((t223.length : Int) != 0) = true := bne_iff_ne.mpr c35
                              have c35b2 : ¬ (t223 = []) := fun h_ => c35 (by rw [h_]; rfl)
                              obtain rfl := Option.some.inj H
                              obtain ⟨Ao39, co39, eo39⟩ := Kd.S_slice HO_11.out
                              subst eo39
                              go_wp2
                              go_ret
                              exact ⟨by first | rfl | (simp [errW_none, errW_some] <;> rfl) | (simp only [← hji11, ← hji15]; first | rfl | (simp [errW_none, errW_some] <;> rfl)) | (simp [*, errW_none, errW_some] <;> rfl), by repeat (first | (with_reducible first | exact HB.out | apply below_alloc | apply pw_below_drewN | apply below_drew1) | exact HB.out)⟩
                          · rw [if_neg c34] at H
                            have c34b0 : (t220 == 0) = false := beq_eq_false_iff_ne.mpr c34
                            have c34b1 : (t220 != 0) = true := bne_iff_ne.mpr c34
                            replace H := Option.bind_eq_some_iff.mp H
                            obtain ⟨t228, A400, H⟩ := H
                            replace H : (some t228) = some r := H
                            have A40 := Aside0.mk A400
                            clear A400
                            obtain rfl := Option.some.inj H
                            go_wp2_with (first | (go_at_call 9; (with_reducible refine (accountinglaw27_lives.calls kj20  t228 _ A40.out).mono ?_); rintro e w41 ⟨rfl, hb⟩; have n0_ := Aside0.mk (Kd.S_below (by (with_reducible repeat (first | apply Kd.S_alloc | apply Kd.S_drewN | apply Kd.S_drew)); exact HO_9.out) hb); have n1_ := Aside0.mk (Kd.S_below (by (with_reducible repeat (first | apply Kd.S_alloc | apply Kd.S_drewN | apply Kd.S_drew)); exact HO_11.out) hb); have n2_ := Aside0.mk (below_step (by repeat (first | (with_reducible first | exact HB.out | apply below_alloc | apply pw_below_drewN | apply below_drew1) | exact HB.out)) hb); clear HO_9; clear HO_11; clear HB; have HO_9 := n0_; have HO_11 := n1_; have HB := n2_; clear n0_ n1_ n2_; (try clear hb); (try clear hb2); (try clear hk); (try clear hi)))
                            go_ret
                            exact ⟨by first | rfl | (simp [errW_none, errW_some] <;> rfl) | (simp only [← hji11, ← hji15]; first | rfl | (simp [errW_none, errW_some] <;> rfl)) | (simp [*, errW_none, errW_some] <;> rfl), by repeat (first | (with_reducible first | exact HB.out | apply below_alloc | apply pw_below_drewN | apply below_drew1) | exact HB.out)⟩
                        · replace c33 := Bool.eq_false_iff.mpr c33
                          subst c33
                          have H1 : (if (t219.length : Int) = (t223.length : Int) then (accountinglaw27_AgingLimit.l0 kj20 l2 ji11 t219 t223 0) else (some false)) = some r := by rw [if_neg (show ¬ (false = true) by decide)] at H; exact H
                          clear H
                          have H := H1
                          clear H1
                          by_cases c42 : (t219.length : Int) = (t223.length : Int)
                          · rw [if_pos c42] at H
                            have c42b0 : ((t219.length : Int) == (t223.length : Int)) = true := beq_iff_eq.mpr c42
                            have c42b1 : ((t219.length : Int) != (t223.length : Int)) = false := bne_eq_false_iff_eq.mpr c42
                            have c42b2 : (t219.length == t223.length) = true := by first | simpa using c42 | (simp at c42 ⊢; omega)
                            clear c42
                            have H' := Aside0.mk H
                            clear H
                            obtain ⟨Ao43, co43, eo43⟩ := Kd.S_slice HO_9.out
                            subst eo43
                            obtain ⟨Ao44, co44, eo44⟩ := Kd.S_slice HO_11.out
                            subst eo44
                            go_wp2
                            go_loopg [13] kj20 (fun kq v13 w' => ∃ (x13_3 : Int), v13 = .int .i64 x13_3 ∧ Aside0 (accountinglaw27_AgingLimit.l0 kq l2 ji11 t219 t223 x13_3 = some r) ∧ Aside0 (kq ≤ kj20) ∧ Aside0 (Kd.S k37 37 w' w.heap.size (fun k_ => some k_ ≠ ((.slice Ao44 t223.length co44) : Value).ownBlock) (.slice Ao43 t219.length co43) t219) ∧ Aside0 (Kd.S k37 37 w' w.heap.size (fun k_ => some k_ ≠ ((.slice Ao43 t219.length co43) : Value).ownBlock) (.slice Ao44 t223.length co44) t223) ∧ Aside0 (Below w.heap.size w w'))
                            case atStart => exact ⟨(0), (by first | rfl | (simp; done) | (simp [*]; done)), H', ⟨Nat.le_refl _⟩, ⟨by (with_reducible repeat (first | apply Kd.S_alloc | apply Kd.S_drewN | apply Kd.S_drew)); exact HO_9.out⟩, ⟨by (with_reducible repeat (first | apply Kd.S_alloc | apply Kd.S_drewN | apply Kd.S_drew)); exact HO_11.out⟩, ⟨by repeat (first | (with_reducible first | exact HB.out | apply below_alloc | apply pw_below_drewN | apply below_drew1) | exact HB.out)⟩⟩
                            case round =>
                              clear H'
                              try clear c1
                              try clear c2
                              try clear p2
                              try clear c3
                              try clear c4
                              try clear c6
                              try clear p6
                              try clear c7
                              try clear c7b0
                              try clear c7b1
                              try clear c8
                              try clear c9
                              try clear c12
                              try clear c12b0
                              try clear c12b1
                              try clear c13
                              try clear c13b0
                              try clear c13b1
                              try clear c14
                              try clear c16
                              try clear c16b0
                              try clear c16b1
                              try clear c17
                              try clear c17b0
                              try clear c17b1
                              try clear c18
                              try clear c32
                              try clear c32b0
                              try clear c32b1
                              try clear c33
                              try clear c34
                              try clear c34b0
                              try clear c34b1
                              try clear c35
                              try clear c35b0
                              try clear c35b1
                              try clear c35b2
                              try clear c42
                              try clear c42b0
                              try clear c42b1
                              try clear c42b2
                              try clear p2
                              try clear p6
                              obtain ⟨x13_3, rfl, HA, HK3, HO_9, HO_11, HB⟩ := hrel
                              cases gk with
                              | zero => exact absurd HA.out (by simp [accountinglaw27_AgingLimit.l0])
                              | succ k3 =>
                                have H := HA.out
                                clear HA
                                simp only [accountinglaw27_AgingLimit.l0] at H
                                by_cases c45 : x13_3 < (t219.length : Int)
                                · rw [if_pos c45] at H
                                  have c45b0 : decide (x13_3 < (t219.length : Int)) = true := decide_eq_true c45
                                  clear c45
                                  have HC46 := Aside0.mk H
                                  clear H
                                  go_upto_region 14 with (fail)
                                  go_cut [105] (fun v105 wc => ∃ (kq : Nat) (x105_45 : Bool), v105 = .bool x105_45 ∧ Aside0 (accountinglaw27_AgingLimit.j3 kq l2 ji11 t219 t223 x13_3 x105_45 = some r) ∧ Aside0 (kq ≤ k3) ∧ Aside0 (Kd.S k37 37 wc w.heap.size (fun k_ => some k_ ≠ ((.slice Ao44 t223.length co44) : Value).ownBlock) (.slice Ao43 t219.length co43) t219) ∧ Aside0 (Kd.S k37 37 wc w.heap.size (fun k_ => some k_ ≠ ((.slice Ao43 t219.length co43) : Value).ownBlock) (.slice Ao44 t223.length co44) t223) ∧ Aside0 (Below w.heap.size w wc))
                                  case first =>
                                    have H := HC46.out
                                    clear HC46
                                    by_cases c47 : 0 ≤ x13_3
                                    · rw [if_pos c47] at H
                                      have c47b0 : decide (0 ≤ x13_3) = true := decide_eq_true c47
                                      clear c47
                                      (first | rw [c47b0] | (simp only [i64_w, i32_w]; rw [c47b0]) | skip)
                                      by_cases c48 : (((rd_T37 t219 x13_3).f2).length : Int) = (wrap64 ((l2.length : Int) + 1))
                                      · rw [if_pos c48] at H
                                        have c48b0 : ((((rd_T37 t219 x13_3).f2).length : Int) == (wrap64 ((l2.length : Int) + 1))) = true := beq_iff_eq.mpr c48
                                        have c48b1 : ((((rd_T37 t219 x13_3).f2).length : Int) != (wrap64 ((l2.length : Int) + 1))) = false := bne_eq_false_iff_eq.mpr c48
                                        clear c48
                                        by_cases c49 : x13_3 < (t223.length : Int)
                                        · rw [if_pos c49] at H
                                          have c49b0 : decide (x13_3 < (t223.length : Int)) = true := decide_eq_true c49
                                          clear c49
                                          have H' := Aside0.mk H
                                          clear H
                                          have p230 : 0 ≤ (x13_3 : Int) := of_decide_eq_true (by first | (with_reducible assumption) | assumption)
                                          have q230 : x13_3 < (t219.length : Int) := of_decide_eq_true (by first | (with_reducible assumption) | assumption)
                                          obtain ⟨ad230, A230_2, c230_2, e230, hx230_0, hx230_1, hx230_2, hl230_2, hi230_2⟩ := at_T37 (Kd.S_reads' HO_9.out).2.2 x13_3 p230 q230
                                          cases e230
                                          obtain ⟨ce230, hce230, hMe230, hcc230⟩ := Kd.S_get HO_9.out z37 x13_3 p230 (by first | exact q230 | exact of_decide_eq_true (by first | (with_reducible assumption) | assumption) | (have e_ := (Kd.S_reads' HO_9.out).1; omega))
                                          obtain ⟨ve230_2, rfl, ge230_2⟩ := k37_openM hMe230
                                          have hv230_2 := hcc230 2 _ rfl
                                          rw [add_field _ _ 2 (by omega)] at hv230_2
                                          replace hv230_2 := Option.some.inj (hv230_2.symm.trans hx230_2)
                                          rw [hv230_2] at ge230_2
                                          have HL230_2 := Aside0.mk (show Kd.R (Kd.int .i64) 3 _ _ _ _ ((rd_T37 t219 x13_3).f2) from ge230_2)
                                          clear hv230_2 ge230_2
                                          clear hcc230 hce230
                                          have HR230_2 := Aside0.mk hi230_2
                                          have HC230_2 := Aside0.mk hl230_2
                                          clear hi230_2 hl230_2
                                          replace p230 := eq_true p230
                                          replace q230 := eq_true q230
                                          have p231 : 0 ≤ (x13_3 : Int) := of_decide_eq_true (by first | (with_reducible assumption) | assumption)
                                          have q231 : x13_3 < (t223.length : Int) := of_decide_eq_true (by first | (with_reducible assumption) | assumption)
                                          obtain ⟨ad231, A231_2, c231_2, e231, hx231_0, hx231_1, hx231_2, hl231_2, hi231_2⟩ := at_T37 (Kd.S_reads' HO_11.out).2.2 x13_3 p231 q231
                                          cases e231
                                          obtain ⟨ce231, hce231, hMe231, hcc231⟩ := Kd.S_get HO_11.out z37 x13_3 p231 (by first | exact q231 | exact of_decide_eq_true (by first | (with_reducible assumption) | assumption) | (have e_ := (Kd.S_reads' HO_11.out).1; omega))
                                          obtain ⟨ve231_2, rfl, ge231_2⟩ := k37_openM hMe231
                                          have hv231_2 := hcc231 2 _ rfl
                                          rw [add_field _ _ 2 (by omega)] at hv231_2
                                          replace hv231_2 := Option.some.inj (hv231_2.symm.trans hx231_2)
                                          rw [hv231_2] at ge231_2
                                          have HL231_2 := Aside0.mk (show Kd.R (Kd.int .i64) 3 _ _ _ _ ((rd_T37 t223 x13_3).f2) from ge231_2)
                                          clear hv231_2 ge231_2
                                          clear hcc231 hce231
                                          have HR231_2 := Aside0.mk hi231_2
                                          have HC231_2 := Aside0.mk hl231_2
                                          clear hi231_2 hl231_2
                                          replace p231 := eq_true p231
                                          replace q231 := eq_true q231
                                          go_wp2
                                          go_meet
                                          case rel => exact ⟨_, (((((rd_T37 t223 x13_3).f2).length : Int) != (l2.length : Int))), (by first | rfl | (simp; done) | (simp [*]; done)), H', ⟨by have := HJ3.out; have := HJ20.out; have := HK3.out; first | omega | exact Nat.le_refl _⟩, ⟨by (with_reducible repeat (first | apply Kd.S_alloc | apply Kd.S_drewN | apply Kd.S_drew)); exact HO_9.out⟩, ⟨by (with_reducible repeat (first | apply Kd.S_alloc | apply Kd.S_drewN | apply Kd.S_drew)); exact HO_11.out⟩, ⟨by repeat (first | (with_reducible first | exact HB.out | apply below_alloc | apply pw_below_drewN | apply below_drew1) | exact HB.out)⟩⟩
                                        · rw [if_neg c49] at H
                                          exact absurd H (by simp)
                                      · rw [if_neg c48] at H
                                        have c48b0 : ((((rd_T37 t219 x13_3).f2).length : Int) == (wrap64 ((l2.length : Int) + 1))) = false := beq_eq_false_iff_ne.mpr c48
                                        have c48b1 : ((((rd_T37 t219 x13_3).f2).length : Int) != (wrap64 ((l2.length : Int) + 1))) = true := bne_iff_ne.mpr c48
                                        have H' := Aside0.mk H
                                        clear H
                                        have p230 : 0 ≤ (x13_3 : Int) := of_decide_eq_true (by first | (with_reducible assumption) | assumption)
                                        have q230 : x13_3 < (t219.length : Int) := of_decide_eq_true (by first | (with_reducible assumption) | assumption)
                                        obtain ⟨ad230, A230_2, c230_2, e230, hx230_0, hx230_1, hx230_2, hl230_2, hi230_2⟩ := at_T37 (Kd.S_reads' HO_9.out).2.2 x13_3 p230 q230
                                        cases e230
                                        obtain ⟨ce230, hce230, hMe230, hcc230⟩ := Kd.S_get HO_9.out z37 x13_3 p230 (by first | exact q230 | exact of_decide_eq_true (by first | (with_reducible assumption) | assumption) | (have e_ := (Kd.S_reads' HO_9.out).1; omega))
                                        obtain ⟨ve230_2, rfl, ge230_2⟩ := k37_openM hMe230
                                        have hv230_2 := hcc230 2 _ rfl
                                        rw [add_field _ _ 2 (by omega)] at hv230_2
                                        replace hv230_2 := Option.some.inj (hv230_2.symm.trans hx230_2)
                                        rw [hv230_2] at ge230_2
                                        have HL230_2 := Aside0.mk (show Kd.R (Kd.int .i64) 3 _ _ _ _ ((rd_T37 t219 x13_3).f2) from ge230_2)
                                        clear hv230_2 ge230_2
                                        clear hcc230 hce230
                                        have HR230_2 := Aside0.mk hi230_2
                                        have HC230_2 := Aside0.mk hl230_2
                                        clear hi230_2 hl230_2
                                        replace p230 := eq_true p230
                                        replace q230 := eq_true q230
                                        go_wp2
                                        go_meet
                                        case rel => exact ⟨_, (true), (by first | rfl | (simp; done) | (simp [*]; done)), H', ⟨by have := HJ3.out; have := HJ20.out; have := HK3.out; first | omega | exact Nat.le_refl _⟩, ⟨by (with_reducible repeat (first | apply Kd.S_alloc | apply Kd.S_drewN | apply Kd.S_drew)); exact HO_9.out⟩, ⟨by (with_reducible repeat (first | apply Kd.S_alloc | apply Kd.S_drewN | apply Kd.S_drew)); exact HO_11.out⟩, ⟨by repeat (first | (with_reducible first | exact HB.out | apply below_alloc | apply pw_below_drewN | apply below_drew1) | exact HB.out)⟩⟩
                                    · rw [if_neg c47] at H
                                      exact absurd H (by simp)
                                  case rest =>
                                    clear HC46
                                    try clear c1
                                    try clear c2
                                    try clear p2
                                    try clear q2
                                    try clear hx2
                                    try clear c3
                                    try clear c4
                                    try clear c6
                                    try clear p6
                                    try clear c7
                                    try clear c7b0
                                    try clear c7b1
                                    try clear c8
                                    try clear c9
                                    try clear c12
                                    try clear c12b0
                                    try clear c12b1
                                    try clear c13
                                    try clear c13b0
                                    try clear c13b1
                                    try clear c14
                                    try clear c16
                                    try clear c16b0
                                    try clear c16b1
                                    try clear c17
                                    try clear c17b0
                                    try clear c17b1
                                    try clear c18
                                    try clear c23
                                    try clear p23
                                    try clear q23
                                    try clear hx23
                                    try clear c32
                                    try clear c32b0
                                    try clear c32b1
                                    try clear c33
                                    try clear c34
                                    try clear c34b0
                                    try clear c34b1
                                    try clear c35
                                    try clear c35b0
                                    try clear c35b1
                                    try clear c35b2
                                    try clear c42
                                    try clear c42b0
                                    try clear c42b1
                                    try clear c42b2
                                    try clear c45
                                    try clear c45b0
                                    try clear c47
                                    try clear c47b0
                                    try clear c48
                                    try clear c48b0
                                    try clear c48b1
                                    try clear c49
                                    try clear c49b0
                                    try clear hx230_0
                                    try clear hx230_1
                                    try clear hx230_2
                                    try clear hx231_0
                                    try clear hx231_1
                                    try clear hx231_2
                                    try clear p2
                                    try clear p230
                                    try clear p231
                                    try clear p6
                                    try clear q230
                                    try clear q231
                                    obtain ⟨kq, x105_45, rfl, HA, HJ45, HO_9, HO_11, HB⟩ := hcut
                                    cases kq with
                                    | zero => exact absurd HA.out (by simp [accountinglaw27_AgingLimit.j3])
                                    | succ kj45 =>
                                      have H := HA.out
                                      clear HA
                                      simp only [accountinglaw27_AgingLimit.j3] at H
                                      by_cases c50 : x105_45 = true
                                      · subst c50
                                        have H1 : (some false) = some r := by rw [if_pos rfl] at H; exact H
                                        clear H
                                        have H := H1
                                        clear H1
                                        obtain rfl := Option.some.inj H
                                        go_wp2
                                        go_ret
                                        exact ⟨by first | rfl | (simp [errW_none, errW_some] <;> rfl) | (simp only [← hji11, ← hji15]; first | rfl | (simp [errW_none, errW_some] <;> rfl)) | (simp [*, errW_none, errW_some] <;> rfl), by repeat (first | (with_reducible first | exact HB.out | apply below_alloc | apply pw_below_drewN | apply below_drew1) | exact HB.out)⟩
                                      · replace c50 := Bool.eq_false_iff.mpr c50
                                        subst c50
                                        have H1 : (accountinglaw27_AgingLimit.l1 kj45 l2 ji11 t219 t223 x13_3 0) = some r := by rw [if_neg (show ¬ (false = true) by decide)] at H; exact H
                                        clear H
                                        have H := H1
                                        clear H1
                                        have H' := Aside0.mk H
                                        clear H
                                        go_wp2
                                        go_loopg [14] kj45 (fun kq v14 w' => ∃ (x14_5 : Int), v14 = .int .i64 x14_5 ∧ Aside0 (accountinglaw27_AgingLimit.l1 kq l2 ji11 t219 t223 x13_3 x14_5 = some r) ∧ Aside0 (kq ≤ kj45) ∧ Aside0 (Kd.S k37 37 w' w.heap.size (fun k_ => some k_ ≠ ((.slice Ao44 t223.length co44) : Value).ownBlock) (.slice Ao43 t219.length co43) t219) ∧ Aside0 (Kd.S k37 37 w' w.heap.size (fun k_ => some k_ ≠ ((.slice Ao43 t219.length co43) : Value).ownBlock) (.slice Ao44 t223.length co44) t223) ∧ Aside0 (Below w.heap.size w w'))
                                        case atStart => exact ⟨(0), (by first | rfl | (simp; done) | (simp [*]; done)), H', ⟨Nat.le_refl _⟩, ⟨by (with_reducible repeat (first | apply Kd.S_alloc | apply Kd.S_drewN | apply Kd.S_drew)); exact HO_9.out⟩, ⟨by (with_reducible repeat (first | apply Kd.S_alloc | apply Kd.S_drewN | apply Kd.S_drew)); exact HO_11.out⟩, ⟨by repeat (first | (with_reducible first | exact HB.out | apply below_alloc | apply pw_below_drewN | apply below_drew1) | exact HB.out)⟩⟩
                                        case round =>
                                          clear H'
                                          try clear c1
                                          try clear c2
                                          try clear p2
                                          try clear q2
                                          try clear hx2
                                          try clear c3
                                          try clear c4
                                          try clear c5
                                          try clear c6
                                          try clear p6
                                          try clear c7
                                          try clear c7b0
                                          try clear c7b1
                                          try clear c8
                                          try clear c9
                                          try clear c12
                                          try clear c12b0
                                          try clear c12b1
                                          try clear c13
                                          try clear c13b0
                                          try clear c13b1
                                          try clear c14
                                          try clear c16
                                          try clear c16b0
                                          try clear c16b1
                                          try clear c17
                                          try clear c17b0
                                          try clear c17b1
                                          try clear c18
                                          try clear c23
                                          try clear p23
                                          try clear q23
                                          try clear hx23
                                          try clear c32
                                          try clear c32b0
                                          try clear c32b1
                                          try clear c33
                                          try clear c34
                                          try clear c34b0
                                          try clear c34b1
                                          try clear c35
                                          try clear c35b0
                                          try clear c35b1
                                          try clear c35b2
                                          try clear c42
                                          try clear c42b0
                                          try clear c42b1
                                          try clear c42b2
                                          try clear c45
                                          try clear c45b0
                                          try clear c47
                                          try clear c47b0
                                          try clear c48
                                          try clear c48b0
                                          try clear c48b1
                                          try clear c49
                                          try clear c49b0
                                          try clear c50
                                          try clear hx230_0
                                          try clear hx230_1
                                          try clear hx230_2
                                          try clear hx231_0
                                          try clear hx231_1
                                          try clear hx231_2
                                          try clear p2
                                          try clear p23
                                          try clear p230
                                          try clear p231
                                          try clear p6
                                          try clear q2
                                          try clear q23
                                          try clear q230
                                          try clear q231
                                          obtain ⟨x14_5, rfl, HA, HK5, HO_9, HO_11, HB⟩ := hrel
                                          cases gk with
                                          | zero => exact absurd HA.out (by simp [accountinglaw27_AgingLimit.l1])
                                          | succ k5 =>
                                            have H := HA.out
                                            clear HA
                                            simp only [accountinglaw27_AgingLimit.l1] at H
                                            by_cases c51 : x14_5 < (l2.length : Int)
                                            · rw [if_pos c51] at H
                                              have c51b0 : decide (x14_5 < (l2.length : Int)) = true := decide_eq_true c51
                                              clear c51
                                              by_cases c52 : 0 ≤ x13_3
                                              · rw [if_pos c52] at H
                                                have c52b0 : decide (0 ≤ x13_3) = true := decide_eq_true c52
                                                clear c52
                                                by_cases c53 : x13_3 < (t219.length : Int)
                                                · rw [if_pos c53] at H
                                                  have c53b0 : decide (x13_3 < (t219.length : Int)) = true := decide_eq_true c53
                                                  clear c53
                                                  by_cases c54 : 0 ≤ x14_5
                                                  · rw [if_pos c54] at H
                                                    have c54b0 : decide (0 ≤ x14_5) = true := decide_eq_true c54
                                                    clear c54
                                                    by_cases c55 : x14_5 < (((rd_T37 t219 x13_3).f2).length : Int)
                                                    · rw [if_pos c55] at H
                                                      have c55b0 : decide (x14_5 < (((rd_T37 t219 x13_3).f2).length : Int)) = true := decide_eq_true c55
                                                      clear c55
                                                      have HC56 := Aside0.mk H
                                                      clear H
                                                      have p232 : 0 ≤ (x13_3 : Int) := of_decide_eq_true (by first | (with_reducible assumption) | assumption)
                                                      have q232 : x13_3 < (t219.length : Int) := of_decide_eq_true (by first | (with_reducible assumption) | assumption)
                                                      obtain ⟨ad232, A232_2, c232_2, e232, hx232_0, hx232_1, hx232_2, hl232_2, hi232_2⟩ := at_T37 (Kd.S_reads' HO_9.out).2.2 x13_3 p232 q232
                                                      cases e232
                                                      obtain ⟨ce232, hce232, hMe232, hcc232⟩ := Kd.S_get HO_9.out z37 x13_3 p232 (by first | exact q232 | exact of_decide_eq_true (by first | (with_reducible assumption) | assumption) | (have e_ := (Kd.S_reads' HO_9.out).1; omega))
                                                      obtain ⟨ve232_2, rfl, ge232_2⟩ := k37_openM hMe232
                                                      have hv232_2 := hcc232 2 _ rfl
                                                      rw [add_field _ _ 2 (by omega)] at hv232_2
                                                      replace hv232_2 := Option.some.inj (hv232_2.symm.trans hx232_2)
                                                      rw [hv232_2] at ge232_2
                                                      have HL232_2 := Aside0.mk (show Kd.R (Kd.int .i64) 3 _ _ _ _ ((rd_T37 t219 x13_3).f2) from ge232_2)
                                                      clear hv232_2 ge232_2
                                                      clear hcc232 hce232
                                                      have HR232_2 := Aside0.mk hi232_2
                                                      have HC232_2 := Aside0.mk hl232_2
                                                      clear hi232_2 hl232_2
                                                      replace p232 := eq_true p232
                                                      replace q232 := eq_true q232
                                                      have p233 : 0 ≤ (x14_5 : Int) := of_decide_eq_true (by first | (with_reducible assumption) | assumption)
                                                      have q233 : x14_5 < (((rd_T37 t219 x13_3).f2).length : Int) := of_decide_eq_true (by first | (with_reducible assumption) | assumption)
                                                      obtain ⟨ad233, e233, hx233_0⟩ := Kd.at_int (by repeat (first | (with_reducible exact HR232_2.out) | (with_reducible refine Kd.C_alloc ?_ _) | (with_reducible refine Kd.C_drewN ?_ _) | (with_reducible refine Kd.C_drew ?_) | exact HR232_2.out)) x14_5 p233 q233
                                                      cases e233
                                                      replace p233 := eq_true p233
                                                      replace q233 := eq_true q233
                                                      go_upto_if 122 with (fail)
                                                      go_cut [15] (fun v15 wc => ∃ (kq : Nat) (x15_55 : Int), v15 = .int .i64 x15_55 ∧ Aside0 (accountinglaw27_AgingLimit.j5 kq l2 ji11 t219 t223 x13_3 x14_5 x15_55 = some r) ∧ Aside0 (kq ≤ k5) ∧ Aside0 (Kd.S k37 37 wc w.heap.size (fun k_ => some k_ ≠ ((.slice Ao44 t223.length co44) : Value).ownBlock) (.slice (some ad232) t219.length co43) t219) ∧ Aside0 (Kd.S k37 37 wc w.heap.size (fun k_ => some k_ ≠ ((.slice (some ad232) t219.length co43) : Value).ownBlock) (.slice Ao44 t223.length co44) t223) ∧ Aside0 (Kd.C (Kd.int .i64) wc (some ad233) ((rd_T37 t219 x13_3).f2).length ((rd_T37 t219 x13_3).f2)) ∧ Aside0 (Below w.heap.size w wc))
                                                      case first =>
                                                        have H := HC56.out
                                                        clear HC56
                                                        by_cases c57 : x14_5 = ji11
                                                        · rw [if_pos c57] at H
                                                          have c57b0 : (x14_5 == ji11) = true := beq_iff_eq.mpr c57
                                                          have c57b1 : (x14_5 != ji11) = false := bne_eq_false_iff_eq.mpr c57
                                                          clear c57
                                                          (first | rw [c57b0] | (simp only [i64_w, i32_w]; rw [c57b0]) | skip)
                                                          obtain ⟨ji58, hji58⟩ : ∃ j_ : Int, (wrap64 (ji11 + 1)) = j_ := ⟨_, rfl⟩
                                                          replace H : (if 0 ≤ (ji58) then (if (ji58) < (((rd_T37 t219 x13_3).f2).length : Int) then (accountinglaw27_AgingLimit.j5 k5 l2 ji11 t219 t223 x13_3 x14_5 (wrap64 ((rd ((rd_T37 t219 x13_3).f2) x14_5) + (rd ((rd_T37 t219 x13_3).f2) (ji58))))) else (none)) else (none)) = some r := by first | (rw [hji58] at H; exact H) | (simp only [hji58] at H ⊢; exact H)
                                                          have hji58w : (IntKind.i64.wrap (ji11 + 1)) = ji58 := (i64_w _).trans hji58
                                                          by_cases c59 : 0 ≤ (ji58)
                                                          · rw [if_pos c59] at H
                                                            have c59b0 : decide (0 ≤ (ji58)) = true := decide_eq_true c59
                                                            clear c59
                                                            by_cases c60 : (ji58) < (((rd_T37 t219 x13_3).f2).length : Int)
                                                            · rw [if_pos c60] at H
                                                              have c60b0 : decide ((ji58) < (((rd_T37 t219 x13_3).f2).length : Int)) = true := decide_eq_true c60
                                                              clear c60
                                                              have H' := Aside0.mk H
                                                              clear H
                                                              have p234 : 0 ≤ (x13_3 : Int) := of_decide_eq_true (by first | (with_reducible assumption) | assumption)
                                                              have q234 : x13_3 < (t219.length : Int) := of_decide_eq_true (by first | (with_reducible assumption) | assumption)
                                                              obtain ⟨ad234, A234_2, c234_2, e234, hx234_0, hx234_1, hx234_2, hl234_2, hi234_2⟩ := at_T37 (Kd.S_reads' HO_9.out).2.2 x13_3 p234 q234
                                                              obtain rfl : ad232 = ad234 := (by injection e234)
                                                              have es_ := Option.some.inj (hx232_2.symm.trans hx234_2)
                                                              injection es_ with es1_ es2_ es3_
                                                              subst es1_
                                                              subst es3_
                                                              obtain ⟨ce234, hce234, hMe234, hcc234⟩ := Kd.S_get HO_9.out z37 x13_3 p234 (by first | exact q234 | exact of_decide_eq_true (by first | (with_reducible assumption) | assumption) | (have e_ := (Kd.S_reads' HO_9.out).1; omega))
                                                              obtain ⟨ve234_2, rfl, ge234_2⟩ := k37_openM hMe234
                                                              have hv234_2 := hcc234 2 _ rfl
                                                              rw [add_field _ _ 2 (by omega)] at hv234_2
                                                              replace hv234_2 := Option.some.inj (hv234_2.symm.trans hx234_2)
                                                              rw [hv234_2] at ge234_2
                                                              have HL234_2 := Aside0.mk (show Kd.R (Kd.int .i64) 3 _ _ _ _ ((rd_T37 t219 x13_3).f2) from ge234_2)
                                                              clear hv234_2 ge234_2
                                                              clear hcc234 hce234
                                                              have HR234_2 := Aside0.mk hi234_2
                                                              have HC234_2 := Aside0.mk hl234_2
                                                              clear hi234_2 hl234_2
                                                              replace p234 := eq_true p234
                                                              replace q234 := eq_true q234
                                                              have p235 : 0 ≤ ((ji58) : Int) := of_decide_eq_true (by first | (with_reducible assumption) | assumption)
                                                              have q235 : (ji58) < (((rd_T37 t219 x13_3).f2).length : Int) := of_decide_eq_true (by first | (with_reducible assumption) | assumption)
                                                              obtain ⟨ad235, e235, hx235_0⟩ := Kd.at_int (by repeat (first | (with_reducible exact HR234_2.out) | (with_reducible refine Kd.C_alloc ?_ _) | (with_reducible refine Kd.C_drewN ?_ _) | (with_reducible refine Kd.C_drew ?_) | exact HR234_2.out)) (ji58) p235 q235
                                                              cases e235
                                                              replace p235 := eq_true p235
                                                              replace q235 := eq_true q235
                                                              have e15_ : ji58 = ji15 := hji58.symm.trans hji15
                                                              subst e15_
                                                              go_wp2
                                                              go_meet
                                                              case rel => exact ⟨_, (wrap64 ((rd ((rd_T37 t219 x13_3).f2) x14_5) + (rd ((rd_T37 t219 x13_3).f2) (ji58)))), (by first | rfl | (simp; done) | (simp only [← hji58] <;> (first | rfl | simp)) | (simp [*]; done)), H', ⟨by have := HJ3.out; have := HJ20.out; have := HK3.out; have := HJ45.out; have := HK5.out; first | omega | exact Nat.le_refl _⟩, ⟨by (with_reducible repeat (first | apply Kd.S_alloc | apply Kd.S_drewN | apply Kd.S_drew)); exact HO_9.out⟩, ⟨by (with_reducible repeat (first | apply Kd.S_alloc | apply Kd.S_drewN | apply Kd.S_drew)); exact HO_11.out⟩, ⟨by repeat (first | (with_reducible exact HR232_2.out) | (with_reducible refine Kd.C_alloc ?_ _) | (with_reducible refine Kd.C_drewN ?_ _) | (with_reducible refine Kd.C_drew ?_) | exact HR232_2.out)⟩, ⟨by repeat (first | (with_reducible first | exact HB.out | apply below_alloc | apply pw_below_drewN | apply below_drew1) | exact HB.out)⟩⟩
                                                            · rw [if_neg c60] at H
                                                              exact absurd H (by simp)
                                                          · rw [if_neg c59] at H
                                                            exact absurd H (by simp)
                                                        · rw [if_neg c57] at H
                                                          have c57b0 : (x14_5 == ji11) = false := beq_eq_false_iff_ne.mpr c57
                                                          have c57b1 : (x14_5 != ji11) = true := bne_iff_ne.mpr c57
                                                          (first | rw [c57b0] | (simp only [i64_w, i32_w]; rw [c57b0]) | skip)
                                                          have H' := Aside0.mk H
                                                          clear H
                                                          go_wp2
                                                          go_meet
                                                          case rel => exact ⟨_, (rd ((rd_T37 t219 x13_3).f2) x14_5), (by first | rfl | (simp; done) | (simp [*]; done)), H', ⟨by have := HJ3.out; have := HJ20.out; have := HK3.out; have := HJ45.out; have := HK5.out; first | omega | exact Nat.le_refl _⟩, ⟨by (with_reducible repeat (first | apply Kd.S_alloc | apply Kd.S_drewN | apply Kd.S_drew)); exact HO_9.out⟩, ⟨by (with_reducible repeat (first | apply Kd.S_alloc | apply Kd.S_drewN | apply Kd.S_drew)); exact HO_11.out⟩, ⟨by repeat (first | (with_reducible exact HR232_2.out) | (with_reducible refine Kd.C_alloc ?_ _) | (with_reducible refine Kd.C_drewN ?_ _) | (with_reducible refine Kd.C_drew ?_) | exact HR232_2.out)⟩, ⟨by repeat (first | (with_reducible first | exact HB.out | apply below_alloc | apply pw_below_drewN | apply below_drew1) | exact HB.out)⟩⟩
                                                      case rest =>
                                                        clear HC56
                                                        try clear c1
                                                        try clear c2
                                                        try clear p2
                                                        try clear q2
                                                        try clear hx2
                                                        try clear c3
                                                        try clear c4
                                                        try clear c5
                                                        try clear c6
                                                        try clear p6
                                                        try clear c7
                                                        try clear c7b0
                                                        try clear c7b1
                                                        try clear c8
                                                        try clear c9
                                                        try clear c12
                                                        try clear c12b0
                                                        try clear c12b1
                                                        try clear c13
                                                        try clear c13b0
                                                        try clear c13b1
                                                        try clear c14
                                                        try clear c16
                                                        try clear c16b0
                                                        try clear c16b1
                                                        try clear c17
                                                        try clear c17b0
                                                        try clear c17b1
                                                        try clear c18
                                                        try clear c23
                                                        try clear p23
                                                        try clear q23
                                                        try clear hx23
                                                        try clear c32
                                                        try clear c32b0
                                                        try clear c32b1
                                                        try clear c33
                                                        try clear c34
                                                        try clear c34b0
                                                        try clear c34b1
                                                        try clear c35
                                                        try clear c35b0
                                                        try clear c35b1
                                                        try clear c35b2
                                                        try clear c42
                                                        try clear c42b0
                                                        try clear c42b1
                                                        try clear c42b2
                                                        try clear c45
                                                        try clear c45b0
                                                        try clear c47
                                                        try clear c47b0
                                                        try clear c48
                                                        try clear c48b0
                                                        try clear c48b1
                                                        try clear c49
                                                        try clear c49b0
                                                        try clear c50
                                                        try clear c51
                                                        try clear c51b0
                                                        try clear c52
                                                        try clear c52b0
                                                        try clear c53
                                                        try clear c53b0
                                                        try clear c54
                                                        try clear c54b0
                                                        try clear c55
                                                        try clear c55b0
                                                        try clear c57
                                                        try clear c57b0
                                                        try clear c57b1
                                                        try clear c59
                                                        try clear c59b0
                                                        try clear c60
                                                        try clear c60b0
                                                        try clear hx230_0
                                                        try clear hx230_1
                                                        try clear hx230_2
                                                        try clear hx231_0
                                                        try clear hx231_1
                                                        try clear hx231_2
                                                        try clear hx232_0
                                                        try clear hx232_1
                                                        try clear hx232_2
                                                        try clear hx233_0
                                                        try clear hx234_0
                                                        try clear hx234_1
                                                        try clear hx234_2
                                                        try clear hx235_0
                                                        try clear p2
                                                        try clear p23
                                                        try clear p230
                                                        try clear p231
                                                        try clear p232
                                                        try clear p233
                                                        try clear p234
                                                        try clear p235
                                                        try clear p6
                                                        try clear q2
                                                        try clear q23
                                                        try clear q230
                                                        try clear q231
                                                        try clear q232
                                                        try clear q233
                                                        try clear q234
                                                        try clear q235
                                                        obtain ⟨kq, x15_55, rfl, HA, HJ55, HO_9, HO_11, HR232_2, HB⟩ := hcut
                                                        cases kq with
                                                        | zero => exact absurd HA.out (by simp [accountinglaw27_AgingLimit.j5])
                                                        | succ kj55 =>
                                                          have H := HA.out
                                                          clear HA
                                                          simp only [accountinglaw27_AgingLimit.j5] at H
                                                          by_cases c61 : x14_5 > ji11
                                                          · rw [if_pos c61] at H
                                                            have c61b0 : decide (ji11 < x14_5) = true := decide_eq_true c61
                                                            clear c61
                                                            by_cases c62 : 0 ≤ x13_3
                                                            · rw [if_pos c62] at H
                                                              have c62b0 : decide (0 ≤ x13_3) = true := decide_eq_true c62
                                                              clear c62
                                                              by_cases c63 : x13_3 < (t219.length : Int)
                                                              · rw [if_pos c63] at H
                                                                have c63b0 : decide (x13_3 < (t219.length : Int)) = true := decide_eq_true c63
                                                                clear c63
                                                                obtain ⟨ji64, hji64⟩ : ∃ j_ : Int, (wrap64 (x14_5 + 1)) = j_ := ⟨_, rfl⟩
                                                                replace H : (if 0 ≤ (ji64) then (if (ji64) < (((rd_T37 t219 x13_3).f2).length : Int) then (if x13_3 < (t223.length : Int) then (if 0 ≤ x14_5 then (if x14_5 < (((rd_T37 t223 x13_3).f2).length : Int) then (if (rd ((rd_T37 t223 x13_3).f2) x14_5) = (rd ((rd_T37 t219 x13_3).f2) (ji64)) then (accountinglaw27_AgingLimit.l1 kj55 l2 ji11 t219 t223 x13_3 ji64) else (some false)) else (none)) else (none)) else (none)) else (none)) else (none)) = some r := by first | (rw [hji64] at H; exact H) | (simp only [hji64] at H ⊢; exact H)
                                                                have hji64w : (IntKind.i64.wrap (x14_5 + 1)) = ji64 := (i64_w _).trans hji64
                                                                by_cases c65 : 0 ≤ (ji64)
                                                                · rw [if_pos c65] at H
                                                                  have c65b0 : decide (0 ≤ (ji64)) = true := decide_eq_true c65
                                                                  clear c65
                                                                  by_cases c66 : (ji64) < (((rd_T37 t219 x13_3).f2).length : Int)
                                                                  · rw [if_pos c66] at H
                                                                    have c66b0 : decide ((ji64) < (((rd_T37 t219 x13_3).f2).length : Int)) = true := decide_eq_true c66
                                                                    clear c66
                                                                    by_cases c67 : x13_3 < (t223.length : Int)
                                                                    · rw [if_pos c67] at H
                                                                      have c67b0 : decide (x13_3 < (t223.length : Int)) = true := decide_eq_true c67
                                                                      clear c67
                                                                      by_cases c68 : 0 ≤ x14_5
                                                                      · rw [if_pos c68] at H
                                                                        have c68b0 : decide (0 ≤ x14_5) = true := decide_eq_true c68
                                                                        clear c68
                                                                        by_cases c69 : x14_5 < (((rd_T37 t223 x13_3).f2).length : Int)
                                                                        · rw [if_pos c69] at H
                                                                          have c69b0 : decide (x14_5 < (((rd_T37 t223 x13_3).f2).length : Int)) = true := decide_eq_true c69
                                                                          clear c69
                                                                          by_cases c70 : (rd ((rd_T37 t223 x13_3).f2) x14_5) = (rd ((rd_T37 t219 x13_3).f2) (ji64))
                                                                          · rw [if_pos c70] at H
                                                                            have c70b0 : ((rd ((rd_T37 t223 x13_3).f2) x14_5) == (rd ((rd_T37 t219 x13_3).f2) (ji64))) = true := beq_iff_eq.mpr c70
                                                                            have c70b1 : ((rd ((rd_T37 t223 x13_3).f2) x14_5) != (rd ((rd_T37 t219 x13_3).f2) (ji64))) = false := bne_eq_false_iff_eq.mpr c70
                                                                            clear c70
                                                                            have H' := Aside0.mk H
                                                                            clear H
                                                                            have p236 : 0 ≤ (x13_3 : Int) := of_decide_eq_true (by first | (with_reducible assumption) | assumption)
                                                                            have q236 : x13_3 < (t219.length : Int) := of_decide_eq_true (by first | (with_reducible assumption) | assumption)
                                                                            obtain ⟨ad236, A236_2, c236_2, e236, hx236_0, hx236_1, hx236_2, hl236_2, hi236_2⟩ := at_T37 (Kd.S_reads' HO_9.out).2.2 x13_3 p236 q236
                                                                            obtain rfl : ad232 = ad236 := (by injection e236)
                                                                            obtain ⟨ce236, hce236, hMe236, hcc236⟩ := Kd.S_get HO_9.out z37 x13_3 p236 (by first | exact q236 | exact of_decide_eq_true (by first | (with_reducible assumption) | assumption) | (have e_ := (Kd.S_reads' HO_9.out).1; omega))
                                                                            obtain ⟨ve236_2, rfl, ge236_2⟩ := k37_openM hMe236
                                                                            have hv236_2 := hcc236 2 _ rfl
                                                                            rw [add_field _ _ 2 (by omega)] at hv236_2
                                                                            replace hv236_2 := Option.some.inj (hv236_2.symm.trans hx236_2)
                                                                            rw [hv236_2] at ge236_2
                                                                            have HL236_2 := Aside0.mk (show Kd.R (Kd.int .i64) 3 _ _ _ _ ((rd_T37 t219 x13_3).f2) from ge236_2)
                                                                            clear hv236_2 ge236_2
                                                                            clear hcc236 hce236
                                                                            have HR236_2 := Aside0.mk hi236_2
                                                                            have HC236_2 := Aside0.mk hl236_2
                                                                            clear hi236_2 hl236_2
                                                                            replace p236 := eq_true p236
                                                                            replace q236 := eq_true q236
                                                                            have p237 : 0 ≤ ((ji64) : Int) := of_decide_eq_true (by first | (with_reducible assumption) | assumption)
                                                                            have q237 : (ji64) < (((rd_T37 t219 x13_3).f2).length : Int) := of_decide_eq_true (by first | (with_reducible assumption) | assumption)
                                                                            obtain ⟨ad237, e237, hx237_0⟩ := Kd.at_int (by repeat (first | (with_reducible exact HR236_2.out) | (with_reducible refine Kd.C_alloc ?_ _) | (with_reducible refine Kd.C_drewN ?_ _) | (with_reducible refine Kd.C_drew ?_) | exact HR236_2.out)) (ji64) p237 q237
                                                                            cases e237
                                                                            replace p237 := eq_true p237
                                                                            replace q237 := eq_true q237
                                                                            have p238 : 0 ≤ (x13_3 : Int) := of_decide_eq_true (by first | (with_reducible assumption) | assumption)
                                                                            have q238 : x13_3 < (t223.length : Int) := of_decide_eq_true (by first | (with_reducible assumption) | assumption)
                                                                            obtain ⟨ad238, A238_2, c238_2, e238, hx238_0, hx238_1, hx238_2, hl238_2, hi238_2⟩ := at_T37 (Kd.S_reads' HO_11.out).2.2 x13_3 p238 q238
                                                                            cases e238
                                                                            obtain ⟨ce238, hce238, hMe238, hcc238⟩ := Kd.S_get HO_11.out z37 x13_3 p238 (by first | exact q238 | exact of_decide_eq_true (by first | (with_reducible assumption) | assumption) | (have e_ := (Kd.S_reads' HO_11.out).1; omega))
                                                                            obtain ⟨ve238_2, rfl, ge238_2⟩ := k37_openM hMe238
                                                                            have hv238_2 := hcc238 2 _ rfl
                                                                            rw [add_field _ _ 2 (by omega)] at hv238_2
                                                                            replace hv238_2 := Option.some.inj (hv238_2.symm.trans hx238_2)
                                                                            rw [hv238_2] at ge238_2
                                                                            have HL238_2 := Aside0.mk (show Kd.R (Kd.int .i64) 3 _ _ _ _ ((rd_T37 t223 x13_3).f2) from ge238_2)
                                                                            clear hv238_2 ge238_2
                                                                            clear hcc238 hce238
                                                                            have HR238_2 := Aside0.mk hi238_2
                                                                            have HC238_2 := Aside0.mk hl238_2
                                                                            clear hi238_2 hl238_2
                                                                            replace p238 := eq_true p238
                                                                            replace q238 := eq_true q238
                                                                            have p239 : 0 ≤ (x14_5 : Int) := of_decide_eq_true (by first | (with_reducible assumption) | assumption)
                                                                            have q239 : x14_5 < (((rd_T37 t223 x13_3).f2).length : Int) := of_decide_eq_true (by first | (with_reducible assumption) | assumption)
                                                                            obtain ⟨ad239, e239, hx239_0⟩ := Kd.at_int (by repeat (first | (with_reducible exact HR238_2.out) | (with_reducible refine Kd.C_alloc ?_ _) | (with_reducible refine Kd.C_drewN ?_ _) | (with_reducible refine Kd.C_drew ?_) | exact HR238_2.out)) x14_5 p239 q239
                                                                            cases e239
                                                                            replace p239 := eq_true p239
                                                                            replace q239 := eq_true q239
                                                                            go_wp2
                                                                            go_roundg kj55
                                                                            case measure => have := HJ3.out; have := HJ20.out; have := HK3.out; have := HJ45.out; have := HK5.out; have := HJ55.out; omega
                                                                            case rel => exact ⟨(ji64), (by first | rfl | (simp; done) | (simp only [← hji64] <;> (first | rfl | simp)) | (simp [*]; done)), H', ⟨by have := HJ3.out; have := HJ20.out; have := HK3.out; have := HJ45.out; have := HK5.out; have := HJ55.out; omega⟩, ⟨by (with_reducible repeat (first | apply Kd.S_alloc | apply Kd.S_drewN | apply Kd.S_drew)); exact HO_9.out⟩, ⟨by (with_reducible repeat (first | apply Kd.S_alloc | apply Kd.S_drewN | apply Kd.S_drew)); exact HO_11.out⟩, ⟨by repeat (first | (with_reducible first | exact HB.out | apply below_alloc | apply pw_below_drewN | apply below_drew1) | exact HB.out)⟩⟩
                                                                          · rw [if_neg c70] at H
                                                                            have c70b0 : ((rd ((rd_T37 t223 x13_3).f2) x14_5) == (rd ((rd_T37 t219 x13_3).f2) (ji64))) = false := beq_eq_false_iff_ne.mpr c70
                                                                            have c70b1 : ((rd ((rd_T37 t223 x13_3).f2) x14_5) != (rd ((rd_T37 t219 x13_3).f2) (ji64))) = true := bne_iff_ne.mpr c70
                                                                            obtain rfl := Option.some.inj H
                                                                            have p236 : 0 ≤ (x13_3 : Int) := of_decide_eq_true (by first | (with_reducible assumption) | assumption)
                                                                            have q236 : x13_3 < (t219.length : Int) := of_decide_eq_true (by first | (with_reducible assumption) | assumption)
                                                                            obtain ⟨ad236, A236_2, c236_2, e236, hx236_0, hx236_1, hx236_2, hl236_2, hi236_2⟩ := at_T37 (Kd.S_reads' HO_9.out).2.2 x13_3 p236 q236
                                                                            obtain rfl : ad232 = ad236 := (by injection e236)
                                                                            obtain ⟨ce236, hce236, hMe236, hcc236⟩ := Kd.S_get HO_9.out z37 x13_3 p236 (by first | exact q236 | exact of_decide_eq_true (by first | (with_reducible assumption) | assumption) | (have e_ := (Kd.S_reads' HO_9.out).1; omega))
                                                                            obtain ⟨ve236_2, rfl, ge236_2⟩ := k37_openM hMe236
                                                                            have hv236_2 := hcc236 2 _ rfl
                                                                            rw [add_field _ _ 2 (by omega)] at hv236_2
                                                                            replace hv236_2 := Option.some.inj (hv236_2.symm.trans hx236_2)
                                                                            rw [hv236_2] at ge236_2
                                                                            have HL236_2 := Aside0.mk (show Kd.R (Kd.int .i64) 3 _ _ _ _ ((rd_T37 t219 x13_3).f2) from ge236_2)
                                                                            clear hv236_2 ge236_2
                                                                            clear hcc236 hce236
                                                                            have HR236_2 := Aside0.mk hi236_2
                                                                            have HC236_2 := Aside0.mk hl236_2
                                                                            clear hi236_2 hl236_2
                                                                            replace p236 := eq_true p236
                                                                            replace q236 := eq_true q236
                                                                            have p237 : 0 ≤ ((ji64) : Int) := of_decide_eq_true (by first | (with_reducible assumption) | assumption)
                                                                            have q237 : (ji64) < (((rd_T37 t219 x13_3).f2).length : Int) := of_decide_eq_true (by first | (with_reducible assumption) | assumption)
                                                                            obtain ⟨ad237, e237, hx237_0⟩ := Kd.at_int (by repeat (first | (with_reducible exact HR236_2.out) | (with_reducible refine Kd.C_alloc ?_ _) | (with_reducible refine Kd.C_drewN ?_ _) | (with_reducible refine Kd.C_drew ?_) | exact HR236_2.out)) (ji64) p237 q237
                                                                            cases e237
                                                                            replace p237 := eq_true p237
                                                                            replace q237 := eq_true q237
                                                                            have p238 : 0 ≤ (x13_3 : Int) := of_decide_eq_true (by first | (with_reducible assumption) | assumption)
                                                                            have q238 : x13_3 < (t223.length : Int) := of_decide_eq_true (by first | (with_reducible assumption) | assumption)
                                                                            obtain ⟨ad238, A238_2, c238_2, e238, hx238_0, hx238_1, hx238_2, hl238_2, hi238_2⟩ := at_T37 (Kd.S_reads' HO_11.out).2.2 x13_3 p238 q238
                                                                            cases e238
                                                                            obtain ⟨ce238, hce238, hMe238, hcc238⟩ := Kd.S_get HO_11.out z37 x13_3 p238 (by first | exact q238 | exact of_decide_eq_true (by first | (with_reducible assumption) | assumption) | (have e_ := (Kd.S_reads' HO_11.out).1; omega))
                                                                            obtain ⟨ve238_2, rfl, ge238_2⟩ := k37_openM hMe238
                                                                            have hv238_2 := hcc238 2 _ rfl
                                                                            rw [add_field _ _ 2 (by omega)] at hv238_2
                                                                            replace hv238_2 := Option.some.inj (hv238_2.symm.trans hx238_2)
                                                                            rw [hv238_2] at ge238_2
                                                                            have HL238_2 := Aside0.mk (show Kd.R (Kd.int .i64) 3 _ _ _ _ ((rd_T37 t223 x13_3).f2) from ge238_2)
                                                                            clear hv238_2 ge238_2
                                                                            clear hcc238 hce238
                                                                            have HR238_2 := Aside0.mk hi238_2
                                                                            have HC238_2 := Aside0.mk hl238_2
                                                                            clear hi238_2 hl238_2
                                                                            replace p238 := eq_true p238
                                                                            replace q238 := eq_true q238
                                                                            have p239 : 0 ≤ (x14_5 : Int) := of_decide_eq_true (by first | (with_reducible assumption) | assumption)
                                                                            have q239 : x14_5 < (((rd_T37 t223 x13_3).f2).length : Int) := of_decide_eq_true (by first | (with_reducible assumption) | assumption)
                                                                            obtain ⟨ad239, e239, hx239_0⟩ := Kd.at_int (by repeat (first | (with_reducible exact HR238_2.out) | (with_reducible refine Kd.C_alloc ?_ _) | (with_reducible refine Kd.C_drewN ?_ _) | (with_reducible refine Kd.C_drew ?_) | exact HR238_2.out)) x14_5 p239 q239
                                                                            cases e239
                                                                            replace p239 := eq_true p239
                                                                            replace q239 := eq_true q239
                                                                            go_wp2
                                                                            go_ret
                                                                            exact ⟨by first | rfl | (simp [errW_none, errW_some] <;> rfl) | (simp only [← hji11, ← hji15, ← hji64]; first | rfl | (simp [errW_none, errW_some] <;> rfl)) | (simp [*, errW_none, errW_some] <;> rfl), by repeat (first | (with_reducible first | exact HB.out | apply below_alloc | apply pw_below_drewN | apply below_drew1) | exact HB.out)⟩
                                                                        · rw [if_neg c69] at H
                                                                          exact absurd H (by simp)
                                                                      · rw [if_neg c68] at H
                                                                        exact absurd H (by simp)
                                                                    · rw [if_neg c67] at H
                                                                      exact absurd H (by simp)
                                                                  · rw [if_neg c66] at H
                                                                    exact absurd H (by simp)
                                                                · rw [if_neg c65] at H
                                                                  exact absurd H (by simp)
                                                              · rw [if_neg c63] at H
                                                                exact absurd H (by simp)
                                                            · rw [if_neg c62] at H
                                                              exact absurd H (by simp)
                                                          · rw [if_neg c61] at H
                                                            have c61b0 : decide (ji11 < x14_5) = false := decide_eq_false c61
                                                            clear c61
                                                            by_cases c71 : 0 ≤ x13_3
                                                            · rw [if_pos c71] at H
                                                              have c71b0 : decide (0 ≤ x13_3) = true := decide_eq_true c71
                                                              clear c71
                                                              by_cases c72 : x13_3 < (t223.length : Int)
                                                              · rw [if_pos c72] at H
                                                                have c72b0 : decide (x13_3 < (t223.length : Int)) = true := decide_eq_true c72
                                                                clear c72
                                                                by_cases c73 : 0 ≤ x14_5
                                                                · rw [if_pos c73] at H
                                                                  have c73b0 : decide (0 ≤ x14_5) = true := decide_eq_true c73
                                                                  clear c73
                                                                  by_cases c74 : x14_5 < (((rd_T37 t223 x13_3).f2).length : Int)
                                                                  · rw [if_pos c74] at H
                                                                    have c74b0 : decide (x14_5 < (((rd_T37 t223 x13_3).f2).length : Int)) = true := decide_eq_true c74
                                                                    clear c74
                                                                    by_cases c75 : (rd ((rd_T37 t223 x13_3).f2) x14_5) = x15_55
                                                                    · rw [if_pos c75] at H
                                                                      have c75b0 : ((rd ((rd_T37 t223 x13_3).f2) x14_5) == x15_55) = true := beq_iff_eq.mpr c75
                                                                      have c75b1 : ((rd ((rd_T37 t223 x13_3).f2) x14_5) != x15_55) = false := bne_eq_false_iff_eq.mpr c75
                                                                      clear c75
                                                                      have H' := Aside0.mk H
                                                                      clear H
                                                                      have p240 : 0 ≤ (x13_3 : Int) := of_decide_eq_true (by first | (with_reducible assumption) | assumption)
                                                                      have q240 : x13_3 < (t223.length : Int) := of_decide_eq_true (by first | (with_reducible assumption) | assumption)
                                                                      obtain ⟨ad240, A240_2, c240_2, e240, hx240_0, hx240_1, hx240_2, hl240_2, hi240_2⟩ := at_T37 (Kd.S_reads' HO_11.out).2.2 x13_3 p240 q240
                                                                      cases e240
                                                                      obtain ⟨ce240, hce240, hMe240, hcc240⟩ := Kd.S_get HO_11.out z37 x13_3 p240 (by first | exact q240 | exact of_decide_eq_true (by first | (with_reducible assumption) | assumption) | (have e_ := (Kd.S_reads' HO_11.out).1; omega))
                                                                      obtain ⟨ve240_2, rfl, ge240_2⟩ := k37_openM hMe240
                                                                      have hv240_2 := hcc240 2 _ rfl
                                                                      rw [add_field _ _ 2 (by omega)] at hv240_2
                                                                      replace hv240_2 := Option.some.inj (hv240_2.symm.trans hx240_2)
                                                                      rw [hv240_2] at ge240_2
                                                                      have HL240_2 := Aside0.mk (show Kd.R (Kd.int .i64) 3 _ _ _ _ ((rd_T37 t223 x13_3).f2) from ge240_2)
                                                                      clear hv240_2 ge240_2
                                                                      clear hcc240 hce240
                                                                      have HR240_2 := Aside0.mk hi240_2
                                                                      have HC240_2 := Aside0.mk hl240_2
                                                                      clear hi240_2 hl240_2
                                                                      replace p240 := eq_true p240
                                                                      replace q240 := eq_true q240
                                                                      have p241 : 0 ≤ (x14_5 : Int) := of_decide_eq_true (by first | (with_reducible assumption) | assumption)
                                                                      have q241 : x14_5 < (((rd_T37 t223 x13_3).f2).length : Int) := of_decide_eq_true (by first | (with_reducible assumption) | assumption)
                                                                      obtain ⟨ad241, e241, hx241_0⟩ := Kd.at_int (by repeat (first | (with_reducible exact HR240_2.out) | (with_reducible refine Kd.C_alloc ?_ _) | (with_reducible refine Kd.C_drewN ?_ _) | (with_reducible refine Kd.C_drew ?_) | exact HR240_2.out)) x14_5 p241 q241
                                                                      cases e241
                                                                      replace p241 := eq_true p241
                                                                      replace q241 := eq_true q241
                                                                      go_wp2
                                                                      go_roundg kj55
                                                                      case measure => have := HJ3.out; have := HJ20.out; have := HK3.out; have := HJ45.out; have := HK5.out; have := HJ55.out; omega
                                                                      case rel => exact ⟨(wrap64 (x14_5 + 1)), (by first | rfl | (simp; done) | (simp [*]; done)), H', ⟨by have := HJ3.out; have := HJ20.out; have := HK3.out; have := HJ45.out; have := HK5.out; have := HJ55.out; omega⟩, ⟨by (with_reducible repeat (first | apply Kd.S_alloc | apply Kd.S_drewN | apply Kd.S_drew)); exact HO_9.out⟩, ⟨by (with_reducible repeat (first | apply Kd.S_alloc | apply Kd.S_drewN | apply Kd.S_drew)); exact HO_11.out⟩, ⟨by repeat (first | (with_reducible first | exact HB.out | apply below_alloc | apply pw_below_drewN | apply below_drew1) | exact HB.out)⟩⟩
                                                                    · rw [if_neg c75] at H
                                                                      have c75b0 : ((rd ((rd_T37 t223 x13_3).f2) x14_5) == x15_55) = false := beq_eq_false_iff_ne.mpr c75
                                                                      have c75b1 : ((rd ((rd_T37 t223 x13_3).f2) x14_5) != x15_55) = true := bne_iff_ne.mpr c75
                                                                      obtain rfl := Option.some.inj H
                                                                      have p240 : 0 ≤ (x13_3 : Int) := of_decide_eq_true (by first | (with_reducible assumption) | assumption)
                                                                      have q240 : x13_3 < (t223.length : Int) := of_decide_eq_true (by first | (with_reducible assumption) | assumption)
                                                                      obtain ⟨ad240, A240_2, c240_2, e240, hx240_0, hx240_1, hx240_2, hl240_2, hi240_2⟩ := at_T37 (Kd.S_reads' HO_11.out).2.2 x13_3 p240 q240
                                                                      cases e240
                                                                      obtain ⟨ce240, hce240, hMe240, hcc240⟩ := Kd.S_get HO_11.out z37 x13_3 p240 (by first | exact q240 | exact of_decide_eq_true (by first | (with_reducible assumption) | assumption) | (have e_ := (Kd.S_reads' HO_11.out).1; omega))
                                                                      obtain ⟨ve240_2, rfl, ge240_2⟩ := k37_openM hMe240
                                                                      have hv240_2 := hcc240 2 _ rfl
                                                                      rw [add_field _ _ 2 (by omega)] at hv240_2
                                                                      replace hv240_2 := Option.some.inj (hv240_2.symm.trans hx240_2)
                                                                      rw [hv240_2] at ge240_2
                                                                      have HL240_2 := Aside0.mk (show Kd.R (Kd.int .i64) 3 _ _ _ _ ((rd_T37 t223 x13_3).f2) from ge240_2)
                                                                      clear hv240_2 ge240_2
                                                                      clear hcc240 hce240
                                                                      have HR240_2 := Aside0.mk hi240_2
                                                                      have HC240_2 := Aside0.mk hl240_2
                                                                      clear hi240_2 hl240_2
                                                                      replace p240 := eq_true p240
                                                                      replace q240 := eq_true q240
                                                                      have p241 : 0 ≤ (x14_5 : Int) := of_decide_eq_true (by first | (with_reducible assumption) | assumption)
                                                                      have q241 : x14_5 < (((rd_T37 t223 x13_3).f2).length : Int) := of_decide_eq_true (by first | (with_reducible assumption) | assumption)
                                                                      obtain ⟨ad241, e241, hx241_0⟩ := Kd.at_int (by repeat (first | (with_reducible exact HR240_2.out) | (with_reducible refine Kd.C_alloc ?_ _) | (with_reducible refine Kd.C_drewN ?_ _) | (with_reducible refine Kd.C_drew ?_) | exact HR240_2.out)) x14_5 p241 q241
                                                                      cases e241
                                                                      replace p241 := eq_true p241
                                                                      replace q241 := eq_true q241
                                                                      go_wp2
                                                                      go_ret
                                                                      exact ⟨by first | rfl | (simp [errW_none, errW_some] <;> rfl) | (simp only [← hji11, ← hji15]; first | rfl | (simp [errW_none, errW_some] <;> rfl)) | (simp [*, errW_none, errW_some] <;> rfl), by repeat (first | (with_reducible first | exact HB.out | apply below_alloc | apply pw_below_drewN | apply below_drew1) | exact HB.out)⟩
                                                                  · rw [if_neg c74] at H
                                                                    exact absurd H (by simp)
                                                                · rw [if_neg c73] at H
                                                                  exact absurd H (by simp)
                                                              · rw [if_neg c72] at H
                                                                exact absurd H (by simp)
                                                            · rw [if_neg c71] at H
                                                              exact absurd H (by simp)
                                                    · rw [if_neg c55] at H
                                                      exact absurd H (by simp)
                                                  · rw [if_neg c54] at H
                                                    exact absurd H (by simp)
                                                · rw [if_neg c53] at H
                                                  exact absurd H (by simp)
                                              · rw [if_neg c52] at H
                                                exact absurd H (by simp)
                                            · rw [if_neg c51] at H
                                              have c51b0 : decide (x14_5 < (l2.length : Int)) = false := decide_eq_false c51
                                              clear c51
                                              have H' := Aside0.mk H
                                              clear H
                                              go_wp2
                                              go_roundg k5
                                              case measure => have := HJ3.out; have := HJ20.out; have := HK3.out; have := HJ45.out; have := HK5.out; omega
                                              case rel => exact ⟨(wrap64 (x13_3 + 1)), (by first | rfl | (simp; done) | (simp [*]; done)), H', ⟨by have := HJ3.out; have := HJ20.out; have := HK3.out; have := HJ45.out; have := HK5.out; omega⟩, ⟨by (with_reducible repeat (first | apply Kd.S_alloc | apply Kd.S_drewN | apply Kd.S_drew)); exact HO_9.out⟩, ⟨by (with_reducible repeat (first | apply Kd.S_alloc | apply Kd.S_drewN | apply Kd.S_drew)); exact HO_11.out⟩, ⟨by repeat (first | (with_reducible first | exact HB.out | apply below_alloc | apply pw_below_drewN | apply below_drew1) | exact HB.out)⟩⟩
                                · rw [if_neg c45] at H
                                  have c45b0 : decide (x13_3 < (t219.length : Int)) = false := decide_eq_false c45
                                  clear c45
                                  replace H := Option.bind_eq_some_iff.mp H
                                  obtain ⟨t229, A760, H⟩ := H
                                  replace H : (some t229) = some r := H
                                  have A76 := Aside0.mk A760
                                  clear A760
                                  obtain rfl := Option.some.inj H
                                  go_wp2_with (first | ((with_reducible refine gate_callee (f := 9) rfl ?_); refine goesL_ (some 156) rfl rfl Tryd.func9 (by kernel_rfl) rfl #[] rfl (by (try simp only [List.map_toArray, List.map_cons, List.map_nil]); first | done | rfl | (simp only [List.length_drop, List.length_take]; rfl)) ?_; (with_reducible refine (accountinglaw27_lives.calls k3  t229 _ A76.out).mono ?_); rintro e w77 ⟨rfl, hb⟩; refine ⟨_, rfl, ?_⟩; have n0_ := Aside0.mk (Kd.S_below (by (with_reducible repeat (first | apply Kd.S_alloc | apply Kd.S_drewN | apply Kd.S_drew)); exact HO_9.out) hb); have n1_ := Aside0.mk (Kd.S_below (by (with_reducible repeat (first | apply Kd.S_alloc | apply Kd.S_drewN | apply Kd.S_drew)); exact HO_11.out) hb); have n2_ := Aside0.mk (below_step (by repeat (first | (with_reducible first | exact HB.out | apply below_alloc | apply pw_below_drewN | apply below_drew1) | exact HB.out)) hb); clear HO_9; clear HO_11; clear HB; have HO_9 := n0_; have HO_11 := n1_; have HB := n2_; clear n0_ n1_ n2_; (try clear hb); (try clear hb2); (try clear hk); (try clear hi)))
                                  go_ret
                                  exact ⟨by first | rfl | (simp [errW_none, errW_some] <;> rfl) | (simp only [← hji11, ← hji15]; first | rfl | (simp [errW_none, errW_some] <;> rfl)) | (simp [*, errW_none, errW_some] <;> rfl), by repeat (first | (with_reducible first | exact HB.out | apply below_alloc | apply pw_below_drewN | apply below_drew1) | exact HB.out)⟩
                          · rw [if_neg c42] at H
                            have c42b0 : ((t219.length : Int) == (t223.length : Int)) = false := beq_eq_false_iff_ne.mpr c42
                            have c42b1 : ((t219.length : Int) != (t223.length : Int)) = true := bne_iff_ne.mpr c42
                            have c42b2 : (t219.length == t223.length) = false := by first | simpa using c42 | (simp at c42 ⊢; omega)
                            obtain rfl := Option.some.inj H
                            obtain ⟨Ao78, co78, eo78⟩ := Kd.S_slice HO_9.out
                            subst eo78
                            obtain ⟨Ao79, co79, eo79⟩ := Kd.S_slice HO_11.out
                            subst eo79
                            go_wp2
                            go_ret
                            exact ⟨by first | rfl | (simp [errW_none, errW_some] <;> rfl) | (simp only [← hji11, ← hji15]; first | rfl | (simp [errW_none, errW_some] <;> rfl)) | (simp [*, errW_none, errW_some] <;> rfl), by repeat (first | (with_reducible first | exact HB.out | apply below_alloc | apply pw_below_drewN | apply below_drew1) | exact HB.out)⟩
                  · rw [if_neg c18] at H
                    exact absurd H (by simp)
                · rw [if_neg c17] at H
                  exact absurd H (by simp)
              · rw [if_neg c16] at H
                exact absurd H (by simp)
            · rw [if_neg c14] at H
              exact absurd H (by simp)
          · rw [if_neg c13] at H
            exact absurd H (by simp)
        · rw [if_neg c12] at H
          exact absurd H (by simp)

end Go.Proofs.YtohfnpkoheafkaaDoor.PAg
